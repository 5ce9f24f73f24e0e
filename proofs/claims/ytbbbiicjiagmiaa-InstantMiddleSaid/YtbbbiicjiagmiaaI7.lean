/- Helper lemmas: the middle of two times, the program's and the document's. No condition. -/
import Derived.Test.YtbbbiicjiagmiaaI6
set_option linter.unusedSimpArgs false
set_option linter.unusedVariables false
namespace Go.Proofs.Ytbbbiicjiagmiaa
open Go.RowKit

/-- Half of a float. -/
def halfV (x : Nat) : Nat := (floatBits .quo .f64 x 4611686018427387904).getD 0
theorem half_is (x : Nat) (hn : x % 9223372036854775808 ≤ 9218868437227405312) : floatBits .quo .f64 x 4611686018427387904 = some (halfV x) ∧ floatBits .mul .f64 x 4602678819172646912 = some (halfV x) := by
  have hs : floatBits .mul .f64 x 4602678819172646912 = floatBits .quo .f64 x 4611686018427387904 := (half_same x).symm
  have h : ∃ r, floatBits .quo .f64 x 4611686018427387904 = some r := by
    unfold floatBits
    show ∃ r, Ieee.double.div x 4611686018427387904 = some r
    unfold Ieee.Format.div
    have e2 : Ieee.double.read 4611686018427387904 = .number false 4503599627370496 (-51) := by decide +kernel
    rw [e2]
    rcases Nat.lt_or_ge (x % 9223372036854775808) 9218868437227405312 with h1 | h1
    · obtain ⟨m, i, e1, _⟩ := read_fin x h1
      rw [e1]
      simp only [Ieee.Datum.quotient]
      rw [if_neg (by decide)]
      exact ⟨_, rfl⟩
    · rw [read_inf x (by omega)]
      exact ⟨_, rfl⟩
  obtain ⟨r, hr⟩ := h
  rw [hs]
  unfold halfV
  rw [hr]
  exact ⟨rfl, rfl⟩
/-- The middle of two. -/
def midO (a b : Nat) : Option Nat := if (goodB a && goodB b) = true then (if ((decide (toV a % 9223372036854775808 = 9218868437227405312) && decide (toV b % 9223372036854775808 = 9218868437227405312)) && (FloatKind.f64.format.order (toV a) (toV b) != some .eq)) = true then some 0 else floatBits .add .f64 (halfV (toV a)) (halfV (toV b))) else none
set_option maxHeartbeats 2000000 in
set_option maxRecDepth 100000 in
theorem mid_any (a b : Nat) (ha : a < 18446744073709551616) (hb : b < 18446744073709551616) (w : World) : Calls Try.prog 22 #[u64 a, u64 b] w (Ret (.tuple #[u64 (resV (midO a b)), .int .i64 (resE (midO a b))]) w) := by
  have C := Lib.hid (fun w => both_any a b ha hb w)
  have Z : Hid (∀ w, Calls Try.prog 12 #[.float .f64 0] w (Ret (.tuple #[.int .u64 9223372036854775808, .int .i64 0]) w)) := Lib.hid (fun w => of_any 0 (by decide) w)
  have I1 := Lib.hid (fun w => isInf0 (toV a) (toV_lt a ha) (toV_fin a ha) w)
  have I2 := Lib.hid (fun w => isInf0 (toV b) (toV_lt b hb) (toV_fin b hb) w)
  have D1 : ∀ w, (binOp .quo 22 (.float .f64 (toV a)) (.float .f64 4611686018427387904)).run Try.prog w = .ok (.float .f64 (halfV (toV a))) w := fun w => run_float_arith w .quo 22 .f64 _ _ _ (half_is _ (toV_fin a ha)).1
  have D2 : ∀ w, (binOp .quo 22 (.float .f64 (toV b)) (.float .f64 4611686018427387904)).run Try.prog w = .ok (.float .f64 (halfV (toV b))) w := fun w => run_float_arith w .quo 22 .f64 _ _ _ (half_is _ (toV_fin b hb)).1
  have cv : ∀ w b, (convert 22 22 (.float .f64 b)).run Try.prog w = .ok (.float .f64 b) w := fun w b => run_convert_float_float w 22 22 .f64 .f64 b b (by kernel_rfl) Try.underlying22 rfl
  obtain ⟨val, jn, F⟩ := FOp.is .add (Or.inl rfl) (halfV (toV a)) (halfV (toV b))
  have R := F.run
  have O := Lib.hid F.of
  unfold midO
  clear ha hb F
  generalize (goodB a && goodB b) = g at *
  generalize floatBits .add .f64 (halfV (toV a)) (halfV (toV b)) = o at *
  generalize halfV (toV a) = hx at *
  generalize halfV (toV b) = hy at *
  generalize decide (toV a % 9223372036854775808 = 9218868437227405312) = p at *
  generalize decide (toV b % 9223372036854775808 = 9218868437227405312) = q at *
  generalize toV a = x at *
  generalize toV b = y at *
  cases g
  · clear R O
    simp only [Bool.false_eq_true, if_false] at C ⊢
    rw [resE_none, resV_none]
    go_enter Try.func22, Try.ntmps22
    go_wp2_with (first | (go_at_call 39; (with_reducible refine (C.out _).mono ?_); rintro e1 w1 ⟨rfl, j1, rfl⟩) | (go_at_call 12; (with_reducible refine (O.out _ _).mono ?_); rintro e1 w1 ⟨rfl, j1, rfl⟩) | (go_at_call 12; (with_reducible refine (Z.out _).mono ?_); rintro e1 w1 ⟨rfl, j1, rfl⟩) | (go_at_call 26; (with_reducible refine (I1.out _).mono ?_); rintro e1 w1 ⟨rfl, j1, rfl⟩) | (go_at_call 26; (with_reducible refine (I2.out _).mono ?_); rintro e1 w1 ⟨rfl, j1, rfl⟩))
    go_ret2
    exact Ret.mk rfl (by (repeat' (first | (with_reducible exact Below.refl _ _) | (with_reducible exact w_ext_below _ _) | (with_reducible refine below_ext ?_ ?_ _) | (simp; done) | (simp; omega))))

  · simp only [if_true] at C ⊢
    generalize hd : (FloatKind.f64.format.order x y != some .eq) = d at *
    have hd' : (FloatKind.f64.format.order x y == some .eq) = !d := by rw [← hd, bne, Bool.not_not]
    by_cases h : ((p && q) && d) = true
    · rw [if_pos h, show resV (some 0) = 9223372036854775808 from ofV0, show resE (some 0) = 0 from ofE0]
      simp only [Bool.and_eq_true] at h
      obtain ⟨⟨rfl, rfl⟩, rfl⟩ := h
      go_enter Try.func22, Try.ntmps22
      go_wp2_with (first | (go_at_call 39; (with_reducible refine (C.out _).mono ?_); rintro e1 w1 ⟨rfl, j1, rfl⟩) | (go_at_call 12; (with_reducible refine (O.out _ _).mono ?_); rintro e1 w1 ⟨rfl, j1, rfl⟩) | (go_at_call 12; (with_reducible refine (Z.out _).mono ?_); rintro e1 w1 ⟨rfl, j1, rfl⟩) | (go_at_call 26; (with_reducible refine (I1.out _).mono ?_); rintro e1 w1 ⟨rfl, j1, rfl⟩) | (go_at_call 26; (with_reducible refine (I2.out _).mono ?_); rintro e1 w1 ⟨rfl, j1, rfl⟩))
      go_ret2
      exact Ret.mk rfl (by (repeat' (first | (with_reducible exact Below.refl _ _) | (with_reducible exact w_ext_below _ _) | (with_reducible refine below_ext ?_ ?_ _) | (simp; done) | (simp; omega))))

    · rw [if_neg h]
      generalize resV o = v at *
      generalize resE o = e at *
      cases p <;> cases q <;> cases d <;> simp only [Bool.and_true, Bool.and_false, Bool.false_eq_true, not_false_iff, not_true_eq_false] at h
      all_goals
        go_enter Try.func22, Try.ntmps22
        go_wp2_with (first | (go_at_call 39; (with_reducible refine (C.out _).mono ?_); rintro e1 w1 ⟨rfl, j1, rfl⟩) | (go_at_call 12; (with_reducible refine (O.out _ _).mono ?_); rintro e1 w1 ⟨rfl, j1, rfl⟩) | (go_at_call 12; (with_reducible refine (Z.out _).mono ?_); rintro e1 w1 ⟨rfl, j1, rfl⟩) | (go_at_call 26; (with_reducible refine (I1.out _).mono ?_); rintro e1 w1 ⟨rfl, j1, rfl⟩) | (go_at_call 26; (with_reducible refine (I2.out _).mono ?_); rintro e1 w1 ⟨rfl, j1, rfl⟩))
        go_ret2
        exact Ret.mk rfl (by (repeat' (first | (with_reducible exact Below.refl _ _) | (with_reducible exact w_ext_below _ _) | (with_reducible refine below_ext ?_ ?_ _) | (simp; done) | (simp; omega))))

set_option maxHeartbeats 2000000 in
set_option maxRecDepth 100000 in
theorem rmid_any (a b : Nat) (ha : a < 18446744073709551616) (hb : b < 18446744073709551616) (w : World) : Calls Try.prog 28 #[u64 a, u64 b] w (Ret (.tuple #[u64 (resV (midO a b)), .int .i64 (resE (midO a b))]) w) := by
  have C := Lib.hid (fun w => two_any a b ha hb w)
  have Z : Hid (∀ w, Calls Try.prog 12 #[.float .f64 0] w (Ret (.tuple #[.int .u64 9223372036854775808, .int .i64 0]) w)) := Lib.hid (fun w => of_any 0 (by decide) w)
  have I1 := Lib.hid (fun w => rinf_any (toV a) (toV_lt a ha) (toV_fin a ha) w)
  have I2 := Lib.hid (fun w => rinf_any (toV b) (toV_lt b hb) (toV_fin b hb) w)
  have D1 : ∀ w, (binOp .mul 22 (.float .f64 (toV a)) (.float .f64 4602678819172646912)).run Try.prog w = .ok (.float .f64 (halfV (toV a))) w := fun w => run_float_arith w .mul 22 .f64 _ _ _ (half_is _ (toV_fin a ha)).2
  have D2 : ∀ w, (binOp .mul 22 (.float .f64 (toV b)) (.float .f64 4602678819172646912)).run Try.prog w = .ok (.float .f64 (halfV (toV b))) w := fun w => run_float_arith w .mul 22 .f64 _ _ _ (half_is _ (toV_fin b hb)).2
  have cv : ∀ w b, (convert 22 22 (.float .f64 b)).run Try.prog w = .ok (.float .f64 b) w := fun w b => run_convert_float_float w 22 22 .f64 .f64 b b (by kernel_rfl) Try.underlying22 rfl
  obtain ⟨val, jn, F⟩ := FOp.is .add (Or.inl rfl) (halfV (toV a)) (halfV (toV b))
  have R := F.run
  have O := Lib.hid F.rof
  unfold midO
  clear ha hb F
  generalize (goodB a && goodB b) = g at *
  generalize floatBits .add .f64 (halfV (toV a)) (halfV (toV b)) = o at *
  generalize halfV (toV a) = hx at *
  generalize halfV (toV b) = hy at *
  generalize decide (toV a % 9223372036854775808 = 9218868437227405312) = p at *
  generalize decide (toV b % 9223372036854775808 = 9218868437227405312) = q at *
  generalize toV a = x at *
  generalize toV b = y at *
  cases g
  · clear R O
    simp only [Bool.false_eq_true, if_false] at C ⊢
    rw [resE_none, resV_none]
    go_enter Try.func28, Try.ntmps28
    go_wp2_with (first | (go_at_call 42; (with_reducible refine (C.out _).mono ?_); rintro e1 w1 ⟨rfl, j1, rfl⟩) | (go_at_call 13; (with_reducible refine (O.out _ _).mono ?_); rintro e1 w1 ⟨rfl, j1, rfl⟩) | (go_at_call 12; (with_reducible refine (Z.out _).mono ?_); rintro e1 w1 ⟨rfl, j1, rfl⟩) | (go_at_call 43; (with_reducible refine (I1.out _).mono ?_); rintro e1 w1 ⟨rfl, j1, rfl⟩) | (go_at_call 43; (with_reducible refine (I2.out _).mono ?_); rintro e1 w1 ⟨rfl, j1, rfl⟩))
    go_ret2
    exact Ret.mk rfl (by (repeat' (first | (with_reducible exact Below.refl _ _) | (with_reducible exact w_ext_below _ _) | (with_reducible refine below_ext ?_ ?_ _) | (simp; done) | (simp; omega))))

  · simp only [if_true] at C ⊢
    generalize hd : (FloatKind.f64.format.order x y != some .eq) = d at *
    have hd' : (FloatKind.f64.format.order x y == some .eq) = !d := by rw [← hd, bne, Bool.not_not]
    by_cases h : ((p && q) && d) = true
    · rw [if_pos h, show resV (some 0) = 9223372036854775808 from ofV0, show resE (some 0) = 0 from ofE0]
      simp only [Bool.and_eq_true] at h
      obtain ⟨⟨rfl, rfl⟩, rfl⟩ := h
      go_enter Try.func28, Try.ntmps28
      go_wp2_with (first | (go_at_call 42; (with_reducible refine (C.out _).mono ?_); rintro e1 w1 ⟨rfl, j1, rfl⟩) | (go_at_call 13; (with_reducible refine (O.out _ _).mono ?_); rintro e1 w1 ⟨rfl, j1, rfl⟩) | (go_at_call 12; (with_reducible refine (Z.out _).mono ?_); rintro e1 w1 ⟨rfl, j1, rfl⟩) | (go_at_call 43; (with_reducible refine (I1.out _).mono ?_); rintro e1 w1 ⟨rfl, j1, rfl⟩) | (go_at_call 43; (with_reducible refine (I2.out _).mono ?_); rintro e1 w1 ⟨rfl, j1, rfl⟩))
      go_ret2
      exact Ret.mk rfl (by (repeat' (first | (with_reducible exact Below.refl _ _) | (with_reducible exact w_ext_below _ _) | (with_reducible refine below_ext ?_ ?_ _) | (simp; done) | (simp; omega))))

    · rw [if_neg h]
      generalize resV o = v at *
      generalize resE o = e at *
      cases p <;> cases q <;> cases d <;> simp only [Bool.and_true, Bool.and_false, Bool.false_eq_true, not_false_iff, not_true_eq_false] at h
      all_goals
        go_enter Try.func28, Try.ntmps28
        go_wp2_with (first | (go_at_call 42; (with_reducible refine (C.out _).mono ?_); rintro e1 w1 ⟨rfl, j1, rfl⟩) | (go_at_call 13; (with_reducible refine (O.out _ _).mono ?_); rintro e1 w1 ⟨rfl, j1, rfl⟩) | (go_at_call 12; (with_reducible refine (Z.out _).mono ?_); rintro e1 w1 ⟨rfl, j1, rfl⟩) | (go_at_call 43; (with_reducible refine (I1.out _).mono ?_); rintro e1 w1 ⟨rfl, j1, rfl⟩) | (go_at_call 43; (with_reducible refine (I2.out _).mono ?_); rintro e1 w1 ⟨rfl, j1, rfl⟩))
        go_ret2
        exact Ret.mk rfl (by (repeat' (first | (with_reducible exact Below.refl _ _) | (with_reducible exact w_ext_below _ _) | (with_reducible refine below_ext ?_ ?_ _) | (simp; done) | (simp; omega))))

end Go.Proofs.Ytbbbiicjiagmiaa
