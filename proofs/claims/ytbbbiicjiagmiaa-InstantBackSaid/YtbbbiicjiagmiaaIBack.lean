/- The time of a number's bits is that number, and the bits of a time are those, for all 64-bit floats and all numbers of 64 bits. -/
import Derived.Test.YtbbbiicjiagmiaaL
import Derived.Test.YtbbbiicjiagmiaaI5
namespace Go.Proofs.Ytbbbiicjiagmiaa
open Go.ChangeShapes Go.WideShapes Go.ChangeAt Go.RowKit
set_option linter.unusedSimpArgs false
set_option linter.unusedVariables false

set_option maxHeartbeats 1000000 in
set_option maxRecDepth 100000 in
theorem back_w (x k a y z b : Nat) (e f g h : Int) (s gd : Bool) (c1 : Hid (∀ w, Calls Try.prog 12 #[f64 x] w (Ret (.tuple #[u64 a, .int .i64 e]) w))) (c2 : Hid (∀ w, Calls Try.prog 15 #[u64 a] w (Ret (.tuple #[f64 y, .int .i64 f]) w)))
    (c3 : Hid (∀ w, Calls Try.prog 16 #[f64 y] w (Ret (.bool s) w))) (c4 : Hid (∀ w, Calls Try.prog 17 #[u64 a] w (Ret (.bool gd) w))) (c5 : Hid (∀ w, Calls Try.prog 15 #[u64 k] w (Ret (.tuple #[f64 z, .int .i64 g]) w))) (c6 : Hid (∀ w, Calls Try.prog 12 #[f64 z] w (Ret (.tuple #[u64 b, .int .i64 h]) w)))
    (p1 p2 p3 p4 p5 p6 p7 p8 : Bool) (bb kk : Int) (hb : (b : Int) = bb) (hk : (k : Int) = kk)
    (h1 : (e == 0) = p1) (h1' : (FloatKind.f64.format.order x x == some .eq) = p1) (h2 : (f != 0) = p2) (h3 : (FloatKind.f64.format.order y x != some .eq) = p3) (h4 : (FloatKind.f64.format.order x 0 == some .eq) = p4)
    (h5 : (g != 0) = p5) (h6 : (FloatKind.f64.format.order z 0 == some .eq) = p6) (h7 : (h == 0) = p7) (h8 : (bb == kk) = p8)
    (H1 : p1 = true → p2 = false ∧ p3 = false ∧ (p4 && s) = false ∧ gd = true) (H2 : ((p5 && p6) || (p7 && p8)) = true) (w : World) :
    Calls Try.prog 5 #[f64 x, u64 k] w (Ret (.bool true) w) := by
  cases p1
  · clear H1 h2 h3 h4
    cases p5 <;> cases p6 <;> cases p7 <;> cases p8 <;> simp only [Bool.and_true, Bool.and_false, Bool.true_and, Bool.false_and, Bool.or_true, Bool.or_false, Bool.false_eq_true, Bool.true_eq_false, reduceCtorEq] at H2
    all_goals
      go_enter Try.func5, Try.ntmps5
      go_wp2_with (first | (go_at_call 12; (with_reducible refine (c1.out _).mono ?_); rintro e1 w1 ⟨rfl, j1, rfl⟩) | (go_at_call 15; (with_reducible refine (c5.out _).mono ?_); rintro e1 w1 ⟨rfl, j1, rfl⟩) | (go_at_call 12; (with_reducible refine (c6.out _).mono ?_); rintro e1 w1 ⟨rfl, j1, rfl⟩) | (go_at_call 14; (with_reducible refine (awake_any _).mono ?_); rintro e1 w1 ⟨rfl, j1, rfl⟩))
      go_ret
      exact Ret.mk rfl (by (repeat' (first | (with_reducible exact Below.refl _ _) | (with_reducible exact w_ext_below _ _) | (with_reducible refine below_ext ?_ ?_ _) | (simp; done) | (simp; omega))))
  · obtain ⟨q1, q2, q3, q4⟩ := H1 rfl
    subst q1; subst q2; subst q4
    clear H1
    cases p4 <;> cases s <;> simp only [Bool.and_true, Bool.and_false, Bool.true_and, Bool.false_and, Bool.or_true, Bool.or_false, Bool.false_eq_true, Bool.true_eq_false, reduceCtorEq] at q3
    all_goals
      cases p5 <;> cases p6 <;> cases p7 <;> cases p8 <;> simp only [Bool.and_true, Bool.and_false, Bool.true_and, Bool.false_and, Bool.or_true, Bool.or_false, Bool.false_eq_true, Bool.true_eq_false, reduceCtorEq] at H2
    all_goals
      go_enter Try.func5, Try.ntmps5
      go_wp2_with (first | (go_at_call 12; (with_reducible refine (c1.out _).mono ?_); rintro e1 w1 ⟨rfl, j1, rfl⟩) | (go_at_call 15; (with_reducible refine (c2.out _).mono ?_); rintro e1 w1 ⟨rfl, j1, rfl⟩) | (go_at_call 16; (with_reducible refine (c3.out _).mono ?_); rintro e1 w1 ⟨rfl, j1, rfl⟩) | (go_at_call 17; (with_reducible refine (c4.out _).mono ?_); rintro e1 w1 ⟨rfl, j1, rfl⟩) | (go_at_call 15; (with_reducible refine (c5.out _).mono ?_); rintro e1 w1 ⟨rfl, j1, rfl⟩) | (go_at_call 12; (with_reducible refine (c6.out _).mono ?_); rintro e1 w1 ⟨rfl, j1, rfl⟩) | (go_at_call 14; (with_reducible refine (awake_any _).mono ?_); rintro e1 w1 ⟨rfl, j1, rfl⟩))
      go_ret
      exact Ret.mk rfl (by (repeat' (first | (with_reducible exact Below.refl _ _) | (with_reducible exact w_ext_below _ _) | (with_reducible refine below_ext ?_ ?_ _) | (simp; done) | (simp; omega))))
theorem ofV_lt (b : Nat) (hb : b < 18446744073709551616) : ofV b < 18446744073709551616 := by unfold ofV; (repeat' split) <;> omega
/-- The bits of a number are a time's, whose time is that number, but for the zero below nought. -/
theorem of_back (x : Nat) (hx : x < 18446744073709551616) (n : x % 9223372036854775808 ≤ 9218868437227405312) : goodB (ofV x) = true ∧ (toV (ofV x) = x ∨ (x = 9223372036854775808 ∧ toV (ofV x) = 0)) := by
  have hv : ofV x = if x % 9223372036854775808 = 0 then 9223372036854775808 else if x < 9223372036854775808 then x + 9223372036854775808 else 18446744073709551615 - x := by unfold ofV; rw [if_neg (by omega)]
  by_cases h0 : x % 9223372036854775808 = 0
  · rw [hv, if_pos h0, show toV 9223372036854775808 = 0 by decide]
    exact ⟨by decide, by omega⟩
  · by_cases h1 : x < 9223372036854775808
    · rw [hv, if_neg h0, if_pos h1]
      have hg := (good_iff (x + 9223372036854775808) (by omega)).2 ⟨by omega, by omega, by omega⟩
      refine ⟨hg, Or.inl ?_⟩
      unfold toV backV
      rw [if_pos hg, if_neg (by omega)]
      omega
    · rw [hv, if_neg h0, if_neg h1]
      have hg := (good_iff (18446744073709551615 - x) (by omega)).2 ⟨by omega, by omega, by omega⟩
      refine ⟨hg, Or.inl ?_⟩
      unfold toV backV
      rw [if_pos hg, if_pos (by omega)]
      omega
theorem neq_self (b : Nat) (hb : b < 18446744073709551616) (h : b % 9223372036854775808 ≤ 9218868437227405312) : (FloatKind.f64.format.order b b != some .eq) = false := by
  have := self_eq b hb h
  rw [bne, this]; rfl
theorem self_eq' (b : Nat) (hb : b < 18446744073709551616) : (ofE b == 0) = (FloatKind.f64.format.order b b == some .eq) := by
  by_cases h : b % 9223372036854775808 ≤ 9218868437227405312
  · rw [self_eq b hb h]
    unfold ofE
    rw [if_neg (by omega)]; rfl
  · rw [show FloatKind.f64.format = Ieee.double from rfl, order_nan_left b b (by unfold isN; exact h)]
    unfold ofE
    rw [if_pos (by omega)]; rfl
theorem ofE_lt (x : Nat) (h : (ofE x == 0) = true) : x % 9223372036854775808 ≤ 9218868437227405312 := by
  unfold ofE at h
  split at h
  · cases h
  · omega
theorem instantBack_calls (x : Nat) (hx : x < 18446744073709551616) (k : Nat) (hk : k < 18446744073709551616) (w : World) : Calls Try.prog 5 #[f64 x, u64 k] w (Ret (.bool true) w) := by
  have hv := ofV_lt x hx
  have hy := toV_lt (ofV x) hv
  have hz := toV_lt k hk
  refine back_w x k _ _ _ _ _ _ _ _ _ _ (Lib.hid (fun w => of_any x hx w)) (Lib.hid (fun w => to_any _ hv w)) (Lib.hid (fun w => signbit_any _ hy w)) (Lib.hid (fun w => good_any _ hv w)) (Lib.hid (fun w => to_any k hk w)) (Lib.hid (fun w => of_any _ hz w))
    _ _ _ _ _ _ _ _ _ _ rfl rfl rfl (self_eq' x hx).symm rfl rfl rfl rfl rfl rfl rfl ?_ ?_ w
  · intro h
    have n := ofE_lt x h
    obtain ⟨hg, ht⟩ := of_back x hx n
    refine ⟨?_, ?_, ?_, hg⟩
    · unfold toE; rw [if_pos hg]; rfl
    · rcases ht with ht | ⟨rfl, ht⟩
      · rw [ht]; exact neq_self x hx n
      · rw [ht]; decide +kernel
    · rcases ht with ht | ⟨rfl, ht⟩
      · rw [ht, eq_zero x hx n, Bool.and_eq_false_iff, decide_eq_false_iff_not, decide_eq_false_iff_not]
        by_cases hx0 : x = 9223372036854775808
        · subst hx0
          exact absurd ht (by decide)
        · omega
      · rw [ht]; decide +kernel
  · cases hg : goodB k with
    | false =>
      unfold toE toV
      rw [hg]
      simp only [Bool.false_eq_true, if_false]
      rw [show (FloatKind.f64.format.order 0 0 == some .eq) = true by decide +kernel]
      rfl
    | true =>
      have h1 : toV k = backV k := by unfold toV; rw [if_pos hg]
      have h2 := hg
      unfold goodB at h2
      rw [Bool.and_eq_true, decide_eq_true_eq, decide_eq_true_eq] at h2
      rw [h1, h2.1, h2.2]
      simp

set_option maxRecDepth 100000 in
theorem instantBack_lifted (os : Os) (started : os.Started) (H : Type) (enc : TypeId × Value → H) :
    ReturnsInHanded {} Try.checked os 5 .any (Rows.instantBackSpec.pre6 enc Try.prog Try.f5 Rows.instantBackRow.domain false) (Rows.instantBackSpec.post enc Try.prog Try.f5 false true false false) := by
  refine returnsInHanded_of_change (C := Try.checked) Try.own started (by kernel_rfl) Try.func5
    (ChangeSpec.witness6 (enc := enc) (C := Try.checked) false ⟨#[], #[.float .f64 0, .int .u64 0], []⟩ 8 (by kernel_rfl) (by kernel_rfl) (by kernel_rfl) (by kernel_rfl)) ?_
  intro W base args ds gs before hval0 hW hcnd _
  have hval : ∀ (j : Nat) t v, Try.f5.params[j]? = some t → args[j]? = some v → Value.okWide Try.prog W .any base t v := hval0
  have hW' := hW
  obtain ⟨p, q, hA0, hV, rfl, hfz, hnd⟩ := hW
  have hA : DataW.TrodAll enc Try.prog W 0 (fun _ => true) true Try.f5.params.toList args.toList ds p := hA0
  rw [Try.params5] at hA hval
  obtain ⟨v0, vs0, d0, ds0, p0, q0, hargs, rfl, rfl, h0, r0⟩ := trodAll_cons hA
  obtain ⟨v1, vs1, d1, ds1, p1, q1, rfl, rfl, rfl, h1, r1⟩ := trodAll_cons r0
  obtain ⟨rfl, rfl, rfl⟩ := trodAll_nil r1
  obtain rfl : args = #[v0, v1] := by cases args; simp_all
  obtain ⟨rfl, rfl⟩ := trodVars_none hV
  obtain ⟨b0, rfl, wb0⟩ := open_f64 (hval 0 22 _ rfl rfl) h0
  obtain ⟨b1, rfl, wb1⟩ := open_u64 (hval 1 23 _ rfl rfl) h1
  refine (instantBack_calls b0 wb0 b1 wb1 W).mono fun e W' ⟨he, j, hj⟩ => ?_
  subst he; subst hj
  exact ⟨_, rfl, law_post Try.laidOut (by kernel_rfl) rfl rfl rfl hW' (w_ext_below _ _)⟩

theorem instantBack_holds : Rows.InstantBackSaid :=
  OpenClaim.holds_of_wide 5 Try.f5 rfl rfl rfl rfl rfl rfl rfl ⟨rfl, rfl, rfl, rfl, rfl⟩ rfl rfl rfl rfl rfl (by kernel_rfl) Try.func5 (by kernel_rfl)
    (of_decide_eq_true (by kernel_rfl)) (by unfold Func.isWrapper; first | (rw [if_pos (by decide +kernel)]; kernel_rfl) | (rw [if_neg (by decide +kernel)]; exact ⟨rfl, rfl⟩))
    (fun os started H enc _ => instantBack_lifted os started H enc)
end Go.Proofs.Ytbbbiicjiagmiaa
