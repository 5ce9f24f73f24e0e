/- Bits stand in order as their times do, for all two 64-bit floats. -/
import Derived.Test.YtbbbiicjiagmiaaL
import Derived.Test.YtbbbiicjiagmiaaI4
namespace Go.Proofs.Ytbbbiicjiagmiaa
open Go.ChangeShapes Go.WideShapes Go.ChangeAt Go.RowKit
set_option linter.unusedSimpArgs false
set_option linter.unusedVariables false

theorem ofV_key (b : Nat) (hb : b < 18446744073709551616) (h : b % 9223372036854775808 ≤ 9218868437227405312) : (ofV b : Int) = if 0 ≤ key b then 9223372036854775808 + key b else 9223372036854775807 + key b := by
  unfold ofV key
  rw [if_neg (by omega)]
  split
  · split
    · rw [if_pos (by omega)]; omega
    · rw [if_pos (by omega)]; omega
  · split
    · rw [if_pos (by omega)]; omega
    · rw [if_neg (by omega)]; omega
theorem ofE_bne (b : Nat) : (ofE b != 0) = decide (b % 9223372036854775808 > 9218868437227405312) := by
  unfold ofE
  split
  · rw [decide_eq_true (by assumption)]; rfl
  · rw [decide_eq_false (by assumption)]; rfl
theorem self_neq (b : Nat) (hb : b < 18446744073709551616) : (FloatKind.f64.format.order b b != some .eq) = decide (b % 9223372036854775808 > 9218868437227405312) := by
  by_cases h : isN b
  · have := order_key b b hb hb h h
    rw [show FloatKind.f64.format = Ieee.double from rfl, this, c_eq]
    unfold isN at h
    rw [decide_eq_false (by omega)]
    rfl
  · have := order_nan_left b b h
    rw [show FloatKind.f64.format = Ieee.double from rfl, this]
    unfold isN at h
    rw [decide_eq_true (by omega)]
    rfl
theorem lt_same (a b : Nat) (ha : a < 18446744073709551616) (hb : b < 18446744073709551616) (na : a % 9223372036854775808 ≤ 9218868437227405312) (nb : b % 9223372036854775808 ≤ 9218868437227405312) :
    (FloatKind.f64.format.order a b == some .lt) = decide ((ofV a : Int) < (ofV b : Int)) ∧ (FloatKind.f64.format.order a b == some .eq) = ((ofV a : Int) == (ofV b : Int)) := by
  have := order_key a b ha hb na nb
  rw [show FloatKind.f64.format = Ieee.double from rfl, this, ofV_key a ha na, ofV_key b hb nb]
  generalize key a = x
  generalize key b = y
  rcases Int.lt_trichotomy x y with h | rfl | h
  · rw [c_lt h]
    refine ⟨?_, ?_⟩
    · rw [decide_eq_true (by split <;> split <;> omega)]; rfl
    · symm; rw [beq_eq_false_iff_ne.2 (by split <;> split <;> omega)]; rfl
  · rw [c_eq]
    refine ⟨?_, ?_⟩
    · rw [decide_eq_false (by omega)]; rfl
    · symm; rw [beq_self_eq_true]; rfl
  · rw [c_gt h]
    refine ⟨?_, ?_⟩
    · rw [decide_eq_false (by split <;> split <;> omega)]; rfl
    · symm; rw [beq_eq_false_iff_ne.2 (by split <;> split <;> omega)]; rfl
set_option maxHeartbeats 1000000 in
set_option maxRecDepth 100000 in
theorem order_w (x y v u : Nat) (e f : Int) (p q l m : Bool) (hp : (e != 0) = p) (hq : (f != 0) = q) (hx : (FloatKind.f64.format.order x x != some .eq) = p) (hy : (FloatKind.f64.format.order y y != some .eq) = q)
    (hl : p = false → q = false → (FloatKind.f64.format.order x y == some .lt) = l ∧ (FloatKind.f64.format.order x y == some .eq) = m) (hv : decide (v < u) = l) (hw : ((v : Int) == (u : Int)) = m) (hw' : (v == u) = m)
    (C1 : Hid (∀ w, Calls Try.prog 12 #[f64 x] w (Ret (.tuple #[u64 v, .int .i64 e]) w))) (C2 : Hid (∀ w, Calls Try.prog 12 #[f64 y] w (Ret (.tuple #[u64 u, .int .i64 f]) w))) (w : World) :
    Calls Try.prog 4 #[f64 x, f64 y] w (Ret (.bool true) w) := by
  cases p
  · cases q
    · obtain ⟨h1, h2⟩ := hl rfl rfl
      clear hl
      cases l <;> cases m
      all_goals
        go_enter Try.func4, Try.ntmps4
        go_wp2_with (first | (go_at_call 12; (with_reducible refine (C1.out _).mono ?_); rintro e1 w1 ⟨rfl, j1, rfl⟩) | (go_at_call 12; (with_reducible refine (C2.out _).mono ?_); rintro e1 w1 ⟨rfl, j1, rfl⟩) | (go_at_call 14; (with_reducible refine (awake_any _).mono ?_); rintro e1 w1 ⟨rfl, j1, rfl⟩))
        go_ret
        exact Ret.mk (by first | rfl | (simp at hv ⊢; omega)) (by (repeat' (first | (with_reducible exact Below.refl _ _) | (with_reducible exact w_ext_below _ _) | (with_reducible refine below_ext ?_ ?_ _) | (simp; done) | (simp; omega))))
    · clear hl hv hw hw'
      go_enter Try.func4, Try.ntmps4
      go_wp2_with (first | (go_at_call 12; (with_reducible refine (C1.out _).mono ?_); rintro e1 w1 ⟨rfl, j1, rfl⟩) | (go_at_call 12; (with_reducible refine (C2.out _).mono ?_); rintro e1 w1 ⟨rfl, j1, rfl⟩) | (go_at_call 14; (with_reducible refine (awake_any _).mono ?_); rintro e1 w1 ⟨rfl, j1, rfl⟩))
      go_ret
      exact Ret.mk rfl (by (repeat' (first | (with_reducible exact Below.refl _ _) | (with_reducible exact w_ext_below _ _) | (with_reducible refine below_ext ?_ ?_ _) | (simp; done) | (simp; omega))))
  · clear hl hv hw hw'
    cases q
    all_goals
      go_enter Try.func4, Try.ntmps4
      go_wp2_with (first | (go_at_call 12; (with_reducible refine (C1.out _).mono ?_); rintro e1 w1 ⟨rfl, j1, rfl⟩) | (go_at_call 12; (with_reducible refine (C2.out _).mono ?_); rintro e1 w1 ⟨rfl, j1, rfl⟩) | (go_at_call 14; (with_reducible refine (awake_any _).mono ?_); rintro e1 w1 ⟨rfl, j1, rfl⟩))
      go_ret
      exact Ret.mk rfl (by (repeat' (first | (with_reducible exact Below.refl _ _) | (with_reducible exact w_ext_below _ _) | (with_reducible refine below_ext ?_ ?_ _) | (simp; done) | (simp; omega))))
theorem instantOrder_calls (x : Nat) (hx : x < 18446744073709551616) (y : Nat) (hy : y < 18446744073709551616) (w : World) : Calls Try.prog 4 #[f64 x, f64 y] w (Ret (.bool true) w) := by
  refine order_w x y _ _ _ _ _ _ _ _ (ofE_bne x) (ofE_bne y) (self_neq x hx) (self_neq y hy) (fun h1 h2 => ?_) rfl rfl (by rw [Bool.eq_iff_iff]; simp; omega) (Lib.hid (fun w => of_any x hx w)) (Lib.hid (fun w => of_any y hy w)) w
  rw [decide_eq_false_iff_not] at h1 h2
  have h := lt_same x y hx hy (by omega) (by omega)
  rw [show decide ((ofV x : Int) < (ofV y : Int)) = decide (ofV x < ofV y) by rw [Bool.eq_iff_iff]; simp] at h
  exact h

set_option maxRecDepth 100000 in
theorem instantOrder_lifted (os : Os) (started : os.Started) (H : Type) (enc : TypeId × Value → H) :
    ReturnsInHanded {} Try.checked os 4 .any (Rows.instantOrderSpec.pre6 enc Try.prog Try.f4 Rows.instantOrderRow.domain false) (Rows.instantOrderSpec.post enc Try.prog Try.f4 false true false false) := by
  refine returnsInHanded_of_change (C := Try.checked) Try.own started (by kernel_rfl) Try.func4
    (ChangeSpec.witness6 (enc := enc) (C := Try.checked) false ⟨#[], #[.float .f64 0, .float .f64 0], []⟩ 8 (by kernel_rfl) (by kernel_rfl) (by kernel_rfl) (by kernel_rfl)) ?_
  intro W base args ds gs before hval0 hW hcnd _
  have hval : ∀ (j : Nat) t v, Try.f4.params[j]? = some t → args[j]? = some v → Value.okWide Try.prog W .any base t v := hval0
  have hW' := hW
  obtain ⟨p, q, hA0, hV, rfl, hfz, hnd⟩ := hW
  have hA : DataW.TrodAll enc Try.prog W 0 (fun _ => true) true Try.f4.params.toList args.toList ds p := hA0
  rw [Try.params4] at hA hval
  obtain ⟨v0, vs0, d0, ds0, p0, q0, hargs, rfl, rfl, h0, r0⟩ := trodAll_cons hA
  obtain ⟨v1, vs1, d1, ds1, p1, q1, rfl, rfl, rfl, h1, r1⟩ := trodAll_cons r0
  obtain ⟨rfl, rfl, rfl⟩ := trodAll_nil r1
  obtain rfl : args = #[v0, v1] := by cases args; simp_all
  obtain ⟨rfl, rfl⟩ := trodVars_none hV
  obtain ⟨b0, rfl, wb0⟩ := open_f64 (hval 0 22 _ rfl rfl) h0
  obtain ⟨b1, rfl, wb1⟩ := open_f64 (hval 1 22 _ rfl rfl) h1
  refine (instantOrder_calls b0 wb0 b1 wb1 W).mono fun e W' ⟨he, j, hj⟩ => ?_
  subst he; subst hj
  exact ⟨_, rfl, law_post Try.laidOut (by kernel_rfl) rfl rfl rfl hW' (w_ext_below _ _)⟩

theorem instantOrder_holds : Rows.InstantOrderSaid :=
  OpenClaim.holds_of_wide 4 Try.f4 rfl rfl rfl rfl rfl rfl rfl ⟨rfl, rfl, rfl, rfl, rfl⟩ rfl rfl rfl rfl rfl (by kernel_rfl) Try.func4 (by kernel_rfl)
    (of_decide_eq_true (by kernel_rfl)) (by unfold Func.isWrapper; first | (rw [if_pos (by decide +kernel)]; kernel_rfl) | (rw [if_neg (by decide +kernel)]; exact ⟨rfl, rfl⟩))
    (fun os started H enc _ => instantOrder_lifted os started H enc)
end Go.Proofs.Ytbbbiicjiagmiaa
