/- Helper lemmas: sums, middles and differences of two times, the program's and the document's. No condition. -/
import Derived.Test.YtbbbiicjiagmiaaI5
import Derived.Test.YtbbbiicjiagmiaaF3
set_option linter.unusedSimpArgs false
set_option linter.unusedVariables false
namespace Go.Proofs.Ytbbbiicjiagmiaa
open Go.RowKit

def resV (o : Option Nat) : Nat := match o with | some r => ofV r | none => 0
def resE (o : Option Nat) : Int := match o with | some r => ofE r | none => 202
theorem nan_cut (x y t : Nat) : Question.cut (.nanBits .f64 x y) t % 9223372036854775808 > 9218868437227405312 ∧ Question.cut (.nanBits .f64 x y) t < 18446744073709551616 := by
  have h : Question.cut (.nanBits .f64 x y) t = (t % 2) * 9223372036854775808 + 9218868437227405312 + 1 + (t / 2) % 4503599627370495 := rfl
  rw [h]
  generalize hc : (t / 2) % 4503599627370495 = c
  have hc2 : c < 4503599627370495 := by rw [← hc]; exact Nat.mod_lt _ (by decide)
  rcases Nat.mod_two_eq_zero_or_one t with h2 | h2 <;> rw [h2] <;> omega
theorem wext_none (w : World) : wext w ⟨[], w.drawn⟩ = w := by simp [wext]
theorem wext_drew (w : World) : wext w ⟨[], w.drawn + 1⟩ = w.drew := by
  have := congrArg World.drew (wext_none w)
  rw [w_ext_drew] at this
  exact this
/-- An operation on floats, and what its result's bits are. -/
structure FOp (op : BinOp) (x y : Nat) (o : Option Nat) (val : World → Nat) (jn : World → Junk) : Prop where
  run : ∀ w, (binOp op 22 (.float .f64 x) (.float .f64 y)).run Try.prog w = .ok (.float .f64 (val w)) (wext w (jn w))
  of : ∀ w w', Calls Try.prog 12 #[.float .f64 (val w)] w' (Ret (.tuple #[u64 (resV o), .int .i64 (resE o)]) w')
  rof : ∀ w w', Calls Try.prog 13 #[.float .f64 (val w)] w' (Ret (.tuple #[u64 (resV o), .int .i64 (resE o)]) w')
theorem FOp.is (op : BinOp) (hop : op = .add ∨ op = .sub) (x y : Nat) : ∃ val jn, FOp op x y (floatBits op .f64 x y) val jn := by
  cases h : floatBits op .f64 x y with
  | some r =>
    have hr : r < 18446744073709551616 := by
      have := floatBits_wf h
      simpa [Lit.wf] using this
    refine ⟨fun _ => r, fun w => ⟨[], w.drawn⟩, fun w => ?_, fun w w' => of_any r hr w', fun w w' => rof_any r hr w'⟩
    rw [wext_none]
    exact run_float_arith w op 22 .f64 x y r h
  | none =>
    refine ⟨fun w => Question.cut (.nanBits .f64 x y) (w.tape w.drawn (.nanBits .f64 x y)), fun w => ⟨[], w.drawn + 1⟩, fun w => ?_, fun w w' => ?_, fun w w' => ?_⟩
    · rw [wext_drew]
      rcases hop with rfl | rfl
      · have h' : FloatKind.f64.format.add x y = none := h
        simp [binOp, Op.floatArith, h', Question.forced]
      · have h' : FloatKind.f64.format.sub x y = none := h
        simp [binOp, Op.floatArith, h', Question.forced]
    · obtain ⟨h1, h2⟩ := nan_cut x y (w.tape w.drawn (.nanBits .f64 x y))
      have := of_any _ h2 w'
      unfold ofV ofE at this
      rw [if_pos h1, if_pos h1] at this
      exact this
    · obtain ⟨h1, h2⟩ := nan_cut x y (w.tape w.drawn (.nanBits .f64 x y))
      have := rof_any _ h2 w'
      unfold ofV ofE at this
      rw [if_pos h1, if_pos h1] at this
      exact this

set_option maxHeartbeats 1000000 in
set_option maxRecDepth 100000 in
theorem both_any (a b : Nat) (ha : a < 18446744073709551616) (hb : b < 18446744073709551616) (w : World) : Calls Try.prog 39 #[u64 a, u64 b] w (Ret (if (goodB a && goodB b) = true then .tuple #[f64 (toV a), f64 (toV b), .int .i64 0] else .tuple #[f64 (toV a), f64 0, .int .i64 202]) w) := by
  have C1 := Lib.hid (fun w => to_any a ha w)
  have C2 := Lib.hid (fun w => to_any b hb w)
  have e1 : goodB a = false → toV a = 0 := fun h => by unfold toV; rw [h]; rfl
  have e2 : goodB b = false → toV b = 0 := fun h => by unfold toV; rw [h]; rfl
  unfold toE at C1 C2
  clear ha hb
  generalize goodB a = g1 at *
  generalize goodB b = g2 at *
  generalize toV a = x at *
  generalize toV b = y at *
  cases g1
  · obtain rfl := e1 rfl
    clear e1 e2
    simp only [Bool.false_eq_true, if_false, Bool.false_and] at C1 ⊢
    have G := C1.out
    go_enter Try.func39, Try.ntmps39
    go_wp2_with (go_at_call 15; (with_reducible refine (C1.out _).mono ?_); rintro e1 w1 ⟨rfl, j1, rfl⟩)
    refine bodyPost_ret (by simp [results, Try.results39, go_sem]; try rfl) rfl ?_
    exact Ret.mk rfl (by (repeat' (first | (with_reducible exact Below.refl _ _) | (with_reducible exact w_ext_below _ _) | (with_reducible refine below_ext ?_ ?_ _) | (simp; done) | (simp; omega))))

  · clear e1
    cases g2
    · obtain rfl := e2 rfl
      clear e2
      simp only [Bool.false_eq_true, if_false, if_true, Bool.and_false] at C1 C2 ⊢
      go_enter Try.func39, Try.ntmps39
      go_wp2_with (first | (go_at_call 15; (with_reducible refine (C1.out _).mono ?_); rintro e1 w1 ⟨rfl, j1, rfl⟩) | (go_at_call 15; (with_reducible refine (C2.out _).mono ?_); rintro e1 w1 ⟨rfl, j1, rfl⟩))
      refine bodyPost_ret (by simp [results, Try.results39, go_sem]; try rfl) rfl ?_
      exact Ret.mk rfl (by (repeat' (first | (with_reducible exact Below.refl _ _) | (with_reducible exact w_ext_below _ _) | (with_reducible refine below_ext ?_ ?_ _) | (simp; done) | (simp; omega))))

    · clear e2
      simp only [if_true, Bool.and_true] at C1 C2 ⊢
      go_enter Try.func39, Try.ntmps39
      go_wp2_with (first | (go_at_call 15; (with_reducible refine (C1.out _).mono ?_); rintro e1 w1 ⟨rfl, j1, rfl⟩) | (go_at_call 15; (with_reducible refine (C2.out _).mono ?_); rintro e1 w1 ⟨rfl, j1, rfl⟩))
      refine bodyPost_ret (by simp [results, Try.results39, go_sem]; try rfl) rfl ?_
      exact Ret.mk rfl (by (repeat' (first | (with_reducible exact Below.refl _ _) | (with_reducible exact w_ext_below _ _) | (with_reducible refine below_ext ?_ ?_ _) | (simp; done) | (simp; omega))))

set_option maxHeartbeats 1000000 in
set_option maxRecDepth 100000 in
theorem two_any (a b : Nat) (ha : a < 18446744073709551616) (hb : b < 18446744073709551616) (w : World) : Calls Try.prog 42 #[u64 a, u64 b] w (Ret (if (goodB a && goodB b) = true then .tuple #[f64 (toV a), f64 (toV b), .int .i64 0] else .tuple #[f64 0, f64 0, .int .i64 202]) w) := by
  have C1 := Lib.hid (fun w => rto_any a ha w)
  have C2 := Lib.hid (fun w => rto_any b hb w)
  have G1 := Lib.hid (fun w => rgood_any a ha w)
  have G2 := Lib.hid (fun w => rgood_any b hb w)
  clear ha hb
  generalize goodB a = g1 at *
  generalize goodB b = g2 at *
  generalize toV a = x at *
  generalize toV b = y at *
  generalize toE a = e at *
  generalize toE b = f at *
  cases g1 <;> cases g2
  all_goals
    simp only [Bool.false_eq_true, if_false, if_true, Bool.and_false, Bool.and_true]
    go_enter Try.func42, Try.ntmps42
    go_wp2_with (first | (go_at_call 25; (with_reducible refine (G1.out _).mono ?_); rintro e1 w1 ⟨rfl, j1, rfl⟩) | (go_at_call 25; (with_reducible refine (G2.out _).mono ?_); rintro e1 w1 ⟨rfl, j1, rfl⟩) | (go_at_call 24; (with_reducible refine (C1.out _).mono ?_); rintro e1 w1 ⟨rfl, j1, rfl⟩) | (go_at_call 24; (with_reducible refine (C2.out _).mono ?_); rintro e1 w1 ⟨rfl, j1, rfl⟩))
    refine bodyPost_ret (by simp [results, Try.results42, go_sem]; try rfl) rfl ?_
    exact Ret.mk rfl (by (repeat' (first | (with_reducible exact Below.refl _ _) | (with_reducible exact w_ext_below _ _) | (with_reducible refine below_ext ?_ ?_ _) | (simp; done) | (simp; omega))))

theorem resV_none : (resV none : Nat) = 0 := rfl
theorem resE_none : resE none = 202 := rfl
def addO (a b : Nat) : Option Nat := if (goodB a && goodB b) = true then floatBits .add .f64 (toV a) (toV b) else none
set_option maxHeartbeats 1000000 in
set_option maxRecDepth 100000 in
theorem add_any (a b : Nat) (ha : a < 18446744073709551616) (hb : b < 18446744073709551616) (w : World) : Calls Try.prog 18 #[u64 a, u64 b] w (Ret (.tuple #[u64 (resV (addO a b)), .int .i64 (resE (addO a b))]) w) := by
  have C := Lib.hid (fun w => both_any a b ha hb w)
  obtain ⟨val, jn, F⟩ := FOp.is .add (Or.inl rfl) (toV a) (toV b)
  have R := F.run
  have O := Lib.hid F.of
  unfold addO
  clear ha hb F
  generalize (goodB a && goodB b) = g at *
  generalize floatBits .add .f64 (toV a) (toV b) = o at *
  generalize toV a = x at *
  generalize toV b = y at *
  cases g
  · clear R O
    simp only [Bool.false_eq_true, if_false] at C ⊢
    rw [resE_none, resV_none]
    go_enter Try.func18, Try.ntmps18
    go_wp2_with (go_at_call 39; (with_reducible refine (C.out _).mono ?_); rintro e1 w1 ⟨rfl, j1, rfl⟩)
    go_ret2
    exact Ret.mk rfl (by (repeat' (first | (with_reducible exact Below.refl _ _) | (with_reducible exact w_ext_below _ _) | (with_reducible refine below_ext ?_ ?_ _) | (simp; done) | (simp; omega))))

  · simp only [if_true] at C ⊢
    generalize resV o = v at *
    generalize resE o = e at *
    go_enter Try.func18, Try.ntmps18
    go_wp2_with (first | (go_at_call 39; (with_reducible refine (C.out _).mono ?_); rintro e1 w1 ⟨rfl, j1, rfl⟩) | (go_at_call 12; (with_reducible refine (O.out _ _).mono ?_); rintro e1 w1 ⟨rfl, j1, rfl⟩))
    go_ret2
    exact Ret.mk rfl (by (repeat' (first | (with_reducible exact Below.refl _ _) | (with_reducible exact w_ext_below _ _) | (with_reducible refine below_ext ?_ ?_ _) | (simp; done) | (simp; omega))))

set_option maxHeartbeats 1000000 in
set_option maxRecDepth 100000 in
theorem radd_any (a b : Nat) (ha : a < 18446744073709551616) (hb : b < 18446744073709551616) (w : World) : Calls Try.prog 27 #[u64 a, u64 b] w (Ret (.tuple #[u64 (resV (addO a b)), .int .i64 (resE (addO a b))]) w) := by
  have C := Lib.hid (fun w => two_any a b ha hb w)
  obtain ⟨val, jn, F⟩ := FOp.is .add (Or.inl rfl) (toV a) (toV b)
  have R := F.run
  have O := Lib.hid F.rof
  unfold addO
  clear ha hb F
  generalize (goodB a && goodB b) = g at *
  generalize floatBits .add .f64 (toV a) (toV b) = o at *
  generalize toV a = x at *
  generalize toV b = y at *
  cases g
  · clear R O
    simp only [Bool.false_eq_true, if_false] at C ⊢
    rw [resE_none, resV_none]
    go_enter Try.func27, Try.ntmps27
    go_wp2_with (go_at_call 42; (with_reducible refine (C.out _).mono ?_); rintro e1 w1 ⟨rfl, j1, rfl⟩)
    go_ret2
    exact Ret.mk rfl (by (repeat' (first | (with_reducible exact Below.refl _ _) | (with_reducible exact w_ext_below _ _) | (with_reducible refine below_ext ?_ ?_ _) | (simp; done) | (simp; omega))))

  · simp only [if_true] at C ⊢
    generalize resV o = v at *
    generalize resE o = e at *
    go_enter Try.func27, Try.ntmps27
    go_wp2_with (first | (go_at_call 42; (with_reducible refine (C.out _).mono ?_); rintro e1 w1 ⟨rfl, j1, rfl⟩) | (go_at_call 13; (with_reducible refine (O.out _ _).mono ?_); rintro e1 w1 ⟨rfl, j1, rfl⟩))
    go_ret2
    exact Ret.mk rfl (by (repeat' (first | (with_reducible exact Below.refl _ _) | (with_reducible exact w_ext_below _ _) | (with_reducible refine below_ext ?_ ?_ _) | (simp; done) | (simp; omega))))

theorem isInf0_fact (b : Nat) (hb : b < 18446744073709551616) (hn : b % 9223372036854775808 ≤ 9218868437227405312) :
    (FloatKind.f64.format.order (b % 9223372036854775808) 9218868437227405311 == some .gt) = decide (b % 9223372036854775808 = 9218868437227405312) := gt_max _ (by omega) (by omega)
theorem andNot_any (b : Nat) (hb : b < 18446744073709551616) : bits .andNot .u64 (b : Int) 9223372036854775808 = ((b % 9223372036854775808 : Nat) : Int) := by
  have := u64_andNot_nat b 9223372036854775808 hb (by decide)
  rw [show (18446744073709551615 - 9223372036854775808 : Nat) = 2 ^ 63 - 1 by decide, Nat.and_two_pow_sub_one_eq_mod] at this
  exact this
set_option maxHeartbeats 1000000 in
set_option maxRecDepth 100000 in
theorem abs_any (b : Nat) (hb : b < 18446744073709551616) (w : World) : Calls Try.prog 23 #[f64 b] w (Ret (f64 (b % 9223372036854775808)) w) := by
  have h := andNot_any b hb
  clear hb
  generalize b % 9223372036854775808 = r at *
  go_enter Try.func23, Try.ntmps23
  go_wp2
  go_ret
  exact Ret.mk rfl (by (repeat' (first | (with_reducible exact Below.refl _ _) | (with_reducible exact w_ext_below _ _) | (with_reducible refine below_ext ?_ ?_ _) | (simp; done) | (simp; omega))))

set_option maxHeartbeats 1000000 in
set_option maxRecDepth 100000 in
theorem isInf0 (b : Nat) (hb : b < 18446744073709551616) (hn : b % 9223372036854775808 ≤ 9218868437227405312) (w : World) : Calls Try.prog 26 #[f64 b, .int .i64 0] w (Ret (.bool (decide (b % 9223372036854775808 = 9218868437227405312))) w) := by
  have h := isInf0_fact b hb hn
  have C := Lib.hid (fun w => abs_any b hb w)
  generalize decide (b % 9223372036854775808 = 9218868437227405312) = d at *
  clear hb hn
  generalize b % 9223372036854775808 = r at *
  go_enter Try.func26, Try.ntmps26
  go_wp2_with (go_at_call 23; (with_reducible refine (C.out _).mono ?_); rintro e1 w1 ⟨rfl, j1, rfl⟩)
  go_ret
  exact Ret.mk rfl (by (repeat' (first | (with_reducible exact Below.refl _ _) | (with_reducible exact w_ext_below _ _) | (with_reducible refine below_ext ?_ ?_ _) | (simp; done) | (simp; omega))))

theorem lt_min (b : Nat) (hb : b < 18446744073709551616) (hn : b % 9223372036854775808 ≤ 9218868437227405312) : (FloatKind.f64.format.order b 18442240474082181119 == some .lt) = decide (b = 18442240474082181120) := by
  have := order_key b 18442240474082181119 hb (by decide) hn (by unfold isN; decide)
  rw [show FloatKind.f64.format = Ieee.double from rfl, this]
  by_cases h0 : b = 18442240474082181120
  · subst h0; decide
  · rw [decide_eq_false h0]
    have h2 : -9218868437227405311 ≤ key b := by unfold key; split <;> omega
    have h3 : key 18442240474082181119 = -9218868437227405311 := by decide
    rw [h3]
    rcases Int.lt_or_eq_of_le h2 with h | h
    · rw [c_gt h]; rfl
    · rw [← h, c_eq]; rfl
set_option maxHeartbeats 1000000 in
set_option maxRecDepth 100000 in
theorem rinf_any (b : Nat) (hb : b < 18446744073709551616) (hn : b % 9223372036854775808 ≤ 9218868437227405312) (w : World) : Calls Try.prog 43 #[f64 b] w (Ret (.bool (decide (b % 9223372036854775808 = 9218868437227405312))) w) := by
  have h1 := gt_max b hb hn
  have h2 := lt_min b hb hn
  have h3 : decide (b % 9223372036854775808 = 9218868437227405312) = (decide (b = 9218868437227405312) || decide (b = 18442240474082181120)) := by
    rw [Bool.eq_iff_iff]; simp; omega
  rw [h3]
  clear h3 hb hn
  generalize decide (b = 9218868437227405312) = p at *
  generalize decide (b = 18442240474082181120) = q at *
  cases p
  · simp only [Bool.false_or]
    go_enter Try.func43, Try.ntmps43
    go_wp2
    go_ret
    exact Ret.mk rfl (by (repeat' (first | (with_reducible exact Below.refl _ _) | (with_reducible exact w_ext_below _ _) | (with_reducible refine below_ext ?_ ?_ _) | (simp; done) | (simp; omega))))

  · simp only [Bool.true_or]
    go_enter Try.func43, Try.ntmps43
    go_wp2
    go_ret
    exact Ret.mk rfl (by (repeat' (first | (with_reducible exact Below.refl _ _) | (with_reducible exact w_ext_below _ _) | (with_reducible refine below_ext ?_ ?_ _) | (simp; done) | (simp; omega))))

theorem ofV0 : ofV 0 = 9223372036854775808 := by decide
theorem ofE0 : ofE 0 = 0 := by decide
/-- How long one is behind another. -/
def sinceO (a b : Nat) : Option Nat := if (goodB a && goodB b) = true then (if (FloatKind.f64.format.order (toV a) (toV b) == some .lt || FloatKind.f64.format.order (toV a) (toV b) == some .eq) = true then some 0 else floatBits .sub .f64 (toV a) (toV b)) else none
set_option maxHeartbeats 1000000 in
set_option maxRecDepth 100000 in
theorem since_any (a b : Nat) (ha : a < 18446744073709551616) (hb : b < 18446744073709551616) (w : World) : Calls Try.prog 29 #[u64 a, u64 b] w (Ret (.tuple #[u64 (resV (sinceO a b)), .int .i64 (resE (sinceO a b))]) w) := by
  have C := Lib.hid (fun w => both_any a b ha hb w)
  have Z : Hid (∀ w, Calls Try.prog 12 #[.float .f64 0] w (Ret (.tuple #[.int .u64 9223372036854775808, .int .i64 0]) w)) := Lib.hid (fun w => of_any 0 (by decide) w)
  obtain ⟨val, jn, F⟩ := FOp.is .sub (Or.inr rfl) (toV a) (toV b)
  have R := F.run
  have O := Lib.hid F.of
  unfold sinceO
  clear ha hb F
  generalize (goodB a && goodB b) = g at *
  generalize floatBits .sub .f64 (toV a) (toV b) = o at *
  generalize toV a = x at *
  generalize toV b = y at *
  cases g
  · clear R O
    simp only [Bool.false_eq_true, if_false] at C ⊢
    rw [resE_none, resV_none]
    go_enter Try.func29, Try.ntmps29
    go_wp2_with (go_at_call 39; (with_reducible refine (C.out _).mono ?_); rintro e1 w1 ⟨rfl, j1, rfl⟩)
    go_ret2
    exact Ret.mk rfl (by (repeat' (first | (with_reducible exact Below.refl _ _) | (with_reducible exact w_ext_below _ _) | (with_reducible refine below_ext ?_ ?_ _) | (simp; done) | (simp; omega))))

  · simp only [if_true] at C ⊢
    generalize hd : (FloatKind.f64.format.order x y == some .lt || FloatKind.f64.format.order x y == some .eq) = d at *
    cases d
    · simp only [Bool.false_eq_true, if_false]
      generalize resV o = v at *
      generalize resE o = e at *
      go_enter Try.func29, Try.ntmps29
      go_wp2_with (first | (go_at_call 39; (with_reducible refine (C.out _).mono ?_); rintro e1 w1 ⟨rfl, j1, rfl⟩) | (go_at_call 12; (with_reducible refine (O.out _ _).mono ?_); rintro e1 w1 ⟨rfl, j1, rfl⟩) | (go_at_call 12; (with_reducible refine (Z.out _).mono ?_); rintro e1 w1 ⟨rfl, j1, rfl⟩))
      go_ret2
      exact Ret.mk rfl (by (repeat' (first | (with_reducible exact Below.refl _ _) | (with_reducible exact w_ext_below _ _) | (with_reducible refine below_ext ?_ ?_ _) | (simp; done) | (simp; omega))))

    · simp only [if_true]
      rw [show resV (some 0) = 9223372036854775808 from ofV0, show resE (some 0) = 0 from ofE0]
      go_enter Try.func29, Try.ntmps29
      go_wp2_with (first | (go_at_call 39; (with_reducible refine (C.out _).mono ?_); rintro e1 w1 ⟨rfl, j1, rfl⟩) | (go_at_call 12; (with_reducible refine (O.out _ _).mono ?_); rintro e1 w1 ⟨rfl, j1, rfl⟩) | (go_at_call 12; (with_reducible refine (Z.out _).mono ?_); rintro e1 w1 ⟨rfl, j1, rfl⟩))
      go_ret2
      exact Ret.mk rfl (by (repeat' (first | (with_reducible exact Below.refl _ _) | (with_reducible exact w_ext_below _ _) | (with_reducible refine below_ext ?_ ?_ _) | (simp; done) | (simp; omega))))

set_option maxHeartbeats 1000000 in
set_option maxRecDepth 100000 in
theorem rsince_any (a b : Nat) (ha : a < 18446744073709551616) (hb : b < 18446744073709551616) (w : World) : Calls Try.prog 30 #[u64 a, u64 b] w (Ret (.tuple #[u64 (resV (sinceO a b)), .int .i64 (resE (sinceO a b))]) w) := by
  have C := Lib.hid (fun w => two_any a b ha hb w)
  have Z : Hid (∀ w, Calls Try.prog 12 #[.float .f64 0] w (Ret (.tuple #[.int .u64 9223372036854775808, .int .i64 0]) w)) := Lib.hid (fun w => of_any 0 (by decide) w)
  obtain ⟨val, jn, F⟩ := FOp.is .sub (Or.inr rfl) (toV a) (toV b)
  have R := F.run
  have O := Lib.hid F.rof
  unfold sinceO
  clear ha hb F
  generalize (goodB a && goodB b) = g at *
  generalize floatBits .sub .f64 (toV a) (toV b) = o at *
  generalize toV a = x at *
  generalize toV b = y at *
  cases g
  · clear R O
    simp only [Bool.false_eq_true, if_false] at C ⊢
    rw [resE_none, resV_none]
    go_enter Try.func30, Try.ntmps30
    go_wp2_with (go_at_call 42; (with_reducible refine (C.out _).mono ?_); rintro e1 w1 ⟨rfl, j1, rfl⟩)
    go_ret2
    exact Ret.mk rfl (by (repeat' (first | (with_reducible exact Below.refl _ _) | (with_reducible exact w_ext_below _ _) | (with_reducible refine below_ext ?_ ?_ _) | (simp; done) | (simp; omega))))

  · simp only [if_true] at C ⊢
    generalize hd : (FloatKind.f64.format.order x y == some .lt || FloatKind.f64.format.order x y == some .eq) = d at *
    cases d
    · simp only [Bool.false_eq_true, if_false]
      generalize resV o = v at *
      generalize resE o = e at *
      go_enter Try.func30, Try.ntmps30
      go_wp2_with (first | (go_at_call 42; (with_reducible refine (C.out _).mono ?_); rintro e1 w1 ⟨rfl, j1, rfl⟩) | (go_at_call 13; (with_reducible refine (O.out _ _).mono ?_); rintro e1 w1 ⟨rfl, j1, rfl⟩) | (go_at_call 12; (with_reducible refine (Z.out _).mono ?_); rintro e1 w1 ⟨rfl, j1, rfl⟩))
      go_ret2
      exact Ret.mk rfl (by (repeat' (first | (with_reducible exact Below.refl _ _) | (with_reducible exact w_ext_below _ _) | (with_reducible refine below_ext ?_ ?_ _) | (simp; done) | (simp; omega))))

    · simp only [if_true]
      rw [show resV (some 0) = 9223372036854775808 from ofV0, show resE (some 0) = 0 from ofE0]
      go_enter Try.func30, Try.ntmps30
      go_wp2_with (first | (go_at_call 42; (with_reducible refine (C.out _).mono ?_); rintro e1 w1 ⟨rfl, j1, rfl⟩) | (go_at_call 13; (with_reducible refine (O.out _ _).mono ?_); rintro e1 w1 ⟨rfl, j1, rfl⟩) | (go_at_call 12; (with_reducible refine (Z.out _).mono ?_); rintro e1 w1 ⟨rfl, j1, rfl⟩))
      go_ret2
      exact Ret.mk rfl (by (repeat' (first | (with_reducible exact Below.refl _ _) | (with_reducible exact w_ext_below _ _) | (with_reducible refine below_ext ?_ ?_ _) | (simp; done) | (simp; omega))))

end Go.Proofs.Ytbbbiicjiagmiaa
