/- Helper lemmas: the least time above one, the first and the last, and the example. No condition. -/
import Derived.Test.YtbbbiicjiagmiaaI2
set_option linter.unusedSimpArgs false
set_option linter.unusedVariables false
namespace Go.Proofs.Ytbbbiicjiagmiaa
open Go.RowKit

/-- Which bits are a time's. -/
theorem good_iff (k : Nat) (hk : k < 18446744073709551616) : goodB k = true ↔ (4503599627370495 ≤ k ∧ k ≤ 18442240474082181120 ∧ k ≠ 9223372036854775807) := by
  unfold goodB
  simp only [Bool.and_eq_true, decide_eq_true_eq]
  unfold ofE ofV backV
  split
  · have e : (18446744073709551615 - k) % 9223372036854775808 = 9223372036854775807 - k := by omega
    rw [e]
    split
    · constructor
      · rintro ⟨h, _⟩; cases h
      · omega
    · split
      · constructor
        · rintro ⟨_, h⟩; omega
        · omega
      · rw [if_neg (by omega)]
        constructor
        · omega
        · intro _; exact ⟨rfl, by omega⟩
  · have e : (k - 9223372036854775808) % 9223372036854775808 = k - 9223372036854775808 := by omega
    rw [e]
    split
    · constructor
      · rintro ⟨h, _⟩; cases h
      · omega
    · split
      · constructor
        · omega
        · intro _; exact ⟨rfl, by omega⟩
      · rw [if_pos (by omega)]
        constructor
        · omega
        · intro _; exact ⟨rfl, by omega⟩
theorem toV_fin (k : Nat) (hk : k < 18446744073709551616) : toV k % 9223372036854775808 ≤ 9218868437227405312 := by
  unfold toV
  split
  · rename_i h
    have := (good_iff k hk).1 h
    unfold backV; split <;> omega
  · decide
theorem toV_lt (k : Nat) (hk : k < 18446744073709551616) : toV k < 18446744073709551616 := by
  unfold toV
  split
  · exact backV_lt k hk
  · decide
/-- The least time above one. -/
def nextV (k : Nat) : Nat := if goodB k = true then (if k = 18442240474082181120 then k else if k = 9223372036854775806 then 9223372036854775808 else k + 1) else 0
set_option maxHeartbeats 1000000 in
set_option maxRecDepth 100000 in
theorem next_w (k k1 x y v : Nat) (e e' : Int) (bad inf zero : Bool) (hw : IntKind.u64.wrap ((k : Int) + 1) = (k1 : Int)) (hbad : (e != 0) = bad)
    (T : Hid (∀ w, Calls Try.prog 15 #[u64 k] w (Ret (.tuple #[f64 x, .int .i64 e]) w))) (I : Hid (∀ w, Calls Try.prog 26 #[f64 x, .int .i64 1] w (Ret (.bool inf) w)))
    (z : (FloatKind.f64.format.order x 0 == some .eq) = zero) (Bk : Hid (∀ w, Calls Try.prog 38 #[u64 k1] w (Ret (f64 y) w))) (O : Hid (∀ w, Calls Try.prog 12 #[f64 y] w (Ret (.tuple #[u64 v, .int .i64 e']) w)))
    (O1 : Hid (∀ w, Calls Try.prog 12 #[f64 1] w (Ret (.tuple #[.int .u64 9223372036854775809, .int .i64 0]) w))) (w : World) :
    Calls Try.prog 19 #[u64 k] w (Ret (if bad = true then .tuple #[.int .u64 0, .int .i64 e] else if inf = true then .tuple #[u64 k, .int .i64 0] else if zero = true then .tuple #[.int .u64 9223372036854775809, .int .i64 0] else .tuple #[u64 v, .int .i64 e']) w) := by
  cases bad
  · cases inf
    · cases zero
      all_goals
        simp only [Bool.false_eq_true, if_false, if_true]
        go_enter Try.func19, Try.ntmps19
        go_wp2_with (first | (go_at_call 15; (with_reducible refine (T.out _).mono ?_); rintro e1 w1 ⟨rfl, j1, rfl⟩) | (go_at_call 26; (with_reducible refine (I.out _).mono ?_); rintro e1 w1 ⟨rfl, j1, rfl⟩) | (go_at_call 38; (with_reducible refine (Bk.out _).mono ?_); rintro e1 w1 ⟨rfl, j1, rfl⟩) | (go_at_call 12; (with_reducible refine (O.out _).mono ?_); rintro e1 w1 ⟨rfl, j1, rfl⟩) | (go_at_call 12; (with_reducible refine (O1.out _).mono ?_); rintro e1 w1 ⟨rfl, j1, rfl⟩))
        go_ret2
        exact Ret.mk rfl (by (repeat' (first | (with_reducible exact Below.refl _ _) | (with_reducible exact w_ext_below _ _) | (with_reducible refine below_ext ?_ ?_ _) | (simp; done) | (simp; omega))))

    · simp only [Bool.false_eq_true, if_false, if_true]
      go_enter Try.func19, Try.ntmps19
      go_wp2_with (first | (go_at_call 15; (with_reducible refine (T.out _).mono ?_); rintro e1 w1 ⟨rfl, j1, rfl⟩) | (go_at_call 26; (with_reducible refine (I.out _).mono ?_); rintro e1 w1 ⟨rfl, j1, rfl⟩))
      go_ret2
      exact Ret.mk rfl (by (repeat' (first | (with_reducible exact Below.refl _ _) | (with_reducible exact w_ext_below _ _) | (with_reducible refine below_ext ?_ ?_ _) | (simp; done) | (simp; omega))))

  · simp only [if_true]
    go_enter Try.func19, Try.ntmps19
    go_wp2_with (first | (go_at_call 15; (with_reducible refine (T.out _).mono ?_); rintro e1 w1 ⟨rfl, j1, rfl⟩) | (go_at_call 26; (with_reducible refine (I.out _).mono ?_); rintro e1 w1 ⟨rfl, j1, rfl⟩))
    go_ret2
    exact Ret.mk rfl (by (repeat' (first | (with_reducible exact Below.refl _ _) | (with_reducible exact w_ext_below _ _) | (with_reducible refine below_ext ?_ ?_ _) | (simp; done) | (simp; omega))))

theorem next_any (k : Nat) (hk : k < 18446744073709551616) (w : World) : Calls Try.prog 19 #[u64 k] w (Ret (.tuple #[u64 (nextV k), .int .i64 (toE k)]) w) := by
  have f1 := toV_fin k hk
  have f2 := toV_lt k hk
  have g := good_iff k hk
  have hk1 : (k + 1) % 18446744073709551616 < 18446744073709551616 := by omega
  have h := next_w k ((k + 1) % 18446744073709551616) (toV k) _ _ (toE k) _ _ _ _ (by rw [IntKind.wrap_u64]; omega) rfl (Lib.hid (fun w => to_any k hk w)) (Lib.hid (fun w => isInf1 (toV k) f2 f1 w)) (eq_zero (toV k) f2 f1)
    (Lib.hid (fun w => back_any _ hk1 w)) (Lib.hid (fun w => of_any _ (backV_lt _ hk1) w)) (Lib.hid (fun w => of_any 1 (by decide) w)) w
  refine h.mono fun e1 w1 h1 => ?_
  refine Eq.mp (congrArg (fun v => Ret v w e1 w1) ?_) h1
  unfold nextV toE
  cases hg : goodB k with
  | false => simp
  | true =>
    have hr := g.1 hg
    simp only [if_true, bne_self_eq_false, Bool.false_eq_true, if_false]
    have hv : toV k = backV k := by unfold toV; rw [if_pos hg]
    rw [hv]
    by_cases h1 : k = 18442240474082181120
    · subst h1; rfl
    · rw [if_neg h1, if_neg (by rw [decide_eq_true_eq]; unfold backV; split <;> omega)]
      by_cases h2 : k = 9223372036854775808
      · subst h2; rfl
      · rw [if_neg (by rw [decide_eq_true_eq]; unfold backV; split <;> omega)]
        by_cases h3 : k = 9223372036854775806
        · subst h3; rfl
        · rw [if_neg h3]
          have hk2 : (k + 1) % 18446744073709551616 = k + 1 := by omega
          have hg1 := (good_iff (k + 1) (by omega)).2 ⟨by omega, by omega, by omega⟩
          unfold goodB at hg1
          simp only [Bool.and_eq_true, decide_eq_true_eq] at hg1
          rw [hk2, hg1.1, hg1.2]
set_option maxHeartbeats 1000000 in
set_option maxRecDepth 100000 in
theorem copysign_awake (w : World) : Calls Try.prog 36 #[.float .f64 0, .float .f64 13830554455654793216] w (Ret (.float .f64 9223372036854775808) w) := by
  have a1 : bits .andNot .u64 0 9223372036854775808 = 0 := by decide
  have a2 : bits .and .u64 13830554455654793216 9223372036854775808 = 9223372036854775808 := by decide
  have a3 : bits .or .u64 0 9223372036854775808 = 9223372036854775808 := by decide
  have b0 : ∀ w, (callFunc 35 #[.float .f64 0]).run Try.prog w = .ok (.value (.int .u64 0)) w := fun w => call35 0 w
  have b1 : ∀ w, (callFunc 35 #[.float .f64 13830554455654793216]).run Try.prog w = .ok (.value (.int .u64 13830554455654793216)) w := fun w => call35 13830554455654793216 w
  have b2 : ∀ w, (callFunc 41 #[.int .u64 9223372036854775808]).run Try.prog w = .ok (.value (.float .f64 9223372036854775808)) w := fun w => call41 9223372036854775808 w
  go_enter Try.func36, Try.ntmps36
  go_wp2
  go_ret
  exact Ret.mk rfl (by (repeat' (first | (with_reducible exact Below.refl _ _) | (with_reducible exact w_ext_below _ _) | (with_reducible refine below_ext ?_ ?_ _) | (simp; done) | (simp; omega))))

set_option maxHeartbeats 1000000 in
set_option maxRecDepth 100000 in
theorem nan_any (w : World) : Calls Try.prog 37 #[] w (Ret (.float .f64 9221120237041090561) w) := by
  have b2 : ∀ w, (callFunc 41 #[.int .u64 9221120237041090561]).run Try.prog w = .ok (.value (.float .f64 9221120237041090561)) w := fun w => call41 9221120237041090561 w
  go_enter Try.func37, Try.ntmps37
  go_wp2
  go_ret
  exact Ret.mk rfl (by (repeat' (first | (with_reducible exact Below.refl _ _) | (with_reducible exact w_ext_below _ _) | (with_reducible refine below_ext ?_ ?_ _) | (simp; done) | (simp; omega))))

set_option maxHeartbeats 1000000 in
set_option maxRecDepth 100000 in
theorem whole_awake (w : World) : Calls Try.prog 32 #[.int .u64 4620693217682128895] w (Ret (.tuple #[.int .i64 (-1), .int .i64 0]) w) := by
  have T0 := fun w => to_any 4620693217682128895 (by decide) w
  rw [show toV 4620693217682128895 = 13826050856027422720 by decide, show toE 4620693217682128895 = 0 by decide] at T0
  have T1 : ∀ w, Calls Try.prog 15 #[.int .u64 4620693217682128895] w (Ret (.tuple #[.float .f64 13826050856027422720, .int .i64 0]) w) := T0
  have T := Lib.hid T1
  clear T0 T1
  have o1 : (FloatKind.f64.format.order 13826050856027422720 14069245235905429504 == some .lt) = false := by decide +kernel
  have o2 : (FloatKind.f64.format.order 13826050856027422720 4845873199050653696 == some .gt) = false := by decide +kernel
  have o3 : (FloatKind.f64.format.order 0 13826050856027422720 == some .gt) = true := by decide +kernel
  have cv1 : ∀ w, (convert 22 3 (.float .f64 13826050856027422720)).run Try.prog w = .ok (.int .i64 0) w := fun w => run_convert_float_int w 22 3 .f64 .i64 _ _ (by kernel_rfl) Try.underlying3 (by decide +kernel)
  have cv2 : ∀ w, (convert 3 22 (.int .i64 0)).run Try.prog w = .ok (.float .f64 0) w := fun w => by rw [run_convert_int_float w 3 22 .i64 .f64 0 (by kernel_rfl) Try.underlying22, show floatOfInt .f64 0 = 0 by decide +kernel]
  go_enter Try.func32, Try.ntmps32
  go_wp2_with (go_at_call 15; (with_reducible refine (T.out _).mono ?_); rintro e1 w1 ⟨rfl, j1, rfl⟩)
  go_ret2
  exact Ret.mk rfl (by (repeat' (first | (with_reducible exact Below.refl _ _) | (with_reducible exact w_ext_below _ _) | (with_reducible refine below_ext ?_ ?_ _) | (simp; done) | (simp; omega))))

end Go.Proofs.Ytbbbiicjiagmiaa
