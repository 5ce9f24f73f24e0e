/- Helper lemmas: which bits are a time's, the time of bits, the next one, and whether one is without end. No condition. -/
import Derived.Test.YtbbbiicjiagmiaaI1
import Derived.Lib.Hide
set_option linter.unusedSimpArgs false
set_option linter.unusedVariables false
namespace Go.Proofs.Ytbbbiicjiagmiaa
open Go.RowKit

/-- Whether bits are a time's. -/
def goodB (k : Nat) : Bool := decide (ofE (backV k) = 0) && decide (ofV (backV k) = k)
def toV (k : Nat) : Nat := if goodB k = true then backV k else 0
def toE (k : Nat) : Int := if goodB k = true then 0 else 202
theorem goodB_eq (k : Nat) : goodB k = (((ofE (backV k) : Int) == 0) && (((ofV (backV k) : Nat) : Int) == (k : Int))) := by
  unfold goodB
  rw [Bool.eq_iff_iff]
  simp
  omega
theorem ofE_or (b : Nat) : ofE b = 0 ∨ ofE b = 202 := by unfold ofE; split <;> simp

set_option maxHeartbeats 1000000 in
set_option maxRecDepth 100000 in
theorem good_any (k : Nat) (hk : k < 18446744073709551616) (w : World) : Calls Try.prog 17 #[u64 k] w (Ret (.bool (goodB k)) w) := by
  have hb := backV_lt k hk
  have c1 := fun w => back_any k hk w
  have c2 := fun w => of_any (backV k) hb w
  have hg := goodB_eq k
  rw [hg]
  clear hg hk hb
  generalize backV k = r at *
  generalize ofV r = v at *
  generalize ofE r = e at *
  have C1 := Lib.hid c1
  have C2 := Lib.hid c2
  clear c1 c2
  by_cases h1 : e = 0
  · subst h1
    go_enter Try.func17, Try.ntmps17
    go_wp2_with (first | (go_at_call 38; (with_reducible refine (C1.out _).mono ?_); rintro e1 w1 ⟨rfl, j1, rfl⟩) | (go_at_call 12; (with_reducible refine (C2.out _).mono ?_); rintro e1 w1 ⟨rfl, j1, rfl⟩))
    go_ret
    exact Ret.mk rfl (by (repeat' (first | (with_reducible exact Below.refl _ _) | (with_reducible exact w_ext_below _ _) | (with_reducible refine below_ext ?_ ?_ _) | (simp; done) | (simp; omega))))

  · have h1' : (e == 0) = false := by simpa using h1
    rw [h1']
    simp only [Bool.false_and]
    go_enter Try.func17, Try.ntmps17
    go_wp2_with (first | (go_at_call 38; (with_reducible refine (C1.out _).mono ?_); rintro e1 w1 ⟨rfl, j1, rfl⟩) | (go_at_call 12; (with_reducible refine (C2.out _).mono ?_); rintro e1 w1 ⟨rfl, j1, rfl⟩))
    go_ret
    exact Ret.mk rfl (by (repeat' (first | (with_reducible exact Below.refl _ _) | (with_reducible exact w_ext_below _ _) | (with_reducible refine below_ext ?_ ?_ _) | (simp; done) | (simp; omega))))

set_option maxHeartbeats 1000000 in
set_option maxRecDepth 100000 in
theorem to_any (k : Nat) (hk : k < 18446744073709551616) (w : World) : Calls Try.prog 15 #[u64 k] w (Ret (.tuple #[f64 (toV k), .int .i64 (toE k)]) w) := by
  have C1 := Lib.hid (fun w => back_any k hk w)
  have C2 := Lib.hid (fun w => good_any k hk w)
  unfold toV toE
  clear hk
  generalize goodB k = g at *
  cases g
  · simp only [Bool.false_eq_true, if_false]
    go_enter Try.func15, Try.ntmps15
    go_wp2_with (first | (go_at_call 17; (with_reducible refine (C2.out _).mono ?_); rintro e1 w1 ⟨rfl, j1, rfl⟩) | (go_at_call 38; (with_reducible refine (C1.out _).mono ?_); rintro e1 w1 ⟨rfl, j1, rfl⟩))
    go_ret2
    exact Ret.mk rfl (by (repeat' (first | (with_reducible exact Below.refl _ _) | (with_reducible exact w_ext_below _ _) | (with_reducible refine below_ext ?_ ?_ _) | (simp; done) | (simp; omega))))

  · simp only [if_true]
    go_enter Try.func15, Try.ntmps15
    go_wp2_with (first | (go_at_call 17; (with_reducible refine (C2.out _).mono ?_); rintro e1 w1 ⟨rfl, j1, rfl⟩) | (go_at_call 38; (with_reducible refine (C1.out _).mono ?_); rintro e1 w1 ⟨rfl, j1, rfl⟩))
    go_ret2
    exact Ret.mk rfl (by (repeat' (first | (with_reducible exact Below.refl _ _) | (with_reducible exact w_ext_below _ _) | (with_reducible refine below_ext ?_ ?_ _) | (simp; done) | (simp; omega))))

theorem wrap_sub63 (k : Nat) (hk : k < 18446744073709551616) : IntKind.u64.wrap ((k : Int) - 9223372036854775808) = ((((k : Nat) + 9223372036854775808) % 18446744073709551616 : Nat) : Int) := by rw [IntKind.wrap_u64]; omega
theorem wrap_subff (k : Nat) (hk : k < 18446744073709551616) : IntKind.u64.wrap (18446744073709551615 - (k : Int)) = ((18446744073709551615 - k : Nat) : Int) := by rw [IntKind.wrap_u64]; omega
theorem toV_eq (k : Nat) : toV k = (if (((ofE (backV k) : Int) == 0) && (((ofV (backV k) : Nat) : Int) == (k : Int))) = true then backV k else 0) := by unfold toV; rw [← goodB_eq]
theorem toE_eq (k : Nat) : toE k = (if (((ofE (backV k) : Int) == 0) && (((ofV (backV k) : Nat) : Int) == (k : Int))) = true then 0 else 202) := by unfold toE; rw [← goodB_eq]
set_option maxHeartbeats 1000000 in
set_option maxRecDepth 100000 in
theorem rto_low (k : Nat) (r q v : Nat) (e : Int) (c : Int) (hc : (k : Int) = c) (h3 : c < 9223372036854775808) (a1 : IntKind.u64.wrap (c - 9223372036854775808) = (q : Int)) (a2 : IntKind.u64.wrap (18446744073709551615 - c) = (r : Int))
    (w : World) (C2 : Hid (∀ w, Calls Try.prog 13 #[f64 r] w (Ret (.tuple #[u64 v, .int .i64 e]) w))) (p q' : Bool) (hp : (e == 0) = p) (hq : ((v : Int) == c) = q') :
    Calls Try.prog 24 #[u64 k] w (Ret (.tuple #[f64 (if (p && q') = true then r else 0), .int .i64 (if (p && q') = true then 0 else 202)]) w) := by
  have hp' : (e != 0) = !p := by rw [← hp]; rfl
  have hq'' : ((v : Int) != c) = !q' := by rw [← hq]; rfl
  cases p <;> cases q'
  all_goals
    simp only [Bool.and_true, Bool.and_false, Bool.false_eq_true, if_false, if_true]
    go_enter Try.func24, Try.ntmps24
    go_wp2_with (go_at_call 13; (with_reducible refine (C2.out _).mono ?_); rintro e1 w1 ⟨rfl, j1, rfl⟩)
    go_ret2
    exact Ret.mk rfl (by (repeat' (first | (with_reducible exact Below.refl _ _) | (with_reducible exact w_ext_below _ _) | (with_reducible refine below_ext ?_ ?_ _) | (simp; done) | (simp; omega))))

set_option maxHeartbeats 1000000 in
set_option maxRecDepth 100000 in
theorem rto_high (k : Nat) (q v : Nat) (e : Int) (c : Int) (hc : (k : Int) = c) (h3 : ¬ c < 9223372036854775808) (a1 : IntKind.u64.wrap (c - 9223372036854775808) = (q : Int))
    (w : World) (C2 : Hid (∀ w, Calls Try.prog 13 #[f64 q] w (Ret (.tuple #[u64 v, .int .i64 e]) w))) (p q' : Bool) (hp : (e == 0) = p) (hq : ((v : Int) == c) = q') :
    Calls Try.prog 24 #[u64 k] w (Ret (.tuple #[f64 (if (p && q') = true then q else 0), .int .i64 (if (p && q') = true then 0 else 202)]) w) := by
  have hp' : (e != 0) = !p := by rw [← hp]; rfl
  have hq'' : ((v : Int) != c) = !q' := by rw [← hq]; rfl
  cases p <;> cases q'
  all_goals
    simp only [Bool.and_true, Bool.and_false, Bool.false_eq_true, if_false, if_true]
    go_enter Try.func24, Try.ntmps24
    go_wp2_with (go_at_call 13; (with_reducible refine (C2.out _).mono ?_); rintro e1 w1 ⟨rfl, j1, rfl⟩)
    go_ret2
    exact Ret.mk rfl (by (repeat' (first | (with_reducible exact Below.refl _ _) | (with_reducible exact w_ext_below _ _) | (with_reducible refine below_ext ?_ ?_ _) | (simp; done) | (simp; omega))))

theorem rto_any (k : Nat) (hk : k < 18446744073709551616) (w : World) : Calls Try.prog 24 #[u64 k] w (Ret (.tuple #[f64 (toV k), .int .i64 (toE k)]) w) := by
  have hb := backV_lt k hk
  rw [toV_eq, toE_eq]
  have C2 := Lib.hid (fun w => rof_any (backV k) hb w)
  have a1 := wrap_sub63 k hk
  by_cases h3 : k < 9223372036854775808
  · have a2 := wrap_subff k hk
    have ev : backV k = 18446744073709551615 - k := by unfold backV; rw [if_pos h3]
    rw [← ev] at a2
    exact rto_low k _ _ _ _ _ rfl (by omega) a1 a2 w C2 _ _ rfl rfl
  · have ev : (k + 9223372036854775808) % 18446744073709551616 = backV k := by unfold backV; rw [if_neg h3]; omega
    rw [ev] at a1
    exact rto_high k _ _ _ _ rfl (by omega) a1 w C2 _ _ rfl rfl
set_option maxHeartbeats 1000000 in
set_option maxRecDepth 100000 in
theorem rgood_any (k : Nat) (hk : k < 18446744073709551616) (w : World) : Calls Try.prog 25 #[u64 k] w (Ret (.bool (goodB k)) w) := by
  have C1 := Lib.hid (fun w => rto_any k hk w)
  unfold toE at C1
  clear hk
  generalize goodB k = g at *
  generalize toV k = v at *
  cases g
  · simp only [Bool.false_eq_true, if_false] at C1
    go_enter Try.func25, Try.ntmps25
    go_wp2_with (go_at_call 24; (with_reducible refine (C1.out _).mono ?_); rintro e1 w1 ⟨rfl, j1, rfl⟩)
    go_ret
    exact Ret.mk rfl (by (repeat' (first | (with_reducible exact Below.refl _ _) | (with_reducible exact w_ext_below _ _) | (with_reducible refine below_ext ?_ ?_ _) | (simp; done) | (simp; omega))))

  · simp only [if_true] at C1
    go_enter Try.func25, Try.ntmps25
    go_wp2_with (go_at_call 24; (with_reducible refine (C1.out _).mono ?_); rintro e1 w1 ⟨rfl, j1, rfl⟩)
    go_ret
    exact Ret.mk rfl (by (repeat' (first | (with_reducible exact Below.refl _ _) | (with_reducible exact w_ext_below _ _) | (with_reducible refine below_ext ?_ ?_ _) | (simp; done) | (simp; omega))))

/-- Whether one is without end, upwards. -/
theorem gt_max (b : Nat) (hb : b < 18446744073709551616) (hn : b % 9223372036854775808 ≤ 9218868437227405312) : (FloatKind.f64.format.order b 9218868437227405311 == some .gt) = decide (b = 9218868437227405312) := by
  have := order_key b 9218868437227405311 hb (by decide) hn (by unfold isN; decide)
  rw [show FloatKind.f64.format = Ieee.double from rfl, this]
  by_cases h0 : b = 9218868437227405312
  · subst h0; decide
  · rw [decide_eq_false h0]
    have h2 : key b ≤ 9218868437227405311 := by unfold key; split <;> omega
    have h3 : key 9218868437227405311 = 9218868437227405311 := by decide
    rw [h3]
    rcases Int.lt_or_eq_of_le h2 with h | h
    · rw [c_lt h]; rfl
    · rw [h, c_eq]; rfl
set_option maxHeartbeats 1000000 in
set_option maxRecDepth 100000 in
theorem isInf1 (b : Nat) (hb : b < 18446744073709551616) (hn : b % 9223372036854775808 ≤ 9218868437227405312) (w : World) : Calls Try.prog 26 #[f64 b, .int .i64 1] w (Ret (.bool (decide (b = 9218868437227405312))) w) := by
  have h := gt_max b hb hn
  generalize decide (b = 9218868437227405312) = d at *
  clear hb hn
  go_enter Try.func26, Try.ntmps26
  go_wp2
  go_ret
  exact Ret.mk rfl (by (repeat' (first | (with_reducible exact Below.refl _ _) | (with_reducible exact w_ext_below _ _) | (with_reducible refine below_ext ?_ ?_ _) | (simp; done) | (simp; omega))))

end Go.Proofs.Ytbbbiicjiagmiaa
