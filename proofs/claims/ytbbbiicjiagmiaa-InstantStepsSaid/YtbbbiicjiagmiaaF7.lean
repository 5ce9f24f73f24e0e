/- Helper lemmas: the whole number below a float, cut and put right, or taken at once. No condition. -/
import Derived.Test.YtbbbiicjiagmiaaF6
import Derived.Test.YtbbbiicjiagmiaaI5
set_option linter.unusedVariables false
namespace Go.Proofs.Ytbbbiicjiagmiaa
open Ieee

/-- A float's whole part, what is left of it, and the whole number below it. -/
def wq (x : Nat) : Nat := V (x % 9223372036854775808) / LU
def wt (x : Nat) : Bool := V (x % 9223372036854775808) % LU != 0
def wf (x : Nat) : Nat := wq x + (ng x && wt x).toNat
def truncV (x : Nat) : Int := sg (ng x) (wq x)
def floorV (x : Nat) : Int := sg (ng x) (wf x)

theorem V_le {r s : Nat} (h : r ≤ s) : V r ≤ V s := by
  rcases Nat.lt_or_eq_of_le h with h | rfl
  · exact Nat.le_of_lt (V_lt h)
  · exact Nat.le_refl _
theorem w_bounds (x : Nat) (h : x % 9223372036854775808 ≤ 4845873199050653696) : wq x ≤ 9007199254740992 ∧ wf x ≤ 9007199254740992 := by
  have h1 := V_le h
  have h2 : V 4845873199050653696 = 9007199254740992 * LU := by
    have h3 := (R_whole 9007199254740992 (Nat.le_refl _)).1
    have h4 : R 9007199254740992 0 = 4845873199050653696 := by decide +kernel
    rw [h4] at h3
    exact h3
  rw [h2] at h1
  have hp := LU_pos
  have q1 : wq x ≤ 9007199254740992 := by
    unfold wq
    have := Nat.div_le_div_right (c := LU) h1
    rw [Nat.mul_div_cancel _ hp] at this
    exact this
  refine ⟨q1, ?_⟩
  unfold wf
  cases hb : (ng x && wt x) with
  | false => exact q1
  | true =>
    rw [Bool.and_eq_true] at hb
    have ht := hb.2
    unfold wt at ht
    rw [bne_iff_ne] at ht
    show wq x + 1 ≤ _
    rcases Nat.lt_or_eq_of_le q1 with h5 | h5
    · omega
    · exfalso
      unfold wq at h5
      have e := Nat.div_add_mod (V (x % 9223372036854775808)) LU
      rw [h5, Nat.mul_comm] at e
      omega
theorem sg_range (s : Bool) (q : Nat) (h : q ≤ 9007199254740992) : IntKind.min .i64 ≤ sg s q ∧ sg s q ≤ IntKind.max .i64 ∧ -9007199254740992 ≤ sg s q ∧ sg s q ≤ 9007199254740992 := by
  have e1 : IntKind.min .i64 = -9223372036854775808 := by decide
  have e2 : IntKind.max .i64 = 9223372036854775807 := by decide
  rw [e1, e2]
  cases s
  · show _ ≤ (q : Int) ∧ (q : Int) ≤ _ ∧ _ ≤ (q : Int) ∧ (q : Int) ≤ _
    omega
  · show _ ≤ -(q : Int) ∧ -(q : Int) ≤ _ ∧ _ ≤ -(q : Int) ∧ -(q : Int) ≤ _
    omega
theorem fin_of (x : Nat) (h : x % 9223372036854775808 ≤ 4845873199050653696) : Fin64 x := by unfold Fin64; omega
theorem trunc_is (x : Nat) (h : x % 9223372036854775808 ≤ 4845873199050653696) : floatToIntVal .f64 x .i64 = some (truncV x) := by
  have e : (FloatKind.f64.decode x).toInt .zero = some (truncV x) := toInt_zero x (fin_of x h)
  obtain ⟨r1, r2, _⟩ := sg_range (ng x) (wq x) (w_bounds x h).1
  unfold floatToIntVal
  rw [e]
  show (if IntKind.min .i64 ≤ truncV x ∧ truncV x ≤ IntKind.max .i64 then some (truncV x) else none) = some (truncV x)
  rw [if_pos ⟨r1, r2⟩]
theorem floor_is (x : Nat) (h : x % 9223372036854775808 ≤ 4845873199050653696) : floatToIntVal .f64 (double.nearest (ng x) (wf x) 0) .i64 = some (floorV x) := by
  have hb := (w_bounds x h).2
  have e : (FloatKind.f64.decode (double.nearest (ng x) (wf x) 0)).toInt .zero = some (floorV x) := (whole_back (ng x) (wf x) hb).1
  obtain ⟨r1, r2, _⟩ := sg_range (ng x) (wf x) hb
  unfold floatToIntVal
  rw [e]
  show (if IntKind.min .i64 ≤ floorV x ∧ floorV x ≤ IntKind.max .i64 then some (floorV x) else none) = some (floorV x)
  rw [if_pos ⟨r1, r2⟩]
theorem floor_trunc (x : Nat) : floorV x = if (ng x && wt x) = true then truncV x - 1 else truncV x := by
  unfold floorV truncV wf
  cases ng x
  · rfl
  · cases wt x
    · rfl
    · show -((wq x + 1 : Nat) : Int) = -(wq x : Int) - 1
      omega
/-- The float of a float's whole part. -/
theorem float_of_trunc (x : Nat) (h : x % 9223372036854775808 ≤ 4845873199050653696) (hx : x < 18446744073709551616) : (double.order (floatOfInt .f64 (truncV x)) x == some .gt) = (ng x && wt x) := by
  have hq := (w_bounds x h).1
  obtain ⟨v, l⟩ := R_whole (wq x) hq
  have hz : ∃ s' : Bool, floatOfInt .f64 (truncV x) = double.nearest s' (wq x) 0 ∧ sg s' (R (wq x) 0) = sg (ng x) (R (wq x) 0) := by
    unfold truncV
    cases hs : ng x
    · refine ⟨false, ?_, rfl⟩
      show double.nearest (decide ((wq x : Int) < 0)) (Int.natAbs (wq x : Int)) 0 = _
      rw [decide_eq_false (by omega), Int.natAbs_natCast]
    · rcases Nat.eq_zero_or_pos (wq x) with h0 | h0
      · refine ⟨false, ?_, ?_⟩
        · show double.nearest (decide (-(wq x : Int) < 0)) (Int.natAbs (-(wq x : Int))) 0 = _
          rw [decide_eq_false (by omega), Int.natAbs_neg, Int.natAbs_natCast]
        · rw [h0]; rfl
      · refine ⟨true, ?_, rfl⟩
        show double.nearest (decide (-(wq x : Int) < 0)) (Int.natAbs (-(wq x : Int))) 0 = _
        rw [decide_eq_true (by omega), Int.natAbs_neg, Int.natAbs_natCast]
  obtain ⟨s', ez, es⟩ := hz
  obtain ⟨_, k, n, b⟩ := whole_back s' (wq x) hq
  rw [ez, order_key _ x b hx n (by unfold isN; omega), k, es, key_sg x hx]
  have hv : R (wq x) 0 < x % 9223372036854775808 ↔ wt x = true := by
    rw [← V_iff, v]
    unfold wq wt
    have e := Nat.div_add_mod (V (x % 9223372036854775808)) LU
    rw [bne_iff_ne, Nat.mul_comm] 
    omega
  have hv2 : ¬ x % 9223372036854775808 < R (wq x) 0 := by
    rw [← V_iff, v]
    unfold wq
    have e := Nat.div_add_mod (V (x % 9223372036854775808)) LU
    rw [Nat.mul_comm] at e
    omega
  generalize R (wq x) 0 = r at *
  generalize x % 9223372036854775808 = u at *
  clear ez es k n b v l
  cases ng x
  · show (some (compare (r : Int) (u : Int)) == some .gt) = false
    rcases Int.lt_or_eq_of_le (show (r : Int) ≤ (u : Int) by omega) with c | c
    · rw [c_lt c]; rfl
    · rw [c, c_eq]; rfl
  · show (some (compare (-(r : Int)) (-(u : Int))) == some .gt) = (true && wt x)
    rw [Bool.true_and]
    cases ht : wt x
    · have : ¬ r < u := fun c => by rw [hv.1 c] at ht; cases ht
      rw [show (r : Int) = u by omega, c_eq]; rfl
    · have := hv.2 ht
      rw [c_gt (by omega)]; rfl
end Go.Proofs.Ytbbbiicjiagmiaa
