/- Helper lemmas: what the times' inner functions give, by the bits of their arguments. No condition. -/
import Derived.Test.YtbbbiicjiagmiaaL
import Derived.Test.YtbbbiicjiagmiaaM
set_option linter.unusedSimpArgs false
namespace Go.Proofs.Ytbbbiicjiagmiaa
open Go.RowKit

abbrev u64 (n : Nat) : Value := .int .u64 (n : Int)
abbrev f64 (b : Nat) : Value := .float .f64 b

@[go_sem] theorem call35 (b : Nat) (w : World) : (callFunc 35 #[.float .f64 b]).run Try.prog w = .ok (.value (.int .u64 (b : Int))) w := by
  rw [run_callFunc_extern Try.func35 (by kernel_rfl) (by kernel_rfl) (by kernel_rfl) (e := Extern.MathFloatBits.float64bits) (by kernel_rfl)]
  rfl
@[go_sem] theorem call41 (n : Nat) (w : World) : (callFunc 41 #[.int .u64 (n : Int)]).run Try.prog w = .ok (.value (.float .f64 n)) w := by
  rw [run_callFunc_extern Try.func41 (by kernel_rfl) (by kernel_rfl) (by kernel_rfl) (e := Extern.MathFloatBits.float64frombits) (by kernel_rfl)]
  rfl
/-- The bits of a time. -/
def ofV (b : Nat) : Nat := if b % 9223372036854775808 > 9218868437227405312 then 0 else if b % 9223372036854775808 = 0 then 9223372036854775808 else if b < 9223372036854775808 then b + 9223372036854775808 else 18446744073709551615 - b
def ofE (b : Nat) : Int := if b % 9223372036854775808 > 9218868437227405312 then 202 else 0

theorem not_u64 (b : Nat) (h : b < 18446744073709551616) : bits .xor .u64 IntKind.u64.max (b : Int) = ((18446744073709551615 - b : Nat) : Int) := by
  have h1 := u64_xor_nat 18446744073709551615 b (by decide) h
  have h2 : 18446744073709551615 ^^^ b = 18446744073709551615 - b := by
    have := congrArg BitVec.toNat (BitVec.xor_allOnes (x := BitVec.ofNat 64 b))
    rw [BitVec.toNat_xor, BitVec.toNat_not, BitVec.toNat_allOnes, BitVec.toNat_ofNat, Nat.mod_eq_of_lt (by simpa using h), Nat.xor_comm] at this
    exact this
  rw [h2] at h1
  exact h1
theorem tmod_u64 (b c : Nat) : (b : Int).tmod (c : Int) = ((b % c : Nat) : Int) := by
  rw [Int.tmod_eq_emod_of_nonneg (by omega)]
  simp
theorem isNaN_any (b : Nat) (hb : b < 18446744073709551616) (w : World) : Calls Try.prog 34 #[f64 b] w (Ret (.bool (decide (b % 9223372036854775808 > 9218868437227405312))) w) := by
  have h : (FloatKind.f64.format.order b b != some .eq) = decide (b % 9223372036854775808 > 9218868437227405312) := by
    by_cases h : isN b
    · have := order_key b b hb hb h h
      rw [show FloatKind.f64.format = Ieee.double from rfl, this, c_eq]
      unfold isN at h
      simp; omega
    · have := order_nan_left b b h
      rw [show FloatKind.f64.format = Ieee.double from rfl, this]
      unfold isN at h
      rw [decide_eq_true (by omega)]
      rfl
  go_enter Try.func34, Try.ntmps34
  go_wp2
  go_ret
  exact Ret.mk rfl (Below.refl _ _)
theorem eq_zero (b : Nat) (hb : b < 18446744073709551616) (h : b % 9223372036854775808 ≤ 9218868437227405312) : (FloatKind.f64.format.order b 0 == some .eq) = decide (b % 9223372036854775808 = 0) := by
  have := order_key b 0 hb (by decide) h (by unfold isN; decide)
  rw [show FloatKind.f64.format = Ieee.double from rfl, this]
  unfold key
  by_cases h0 : b % 9223372036854775808 = 0
  · rw [decide_eq_true h0]
    split
    · rw [show (b : Int) = 0 by omega]; rfl
    · rw [show 9223372036854775808 - (b : Int) = 0 by omega]; rfl
  · rw [decide_eq_false h0]
    split
    · rw [if_pos (by decide), c_gt (by omega)]; rfl
    · rw [if_pos (by decide), c_lt (by omega)]; rfl


set_option maxHeartbeats 1000000 in
set_option maxRecDepth 100000 in
theorem of_any (b : Nat) (hb : b < 18446744073709551616) (w : World) : Calls Try.prog 12 #[f64 b] w (Ret (.tuple #[u64 (ofV b), .int .i64 (ofE b)]) w) := by
  by_cases h1 : b % 9223372036854775808 > 9218868437227405312
  · have e : decide (b % 9223372036854775808 > 9218868437227405312) = true := decide_eq_true h1
    have ev : ofV b = 0 := by unfold ofV; rw [if_pos h1]
    have ee : ofE b = 202 := by unfold ofE; rw [if_pos h1]
    rw [ev, ee]
    go_enter Try.func12, Try.ntmps12
    go_wp2_with (go_at_call 34; (with_reducible refine (isNaN_any b hb _).mono ?_); rw [e]; rintro e1 w1 ⟨rfl, j1, rfl⟩)
    go_ret2
    exact Ret.mk rfl (w_ext_below _ _)
  · have e : decide (b % 9223372036854775808 > 9218868437227405312) = false := decide_eq_false h1
    have z := eq_zero b hb (by omega)
    have ee : ofE b = 0 := by unfold ofE; rw [if_neg h1]
    by_cases h2 : b % 9223372036854775808 = 0
    · rw [decide_eq_true h2] at z
      have ev : ofV b = 9223372036854775808 := by unfold ofV; rw [if_neg h1, if_pos h2]
      rw [ev, ee]
      go_enter Try.func12, Try.ntmps12
      go_wp2_with (go_at_call 34; (with_reducible refine (isNaN_any b hb _).mono ?_); rw [e]; rintro e1 w1 ⟨rfl, j1, rfl⟩)
      go_ret2
      exact Ret.mk rfl (w_ext_below _ _)
    · rw [decide_eq_false h2] at z
      by_cases h3 : b < 9223372036854775808
      · have ev : ofV b = b + 9223372036854775808 := by unfold ofV; rw [if_neg h1, if_neg h2, if_pos h3]
        have a1 := and_low b h3
        have a2 := or_low b h3
        rw [ev, ee]
        go_enter Try.func12, Try.ntmps12
        go_wp2_with (go_at_call 34; (with_reducible refine (isNaN_any b hb _).mono ?_); rw [e]; rintro e1 w1 ⟨rfl, j1, rfl⟩)
        go_ret2
        exact Ret.mk rfl (w_ext_below _ _)
      · have ev : ofV b = 18446744073709551615 - b := by unfold ofV; rw [if_neg h1, if_neg h2, if_neg h3]
        have a1 := and_high b (by omega) hb
        have a2 := not_u64 b hb
        rw [ev, ee]
        go_enter Try.func12, Try.ntmps12
        go_wp2_with (go_at_call 34; (with_reducible refine (isNaN_any b hb _).mono ?_); rw [e]; rintro e1 w1 ⟨rfl, j1, rfl⟩)
        go_ret2
        exact Ret.mk rfl (w_ext_below _ _)

set_option maxHeartbeats 1000000 in
set_option maxRecDepth 100000 in
theorem rof_any (b : Nat) (hb : b < 18446744073709551616) (w : World) : Calls Try.prog 13 #[f64 b] w (Ret (.tuple #[u64 (ofV b), .int .i64 (ofE b)]) w) := by
  have t1 : (b : Int).tmod 9223372036854775808 = ((b % 9223372036854775808 : Nat) : Int) := tmod_u64 b 9223372036854775808
  by_cases h1 : b % 9223372036854775808 > 9218868437227405312
  · have ev : ofV b = 0 := by unfold ofV; rw [if_pos h1]
    have ee : ofE b = 202 := by unfold ofE; rw [if_pos h1]
    rw [ev, ee]
    generalize b % 9223372036854775808 = r at *
    go_enter Try.func13, Try.ntmps13
    go_wp2
    go_ret2
    exact Ret.mk rfl (Below.refl _ _)
  · have ee : ofE b = 0 := by unfold ofE; rw [if_neg h1]
    by_cases h2 : b % 9223372036854775808 = 0
    · have ev : ofV b = 9223372036854775808 := by unfold ofV; rw [if_neg h1, if_pos h2]
      rw [ev, ee]
      generalize b % 9223372036854775808 = r at *
      go_enter Try.func13, Try.ntmps13
      go_wp2
      go_ret2
      exact Ret.mk rfl (Below.refl _ _)
    · by_cases h3 : b < 9223372036854775808
      · have ev : ofV b = b + 9223372036854775808 := by unfold ofV; rw [if_neg h1, if_neg h2, if_pos h3]
        obtain ⟨q, hq⟩ : ∃ q, b + 9223372036854775808 = q := ⟨_, rfl⟩
        have a2 : IntKind.u64.wrap ((b : Int) + 9223372036854775808) = (q : Int) := by rw [IntKind.wrap_u64]; omega
        rw [ev, ee, hq]
        clear ev ee hq hb
        have h3i : (b : Int) < 9223372036854775808 := by omega
        obtain ⟨c, hc⟩ : ∃ c : Int, (b : Int) = c := ⟨_, rfl⟩
        rw [hc] at h3i a2 t1
        clear h3
        generalize b % 9223372036854775808 = r at *
        have h1i : ¬ (9218868437227405312 : Int) < (r : Int) := by omega
        have h2i : ¬ (r : Int) = 0 := by omega
        clear h1 h2
        go_enter Try.func13, Try.ntmps13
        go_wp2
        go_ret2
        exact Ret.mk rfl (Below.refl _ _)
      · have ev : ofV b = 18446744073709551615 - b := by unfold ofV; rw [if_neg h1, if_neg h2, if_neg h3]
        obtain ⟨q, hq⟩ : ∃ q, 18446744073709551615 - b = q := ⟨_, rfl⟩
        have a2 : IntKind.u64.wrap (18446744073709551615 - (b : Int)) = (q : Int) := by rw [IntKind.wrap_u64]; omega
        rw [ev, ee, hq]
        clear ev ee hq hb
        have h3i : ¬ (b : Int) < 9223372036854775808 := by omega
        clear h3
        generalize b % 9223372036854775808 = r at *
        have h1i : ¬ (9218868437227405312 : Int) < (r : Int) := by omega
        have h2i : ¬ (r : Int) = 0 := by omega
        clear h1 h2
        go_enter Try.func13, Try.ntmps13
        go_wp2
        go_ret2
        exact Ret.mk rfl (Below.refl _ _)

/-- What bits would be. -/
def backV (k : Nat) : Nat := if k < 9223372036854775808 then 18446744073709551615 - k else k - 9223372036854775808
theorem backV_lt (k : Nat) (hk : k < 18446744073709551616) : backV k < 18446744073709551616 := by unfold backV; split <;> omega
set_option maxHeartbeats 1000000 in
set_option maxRecDepth 100000 in
theorem back_any (k : Nat) (hk : k < 18446744073709551616) (w : World) : Calls Try.prog 38 #[u64 k] w (Ret (f64 (backV k)) w) := by
  by_cases h3 : k < 9223372036854775808
  · have ev : backV k = 18446744073709551615 - k := by unfold backV; rw [if_pos h3]
    have a1 := and_low k h3
    have a2 := not_u64 k hk
    rw [ev]
    generalize 18446744073709551615 - k = r at *
    go_enter Try.func38, Try.ntmps38
    go_wp2
    go_ret
    exact Ret.mk rfl (Below.refl _ _)
  · have ev : backV k = k - 9223372036854775808 := by unfold backV; rw [if_neg h3]
    have a1 := and_high k (by omega) hk
    have a2 : bits .andNot .u64 (k : Int) 9223372036854775808 = ((k - 9223372036854775808 : Nat) : Int) := by rw [andNot_high k (by omega) hk]; omega
    rw [ev]
    generalize k - 9223372036854775808 = r at *
    go_enter Try.func38, Try.ntmps38
    go_wp2
    go_ret
    exact Ret.mk rfl (Below.refl _ _)
end Go.Proofs.Ytbbbiicjiagmiaa
