/- Helper lemmas: the library's small functions of floats. No condition. -/
import Derived.Test.YtmcooenafgihkaaGreatDoorF
set_option linter.unusedSimpArgs false
set_option linter.unusedVariables false
namespace Go.Proofs.YtmcooenafgihkaaGreatDoor
open Go.RowKit

abbrev f64 (b : Nat) : Value := .float .f64 b
@[go_sem] theorem callBits (b : Nat) (w : World) : (callFunc 53 #[.float .f64 b]).run Tryz.prog w = .ok (.value (.int .u64 (b : Int))) w := by
  rw [run_callFunc_extern Tryz.func53 (by kernel_rfl) (by kernel_rfl) (by kernel_rfl) (e := Extern.MathFloatBits.float64bits) (by kernel_rfl)]
  rfl
@[go_sem] theorem callFrom (n : Nat) (w : World) : (callFunc 90 #[.int .u64 (n : Int)]).run Tryz.prog w = .ok (.value (.float .f64 n)) w := by
  rw [run_callFunc_extern Tryz.func90 (by kernel_rfl) (by kernel_rfl) (by kernel_rfl) (e := Extern.MathFloatBits.float64frombits) (by kernel_rfl)]
  rfl
theorem nan_fact (b : Nat) (hb : b < 18446744073709551616) : (FloatKind.f64.format.order b b != some .eq) = decide (b % 9223372036854775808 > 9218868437227405312) := by
  by_cases h : isN b
  · have := order_key b b hb hb h h
    rw [show FloatKind.f64.format = Ieee.double from rfl, this, c_eq]
    unfold isN at h
    simp; omega
  · have := order_nan_left b b h
    rw [show FloatKind.f64.format = Ieee.double from rfl, this]
    unfold isN at h
    rw [decide_eq_true (by omega)]
    rfl
theorem eq_zero (b : Nat) (hb : b < 18446744073709551616) (h : b % 9223372036854775808 ≤ 9218868437227405312) : (FloatKind.f64.format.order b 0 == some .eq) = decide (b % 9223372036854775808 = 0) := by
  have := order_key b 0 hb (by decide) h (by unfold isN; decide)
  rw [show FloatKind.f64.format = Ieee.double from rfl, this]
  unfold key
  by_cases h0 : b % 9223372036854775808 = 0
  · rw [decide_eq_true h0]
    split
    · rw [show (b : Int) = 0 by omega]; rfl
    · rw [show 9223372036854775808 - (b : Int) = 0 by omega]; rfl
  · rw [decide_eq_false h0]
    split
    · rw [if_pos (by decide), c_gt (by omega)]; rfl
    · rw [if_pos (by decide), c_lt (by omega)]; rfl


theorem gt_max (b : Nat) (hb : b < 18446744073709551616) (hn : b % 9223372036854775808 ≤ 9218868437227405312) : (FloatKind.f64.format.order b 9218868437227405311 == some .gt) = decide (b = 9218868437227405312) := by
  have := order_key b 9218868437227405311 hb (by decide) hn (by unfold isN; decide)
  rw [show FloatKind.f64.format = Ieee.double from rfl, this]
  by_cases h0 : b = 9218868437227405312
  · subst h0; decide
  · rw [decide_eq_false h0]
    have h2 : key b ≤ 9218868437227405311 := by unfold key; split <;> omega
    have h3 : key 9218868437227405311 = 9218868437227405311 := by decide
    rw [h3]
    rcases Int.lt_or_eq_of_le h2 with h | h
    · rw [c_lt h]; rfl
    · rw [h, c_eq]; rfl
theorem lt_min (b : Nat) (hb : b < 18446744073709551616) (hn : b % 9223372036854775808 ≤ 9218868437227405312) : (FloatKind.f64.format.order b 18442240474082181119 == some .lt) = decide (b = 18442240474082181120) := by
  have := order_key b 18442240474082181119 hb (by decide) hn (by unfold isN; decide)
  rw [show FloatKind.f64.format = Ieee.double from rfl, this]
  by_cases h0 : b = 18442240474082181120
  · subst h0; decide
  · rw [decide_eq_false h0]
    have h2 : -9218868437227405311 ≤ key b := by unfold key; split <;> omega
    have h3 : key 18442240474082181119 = -9218868437227405311 := by decide
    rw [h3]
    rcases Int.lt_or_eq_of_le h2 with h | h
    · rw [c_gt h]; rfl
    · rw [← h, c_eq]; rfl
theorem neg_facts (b : Nat) (hb : b < 18446744073709551616) (hn : b % 9223372036854775808 ≤ 9218868437227405312) (c : Nat) (hc : c = Go.Op.negFloat .f64 b) : c < 18446744073709551616 ∧ c % 9223372036854775808 ≤ 9218868437227405312 ∧ decide (c = 9218868437227405312) = decide (b = 18442240474082181120) := by
  have hx : c = if b < 9223372036854775808 then b + 9223372036854775808 else b - 9223372036854775808 := by
    rw [hc]
    show b ^^^ 9223372036854775808 = _
    split
    · rename_i h
      have h1 : 9223372036854775808 + b = 9223372036854775808 ||| b := Nat.two_pow_add_eq_or_of_lt (i := 63) (b := b) h 1
      have h2 : b ^^^ 9223372036854775808 = 9223372036854775808 ||| b := by
        rw [show (9223372036854775808 : Nat) = 2 ^ 63 from rfl]
        apply Nat.eq_of_testBit_eq
        intro i
        rw [Nat.testBit_xor, Nat.testBit_or, Nat.testBit_two_pow]
        by_cases hi : 63 = i
        · subst hi
          rw [Nat.testBit_lt_two_pow h]; rfl
        · simp [hi]
      rw [h2]
      omega
    · rename_i h
      have h3 : ∃ a, b = 9223372036854775808 + a ∧ a < 9223372036854775808 := ⟨b - 9223372036854775808, by omega, by omega⟩
      obtain ⟨a, rfl, ha⟩ := h3
      have h1 : 9223372036854775808 + a = 9223372036854775808 ||| a := Nat.two_pow_add_eq_or_of_lt (i := 63) (b := a) ha 1
      rw [h1]
      have h4 : (9223372036854775808 ||| a) ^^^ 9223372036854775808 = a := by
        rw [show (9223372036854775808 : Nat) = 2 ^ 63 from rfl]
        apply Nat.eq_of_testBit_eq
        intro i
        rw [Nat.testBit_xor, Nat.testBit_or, Nat.testBit_two_pow]
        by_cases hi : 63 = i
        · subst hi
          rw [Nat.testBit_lt_two_pow ha]; rfl
        · simp [hi]
      rw [h4, ← h1]
      omega
  refine ⟨by rw [hx]; split <;> omega, by rw [hx]; split <;> omega, decide_eq_decide.2 ?_⟩
  rw [hx]
  split <;> omega
set_option maxHeartbeats 2000000 in
set_option maxRecDepth 100000 in
theorem isNaN_any (b : Nat) (hb : b < 18446744073709551616) (w : World) : Calls Tryz.prog 44 #[f64 b] w (Tells (.bool (decide (b % 9223372036854775808 > 9218868437227405312))) w) := by
  have h := nan_fact b hb
  generalize decide (b % 9223372036854775808 > 9218868437227405312) = d at *
  clear hb
  go_enter Tryz.func44, Tryz.ntmps44
  go_wp2
  go_ret
  exact ⟨rfl, rfl⟩
set_option maxHeartbeats 2000000 in
set_option maxRecDepth 100000 in
theorem isInf_up (b : Nat) (hb : b < 18446744073709551616) (hn : b % 9223372036854775808 ≤ 9218868437227405312) (w : World) : Calls Tryz.prog 45 #[f64 b, .int .i64 1] w (Tells (.bool (decide (b = 9218868437227405312))) w) := by
  have h := gt_max b hb hn
  generalize decide (b = 9218868437227405312) = d at *
  clear hb hn
  go_enter Tryz.func45, Tryz.ntmps45
  go_wp2
  go_ret
  exact ⟨rfl, rfl⟩
set_option maxHeartbeats 2000000 in
set_option maxRecDepth 100000 in
theorem isInf_down (b : Nat) (hb : b < 18446744073709551616) (hn : b % 9223372036854775808 ≤ 9218868437227405312) (w : World) : Calls Tryz.prog 45 #[f64 b, .int .i64 (-1)] w (Tells (.bool (decide (b = 18442240474082181120))) w) := by
  obtain ⟨c, hc⟩ : ∃ c, c = Go.Op.negFloat .f64 b := ⟨_, rfl⟩
  have hneg : ∀ W, (Go.Op.unary .neg (f64 b)).run Tryz.prog W = .ok (f64 c) W := fun W => by rw [hc]; rfl
  obtain ⟨c1, c2, c3⟩ := neg_facts b hb hn c hc
  have h := gt_max c c1 c2
  rw [c3] at h
  generalize decide (b = 18442240474082181120) = d at *
  clear hb hn c1 c2 c3 hc
  go_enter Tryz.func45, Tryz.ntmps45
  go_wp2
  go_ret
  exact ⟨rfl, rfl⟩
set_option maxHeartbeats 2000000 in
set_option maxRecDepth 100000 in
theorem signbit_any (b : Nat) (hb : b < 18446744073709551616) (w : World) : Calls Tryz.prog 30 #[f64 b] w (Tells (.bool (decide (9223372036854775808 ≤ b))) w) := by
  have hd : decide (wrap64 (b : Int) < 0) = decide (9223372036854775808 ≤ b) := decide_eq_decide.2 (by rw [wrap64_eq]; omega)
  generalize decide (9223372036854775808 ≤ b) = d at *
  clear hb
  go_enter Tryz.func30, Tryz.ntmps30
  go_wp2
  go_ret
  exact ⟨rfl, rfl⟩
end Go.Proofs.YtmcooenafgihkaaGreatDoor
