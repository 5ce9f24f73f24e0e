/- Helper lemmas: a whole number up to 2 to the 53rd as a float, and a float cut to a whole number. No condition. -/
import Derived.Test.YtbbbiicjiagmiaaF5
set_option linter.unusedVariables false
namespace Go.Proofs.Ytbbbiicjiagmiaa
open Ieee

/-- How many least units are one. -/
def eU : Nat := 1074
theorem eU_eq : eU = 1074 := rfl
def LU : Nat := 2 ^ eU
theorem LU_pos : 0 < LU := Nat.two_pow_pos eU
theorem cut_low (way : Toward) (neg : Bool) (n d : Nat) : n / (1 <<< min d (n.log2 + 2)) = n / 2 ^ d ∧ (n % (1 <<< min d (n.log2 + 2)) != 0) = (n % 2 ^ d != 0) := by
  simp only [Nat.shiftLeft_eq, Nat.one_mul]
  by_cases h : d ≤ n.log2 + 2
  · rw [Nat.min_eq_left h]
    exact ⟨rfl, rfl⟩
  · rw [Nat.min_eq_right (by omega)]
    have h2 := Nat.lt_log2_self (n := n)
    have e1 : n < 2 ^ (n.log2 + 2) := Nat.lt_of_lt_of_le h2 (Nat.pow_le_pow_right (by decide) (by omega))
    have e2 : 2 ^ (n.log2 + 2) ≤ 2 ^ d := Nat.pow_le_pow_right (by decide) (by omega)
    rw [Nat.div_eq_of_lt e1, Nat.mod_eq_of_lt e1, Nat.div_eq_of_lt (show n < 2 ^ d by omega), Nat.mod_eq_of_lt (show n < 2 ^ d by omega)]
    exact ⟨rfl, rfl⟩
theorem cut_zero_way (neg : Bool) (n d : Nat) : Toward.zero.cut neg n d = n / 2 ^ d := by
  unfold Toward.cut
  simp only
  rw [(cut_low .zero neg n d).1]
  rfl
theorem cut_down_way (neg : Bool) (n d : Nat) : Toward.down.cut neg n d = n / 2 ^ d + (neg && n % 2 ^ d != 0).toNat := by
  unfold Toward.cut
  simp only
  rw [(cut_low .down neg n d).1, (cut_low .down neg n d).2]

/-- A number's whole part, and what is left, by its least units. -/
theorem parts (m : Nat) (i : Int) (W : Nat) (hi : -1074 ≤ i) (h : m * 2 ^ (i - (-1074)).toNat = W) :
    (m <<< i.toNat) / 2 ^ (-i).toNat = W / LU ∧ ((m <<< i.toNat) % 2 ^ (-i).toNat != 0) = (W % LU != 0) := by
  rw [Nat.shiftLeft_eq, LU]
  have hU := eU_eq
  have e : (i - (-1074)).toNat + (-i).toNat = i.toNat + eU := by omega
  have hp := Nat.two_pow_pos (i - (-1074)).toNat
  rcases Int.le_total 0 i with c | c
  · have e1 : (-i).toNat = 0 := by omega
    have e2 : (i - (-1074)).toNat = i.toNat + eU := by omega
    rw [e1, ← h, e2, Nat.pow_add, ← Nat.mul_assoc, Nat.mul_div_cancel _ (Nat.two_pow_pos eU), Nat.mul_mod_left, Nat.pow_zero, Nat.div_one, Nat.mod_one]
    exact ⟨rfl, rfl⟩
  · have e1 : i.toNat = 0 := by omega
    have e2 : eU = (i - (-1074)).toNat + (-i).toNat := by omega
    rw [e1, Nat.pow_zero, Nat.mul_one, ← h]
    generalize (i - (-1074)).toNat = u at *
    generalize (-i).toNat = v at *
    rw [e2, Nat.pow_add, Nat.mul_comm m, Nat.mul_div_mul_left _ _ hp, Nat.mul_mod_mul_left]
    refine ⟨rfl, ?_⟩
    rw [Bool.eq_iff_iff, bne_iff_ne, bne_iff_ne]
    constructor
    · intro h1 h2
      rcases Nat.mul_eq_zero.1 h2 with h3 | h3
      · omega
      · exact h1 h3
    · intro h1 h2
      rw [h2] at h1
      exact h1 (Nat.mul_zero _)
/-- A float cut towards zero. -/
theorem toInt_zero (x : Nat) (hx : Fin64 x) : (double.read x).toInt .zero = some (sg (ng x) (V (x % 9223372036854775808) / LU)) := by
  obtain ⟨m, i, e, hi, h⟩ := read_fin x hx
  rw [e]
  simp only [Datum.toInt, Datum.integral]
  rw [cut_zero_way, (parts m i _ hi h).1, signed_sg, Nat.pow_zero, Nat.mul_one]
/-- A float cut downwards. -/
theorem integral_down (x : Nat) (hx : Fin64 x) : (double.read x).integral .down = .number (ng x) (V (x % 9223372036854775808) / LU + (ng x && V (x % 9223372036854775808) % LU != 0).toNat) 0 := by
  obtain ⟨m, i, e, hi, h⟩ := read_fin x hx
  rw [e]
  simp only [Datum.integral]
  rw [cut_down_way, (parts m i _ hi h).1, (parts m i _ hi h).2]
theorem top_bits (q l : Nat) (hl : l ≤ 52) (h1 : 2 ^ l ≤ q) (h2 : q < 2 ^ (l + 1)) : 4503599627370496 ≤ q * 2 ^ (52 - l) ∧ q * 2 ^ (52 - l) < 9007199254740992 := by
  have e1 : 2 ^ l * 2 ^ (52 - l) = 4503599627370496 := by
    rw [← Nat.pow_add, show l + (52 - l) = 52 by omega]
  have e2 : 2 ^ (l + 1) * 2 ^ (52 - l) = 9007199254740992 := by
    rw [← Nat.pow_add, show l + 1 + (52 - l) = 53 by omega]
  have p := Nat.two_pow_pos (52 - l)
  rw [← e1, ← e2]
  exact ⟨Nat.mul_le_mul_right _ h1, Nat.mul_lt_mul_of_pos_right h2 p⟩
theorem V_top (e K : Nat) (h1 : 4503599627370496 ≤ K) (h2 : K < 9007199254740992) : V (e * 4503599627370496 + K) = K * 2 ^ e := by
  unfold V
  rw [if_neg (by omega), show (e * 4503599627370496 + K) % 4503599627370496 = K - 4503599627370496 by omega, show (e * 4503599627370496 + K) / 4503599627370496 - 1 = e by omega, show 4503599627370496 + (K - 4503599627370496) = K by omega]
theorem R_small (q l : Nat) (hq : 0 < q) (hl : l ≤ 52) (e : q.log2 = l) : R q 0 = min ((l + 1022) * 4503599627370496 + q * 2 ^ (52 - l)) 9218868437227405312 := by
  unfold R
  rw [if_neg (by omega), e]
  have el : max ((0 : Int) + (l : Int) - 52) (-1074) = (l : Int) - 52 := by omega
  rw [el, show ((l : Int) - 52 - (-1074)).toNat = l + 1022 by omega, show ((0 : Int) - ((l : Int) - 52)).toNat = 52 - l by omega, show ((l : Int) - 52 - 0).toNat = 0 by omega, Nat.pow_zero, Nat.shiftLeft_eq]
  have h := rhe_mul (q * 2 ^ (52 - l)) 1 (by decide)
  rw [Nat.mul_one] at h
  rw [h]
/-- A whole number as a float is worth that number. -/
theorem R_whole (q : Nat) (hq : q ≤ 9007199254740992) : V (R q 0) = q * LU ∧ R q 0 < 9218868437227405312 := by
  rcases Nat.eq_zero_or_pos q with rfl | hpos
  · rw [Nat.zero_mul]
    have : R 0 0 = 0 := rfl
    rw [this]
    exact ⟨rfl, by decide⟩
  · rcases Nat.lt_or_eq_of_le hq with hlt | rfl
    · have hl : q.log2 ≤ 52 := by
        have h3 : q < 2 ^ 53 := by simpa using hlt
        have := (Nat.log2_lt (by omega) (k := 53)).2 h3
        omega
      have h1 := Nat.log2_self_le (n := q) (by omega)
      have h2 := Nat.lt_log2_self (n := q)
      generalize e : q.log2 = l at *
      obtain ⟨b1, b2⟩ := top_bits q l hl h1 h2
      have eR := R_small q l hpos hl e
      have em : min ((l + 1022) * 4503599627370496 + q * 2 ^ (52 - l)) 9218868437227405312 = (l + 1022) * 4503599627370496 + q * 2 ^ (52 - l) := by
        generalize q * 2 ^ (52 - l) = K at *
        omega
      rw [em] at eR
      rw [eR]
      refine ⟨?_, ?_⟩
      · rw [V_top _ _ b1 b2, Nat.mul_assoc, ← Nat.pow_add, show 52 - l + (l + 1022) = eU by rw [eU_eq]; omega, LU]
      · generalize q * 2 ^ (52 - l) = K at *
        omega
    · have : R 9007199254740992 0 = 4845873199050653696 := by decide +kernel
      rw [this]
      refine ⟨?_, by decide⟩
      have h := V_top (1 + eU) 4503599627370496 (by decide) (by decide)
      rw [show (1 + eU) * 4503599627370496 + 4503599627370496 = 4845873199050653696 by decide] at h
      rw [h, Nat.pow_add, ← Nat.mul_assoc, LU]
theorem word_mod (s : Bool) (r : Nat) (h : r ≤ 9218868437227405312) : double.word s r % 9223372036854775808 = r := by
  have w0 : double.word false r = r := rfl
  have w1 : double.word true r = 9223372036854775808 + r := rfl
  cases s
  · rw [w0]; omega
  · rw [w1]; omega
theorem word_ng (s : Bool) (r : Nat) (h : r ≤ 9218868437227405312) : ng (double.word s r) = s := by
  have w0 : double.word false r = r := rfl
  have w1 : double.word true r = 9223372036854775808 + r := rfl
  unfold ng
  cases s
  · rw [w0, show r / 9223372036854775808 = 0 by omega]; rfl
  · rw [w1, show (9223372036854775808 + r) / 9223372036854775808 = 1 by omega]; rfl
theorem back_of (s : Bool) (q r y : Nat) (hy : y = double.word s r) (h : r < 9218868437227405312) (v : V r = q * LU) : (double.read y).toInt .zero = some (sg s q) := by
  have hm := word_mod s r (Nat.le_of_lt h)
  have hg := word_ng s r (Nat.le_of_lt h)
  rw [← hy] at hm hg
  have hf : Fin64 y := by unfold Fin64; rw [hm]; exact h
  rw [toInt_zero y hf, hm, hg, v, Nat.mul_div_cancel _ LU_pos]
/-- The float of a whole number: its bits, and back. -/
theorem whole_back (s : Bool) (q : Nat) (hq : q ≤ 9007199254740992) : (double.read (double.nearest s q 0)).toInt .zero = some (sg s q) ∧ key (double.nearest s q 0) = sg s (R q 0) ∧ isN (double.nearest s q 0) ∧ double.nearest s q 0 < 18446744073709551616 := by
  obtain ⟨v, l⟩ := R_whole q hq
  have e := nearest_R s q 0
  refine ⟨back_of s q _ _ e l v, ?_⟩
  rw [e]
  exact word_key s _ (Nat.le_of_lt l)
end Go.Proofs.Ytbbbiicjiagmiaa
