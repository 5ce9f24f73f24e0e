/- Helper lemmas: the nearest float of a number does not depend on how the number is written; half of a float. No condition. -/
import Derived.Test.YtbbbiicjiagmiaaF1
namespace Go.Proofs.Ytbbbiicjiagmiaa
open Ieee

theorem log2_scale (m a : Nat) (hm : 0 < m) : (m * 2 ^ a).log2 = m.log2 + a := by
  have h1 := Nat.log2_self_le (n := m) (by omega)
  have h2 := Nat.lt_log2_self (n := m)
  have hp := Nat.two_pow_pos a
  rw [Nat.log2_eq_iff (Nat.pos_iff_ne_zero.1 (Nat.mul_pos hm hp))]
  refine ⟨?_, ?_⟩
  · rw [Nat.pow_add]; exact Nat.mul_le_mul_right _ h1
  · rw [show m.log2 + a + 1 = m.log2 + 1 + a by omega, Nat.pow_add]
    exact Nat.mul_lt_mul_of_pos_right h2 hp
theorem read_fin' (b : Nat) (h : b % 9223372036854775808 < 9218868437227405312) : ∃ (m : Nat) (i : Int), double.read b = .number (ng b) m i ∧ -1074 ≤ i ∧ m * 2 ^ (i - (-1074)).toNat = V (b % 9223372036854775808) ∧ m < 2 ^ 53 := by
  rw [read_eq]
  unfold V
  by_cases h1 : b % 9223372036854775808 < 4503599627370496
  · refine ⟨b % 9223372036854775808, -1074, by simp only [h1, if_true]; rfl, by omega, by rw [if_pos h1]; simp, by omega⟩
  · refine ⟨_, _, by simp only [h1, if_false, h, if_true]; rfl, by omega, ?_, by omega⟩
    rw [if_neg h1]
    congr 2
    omega
theorem cut_scale (neg : Bool) (n a d : Nat) (hn : 0 < n) : Toward.even.cut neg (n * 2 ^ a) (d + a) = Toward.even.cut neg n d := by
  unfold Toward.cut
  have hl : (n * 2 ^ a).log2 = n.log2 + a := log2_scale n a hn
  have hg : 1 <<< min (d + a) ((n * 2 ^ a).log2 + 2) = (1 <<< min d (n.log2 + 2)) * 2 ^ a := by
    rw [hl, Nat.shiftLeft_eq, Nat.shiftLeft_eq, Nat.one_mul, Nat.one_mul, ← Nat.pow_add]
    congr 1
    omega
  simp only [hg]
  generalize 1 <<< min d (n.log2 + 2) = g
  have hp : 0 < 2 ^ a := Nat.two_pow_pos a
  have e1 : n * 2 ^ a / (g * 2 ^ a) = n / g := Nat.mul_div_mul_right _ _ hp
  have e2 : n * 2 ^ a % (g * 2 ^ a) = n % g * 2 ^ a := Nat.mul_mod_mul_right _ _ _
  rw [e1, e2]
  have e3 : (g * 2 ^ a < 2 * (n % g * 2 ^ a)) ↔ (g < 2 * (n % g)) := by
    rw [← Nat.mul_assoc]
    exact ⟨fun h => Nat.lt_of_mul_lt_mul_right h, fun h => Nat.mul_lt_mul_of_pos_right h hp⟩
  have e4 : (g * 2 ^ a == 2 * (n % g * 2 ^ a)) = (g == 2 * (n % g)) := by
    rw [← Nat.mul_assoc, Bool.eq_iff_iff, beq_iff_eq, beq_iff_eq]
    exact ⟨fun h => Nat.eq_of_mul_eq_mul_right hp h, fun h => congrArg (fun z => z * 2 ^ a) h⟩
  simp only [e3, e4]
theorem cut_zero (neg : Bool) (n : Nat) : Toward.even.cut neg n 0 = n := by
  unfold Toward.cut
  simp [Nat.mod_one]
theorem cut_exact (neg : Bool) (n a : Nat) (hn : 0 < n) : Toward.even.cut neg (n * 2 ^ a) a = n := by
  have := cut_scale neg n a 0 hn
  rw [Nat.zero_add, cut_zero] at this
  exact this

theorem nearest_scale (f : Format) (neg : Bool) (m a : Nat) (p : Int) (hm : 0 < m) : f.nearest neg (m * 2 ^ a) (p - a) = f.nearest neg m p := by
  unfold Format.nearest
  have h0 : m * 2 ^ a ≠ 0 := Nat.pos_iff_ne_zero.1 (Nat.mul_pos hm (Nat.two_pow_pos a))
  rw [if_neg h0, if_neg (by omega)]
  have hl : (m * 2 ^ a).log2 = m.log2 + a := log2_scale m a hm
  have hlast : max (p - (a : Int) + ((m * 2 ^ a).log2 : Nat) - (f.fractionBits : Int)) f.leastPlace = max (p + (m.log2 : Nat) - (f.fractionBits : Int)) f.leastPlace := by
    rw [hl]; congr 1; omega
  simp only [hlast]
  generalize max (p + (m.log2 : Nat) - (f.fractionBits : Int)) f.leastPlace = last
  have hk : Toward.even.cut neg ((m * 2 ^ a) <<< (p - a - last).toNat) (last - (p - a)).toNat = Toward.even.cut neg (m <<< (p - last).toNat) (last - p).toNat := by
    rw [Nat.shiftLeft_eq, Nat.shiftLeft_eq]
    by_cases c1 : last ≤ p - a
    · rw [show (last - (p - a)).toNat = 0 by omega, show (last - p).toNat = 0 by omega, cut_zero, cut_zero, Nat.mul_assoc, ← Nat.pow_add]
      congr 2
      omega
    · by_cases c2 : last ≤ p
      · rw [show (p - a - last).toNat = 0 by omega, show (last - p).toNat = 0 by omega, cut_zero, Nat.pow_zero, Nat.mul_one]
        have e : a = (p - last).toNat + (last - (p - a)).toNat := by omega
        have e2 : m * 2 ^ a = m * 2 ^ (p - last).toNat * 2 ^ (last - (p - a)).toNat := by
          rw [Nat.mul_assoc, ← Nat.pow_add, ← e]
        rw [e2, cut_exact _ _ _ (Nat.mul_pos hm (Nat.two_pow_pos _))]
      · rw [show (p - a - last).toNat = 0 by omega, show (p - last).toNat = 0 by omega, Nat.pow_zero, Nat.mul_one, Nat.mul_one, show (last - (p - a)).toNat = (last - p).toNat + a by omega]
        exact cut_scale neg m a _ hm
  rw [hk]

/-- Half of a float, both ways. -/
theorem half_same (x : Nat) : double.div x 4611686018427387904 = double.mul x 4602678819172646912 := by
  unfold Format.div Format.mul
  have e2 : double.read 4611686018427387904 = .number false 4503599627370496 (-51) := by decide +kernel
  have eh : double.read 4602678819172646912 = .number false 4503599627370496 (-53) := by decide +kernel
  rw [e2, eh]
  by_cases hn : isN x
  · rcases Nat.lt_or_ge (x % 9223372036854775808) 9218868437227405312 with h1 | h1
    · obtain ⟨m, i, e1, hi, v1, hm⟩ := read_fin' x h1
      rw [e1]
      simp only [Datum.quotient, Datum.product]
      rw [if_neg (by decide)]
      simp only [Option.map_some, Bool.xor_false]
      congr 1
      show double.nearest _ _ _ = double.nearest _ _ _
      rcases Nat.eq_zero_or_pos m with rfl | hpos
      · simp [Format.nearest]
      · have hlog : m.log2 ≤ 52 := by
          have := (Nat.log2_lt (by omega) (k := 53)).2 hm
          omega
        have hfb : double.fractionBits = 52 := rfl
        have hl2 : (4503599627370496 : Nat).log2 = 52 := by decide +kernel
        rw [hfb, hl2]
        have hmore : 52 + 2 + 52 - m.log2 = (54 - m.log2) + 52 := by omega
        rw [hmore]
        generalize hq : 54 - m.log2 = q
        have hdiv : m <<< (q + 52) / 4503599627370496 = m * 2 ^ q := by
          rw [Nat.shiftLeft_eq, Nat.pow_add, ← Nat.mul_assoc]
          exact Nat.mul_div_cancel _ (by decide)
        have hmod : m <<< (q + 52) % 4503599627370496 = 0 := by
          rw [Nat.shiftLeft_eq, Nat.pow_add, ← Nat.mul_assoc]
          exact Nat.mul_mod_left _ _
        rw [hdiv, hmod]
        have e3 : 2 * (m * 2 ^ q) + (0 != 0 : Bool).toNat = m * 2 ^ (q + 1) := by
          rw [Nat.pow_succ, show (0 != 0 : Bool).toNat = 0 by rfl, Nat.add_zero, Nat.mul_comm 2, Nat.mul_assoc]
        have e4 : (4503599627370496 : Nat) = 2 ^ 52 := by decide
        rw [e3, e4, show i - -51 - ((q + 52 : Nat) : Int) - 1 = (i - 1) - ((q + 1 : Nat) : Int) by omega, show i + -53 = (i - 1) - ((52 : Nat) : Int) by omega, nearest_scale _ _ _ _ _ hpos, nearest_scale _ _ _ _ _ hpos]
    · have h1' : x % 9223372036854775808 = 9218868437227405312 := by unfold isN at hn; omega
      rw [read_inf x h1']
      rfl
  · obtain ⟨n, f, e⟩ := read_nan x hn
    rw [e]
    rfl
end Go.Proofs.Ytbbbiicjiagmiaa
