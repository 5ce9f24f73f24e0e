/- Helper lemmas: floats by their bits, whole numbers as floats. No condition. -/
import Derived.Test.YtmcooenafgihkaaGreatDoorP4
import Derived.Laws.FloatArith
import Derived.Laws.FloatBits
import Derived.Laws.BitsAllLaws
set_option linter.unusedSimpArgs false
set_option linter.unusedVariables false
namespace Go.Proofs.YtmcooenafgihkaaGreatDoor
open Go.RowKit
section
open Ieee

/-- A number below 2 ^ 63 and its sign. -/
def key (b : Nat) : Int := if b < 9223372036854775808 then (b : Int) else 9223372036854775808 - (b : Int)
/-- The bits stand for a number, or for one without end. -/
def isN (b : Nat) : Prop := b % 9223372036854775808 ≤ 9218868437227405312

/-- What a rung is worth, in least units. -/
def V (r : Nat) : Nat := if r < 4503599627370496 then r else (4503599627370496 + r % 4503599627370496) * 2 ^ (r / 4503599627370496 - 1)
theorem V_lt {r s : Nat} (h : r < s) : V r < V s := by
  unfold V
  have hr := Nat.mod_lt r (show 0 < 4503599627370496 by decide)
  have hs := Nat.mod_lt s (show 0 < 4503599627370496 by decide)
  split
  · split
    · exact h
    · have : 1 ≤ 2 ^ (s / 4503599627370496 - 1) := Nat.one_le_two_pow
      calc r < 4503599627370496 := by assumption
        _ ≤ (4503599627370496 + s % 4503599627370496) * 1 := by omega
        _ ≤ _ := Nat.mul_le_mul_left _ this
  · rw [if_neg (by omega)]
    generalize hq : r / 4503599627370496 = q
    generalize hp : s / 4503599627370496 = p
    have hqp : q ≤ p := by omega
    have hq1 : 1 ≤ q := by omega
    rcases Nat.lt_or_ge q p with hlt | hge
    · have e1 : 2 ^ (p - 1) = 2 ^ (q - 1) * 2 ^ (p - q) := by rw [← Nat.pow_add]; congr 1; omega
      have h2 : 2 ≤ 2 ^ (p - q) := by
        have : 2 ^ 1 ≤ 2 ^ (p - q) := Nat.pow_le_pow_right (by decide) (by omega)
        simpa using this
      have hpos : 0 < 2 ^ (q - 1) := Nat.two_pow_pos _
      calc (4503599627370496 + r % 4503599627370496) * 2 ^ (q - 1) < (4503599627370496 * 2) * 2 ^ (q - 1) := Nat.mul_lt_mul_of_pos_right (by omega) hpos
        _ = 4503599627370496 * (2 ^ (q - 1) * 2) := by rw [Nat.mul_assoc, Nat.mul_comm 2]
        _ ≤ 4503599627370496 * (2 ^ (q - 1) * 2 ^ (p - q)) := Nat.mul_le_mul_left _ (Nat.mul_le_mul_left _ h2)
        _ = 4503599627370496 * 2 ^ (p - 1) := by rw [e1]
        _ ≤ _ := Nat.mul_le_mul_right _ (by omega)
    · obtain rfl : q = p := by omega
      exact Nat.mul_lt_mul_of_pos_right (by omega) (Nat.two_pow_pos _)
theorem V_iff {r s : Nat} : V r < V s ↔ r < s := by
  constructor
  · intro h
    rcases Nat.lt_trichotomy r s with h1 | rfl | h1
    · exact h1
    · omega
    · have := V_lt h1; omega
  · exact V_lt
theorem V_zero : V 0 = 0 := rfl

/-- A number with its sign. -/
def sg (n : Bool) (m : Nat) : Int := if n then -(m : Int) else (m : Int)
theorem cmp_of {a b c d : Int} (h1 : a < b ↔ c < d) (h2 : b < a ↔ d < c) : compare a b = compare c d := by
  simp only [compare, compareOfLessAndEq]
  have h3 : a = b ↔ c = d := by omega
  simp only [h1, h3]
theorem c_lt {a b : Int} (h : a < b) : compare a b = .lt := by simp only [compare, compareOfLessAndEq, h, if_true]
theorem c_eq (a : Int) : compare a a = .eq := by simp [compare, compareOfLessAndEq]
theorem c_gt {a b : Int} (h : b < a) : compare a b = .gt := by
  simp only [compare, compareOfLessAndEq]
  rw [if_neg (by omega), if_neg (by omega)]
theorem sg_V (n m : Bool) (r s : Nat) : compare (sg n (V r)) (sg m (V s)) = compare (sg n r) (sg m s) := by
  have h1 := @V_iff r s
  have h2 := @V_iff s r
  have h3 := @V_iff r 0
  have h4 := @V_iff s 0
  have h5 := @V_iff 0 r
  have h6 := @V_iff 0 s
  rw [V_zero] at h3 h4 h5 h6
  apply cmp_of <;> cases n <;> cases m <;> simp only [sg, if_true, Bool.false_eq_true, if_false] <;> omega

theorem signed_sg (n : Bool) (m u : Nat) : signed n m u = sg n (m * 2 ^ u) := by
  unfold signed sg
  rw [Nat.shiftLeft_eq]
theorem sg_mul (n : Bool) (m k : Nat) : sg n (m * k) = sg n m * (k : Int) := by
  unfold sg; cases n <;> simp [Int.neg_mul]

theorem cmp_shift (s t : Bool) (m n : Nat) (i j L : Int) (hi : L ≤ i) (hj : L ≤ j) :
    compare (signed s m (i - min i j).toNat) (signed t n (j - min i j).toNat) = compare (sg s (m * 2 ^ (i - L).toNat)) (sg t (n * 2 ^ (j - L).toNat)) := by
  rw [signed_sg, signed_sg]
  have e1 : (i - L).toNat = (i - min i j).toNat + (min i j - L).toNat := by omega
  have e2 : (j - L).toNat = (j - min i j).toNat + (min i j - L).toNat := by omega
  rw [e1, e2, Nat.pow_add, Nat.pow_add, ← Nat.mul_assoc, ← Nat.mul_assoc, sg_mul _ (m * _), sg_mul _ (n * _)]
  have hp : (0 : Int) < ((2 ^ (min i j - L).toNat : Nat) : Int) := by
    have := Nat.two_pow_pos (min i j - L).toNat
    omega
  apply cmp_of
  · exact ⟨fun h => Int.mul_lt_mul_of_pos_right h hp, fun h => Int.lt_of_mul_lt_mul_right h (Int.le_of_lt hp)⟩
  · exact ⟨fun h => Int.mul_lt_mul_of_pos_right h hp, fun h => Int.lt_of_mul_lt_mul_right h (Int.le_of_lt hp)⟩

theorem read_eq (b : Nat) : double.read b = (let neg := b / 9223372036854775808 % 2 == 1
    let rung := b % 9223372036854775808
    if rung < 4503599627370496 then .number neg rung (-1074)
    else if rung < 9218868437227405312 then .number neg (4503599627370496 + rung % 4503599627370496) (-1074 + (rung / 4503599627370496 - 1 : Nat))
    else if rung = 9218868437227405312 then .infinity neg
    else .nan neg (rung - 9218868437227405312)) := rfl
/-- The sign. -/
def ng (b : Nat) : Bool := b / 9223372036854775808 % 2 == 1
/-- What a finite one's datum is. -/
theorem read_fin (b : Nat) (h : b % 9223372036854775808 < 9218868437227405312) : ∃ (m : Nat) (i : Int), double.read b = .number (ng b) m i ∧ -1074 ≤ i ∧ m * 2 ^ (i - (-1074)).toNat = V (b % 9223372036854775808) := by
  rw [read_eq]
  unfold V
  by_cases h1 : b % 9223372036854775808 < 4503599627370496
  · refine ⟨b % 9223372036854775808, -1074, by simp only [h1, if_true]; rfl, by omega, by rw [if_pos h1]; simp⟩
  · refine ⟨_, _, by simp only [h1, if_false, h, if_true]; rfl, by omega, ?_⟩
    rw [if_neg h1]
    congr 2
    omega
theorem read_inf (b : Nat) (h : b % 9223372036854775808 = 9218868437227405312) : double.read b = .infinity (ng b) := by
  rw [read_eq]
  simp only [h]
  rfl
theorem read_nan (b : Nat) (h : ¬ isN b) : ∃ n f, double.read b = .nan n f := by
  unfold isN at h
  rw [read_eq]
  refine ⟨ng b, b % 9223372036854775808 - 9218868437227405312, ?_⟩
  simp only
  rw [if_neg (by omega), if_neg (by omega), if_neg (by omega)]
  rfl
theorem key_sg (b : Nat) (hb : b < 18446744073709551616) : key b = sg (ng b) (b % 9223372036854775808) := by
  unfold key sg ng
  split
  · rw [show b / 9223372036854775808 = 0 by omega]
    simp
    omega
  · rw [show b / 9223372036854775808 = 1 by omega]
    simp
    omega

theorem order_key (a b : Nat) (ha : a < 18446744073709551616) (hb : b < 18446744073709551616) (na : isN a) (nb : isN b) : double.order a b = some (compare (key a) (key b)) := by
  rw [key_sg a ha, key_sg b hb]
  unfold Format.order
  unfold isN at na nb
  rcases Nat.lt_or_ge (a % 9223372036854775808) 9218868437227405312 with h1 | h1
  · obtain ⟨m, i, e1, hi, v1⟩ := read_fin a h1
    rw [e1]
    rcases Nat.lt_or_ge (b % 9223372036854775808) 9218868437227405312 with h2 | h2
    · obtain ⟨n, j, e2, hj, v2⟩ := read_fin b h2
      rw [e2]
      simp only [Datum.order]
      rw [cmp_shift _ _ _ _ _ _ (-1074) hi hj, v1, v2, sg_V]
    · have h2' : b % 9223372036854775808 = 9218868437227405312 := by omega
      rw [read_inf b h2', h2']
      simp only [Datum.order]
      generalize a % 9223372036854775808 = r at *
      cases ng b <;> cases ng a <;> simp only [sg, if_true, Bool.false_eq_true, if_false] <;> first | rw [c_lt (by omega)] | rw [c_gt (by omega)]
  · have h1' : a % 9223372036854775808 = 9218868437227405312 := by omega
    rw [read_inf a h1', h1']
    rcases Nat.lt_or_ge (b % 9223372036854775808) 9218868437227405312 with h2 | h2
    · obtain ⟨n, j, e2, hj, v2⟩ := read_fin b h2
      rw [e2]
      simp only [Datum.order]
      generalize b % 9223372036854775808 = r at *
      cases ng b <;> cases ng a <;> simp only [sg, if_true, Bool.false_eq_true, if_false] <;> first | rw [c_lt (by omega)] | rw [c_gt (by omega)]
    · have h2' : b % 9223372036854775808 = 9218868437227405312 := by omega
      rw [read_inf b h2', h2']
      simp only [Datum.order]
      cases ng b <;> cases ng a
      · rw [c_eq]; rfl
      · rw [c_lt (by simp [sg])]; rfl
      · rw [c_gt (by simp [sg])]; rfl
      · rw [c_eq]; rfl
theorem order_nan_left (a b : Nat) (h : ¬ isN a) : double.order a b = none := by
  obtain ⟨n, f, e⟩ := read_nan a h
  unfold Format.order
  rw [e]
  rfl
theorem order_nan_right (a b : Nat) (h : ¬ isN b) : double.order a b = none := by
  obtain ⟨n, f, e⟩ := read_nan b h
  unfold Format.order
  rw [e]
  cases double.read a <;> rfl

open Go in
theorem and_low (b : Nat) (h : b < 9223372036854775808) : bits .and .u64 (b : Int) 9223372036854775808 = 0 := by
  have := u64_and_nat b 9223372036854775808 (by omega) (by decide)
  rw [show (9223372036854775808 : Nat) = 2 ^ 63 by decide, nat_bit, show b / 2 ^ 63 % 2 * 2 ^ 63 = 0 by simp; omega] at this
  exact this
open Go in
theorem and_high (b : Nat) (h : 9223372036854775808 ≤ b) (h2 : b < 18446744073709551616) : bits .and .u64 (b : Int) 9223372036854775808 = 9223372036854775808 := by
  have := u64_and_nat b 9223372036854775808 (by omega) (by decide)
  rw [show (9223372036854775808 : Nat) = 2 ^ 63 by decide, nat_bit, show b / 2 ^ 63 % 2 * 2 ^ 63 = 9223372036854775808 by simp; omega] at this
  exact this
open Go in
theorem or_low (b : Nat) (h : b < 9223372036854775808) : bits .or .u64 (b : Int) 9223372036854775808 = (b : Int) + 9223372036854775808 := by
  have := u64_or_nat b 9223372036854775808 (by omega) (by decide)
  rw [Nat.or_comm, nat_join 63 9223372036854775808 b (by decide) (by simpa using h)] at this
  rw [show (9223372036854775808 : Int) = ((9223372036854775808 : Nat) : Int) by rfl, this]
  omega
open Go in
theorem andNot_high (b : Nat) (h : 9223372036854775808 ≤ b) (h2 : b < 18446744073709551616) : bits .andNot .u64 (b : Int) 9223372036854775808 = (b : Int) - 9223372036854775808 := by
  have := u64_andNot_nat b 9223372036854775808 (by omega) (by decide)
  rw [show (18446744073709551615 - 9223372036854775808 : Nat) = 2 ^ 63 - 1 by decide, Nat.and_two_pow_sub_one_eq_mod] at this
  rw [show (9223372036854775808 : Int) = ((9223372036854775808 : Nat) : Int) by rfl, this]
  simp only [show (2 ^ 63 : Nat) = 9223372036854775808 by decide]
  omega

end
section
open Ieee

theorem log2_scale (m a : Nat) (hm : 0 < m) : (m * 2 ^ a).log2 = m.log2 + a := by
  have h1 := Nat.log2_self_le (n := m) (by omega)
  have h2 := Nat.lt_log2_self (n := m)
  have hp := Nat.two_pow_pos a
  rw [Nat.log2_eq_iff (Nat.pos_iff_ne_zero.1 (Nat.mul_pos hm hp))]
  refine ⟨?_, ?_⟩
  · rw [Nat.pow_add]; exact Nat.mul_le_mul_right _ h1
  · rw [show m.log2 + a + 1 = m.log2 + 1 + a by omega, Nat.pow_add]
    exact Nat.mul_lt_mul_of_pos_right h2 hp
theorem read_fin' (b : Nat) (h : b % 9223372036854775808 < 9218868437227405312) : ∃ (m : Nat) (i : Int), double.read b = .number (ng b) m i ∧ -1074 ≤ i ∧ m * 2 ^ (i - (-1074)).toNat = V (b % 9223372036854775808) ∧ m < 2 ^ 53 := by
  rw [read_eq]
  unfold V
  by_cases h1 : b % 9223372036854775808 < 4503599627370496
  · refine ⟨b % 9223372036854775808, -1074, by simp only [h1, if_true]; rfl, by omega, by rw [if_pos h1]; simp, by omega⟩
  · refine ⟨_, _, by simp only [h1, if_false, h, if_true]; rfl, by omega, ?_, by omega⟩
    rw [if_neg h1]
    congr 2
    omega
theorem cut_scale (neg : Bool) (n a d : Nat) (hn : 0 < n) : Toward.even.cut neg (n * 2 ^ a) (d + a) = Toward.even.cut neg n d := by
  unfold Toward.cut
  have hl : (n * 2 ^ a).log2 = n.log2 + a := log2_scale n a hn
  have hg : 1 <<< min (d + a) ((n * 2 ^ a).log2 + 2) = (1 <<< min d (n.log2 + 2)) * 2 ^ a := by
    rw [hl, Nat.shiftLeft_eq, Nat.shiftLeft_eq, Nat.one_mul, Nat.one_mul, ← Nat.pow_add]
    congr 1
    omega
  simp only [hg]
  generalize 1 <<< min d (n.log2 + 2) = g
  have hp : 0 < 2 ^ a := Nat.two_pow_pos a
  have e1 : n * 2 ^ a / (g * 2 ^ a) = n / g := Nat.mul_div_mul_right _ _ hp
  have e2 : n * 2 ^ a % (g * 2 ^ a) = n % g * 2 ^ a := Nat.mul_mod_mul_right _ _ _
  rw [e1, e2]
  have e3 : (g * 2 ^ a < 2 * (n % g * 2 ^ a)) ↔ (g < 2 * (n % g)) := by
    rw [← Nat.mul_assoc]
    exact ⟨fun h => Nat.lt_of_mul_lt_mul_right h, fun h => Nat.mul_lt_mul_of_pos_right h hp⟩
  have e4 : (g * 2 ^ a == 2 * (n % g * 2 ^ a)) = (g == 2 * (n % g)) := by
    rw [← Nat.mul_assoc, Bool.eq_iff_iff, beq_iff_eq, beq_iff_eq]
    exact ⟨fun h => Nat.eq_of_mul_eq_mul_right hp h, fun h => congrArg (fun z => z * 2 ^ a) h⟩
  simp only [e3, e4]
theorem cut_zero (neg : Bool) (n : Nat) : Toward.even.cut neg n 0 = n := by
  unfold Toward.cut
  simp [Nat.mod_one]
theorem cut_exact (neg : Bool) (n a : Nat) (hn : 0 < n) : Toward.even.cut neg (n * 2 ^ a) a = n := by
  have := cut_scale neg n a 0 hn
  rw [Nat.zero_add, cut_zero] at this
  exact this

theorem nearest_scale (f : Format) (neg : Bool) (m a : Nat) (p : Int) (hm : 0 < m) : f.nearest neg (m * 2 ^ a) (p - a) = f.nearest neg m p := by
  unfold Format.nearest
  have h0 : m * 2 ^ a ≠ 0 := Nat.pos_iff_ne_zero.1 (Nat.mul_pos hm (Nat.two_pow_pos a))
  rw [if_neg h0, if_neg (by omega)]
  have hl : (m * 2 ^ a).log2 = m.log2 + a := log2_scale m a hm
  have hlast : max (p - (a : Int) + ((m * 2 ^ a).log2 : Nat) - (f.fractionBits : Int)) f.leastPlace = max (p + (m.log2 : Nat) - (f.fractionBits : Int)) f.leastPlace := by
    rw [hl]; congr 1; omega
  simp only [hlast]
  generalize max (p + (m.log2 : Nat) - (f.fractionBits : Int)) f.leastPlace = last
  have hk : Toward.even.cut neg ((m * 2 ^ a) <<< (p - a - last).toNat) (last - (p - a)).toNat = Toward.even.cut neg (m <<< (p - last).toNat) (last - p).toNat := by
    rw [Nat.shiftLeft_eq, Nat.shiftLeft_eq]
    by_cases c1 : last ≤ p - a
    · rw [show (last - (p - a)).toNat = 0 by omega, show (last - p).toNat = 0 by omega, cut_zero, cut_zero, Nat.mul_assoc, ← Nat.pow_add]
      congr 2
      omega
    · by_cases c2 : last ≤ p
      · rw [show (p - a - last).toNat = 0 by omega, show (last - p).toNat = 0 by omega, cut_zero, Nat.pow_zero, Nat.mul_one]
        have e : a = (p - last).toNat + (last - (p - a)).toNat := by omega
        have e2 : m * 2 ^ a = m * 2 ^ (p - last).toNat * 2 ^ (last - (p - a)).toNat := by
          rw [Nat.mul_assoc, ← Nat.pow_add, ← e]
        rw [e2, cut_exact _ _ _ (Nat.mul_pos hm (Nat.two_pow_pos _))]
      · rw [show (p - a - last).toNat = 0 by omega, show (p - last).toNat = 0 by omega, Nat.pow_zero, Nat.mul_one, Nat.mul_one, show (last - (p - a)).toNat = (last - p).toNat + a by omega]
        exact cut_scale neg m a _ hm
  rw [hk]

/-- Half of a float, both ways. -/
theorem half_same (x : Nat) : double.div x 4611686018427387904 = double.mul x 4602678819172646912 := by
  unfold Format.div Format.mul
  have e2 : double.read 4611686018427387904 = .number false 4503599627370496 (-51) := by decide +kernel
  have eh : double.read 4602678819172646912 = .number false 4503599627370496 (-53) := by decide +kernel
  rw [e2, eh]
  by_cases hn : isN x
  · rcases Nat.lt_or_ge (x % 9223372036854775808) 9218868437227405312 with h1 | h1
    · obtain ⟨m, i, e1, hi, v1, hm⟩ := read_fin' x h1
      rw [e1]
      simp only [Datum.quotient, Datum.product]
      rw [if_neg (by decide)]
      simp only [Option.map_some, Bool.xor_false]
      congr 1
      show double.nearest _ _ _ = double.nearest _ _ _
      rcases Nat.eq_zero_or_pos m with rfl | hpos
      · simp [Format.nearest]
      · have hlog : m.log2 ≤ 52 := by
          have := (Nat.log2_lt (by omega) (k := 53)).2 hm
          omega
        have hfb : double.fractionBits = 52 := rfl
        have hl2 : (4503599627370496 : Nat).log2 = 52 := by decide +kernel
        rw [hfb, hl2]
        have hmore : 52 + 2 + 52 - m.log2 = (54 - m.log2) + 52 := by omega
        rw [hmore]
        generalize hq : 54 - m.log2 = q
        have hdiv : m <<< (q + 52) / 4503599627370496 = m * 2 ^ q := by
          rw [Nat.shiftLeft_eq, Nat.pow_add, ← Nat.mul_assoc]
          exact Nat.mul_div_cancel _ (by decide)
        have hmod : m <<< (q + 52) % 4503599627370496 = 0 := by
          rw [Nat.shiftLeft_eq, Nat.pow_add, ← Nat.mul_assoc]
          exact Nat.mul_mod_left _ _
        rw [hdiv, hmod]
        have e3 : 2 * (m * 2 ^ q) + (0 != 0 : Bool).toNat = m * 2 ^ (q + 1) := by
          rw [Nat.pow_succ, show (0 != 0 : Bool).toNat = 0 by rfl, Nat.add_zero, Nat.mul_comm 2, Nat.mul_assoc]
        have e4 : (4503599627370496 : Nat) = 2 ^ 52 := by decide
        rw [e3, e4, show i - -51 - ((q + 52 : Nat) : Int) - 1 = (i - 1) - ((q + 1 : Nat) : Int) by omega, show i + -53 = (i - 1) - ((52 : Nat) : Int) by omega, nearest_scale _ _ _ _ _ hpos, nearest_scale _ _ _ _ _ hpos]
    · have h1' : x % 9223372036854775808 = 9218868437227405312 := by unfold isN at hn; omega
      rw [read_inf x h1']
      rfl
  · obtain ⟨n, f, e⟩ := read_nan x hn
    rw [e]
    rfl

end
section
open Ieee

/-- To the nearest whole number, between two the even one. -/
def rhe (n g : Nat) : Nat := n / g + (decide (g < 2 * (n % g)) || (g == 2 * (n % g) && n / g % 2 == 1)).toNat
theorem cut_rhe (neg : Bool) (n d : Nat) : Toward.even.cut neg n d = rhe n (2 ^ d) := by
  unfold Toward.cut rhe
  simp only [Nat.shiftLeft_eq, Nat.one_mul]
  by_cases h : d ≤ n.log2 + 2
  · rw [Nat.min_eq_left h]
  · rw [Nat.min_eq_right (by omega)]
    have h2 := Nat.lt_log2_self (n := n)
    have e1 : n < 2 ^ (n.log2 + 2) := Nat.lt_of_lt_of_le h2 (Nat.pow_le_pow_right (by decide) (by omega))
    have e1' : 2 * n < 2 ^ (n.log2 + 2) := by rw [show n.log2 + 2 = n.log2 + 1 + 1 by omega, Nat.pow_succ]; omega
    have e2 : 2 ^ (n.log2 + 2) ≤ 2 ^ d := Nat.pow_le_pow_right (by decide) (by omega)
    rw [Nat.div_eq_of_lt e1, Nat.mod_eq_of_lt e1, Nat.div_eq_of_lt (show n < 2 ^ d by omega), Nat.mod_eq_of_lt (show n < 2 ^ d by omega)]
    rw [decide_eq_false (by omega), decide_eq_false (by omega)]
    simp
theorem rhe_le (n g : Nat) : rhe n g ≤ n / g + 1 := by
  unfold rhe
  have : ∀ b : Bool, b.toNat ≤ 1 := by decide
  have := this (decide (g < 2 * (n % g)) || (g == 2 * (n % g) && n / g % 2 == 1))
  omega
theorem rhe_ge (n g : Nat) : n / g ≤ rhe n g := by unfold rhe; omega
theorem rhe_mono {n m g : Nat} (_hg : 0 < g) (h : n ≤ m) : rhe n g ≤ rhe m g := by
  rcases Nat.lt_or_ge (n / g) (m / g) with h1 | h1
  · have := rhe_le n g
    have := rhe_ge m g
    omega
  · have h2 : n / g = m / g := Nat.le_antisymm (Nat.div_le_div_right h) h1
    have e1 := Nat.div_add_mod n g
    have e2 := Nat.div_add_mod m g
    rw [h2] at e1
    have h3 : n % g ≤ m % g := by omega
    unfold rhe
    rw [h2]
    apply Nat.add_le_add_left
    by_cases c : (decide (g < 2 * (n % g)) || (g == 2 * (n % g) && m / g % 2 == 1)) = true
    · have : (decide (g < 2 * (m % g)) || (g == 2 * (m % g) && m / g % 2 == 1)) = true := by
        simp only [Bool.or_eq_true, Bool.and_eq_true, decide_eq_true_eq, beq_iff_eq] at c ⊢
        rcases c with c | ⟨c, d⟩
        · left; omega
        · rcases Nat.lt_or_ge g (2 * (m % g)) with h4 | h4
          · left; exact h4
          · right; exact ⟨by omega, d⟩
      rw [c, this]
      exact Nat.le_refl _
    · rw [Bool.not_eq_true] at c
      rw [c]
      exact Nat.zero_le _
theorem rhe_mul (n g : Nat) (hg : 0 < g) : rhe (n * g) g = n := by
  unfold rhe
  rw [Nat.mul_mod_left, Nat.mul_div_cancel _ hg]
  have h1 : decide (g < 2 * 0) = false := decide_eq_false (by omega)
  have h2 : (g == 2 * 0) = false := beq_eq_false_iff_ne.2 (by omega)
  rw [h1, h2]
  rfl

/-- The rung to which 'm * 2 ^ p' is rounded. -/
def R (m : Nat) (p : Int) : Nat :=
  if m = 0 then 0 else
  min ((max (p + m.log2 - 52) (-1074) - (-1074)).toNat * 4503599627370496 + rhe (m <<< (p - max (p + m.log2 - 52) (-1074)).toNat) (2 ^ (max (p + m.log2 - 52) (-1074) - p).toNat)) 9218868437227405312
theorem nearest_R (neg : Bool) (m : Nat) (p : Int) : double.nearest neg m p = double.word neg (R m p) := by
  have e1 : (double.fractionBits : Int) = 52 := rfl
  have e2 : double.leastPlace = -1074 := by decide
  have e3 : double.binade = 4503599627370496 := by decide
  have e4 : double.infRung = 9218868437227405312 := by decide
  unfold Format.nearest R
  split
  · rfl
  · simp only [cut_rhe, e1, e2, e3, e4]
theorem R_le (m : Nat) (p : Int) : R m p ≤ 9218868437227405312 := by
  unfold R
  split
  · exact Nat.zero_le _
  · exact Nat.min_le_right _ _
theorem R_scale (m a : Nat) (p : Int) : R (m * 2 ^ a) (p - a) = R m p := by
  rcases Nat.eq_zero_or_pos m with rfl | hm
  · simp [R]
  · have := nearest_scale double false m a p hm
    have w : ∀ r, double.word false r = r := fun r => rfl
    rw [nearest_R, nearest_R, w, w] at this
    exact this
theorem log2_mono {m n : Nat} (hm : 0 < m) (h : m ≤ n) : m.log2 ≤ n.log2 := by
  have h1 := Nat.log2_self_le (n := m) (by omega)
  have h2 := Nat.lt_log2_self (n := n)
  rcases Nat.lt_or_ge n.log2 m.log2 with c | c
  · have : 2 ^ (n.log2 + 1) ≤ 2 ^ m.log2 := Nat.pow_le_pow_right (by decide) (by omega)
    omega
  · exact c
theorem rhe_hi (m a b : Nat) (h : m.log2 + 1 + a ≤ 53 + b) : rhe (m <<< a) (2 ^ b) ≤ 2 * 2 ^ 52 := by
  have h2 := Nat.lt_log2_self (n := m)
  rw [Nat.shiftLeft_eq]
  have e : (m * 2 ^ a) ≤ 2 ^ 53 * 2 ^ b := by
    rw [← Nat.pow_add]
    have : m * 2 ^ a ≤ 2 ^ (m.log2 + 1) * 2 ^ a := Nat.mul_le_mul_right _ (Nat.le_of_lt h2)
    rw [← Nat.pow_add] at this
    exact Nat.le_trans this (Nat.pow_le_pow_right (by decide) h)
  have := rhe_mono (Nat.two_pow_pos b) e
  rw [rhe_mul _ _ (Nat.two_pow_pos _)] at this
  rw [← Nat.pow_succ']
  exact this
theorem rhe_lo (n a b : Nat) (hn : 0 < n) (h : 52 + b ≤ n.log2 + a) : 2 ^ 52 ≤ rhe (n <<< a) (2 ^ b) := by
  have h2 := Nat.log2_self_le (n := n) (by omega)
  rw [Nat.shiftLeft_eq]
  have e : 2 ^ 52 * 2 ^ b ≤ n * 2 ^ a := by
    rw [← Nat.pow_add]
    have : 2 ^ n.log2 * 2 ^ a ≤ n * 2 ^ a := Nat.mul_le_mul_right _ h2
    rw [← Nat.pow_add] at this
    exact Nat.le_trans (Nat.pow_le_pow_right (by decide) h) this
  have := rhe_mono (Nat.two_pow_pos b) e
  rw [rhe_mul _ _ (Nat.two_pow_pos _)] at this
  exact this
theorem comb (q r x y B : Nat) (h : q + 1 ≤ r) (hx : x ≤ 2 * B) (hy : B ≤ y) : q * B + x ≤ r * B + y := by
  have := Nat.mul_le_mul_right B h
  rw [Nat.add_mul, Nat.one_mul] at this
  omega
theorem R_mono {m n : Nat} (p : Int) (h : m ≤ n) : R m p ≤ R n p := by
  rcases Nat.eq_zero_or_pos m with rfl | hm
  · simp [R]
  · have hl := log2_mono hm h
    unfold R
    rw [if_neg (by omega), if_neg (by omega)]
    have key : (max (p + m.log2 - 52) (-1074) - (-1074)).toNat * 4503599627370496 + rhe (m <<< (p - max (p + m.log2 - 52) (-1074)).toNat) (2 ^ (max (p + m.log2 - 52) (-1074) - p).toNat) ≤
        (max (p + n.log2 - 52) (-1074) - (-1074)).toNat * 4503599627370496 + rhe (n <<< (p - max (p + n.log2 - 52) (-1074)).toNat) (2 ^ (max (p + n.log2 - 52) (-1074) - p).toNat) := by
      generalize hL : max (p + m.log2 - 52) (-1074) = L
      generalize hK : max (p + n.log2 - 52) (-1074) = K
      rcases Int.lt_or_eq_of_le (show L ≤ K by omega) with hlt | rfl
      · -- the greater one has a greater last place
        exact comb _ _ _ _ _ (by omega) (rhe_hi m (p - L).toNat (L - p).toNat (by omega)) (rhe_lo n (p - K).toNat (K - p).toNat (by omega) (by omega))
      · apply Nat.add_le_add_left
        rw [Nat.shiftLeft_eq, Nat.shiftLeft_eq]
        exact rhe_mono (Nat.two_pow_pos _) (Nat.mul_le_mul_right _ h)
    omega

/-- What a whole number of units of '2 ^ p' is rounded to, with its sign. -/
def RS (t : Int) (p : Int) : Int := if t < 0 then -(R t.natAbs p : Int) else (R t.natAbs p : Int)
theorem RS_mono {t u : Int} (p : Int) (h : t ≤ u) : RS t p ≤ RS u p := by
  unfold RS
  split
  · split
    · have := R_mono p (show u.natAbs ≤ t.natAbs by omega)
      omega
    · omega
  · rw [if_neg (by omega)]
    have := R_mono p (show t.natAbs ≤ u.natAbs by omega)
    omega
theorem RS_scale (t : Int) (a : Nat) (p : Int) : RS (t * (2 ^ a : Nat)) (p - a) = RS t p := by
  unfold RS
  have hp : (0 : Int) < ((2 ^ a : Nat) : Int) := by
    have := Nat.two_pow_pos a
    omega
  have e : (t * (2 ^ a : Nat)).natAbs = t.natAbs * 2 ^ a := by rw [Int.natAbs_mul, Int.natAbs_natCast]
  rw [e, R_scale]
  have : t * ((2 ^ a : Nat) : Int) < 0 ↔ t < 0 := by
    constructor
    · intro h
      rcases Int.lt_or_le t 0 with c | c
      · exact c
      · have := Int.mul_nonneg c (Int.le_of_lt hp)
        omega
    · intro h
      exact Int.mul_neg_of_neg_of_pos h hp
  simp only [this]
theorem word_key (neg : Bool) (r : Nat) (h : r ≤ 9218868437227405312) : key (double.word neg r) = sg neg r ∧ isN (double.word neg r) ∧ double.word neg r < 18446744073709551616 := by
  cases neg
  · have : double.word false r = r := rfl
    rw [this]
    unfold key isN sg
    rw [if_pos (by omega)]
    refine ⟨rfl, by omega, by omega⟩
  · have : double.word true r = 9223372036854775808 + r := rfl
    rw [this]
    unfold key isN sg
    refine ⟨?_, by omega, by omega⟩
    split
    · omega
    · simp only [if_true]; omega

end
section
open Ieee

/-- What a finite float is worth, in least units. -/
def vz (b : Nat) : Int := sg (ng b) (V (b % 9223372036854775808))
/-- The bits stand for a number. -/
def Fin64 (b : Nat) : Prop := b % 9223372036854775808 < 9218868437227405312

theorem sum_comm (d e : Datum) : d.sum e = e.sum d := by
  cases d with
  | nan s t => cases e <;> rfl
  | infinity s =>
    cases e with
    | nan => rfl
    | infinity t => cases s <;> cases t <;> rfl
    | number => rfl
  | number s m i =>
    cases e with
    | nan => rfl
    | infinity t => rfl
    | number t n j =>
      simp only [Datum.sum]
      rw [Int.min_comm i j, Int.add_comm, Bool.and_comm]
theorem add_comm64 (a b : Nat) : double.add a b = double.add b a := by
  unfold Format.add
  rw [sum_comm]

theorem sg_zero (n : Bool) : sg n 0 = 0 := by cases n <;> rfl
theorem add_fin (a b : Nat) (ha : Fin64 a) (hb : Fin64 b) : ∃ r, double.add a b = some r ∧ key r = RS (vz a + vz b) (-1074) ∧ isN r ∧ r < 18446744073709551616 := by
  obtain ⟨m, i, e1, hi, v1⟩ := read_fin a ha
  obtain ⟨n, j, e2, hj, v2⟩ := read_fin b hb
  unfold Format.add
  rw [e1, e2]
  simp only [Datum.sum, Option.map_some]
  refine ⟨_, rfl, ?_⟩
  have hva : signed (ng a) m (i - min i j).toNat * ((2 ^ (min i j - (-1074)).toNat : Nat) : Int) = vz a := by
    unfold vz
    rw [signed_sg, ← sg_mul, Nat.mul_assoc, ← Nat.pow_add, show (i - min i j).toNat + (min i j - (-1074)).toNat = (i - (-1074)).toNat by omega, v1]
  have hvb : signed (ng b) n (j - min i j).toNat * ((2 ^ (min i j - (-1074)).toNat : Nat) : Int) = vz b := by
    unfold vz
    rw [signed_sg, ← sg_mul, Nat.mul_assoc, ← Nat.pow_add, show (j - min i j).toNat + (min i j - (-1074)).toNat = (j - (-1074)).toNat by omega, v2]
  generalize hT : signed (ng a) m (i - min i j).toNat + signed (ng b) n (j - min i j).toNat = T
  have hs := RS_scale T (min i j - (-1074)).toNat (min i j)
  rw [show min i j - ((min i j - (-1074)).toNat : Int) = -1074 by omega, ← hT, Int.add_mul, hva, hvb, hT] at hs
  rw [hs]
  show key (double.nearest _ _ _) = _ ∧ isN (double.nearest _ _ _) ∧ double.nearest _ _ _ < _
  rw [nearest_R]
  have hw := word_key (if T = 0 then ng a && ng b else decide (T < 0)) (R T.natAbs (min i j)) (R_le _ _)
  refine ⟨?_, hw.2⟩
  rw [hw.1]
  unfold RS
  by_cases h0 : T = 0
  · subst h0
    have : R (Int.natAbs 0) (min i j) = 0 := by simp [R]
    rw [this, sg_zero]
    rfl
  · rw [if_neg h0]
    by_cases h1 : T < 0
    · rw [decide_eq_true h1, if_pos h1]; rfl
    · rw [decide_eq_false h1, if_neg h1]; rfl
theorem key_bound (r : Nat) (hr : r < 18446744073709551616) (hn : isN r) : -9218868437227405312 ≤ key r ∧ key r ≤ 9218868437227405312 := by
  unfold isN at hn
  unfold key
  split <;> omega
theorem key_inf (b : Nat) (hb : b < 18446744073709551616) (h : b % 9223372036854775808 = 9218868437227405312) : (ng b = false ∧ key b = 9218868437227405312) ∨ (ng b = true ∧ key b = -9218868437227405312) := by
  rw [key_sg b hb, h]
  cases ng b
  · exact Or.inl ⟨rfl, rfl⟩
  · exact Or.inr ⟨rfl, rfl⟩
theorem write_inf (s : Bool) : key (double.write (.infinity s)) = sg s 9218868437227405312 ∧ isN (double.write (.infinity s)) ∧ double.write (.infinity s) < 18446744073709551616 := by
  have := word_key s 9218868437227405312 (Nat.le_refl _)
  exact this
/-- What a sum is, by its key. -/
theorem add_key (a b r : Nat) (ha : a < 18446744073709551616) (hb : b < 18446744073709551616) (na : isN a) (nb : isN b) (h : double.add a b = some r) :
    isN r ∧ r < 18446744073709551616 ∧ ((Fin64 a ∧ Fin64 b ∧ key r = RS (vz a + vz b) (-1074)) ∨ (¬ Fin64 a ∧ key r = key a) ∨ (Fin64 a ∧ ¬ Fin64 b ∧ key r = key b)) := by
  by_cases fa : Fin64 a
  · by_cases fb : Fin64 b
    · obtain ⟨r', e, k, n, l⟩ := add_fin a b fa fb
      rw [e] at h
      injection h with h
      subst h
      exact ⟨n, l, Or.inl ⟨fa, fb, k⟩⟩
    · have hi : b % 9223372036854775808 = 9218868437227405312 := by unfold isN at nb; unfold Fin64 at fb; omega
      obtain ⟨m, i, e1, _⟩ := read_fin a fa
      unfold Format.add at h
      rw [e1, read_inf b hi] at h
      simp only [Datum.sum, Option.map_some] at h
      injection h with h
      subst h
      obtain ⟨k, n, l⟩ := write_inf (ng b)
      refine ⟨n, l, Or.inr (Or.inr ⟨fa, fb, ?_⟩)⟩
      rw [k, key_sg b hb, hi]
  · have hi : a % 9223372036854775808 = 9218868437227405312 := by unfold isN at na; unfold Fin64 at fa; omega
    have hr : r = double.write (.infinity (ng a)) := by
      unfold Format.add at h
      rw [read_inf a hi] at h
      by_cases fb : Fin64 b
      · obtain ⟨m, i, e1, _⟩ := read_fin b fb
        rw [e1] at h
        simp only [Datum.sum, Option.map_some] at h
        injection h with h
        exact h.symm
      · have hj : b % 9223372036854775808 = 9218868437227405312 := by unfold isN at nb; unfold Fin64 at fb; omega
        rw [read_inf b hj] at h
        simp only [Datum.sum] at h
        split at h
        · injection h with h
          exact h.symm
        · cases h
    subst hr
    obtain ⟨k, n, l⟩ := write_inf (ng a)
    refine ⟨n, l, Or.inr (Or.inl ⟨fa, ?_⟩)⟩
    rw [k, key_sg a ha, hi]
theorem vz_mono (b c : Nat) (hb : b < 18446744073709551616) (hc : c < 18446744073709551616) (h : key b ≤ key c) : vz b ≤ vz c := by
  rw [key_sg b hb, key_sg c hc] at h
  unfold vz
  generalize b % 9223372036854775808 = r at *
  generalize c % 9223372036854775808 = s at *
  have h1 := @V_iff r s
  have h2 := @V_iff s r
  clear hb hc
  generalize ng b = p at *
  generalize ng c = q at *
  cases p <;> cases q
  · change (r : Int) ≤ (s : Int) at h
    show (V r : Int) ≤ (V s : Int)
    omega
  · change (r : Int) ≤ -(s : Int) at h
    obtain rfl : r = 0 := by omega
    obtain rfl : s = 0 := by omega
    exact Int.le_refl _
  · show -(V r : Int) ≤ (V s : Int)
    omega
  · change -(r : Int) ≤ -(s : Int) at h
    show -(V r : Int) ≤ -(V s : Int)
    omega
/-- With a greater float a sum is never lesser. -/
theorem add_mono (a b c r q : Nat) (ha : a < 18446744073709551616) (hb : b < 18446744073709551616) (hc : c < 18446744073709551616) (na : isN a) (nb : isN b) (nc : isN c) (h : key b ≤ key c)
    (h1 : double.add a b = some r) (h2 : double.add a c = some q) : key r ≤ key q := by
  obtain ⟨n1, l1, k1⟩ := add_key a b r ha hb na nb h1
  obtain ⟨n2, l2, k2⟩ := add_key a c q ha hc na nc h2
  have b1 := key_bound r l1 n1
  have b2 := key_bound q l2 n2
  have bb := key_bound b hb nb
  have bc := key_bound c hc nc
  have ib : ¬ Fin64 b → key b = 9218868437227405312 ∨ key b = -9218868437227405312 := fun hf => by
    have hi : b % 9223372036854775808 = 9218868437227405312 := by unfold isN at nb; unfold Fin64 at hf; omega
    rcases key_inf b hb hi with ⟨_, k⟩ | ⟨_, k⟩
    · exact Or.inl k
    · exact Or.inr k
  have ic : ¬ Fin64 c → key c = 9218868437227405312 ∨ key c = -9218868437227405312 := fun hf => by
    have hi : c % 9223372036854775808 = 9218868437227405312 := by unfold isN at nc; unfold Fin64 at hf; omega
    rcases key_inf c hc hi with ⟨_, k⟩ | ⟨_, k⟩
    · exact Or.inl k
    · exact Or.inr k
  rcases k1 with ⟨fa, fb, k1⟩ | ⟨fa, k1⟩ | ⟨fa, fb, k1⟩
  · rcases k2 with ⟨_, fc, k2⟩ | ⟨fa', _⟩ | ⟨_, fc, k2⟩
    · rw [k1, k2]
      exact RS_mono _ (Int.add_le_add_left (vz_mono b c hb hc h) _)
    · exact absurd fa fa'
    · rcases ic fc with e | e
      · omega
      · exfalso
        have hkb : key b = -9218868437227405312 := by omega
        have : b % 9223372036854775808 = 9218868437227405312 := by
          unfold key at hkb
          split at hkb <;> omega
        unfold Fin64 at fb
        omega
  · rcases k2 with ⟨fa', _⟩ | ⟨_, k2⟩ | ⟨fa', _⟩
    · exact absurd fa' fa
    · omega
    · exact absurd fa' fa
  · rcases ib fb with e | e
    · have hkc : key c = 9218868437227405312 := by omega
      rcases k2 with ⟨_, fc, k2⟩ | ⟨fa', _⟩ | ⟨_, fc, k2⟩
      · exfalso
        have : c % 9223372036854775808 = 9218868437227405312 := by
          unfold key at hkc
          split at hkc <;> omega
        unfold Fin64 at fc
        omega
      · exact absurd fa fa'
      · omega
    · omega

end
section
open Ieee

/-- How many least units are one. -/
def eU : Nat := 1074
theorem eU_eq : eU = 1074 := rfl
def LU : Nat := 2 ^ eU
theorem LU_pos : 0 < LU := Nat.two_pow_pos eU
theorem cut_low (way : Toward) (neg : Bool) (n d : Nat) : n / (1 <<< min d (n.log2 + 2)) = n / 2 ^ d ∧ (n % (1 <<< min d (n.log2 + 2)) != 0) = (n % 2 ^ d != 0) := by
  simp only [Nat.shiftLeft_eq, Nat.one_mul]
  by_cases h : d ≤ n.log2 + 2
  · rw [Nat.min_eq_left h]
    exact ⟨rfl, rfl⟩
  · rw [Nat.min_eq_right (by omega)]
    have h2 := Nat.lt_log2_self (n := n)
    have e1 : n < 2 ^ (n.log2 + 2) := Nat.lt_of_lt_of_le h2 (Nat.pow_le_pow_right (by decide) (by omega))
    have e2 : 2 ^ (n.log2 + 2) ≤ 2 ^ d := Nat.pow_le_pow_right (by decide) (by omega)
    rw [Nat.div_eq_of_lt e1, Nat.mod_eq_of_lt e1, Nat.div_eq_of_lt (show n < 2 ^ d by omega), Nat.mod_eq_of_lt (show n < 2 ^ d by omega)]
    exact ⟨rfl, rfl⟩
theorem cut_zero_way (neg : Bool) (n d : Nat) : Toward.zero.cut neg n d = n / 2 ^ d := by
  unfold Toward.cut
  simp only
  rw [(cut_low .zero neg n d).1]
  rfl
theorem cut_down_way (neg : Bool) (n d : Nat) : Toward.down.cut neg n d = n / 2 ^ d + (neg && n % 2 ^ d != 0).toNat := by
  unfold Toward.cut
  simp only
  rw [(cut_low .down neg n d).1, (cut_low .down neg n d).2]

/-- A number's whole part, and what is left, by its least units. -/
theorem parts (m : Nat) (i : Int) (W : Nat) (hi : -1074 ≤ i) (h : m * 2 ^ (i - (-1074)).toNat = W) :
    (m <<< i.toNat) / 2 ^ (-i).toNat = W / LU ∧ ((m <<< i.toNat) % 2 ^ (-i).toNat != 0) = (W % LU != 0) := by
  rw [Nat.shiftLeft_eq, LU]
  have hU := eU_eq
  have e : (i - (-1074)).toNat + (-i).toNat = i.toNat + eU := by omega
  have hp := Nat.two_pow_pos (i - (-1074)).toNat
  rcases Int.le_total 0 i with c | c
  · have e1 : (-i).toNat = 0 := by omega
    have e2 : (i - (-1074)).toNat = i.toNat + eU := by omega
    rw [e1, ← h, e2, Nat.pow_add, ← Nat.mul_assoc, Nat.mul_div_cancel _ (Nat.two_pow_pos eU), Nat.mul_mod_left, Nat.pow_zero, Nat.div_one, Nat.mod_one]
    exact ⟨rfl, rfl⟩
  · have e1 : i.toNat = 0 := by omega
    have e2 : eU = (i - (-1074)).toNat + (-i).toNat := by omega
    rw [e1, Nat.pow_zero, Nat.mul_one, ← h]
    generalize (i - (-1074)).toNat = u at *
    generalize (-i).toNat = v at *
    rw [e2, Nat.pow_add, Nat.mul_comm m, Nat.mul_div_mul_left _ _ hp, Nat.mul_mod_mul_left]
    refine ⟨rfl, ?_⟩
    rw [Bool.eq_iff_iff, bne_iff_ne, bne_iff_ne]
    constructor
    · intro h1 h2
      rcases Nat.mul_eq_zero.1 h2 with h3 | h3
      · omega
      · exact h1 h3
    · intro h1 h2
      rw [h2] at h1
      exact h1 (Nat.mul_zero _)
/-- A float cut towards zero. -/
theorem toInt_zero (x : Nat) (hx : Fin64 x) : (double.read x).toInt .zero = some (sg (ng x) (V (x % 9223372036854775808) / LU)) := by
  obtain ⟨m, i, e, hi, h⟩ := read_fin x hx
  rw [e]
  simp only [Datum.toInt, Datum.integral]
  rw [cut_zero_way, (parts m i _ hi h).1, signed_sg, Nat.pow_zero, Nat.mul_one]
/-- A float cut downwards. -/
theorem integral_down (x : Nat) (hx : Fin64 x) : (double.read x).integral .down = .number (ng x) (V (x % 9223372036854775808) / LU + (ng x && V (x % 9223372036854775808) % LU != 0).toNat) 0 := by
  obtain ⟨m, i, e, hi, h⟩ := read_fin x hx
  rw [e]
  simp only [Datum.integral]
  rw [cut_down_way, (parts m i _ hi h).1, (parts m i _ hi h).2]
theorem top_bits (q l : Nat) (hl : l ≤ 52) (h1 : 2 ^ l ≤ q) (h2 : q < 2 ^ (l + 1)) : 4503599627370496 ≤ q * 2 ^ (52 - l) ∧ q * 2 ^ (52 - l) < 9007199254740992 := by
  have e1 : 2 ^ l * 2 ^ (52 - l) = 4503599627370496 := by
    rw [← Nat.pow_add, show l + (52 - l) = 52 by omega]
  have e2 : 2 ^ (l + 1) * 2 ^ (52 - l) = 9007199254740992 := by
    rw [← Nat.pow_add, show l + 1 + (52 - l) = 53 by omega]
  have p := Nat.two_pow_pos (52 - l)
  rw [← e1, ← e2]
  exact ⟨Nat.mul_le_mul_right _ h1, Nat.mul_lt_mul_of_pos_right h2 p⟩
theorem V_top (e K : Nat) (h1 : 4503599627370496 ≤ K) (h2 : K < 9007199254740992) : V (e * 4503599627370496 + K) = K * 2 ^ e := by
  unfold V
  rw [if_neg (by omega), show (e * 4503599627370496 + K) % 4503599627370496 = K - 4503599627370496 by omega, show (e * 4503599627370496 + K) / 4503599627370496 - 1 = e by omega, show 4503599627370496 + (K - 4503599627370496) = K by omega]
theorem R_small (q l : Nat) (hq : 0 < q) (hl : l ≤ 52) (e : q.log2 = l) : R q 0 = min ((l + 1022) * 4503599627370496 + q * 2 ^ (52 - l)) 9218868437227405312 := by
  unfold R
  rw [if_neg (by omega), e]
  have el : max ((0 : Int) + (l : Int) - 52) (-1074) = (l : Int) - 52 := by omega
  rw [el, show ((l : Int) - 52 - (-1074)).toNat = l + 1022 by omega, show ((0 : Int) - ((l : Int) - 52)).toNat = 52 - l by omega, show ((l : Int) - 52 - 0).toNat = 0 by omega, Nat.pow_zero, Nat.shiftLeft_eq]
  have h := rhe_mul (q * 2 ^ (52 - l)) 1 (by decide)
  rw [Nat.mul_one] at h
  rw [h]
/-- A whole number as a float is worth that number. -/
theorem R_whole (q : Nat) (hq : q ≤ 9007199254740992) : V (R q 0) = q * LU ∧ R q 0 < 9218868437227405312 := by
  rcases Nat.eq_zero_or_pos q with rfl | hpos
  · rw [Nat.zero_mul]
    have : R 0 0 = 0 := rfl
    rw [this]
    exact ⟨rfl, by decide⟩
  · rcases Nat.lt_or_eq_of_le hq with hlt | rfl
    · have hl : q.log2 ≤ 52 := by
        have h3 : q < 2 ^ 53 := by simpa using hlt
        have := (Nat.log2_lt (by omega) (k := 53)).2 h3
        omega
      have h1 := Nat.log2_self_le (n := q) (by omega)
      have h2 := Nat.lt_log2_self (n := q)
      generalize e : q.log2 = l at *
      obtain ⟨b1, b2⟩ := top_bits q l hl h1 h2
      have eR := R_small q l hpos hl e
      have em : min ((l + 1022) * 4503599627370496 + q * 2 ^ (52 - l)) 9218868437227405312 = (l + 1022) * 4503599627370496 + q * 2 ^ (52 - l) := by
        generalize q * 2 ^ (52 - l) = K at *
        omega
      rw [em] at eR
      rw [eR]
      refine ⟨?_, ?_⟩
      · rw [V_top _ _ b1 b2, Nat.mul_assoc, ← Nat.pow_add, show 52 - l + (l + 1022) = eU by rw [eU_eq]; omega, LU]
      · generalize q * 2 ^ (52 - l) = K at *
        omega
    · have : R 9007199254740992 0 = 4845873199050653696 := by decide +kernel
      rw [this]
      refine ⟨?_, by decide⟩
      have h := V_top (1 + eU) 4503599627370496 (by decide) (by decide)
      rw [show (1 + eU) * 4503599627370496 + 4503599627370496 = 4845873199050653696 by decide] at h
      rw [h, Nat.pow_add, ← Nat.mul_assoc, LU]
theorem word_mod (s : Bool) (r : Nat) (h : r ≤ 9218868437227405312) : double.word s r % 9223372036854775808 = r := by
  have w0 : double.word false r = r := rfl
  have w1 : double.word true r = 9223372036854775808 + r := rfl
  cases s
  · rw [w0]; omega
  · rw [w1]; omega
theorem word_ng (s : Bool) (r : Nat) (h : r ≤ 9218868437227405312) : ng (double.word s r) = s := by
  have w0 : double.word false r = r := rfl
  have w1 : double.word true r = 9223372036854775808 + r := rfl
  unfold ng
  cases s
  · rw [w0, show r / 9223372036854775808 = 0 by omega]; rfl
  · rw [w1, show (9223372036854775808 + r) / 9223372036854775808 = 1 by omega]; rfl
theorem back_of (s : Bool) (q r y : Nat) (hy : y = double.word s r) (h : r < 9218868437227405312) (v : V r = q * LU) : (double.read y).toInt .zero = some (sg s q) := by
  have hm := word_mod s r (Nat.le_of_lt h)
  have hg := word_ng s r (Nat.le_of_lt h)
  rw [← hy] at hm hg
  have hf : Fin64 y := by unfold Fin64; rw [hm]; exact h
  rw [toInt_zero y hf, hm, hg, v, Nat.mul_div_cancel _ LU_pos]
/-- The float of a whole number: its bits, and back. -/
theorem whole_back (s : Bool) (q : Nat) (hq : q ≤ 9007199254740992) : (double.read (double.nearest s q 0)).toInt .zero = some (sg s q) ∧ key (double.nearest s q 0) = sg s (R q 0) ∧ isN (double.nearest s q 0) ∧ double.nearest s q 0 < 18446744073709551616 := by
  obtain ⟨v, l⟩ := R_whole q hq
  have e := nearest_R s q 0
  refine ⟨back_of s q _ _ e l v, ?_⟩
  rw [e]
  exact word_key s _ (Nat.le_of_lt l)

end
section
open Ieee

/-- A float's whole part, what is left of it, and the whole number below it. -/
def wq (x : Nat) : Nat := V (x % 9223372036854775808) / LU
def wt (x : Nat) : Bool := V (x % 9223372036854775808) % LU != 0
def wf (x : Nat) : Nat := wq x + (ng x && wt x).toNat
def truncV (x : Nat) : Int := sg (ng x) (wq x)
def floorV (x : Nat) : Int := sg (ng x) (wf x)

theorem V_le {r s : Nat} (h : r ≤ s) : V r ≤ V s := by
  rcases Nat.lt_or_eq_of_le h with h | rfl
  · exact Nat.le_of_lt (V_lt h)
  · exact Nat.le_refl _
theorem w_bounds (x : Nat) (h : x % 9223372036854775808 ≤ 4845873199050653696) : wq x ≤ 9007199254740992 ∧ wf x ≤ 9007199254740992 := by
  have h1 := V_le h
  have h2 : V 4845873199050653696 = 9007199254740992 * LU := by
    have h3 := (R_whole 9007199254740992 (Nat.le_refl _)).1
    have h4 : R 9007199254740992 0 = 4845873199050653696 := by decide +kernel
    rw [h4] at h3
    exact h3
  rw [h2] at h1
  have hp := LU_pos
  have q1 : wq x ≤ 9007199254740992 := by
    unfold wq
    have := Nat.div_le_div_right (c := LU) h1
    rw [Nat.mul_div_cancel _ hp] at this
    exact this
  refine ⟨q1, ?_⟩
  unfold wf
  cases hb : (ng x && wt x) with
  | false => exact q1
  | true =>
    rw [Bool.and_eq_true] at hb
    have ht := hb.2
    unfold wt at ht
    rw [bne_iff_ne] at ht
    show wq x + 1 ≤ _
    rcases Nat.lt_or_eq_of_le q1 with h5 | h5
    · omega
    · exfalso
      unfold wq at h5
      have e := Nat.div_add_mod (V (x % 9223372036854775808)) LU
      rw [h5, Nat.mul_comm] at e
      omega
theorem sg_range (s : Bool) (q : Nat) (h : q ≤ 9007199254740992) : IntKind.min .i64 ≤ sg s q ∧ sg s q ≤ IntKind.max .i64 ∧ -9007199254740992 ≤ sg s q ∧ sg s q ≤ 9007199254740992 := by
  have e1 : IntKind.min .i64 = -9223372036854775808 := by decide
  have e2 : IntKind.max .i64 = 9223372036854775807 := by decide
  rw [e1, e2]
  cases s
  · show _ ≤ (q : Int) ∧ (q : Int) ≤ _ ∧ _ ≤ (q : Int) ∧ (q : Int) ≤ _
    omega
  · show _ ≤ -(q : Int) ∧ -(q : Int) ≤ _ ∧ _ ≤ -(q : Int) ∧ -(q : Int) ≤ _
    omega
theorem fin_of (x : Nat) (h : x % 9223372036854775808 ≤ 4845873199050653696) : Fin64 x := by unfold Fin64; omega
theorem trunc_is (x : Nat) (h : x % 9223372036854775808 ≤ 4845873199050653696) : floatToIntVal .f64 x .i64 = some (truncV x) := by
  have e : (FloatKind.f64.decode x).toInt .zero = some (truncV x) := toInt_zero x (fin_of x h)
  obtain ⟨r1, r2, _⟩ := sg_range (ng x) (wq x) (w_bounds x h).1
  unfold floatToIntVal
  rw [e]
  show (if IntKind.min .i64 ≤ truncV x ∧ truncV x ≤ IntKind.max .i64 then some (truncV x) else none) = some (truncV x)
  rw [if_pos ⟨r1, r2⟩]
theorem floor_is (x : Nat) (h : x % 9223372036854775808 ≤ 4845873199050653696) : floatToIntVal .f64 (double.nearest (ng x) (wf x) 0) .i64 = some (floorV x) := by
  have hb := (w_bounds x h).2
  have e : (FloatKind.f64.decode (double.nearest (ng x) (wf x) 0)).toInt .zero = some (floorV x) := (whole_back (ng x) (wf x) hb).1
  obtain ⟨r1, r2, _⟩ := sg_range (ng x) (wf x) hb
  unfold floatToIntVal
  rw [e]
  show (if IntKind.min .i64 ≤ floorV x ∧ floorV x ≤ IntKind.max .i64 then some (floorV x) else none) = some (floorV x)
  rw [if_pos ⟨r1, r2⟩]
theorem floor_trunc (x : Nat) : floorV x = if (ng x && wt x) = true then truncV x - 1 else truncV x := by
  unfold floorV truncV wf
  cases ng x
  · rfl
  · cases wt x
    · rfl
    · show -((wq x + 1 : Nat) : Int) = -(wq x : Int) - 1
      omega
/-- The float of a float's whole part. -/
theorem float_of_trunc (x : Nat) (h : x % 9223372036854775808 ≤ 4845873199050653696) (hx : x < 18446744073709551616) : (double.order (floatOfInt .f64 (truncV x)) x == some .gt) = (ng x && wt x) := by
  have hq := (w_bounds x h).1
  obtain ⟨v, l⟩ := R_whole (wq x) hq
  have hz : ∃ s' : Bool, floatOfInt .f64 (truncV x) = double.nearest s' (wq x) 0 ∧ sg s' (R (wq x) 0) = sg (ng x) (R (wq x) 0) := by
    unfold truncV
    cases hs : ng x
    · refine ⟨false, ?_, rfl⟩
      show double.nearest (decide ((wq x : Int) < 0)) (Int.natAbs (wq x : Int)) 0 = _
      rw [decide_eq_false (by omega), Int.natAbs_natCast]
    · rcases Nat.eq_zero_or_pos (wq x) with h0 | h0
      · refine ⟨false, ?_, ?_⟩
        · show double.nearest (decide (-(wq x : Int) < 0)) (Int.natAbs (-(wq x : Int))) 0 = _
          rw [decide_eq_false (by omega), Int.natAbs_neg, Int.natAbs_natCast]
        · rw [h0]; rfl
      · refine ⟨true, ?_, rfl⟩
        show double.nearest (decide (-(wq x : Int) < 0)) (Int.natAbs (-(wq x : Int))) 0 = _
        rw [decide_eq_true (by omega), Int.natAbs_neg, Int.natAbs_natCast]
  obtain ⟨s', ez, es⟩ := hz
  obtain ⟨_, k, n, b⟩ := whole_back s' (wq x) hq
  rw [ez, order_key _ x b hx n (by unfold isN; omega), k, es, key_sg x hx]
  have hv : R (wq x) 0 < x % 9223372036854775808 ↔ wt x = true := by
    rw [← V_iff, v]
    unfold wq wt
    have e := Nat.div_add_mod (V (x % 9223372036854775808)) LU
    rw [bne_iff_ne, Nat.mul_comm] 
    omega
  have hv2 : ¬ x % 9223372036854775808 < R (wq x) 0 := by
    rw [← V_iff, v]
    unfold wq
    have e := Nat.div_add_mod (V (x % 9223372036854775808)) LU
    rw [Nat.mul_comm] at e
    omega
  generalize R (wq x) 0 = r at *
  generalize x % 9223372036854775808 = u at *
  clear ez es k n b v l
  cases ng x
  · show (some (compare (r : Int) (u : Int)) == some .gt) = false
    rcases Int.lt_or_eq_of_le (show (r : Int) ≤ (u : Int) by omega) with c | c
    · rw [c_lt c]; rfl
    · rw [c, c_eq]; rfl
  · show (some (compare (-(r : Int)) (-(u : Int))) == some .gt) = (true && wt x)
    rw [Bool.true_and]
    cases ht : wt x
    · have : ¬ r < u := fun c => by rw [hv.1 c] at ht; cases ht
      rw [show (r : Int) = u by omega, c_eq]; rfl
    · have := hv.2 ht
      rw [c_gt (by omega)]; rfl

end
end Go.Proofs.YtmcooenafgihkaaGreatDoor
