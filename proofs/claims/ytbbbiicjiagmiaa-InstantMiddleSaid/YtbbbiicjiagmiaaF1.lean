/- Helper lemmas: how two 64-bit floats stand, by their bits. No condition. -/
import Derived.Laws.FloatArith
import Derived.Laws.FloatBits
import Derived.Laws.BitsAllLaws
namespace Go.Proofs.Ytbbbiicjiagmiaa
open Ieee

/-- A number below 2 ^ 63 and its sign. -/
def key (b : Nat) : Int := if b < 9223372036854775808 then (b : Int) else 9223372036854775808 - (b : Int)
/-- The bits stand for a number, or for one without end. -/
def isN (b : Nat) : Prop := b % 9223372036854775808 ≤ 9218868437227405312

/-- What a rung is worth, in least units. -/
def V (r : Nat) : Nat := if r < 4503599627370496 then r else (4503599627370496 + r % 4503599627370496) * 2 ^ (r / 4503599627370496 - 1)
theorem V_lt {r s : Nat} (h : r < s) : V r < V s := by
  unfold V
  have hr := Nat.mod_lt r (show 0 < 4503599627370496 by decide)
  have hs := Nat.mod_lt s (show 0 < 4503599627370496 by decide)
  split
  · split
    · exact h
    · have : 1 ≤ 2 ^ (s / 4503599627370496 - 1) := Nat.one_le_two_pow
      calc r < 4503599627370496 := by assumption
        _ ≤ (4503599627370496 + s % 4503599627370496) * 1 := by omega
        _ ≤ _ := Nat.mul_le_mul_left _ this
  · rw [if_neg (by omega)]
    generalize hq : r / 4503599627370496 = q
    generalize hp : s / 4503599627370496 = p
    have hqp : q ≤ p := by omega
    have hq1 : 1 ≤ q := by omega
    rcases Nat.lt_or_ge q p with hlt | hge
    · have e1 : 2 ^ (p - 1) = 2 ^ (q - 1) * 2 ^ (p - q) := by rw [← Nat.pow_add]; congr 1; omega
      have h2 : 2 ≤ 2 ^ (p - q) := by
        have : 2 ^ 1 ≤ 2 ^ (p - q) := Nat.pow_le_pow_right (by decide) (by omega)
        simpa using this
      have hpos : 0 < 2 ^ (q - 1) := Nat.two_pow_pos _
      calc (4503599627370496 + r % 4503599627370496) * 2 ^ (q - 1) < (4503599627370496 * 2) * 2 ^ (q - 1) := Nat.mul_lt_mul_of_pos_right (by omega) hpos
        _ = 4503599627370496 * (2 ^ (q - 1) * 2) := by rw [Nat.mul_assoc, Nat.mul_comm 2]
        _ ≤ 4503599627370496 * (2 ^ (q - 1) * 2 ^ (p - q)) := Nat.mul_le_mul_left _ (Nat.mul_le_mul_left _ h2)
        _ = 4503599627370496 * 2 ^ (p - 1) := by rw [e1]
        _ ≤ _ := Nat.mul_le_mul_right _ (by omega)
    · obtain rfl : q = p := by omega
      exact Nat.mul_lt_mul_of_pos_right (by omega) (Nat.two_pow_pos _)
theorem V_iff {r s : Nat} : V r < V s ↔ r < s := by
  constructor
  · intro h
    rcases Nat.lt_trichotomy r s with h1 | rfl | h1
    · exact h1
    · omega
    · have := V_lt h1; omega
  · exact V_lt
theorem V_zero : V 0 = 0 := rfl

/-- A number with its sign. -/
def sg (n : Bool) (m : Nat) : Int := if n then -(m : Int) else (m : Int)
theorem cmp_of {a b c d : Int} (h1 : a < b ↔ c < d) (h2 : b < a ↔ d < c) : compare a b = compare c d := by
  simp only [compare, compareOfLessAndEq]
  have h3 : a = b ↔ c = d := by omega
  simp only [h1, h3]
theorem c_lt {a b : Int} (h : a < b) : compare a b = .lt := by simp only [compare, compareOfLessAndEq, h, if_true]
theorem c_eq (a : Int) : compare a a = .eq := by simp [compare, compareOfLessAndEq]
theorem c_gt {a b : Int} (h : b < a) : compare a b = .gt := by
  simp only [compare, compareOfLessAndEq]
  rw [if_neg (by omega), if_neg (by omega)]
theorem sg_V (n m : Bool) (r s : Nat) : compare (sg n (V r)) (sg m (V s)) = compare (sg n r) (sg m s) := by
  have h1 := @V_iff r s
  have h2 := @V_iff s r
  have h3 := @V_iff r 0
  have h4 := @V_iff s 0
  have h5 := @V_iff 0 r
  have h6 := @V_iff 0 s
  rw [V_zero] at h3 h4 h5 h6
  apply cmp_of <;> cases n <;> cases m <;> simp only [sg, if_true, Bool.false_eq_true, if_false] <;> omega

theorem signed_sg (n : Bool) (m u : Nat) : signed n m u = sg n (m * 2 ^ u) := by
  unfold signed sg
  rw [Nat.shiftLeft_eq]
theorem sg_mul (n : Bool) (m k : Nat) : sg n (m * k) = sg n m * (k : Int) := by
  unfold sg; cases n <;> simp [Int.neg_mul]

theorem cmp_shift (s t : Bool) (m n : Nat) (i j L : Int) (hi : L ≤ i) (hj : L ≤ j) :
    compare (signed s m (i - min i j).toNat) (signed t n (j - min i j).toNat) = compare (sg s (m * 2 ^ (i - L).toNat)) (sg t (n * 2 ^ (j - L).toNat)) := by
  rw [signed_sg, signed_sg]
  have e1 : (i - L).toNat = (i - min i j).toNat + (min i j - L).toNat := by omega
  have e2 : (j - L).toNat = (j - min i j).toNat + (min i j - L).toNat := by omega
  rw [e1, e2, Nat.pow_add, Nat.pow_add, ← Nat.mul_assoc, ← Nat.mul_assoc, sg_mul _ (m * _), sg_mul _ (n * _)]
  have hp : (0 : Int) < ((2 ^ (min i j - L).toNat : Nat) : Int) := by
    have := Nat.two_pow_pos (min i j - L).toNat
    omega
  apply cmp_of
  · exact ⟨fun h => Int.mul_lt_mul_of_pos_right h hp, fun h => Int.lt_of_mul_lt_mul_right h (Int.le_of_lt hp)⟩
  · exact ⟨fun h => Int.mul_lt_mul_of_pos_right h hp, fun h => Int.lt_of_mul_lt_mul_right h (Int.le_of_lt hp)⟩

theorem read_eq (b : Nat) : double.read b = (let neg := b / 9223372036854775808 % 2 == 1
    let rung := b % 9223372036854775808
    if rung < 4503599627370496 then .number neg rung (-1074)
    else if rung < 9218868437227405312 then .number neg (4503599627370496 + rung % 4503599627370496) (-1074 + (rung / 4503599627370496 - 1 : Nat))
    else if rung = 9218868437227405312 then .infinity neg
    else .nan neg (rung - 9218868437227405312)) := rfl
/-- The sign. -/
def ng (b : Nat) : Bool := b / 9223372036854775808 % 2 == 1
/-- What a finite one's datum is. -/
theorem read_fin (b : Nat) (h : b % 9223372036854775808 < 9218868437227405312) : ∃ (m : Nat) (i : Int), double.read b = .number (ng b) m i ∧ -1074 ≤ i ∧ m * 2 ^ (i - (-1074)).toNat = V (b % 9223372036854775808) := by
  rw [read_eq]
  unfold V
  by_cases h1 : b % 9223372036854775808 < 4503599627370496
  · refine ⟨b % 9223372036854775808, -1074, by simp only [h1, if_true]; rfl, by omega, by rw [if_pos h1]; simp⟩
  · refine ⟨_, _, by simp only [h1, if_false, h, if_true]; rfl, by omega, ?_⟩
    rw [if_neg h1]
    congr 2
    omega
theorem read_inf (b : Nat) (h : b % 9223372036854775808 = 9218868437227405312) : double.read b = .infinity (ng b) := by
  rw [read_eq]
  simp only [h]
  rfl
theorem read_nan (b : Nat) (h : ¬ isN b) : ∃ n f, double.read b = .nan n f := by
  unfold isN at h
  rw [read_eq]
  refine ⟨ng b, b % 9223372036854775808 - 9218868437227405312, ?_⟩
  simp only
  rw [if_neg (by omega), if_neg (by omega), if_neg (by omega)]
  rfl
theorem key_sg (b : Nat) (hb : b < 18446744073709551616) : key b = sg (ng b) (b % 9223372036854775808) := by
  unfold key sg ng
  split
  · rw [show b / 9223372036854775808 = 0 by omega]
    simp
    omega
  · rw [show b / 9223372036854775808 = 1 by omega]
    simp
    omega

theorem order_key (a b : Nat) (ha : a < 18446744073709551616) (hb : b < 18446744073709551616) (na : isN a) (nb : isN b) : double.order a b = some (compare (key a) (key b)) := by
  rw [key_sg a ha, key_sg b hb]
  unfold Format.order
  unfold isN at na nb
  rcases Nat.lt_or_ge (a % 9223372036854775808) 9218868437227405312 with h1 | h1
  · obtain ⟨m, i, e1, hi, v1⟩ := read_fin a h1
    rw [e1]
    rcases Nat.lt_or_ge (b % 9223372036854775808) 9218868437227405312 with h2 | h2
    · obtain ⟨n, j, e2, hj, v2⟩ := read_fin b h2
      rw [e2]
      simp only [Datum.order]
      rw [cmp_shift _ _ _ _ _ _ (-1074) hi hj, v1, v2, sg_V]
    · have h2' : b % 9223372036854775808 = 9218868437227405312 := by omega
      rw [read_inf b h2', h2']
      simp only [Datum.order]
      generalize a % 9223372036854775808 = r at *
      cases ng b <;> cases ng a <;> simp only [sg, if_true, Bool.false_eq_true, if_false] <;> first | rw [c_lt (by omega)] | rw [c_gt (by omega)]
  · have h1' : a % 9223372036854775808 = 9218868437227405312 := by omega
    rw [read_inf a h1', h1']
    rcases Nat.lt_or_ge (b % 9223372036854775808) 9218868437227405312 with h2 | h2
    · obtain ⟨n, j, e2, hj, v2⟩ := read_fin b h2
      rw [e2]
      simp only [Datum.order]
      generalize b % 9223372036854775808 = r at *
      cases ng b <;> cases ng a <;> simp only [sg, if_true, Bool.false_eq_true, if_false] <;> first | rw [c_lt (by omega)] | rw [c_gt (by omega)]
    · have h2' : b % 9223372036854775808 = 9218868437227405312 := by omega
      rw [read_inf b h2', h2']
      simp only [Datum.order]
      cases ng b <;> cases ng a
      · rw [c_eq]; rfl
      · rw [c_lt (by simp [sg])]; rfl
      · rw [c_gt (by simp [sg])]; rfl
      · rw [c_eq]; rfl
theorem order_nan_left (a b : Nat) (h : ¬ isN a) : double.order a b = none := by
  obtain ⟨n, f, e⟩ := read_nan a h
  unfold Format.order
  rw [e]
  rfl
theorem order_nan_right (a b : Nat) (h : ¬ isN b) : double.order a b = none := by
  obtain ⟨n, f, e⟩ := read_nan b h
  unfold Format.order
  rw [e]
  cases double.read a <;> rfl

open Go in
theorem and_low (b : Nat) (h : b < 9223372036854775808) : bits .and .u64 (b : Int) 9223372036854775808 = 0 := by
  have := u64_and_nat b 9223372036854775808 (by omega) (by decide)
  rw [show (9223372036854775808 : Nat) = 2 ^ 63 by decide, nat_bit, show b / 2 ^ 63 % 2 * 2 ^ 63 = 0 by simp; omega] at this
  exact this
open Go in
theorem and_high (b : Nat) (h : 9223372036854775808 ≤ b) (h2 : b < 18446744073709551616) : bits .and .u64 (b : Int) 9223372036854775808 = 9223372036854775808 := by
  have := u64_and_nat b 9223372036854775808 (by omega) (by decide)
  rw [show (9223372036854775808 : Nat) = 2 ^ 63 by decide, nat_bit, show b / 2 ^ 63 % 2 * 2 ^ 63 = 9223372036854775808 by simp; omega] at this
  exact this
open Go in
theorem or_low (b : Nat) (h : b < 9223372036854775808) : bits .or .u64 (b : Int) 9223372036854775808 = (b : Int) + 9223372036854775808 := by
  have := u64_or_nat b 9223372036854775808 (by omega) (by decide)
  rw [Nat.or_comm, nat_join 63 9223372036854775808 b (by decide) (by simpa using h)] at this
  rw [show (9223372036854775808 : Int) = ((9223372036854775808 : Nat) : Int) by rfl, this]
  omega
open Go in
theorem andNot_high (b : Nat) (h : 9223372036854775808 ≤ b) (h2 : b < 18446744073709551616) : bits .andNot .u64 (b : Int) 9223372036854775808 = (b : Int) - 9223372036854775808 := by
  have := u64_andNot_nat b 9223372036854775808 (by omega) (by decide)
  rw [show (18446744073709551615 - 9223372036854775808 : Nat) = 2 ^ 63 - 1 by decide, Nat.and_two_pow_sub_one_eq_mod] at this
  rw [show (9223372036854775808 : Int) = ((9223372036854775808 : Nat) : Int) by rfl, this]
  simp only [show (2 ^ 63 : Nat) = 9223372036854775808 by decide]
  omega
end Go.Proofs.Ytbbbiicjiagmiaa
