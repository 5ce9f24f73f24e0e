/- Helper lemmas: to round never turns the order of two numbers; a sum of floats goes both ways, and is never lesser with a greater one. No condition. -/
import Derived.Test.YtbbbiicjiagmiaaF3
namespace Go.Proofs.Ytbbbiicjiagmiaa
open Ieee

/-- To the nearest whole number, between two the even one. -/
def rhe (n g : Nat) : Nat := n / g + (decide (g < 2 * (n % g)) || (g == 2 * (n % g) && n / g % 2 == 1)).toNat
theorem cut_rhe (neg : Bool) (n d : Nat) : Toward.even.cut neg n d = rhe n (2 ^ d) := by
  unfold Toward.cut rhe
  simp only [Nat.shiftLeft_eq, Nat.one_mul]
  by_cases h : d ≤ n.log2 + 2
  · rw [Nat.min_eq_left h]
  · rw [Nat.min_eq_right (by omega)]
    have h2 := Nat.lt_log2_self (n := n)
    have e1 : n < 2 ^ (n.log2 + 2) := Nat.lt_of_lt_of_le h2 (Nat.pow_le_pow_right (by decide) (by omega))
    have e1' : 2 * n < 2 ^ (n.log2 + 2) := by rw [show n.log2 + 2 = n.log2 + 1 + 1 by omega, Nat.pow_succ]; omega
    have e2 : 2 ^ (n.log2 + 2) ≤ 2 ^ d := Nat.pow_le_pow_right (by decide) (by omega)
    rw [Nat.div_eq_of_lt e1, Nat.mod_eq_of_lt e1, Nat.div_eq_of_lt (show n < 2 ^ d by omega), Nat.mod_eq_of_lt (show n < 2 ^ d by omega)]
    rw [decide_eq_false (by omega), decide_eq_false (by omega)]
    simp
theorem rhe_le (n g : Nat) : rhe n g ≤ n / g + 1 := by
  unfold rhe
  have : ∀ b : Bool, b.toNat ≤ 1 := by decide
  have := this (decide (g < 2 * (n % g)) || (g == 2 * (n % g) && n / g % 2 == 1))
  omega
theorem rhe_ge (n g : Nat) : n / g ≤ rhe n g := by unfold rhe; omega
theorem rhe_mono {n m g : Nat} (_hg : 0 < g) (h : n ≤ m) : rhe n g ≤ rhe m g := by
  rcases Nat.lt_or_ge (n / g) (m / g) with h1 | h1
  · have := rhe_le n g
    have := rhe_ge m g
    omega
  · have h2 : n / g = m / g := Nat.le_antisymm (Nat.div_le_div_right h) h1
    have e1 := Nat.div_add_mod n g
    have e2 := Nat.div_add_mod m g
    rw [h2] at e1
    have h3 : n % g ≤ m % g := by omega
    unfold rhe
    rw [h2]
    apply Nat.add_le_add_left
    by_cases c : (decide (g < 2 * (n % g)) || (g == 2 * (n % g) && m / g % 2 == 1)) = true
    · have : (decide (g < 2 * (m % g)) || (g == 2 * (m % g) && m / g % 2 == 1)) = true := by
        simp only [Bool.or_eq_true, Bool.and_eq_true, decide_eq_true_eq, beq_iff_eq] at c ⊢
        rcases c with c | ⟨c, d⟩
        · left; omega
        · rcases Nat.lt_or_ge g (2 * (m % g)) with h4 | h4
          · left; exact h4
          · right; exact ⟨by omega, d⟩
      rw [c, this]
      exact Nat.le_refl _
    · rw [Bool.not_eq_true] at c
      rw [c]
      exact Nat.zero_le _
theorem rhe_mul (n g : Nat) (hg : 0 < g) : rhe (n * g) g = n := by
  unfold rhe
  rw [Nat.mul_mod_left, Nat.mul_div_cancel _ hg]
  have h1 : decide (g < 2 * 0) = false := decide_eq_false (by omega)
  have h2 : (g == 2 * 0) = false := beq_eq_false_iff_ne.2 (by omega)
  rw [h1, h2]
  rfl

/-- The rung to which 'm * 2 ^ p' is rounded. -/
def R (m : Nat) (p : Int) : Nat :=
  if m = 0 then 0 else
  min ((max (p + m.log2 - 52) (-1074) - (-1074)).toNat * 4503599627370496 + rhe (m <<< (p - max (p + m.log2 - 52) (-1074)).toNat) (2 ^ (max (p + m.log2 - 52) (-1074) - p).toNat)) 9218868437227405312
theorem nearest_R (neg : Bool) (m : Nat) (p : Int) : double.nearest neg m p = double.word neg (R m p) := by
  have e1 : (double.fractionBits : Int) = 52 := rfl
  have e2 : double.leastPlace = -1074 := by decide
  have e3 : double.binade = 4503599627370496 := by decide
  have e4 : double.infRung = 9218868437227405312 := by decide
  unfold Format.nearest R
  split
  · rfl
  · simp only [cut_rhe, e1, e2, e3, e4]
theorem R_le (m : Nat) (p : Int) : R m p ≤ 9218868437227405312 := by
  unfold R
  split
  · exact Nat.zero_le _
  · exact Nat.min_le_right _ _
theorem R_scale (m a : Nat) (p : Int) : R (m * 2 ^ a) (p - a) = R m p := by
  rcases Nat.eq_zero_or_pos m with rfl | hm
  · simp [R]
  · have := nearest_scale double false m a p hm
    have w : ∀ r, double.word false r = r := fun r => rfl
    rw [nearest_R, nearest_R, w, w] at this
    exact this
theorem log2_mono {m n : Nat} (hm : 0 < m) (h : m ≤ n) : m.log2 ≤ n.log2 := by
  have h1 := Nat.log2_self_le (n := m) (by omega)
  have h2 := Nat.lt_log2_self (n := n)
  rcases Nat.lt_or_ge n.log2 m.log2 with c | c
  · have : 2 ^ (n.log2 + 1) ≤ 2 ^ m.log2 := Nat.pow_le_pow_right (by decide) (by omega)
    omega
  · exact c
theorem rhe_hi (m a b : Nat) (h : m.log2 + 1 + a ≤ 53 + b) : rhe (m <<< a) (2 ^ b) ≤ 2 * 2 ^ 52 := by
  have h2 := Nat.lt_log2_self (n := m)
  rw [Nat.shiftLeft_eq]
  have e : (m * 2 ^ a) ≤ 2 ^ 53 * 2 ^ b := by
    rw [← Nat.pow_add]
    have : m * 2 ^ a ≤ 2 ^ (m.log2 + 1) * 2 ^ a := Nat.mul_le_mul_right _ (Nat.le_of_lt h2)
    rw [← Nat.pow_add] at this
    exact Nat.le_trans this (Nat.pow_le_pow_right (by decide) h)
  have := rhe_mono (Nat.two_pow_pos b) e
  rw [rhe_mul _ _ (Nat.two_pow_pos _)] at this
  rw [← Nat.pow_succ']
  exact this
theorem rhe_lo (n a b : Nat) (hn : 0 < n) (h : 52 + b ≤ n.log2 + a) : 2 ^ 52 ≤ rhe (n <<< a) (2 ^ b) := by
  have h2 := Nat.log2_self_le (n := n) (by omega)
  rw [Nat.shiftLeft_eq]
  have e : 2 ^ 52 * 2 ^ b ≤ n * 2 ^ a := by
    rw [← Nat.pow_add]
    have : 2 ^ n.log2 * 2 ^ a ≤ n * 2 ^ a := Nat.mul_le_mul_right _ h2
    rw [← Nat.pow_add] at this
    exact Nat.le_trans (Nat.pow_le_pow_right (by decide) h) this
  have := rhe_mono (Nat.two_pow_pos b) e
  rw [rhe_mul _ _ (Nat.two_pow_pos _)] at this
  exact this
theorem comb (q r x y B : Nat) (h : q + 1 ≤ r) (hx : x ≤ 2 * B) (hy : B ≤ y) : q * B + x ≤ r * B + y := by
  have := Nat.mul_le_mul_right B h
  rw [Nat.add_mul, Nat.one_mul] at this
  omega
theorem R_mono {m n : Nat} (p : Int) (h : m ≤ n) : R m p ≤ R n p := by
  rcases Nat.eq_zero_or_pos m with rfl | hm
  · simp [R]
  · have hl := log2_mono hm h
    unfold R
    rw [if_neg (by omega), if_neg (by omega)]
    have key : (max (p + m.log2 - 52) (-1074) - (-1074)).toNat * 4503599627370496 + rhe (m <<< (p - max (p + m.log2 - 52) (-1074)).toNat) (2 ^ (max (p + m.log2 - 52) (-1074) - p).toNat) ≤
        (max (p + n.log2 - 52) (-1074) - (-1074)).toNat * 4503599627370496 + rhe (n <<< (p - max (p + n.log2 - 52) (-1074)).toNat) (2 ^ (max (p + n.log2 - 52) (-1074) - p).toNat) := by
      generalize hL : max (p + m.log2 - 52) (-1074) = L
      generalize hK : max (p + n.log2 - 52) (-1074) = K
      rcases Int.lt_or_eq_of_le (show L ≤ K by omega) with hlt | rfl
      · -- the greater one has a greater last place
        exact comb _ _ _ _ _ (by omega) (rhe_hi m (p - L).toNat (L - p).toNat (by omega)) (rhe_lo n (p - K).toNat (K - p).toNat (by omega) (by omega))
      · apply Nat.add_le_add_left
        rw [Nat.shiftLeft_eq, Nat.shiftLeft_eq]
        exact rhe_mono (Nat.two_pow_pos _) (Nat.mul_le_mul_right _ h)
    omega

/-- What a whole number of units of '2 ^ p' is rounded to, with its sign. -/
def RS (t : Int) (p : Int) : Int := if t < 0 then -(R t.natAbs p : Int) else (R t.natAbs p : Int)
theorem RS_mono {t u : Int} (p : Int) (h : t ≤ u) : RS t p ≤ RS u p := by
  unfold RS
  split
  · split
    · have := R_mono p (show u.natAbs ≤ t.natAbs by omega)
      omega
    · omega
  · rw [if_neg (by omega)]
    have := R_mono p (show t.natAbs ≤ u.natAbs by omega)
    omega
theorem RS_scale (t : Int) (a : Nat) (p : Int) : RS (t * (2 ^ a : Nat)) (p - a) = RS t p := by
  unfold RS
  have hp : (0 : Int) < ((2 ^ a : Nat) : Int) := by
    have := Nat.two_pow_pos a
    omega
  have e : (t * (2 ^ a : Nat)).natAbs = t.natAbs * 2 ^ a := by rw [Int.natAbs_mul, Int.natAbs_natCast]
  rw [e, R_scale]
  have : t * ((2 ^ a : Nat) : Int) < 0 ↔ t < 0 := by
    constructor
    · intro h
      rcases Int.lt_or_le t 0 with c | c
      · exact c
      · have := Int.mul_nonneg c (Int.le_of_lt hp)
        omega
    · intro h
      exact Int.mul_neg_of_neg_of_pos h hp
  simp only [this]
theorem word_key (neg : Bool) (r : Nat) (h : r ≤ 9218868437227405312) : key (double.word neg r) = sg neg r ∧ isN (double.word neg r) ∧ double.word neg r < 18446744073709551616 := by
  cases neg
  · have : double.word false r = r := rfl
    rw [this]
    unfold key isN sg
    rw [if_pos (by omega)]
    refine ⟨rfl, by omega, by omega⟩
  · have : double.word true r = 9223372036854775808 + r := rfl
    rw [this]
    unfold key isN sg
    refine ⟨?_, by omega, by omega⟩
    split
    · omega
    · simp only [if_true]; omega
end Go.Proofs.Ytbbbiicjiagmiaa
