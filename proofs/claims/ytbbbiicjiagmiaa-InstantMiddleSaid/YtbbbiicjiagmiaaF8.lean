/- Helper lemmas: a float is rounded to itself; half of one that is not too small is exact; a middle lies between. No condition. -/
import Derived.Test.YtbbbiicjiagmiaaF6
import Derived.Test.YtbbbiicjiagmiaaI7
set_option linter.unusedVariables false
namespace Go.Proofs.Ytbbbiicjiagmiaa
open Ieee

theorem log2_top (K e : Nat) (h1 : 4503599627370496 ≤ K) (h2 : K < 9007199254740992) : (K * 2 ^ e).log2 = 52 + e := by
  have h : K.log2 = 52 := by
    rw [Nat.log2_eq_iff (by omega)]
    exact ⟨h1, h2⟩
  rw [log2_scale K e (by omega), h]
/-- A float is rounded to itself. -/
theorem R_V (r : Nat) (h : r < 9218868437227405312) : R (V r) (-1074) = r := by
  rcases Nat.eq_zero_or_pos r with rfl | hpos
  · rfl
  · rcases Nat.lt_or_ge r 4503599627370496 with c | c
    · have hv : V r = r := by unfold V; rw [if_pos c]
      rw [hv]
      unfold R
      rw [if_neg (by omega)]
      have hl : r.log2 ≤ 52 := by
        have h3 : r < 2 ^ 53 := Nat.lt_trans c (by decide)
        have := (Nat.log2_lt (by omega) (k := 53)).2 h3
        omega
      generalize r.log2 = l at *
      rw [show max ((-1074 : Int) + (l : Int) - 52) (-1074) = -1074 by omega, show ((-1074 : Int) - (-1074)).toNat = 0 by decide, Nat.pow_zero, Nat.shiftLeft_zero, Nat.zero_mul, Nat.zero_add]
      have h := rhe_mul r 1 (by decide)
      rw [Nat.mul_one] at h
      rw [h]
      omega
    · obtain ⟨e, K, h1, h2, rfl⟩ : ∃ e K, 4503599627370496 ≤ K ∧ K < 9007199254740992 ∧ e * 4503599627370496 + K = r :=
        ⟨r / 4503599627370496 - 1, 4503599627370496 + r % 4503599627370496, by omega, by omega, by omega⟩
      rw [V_top e K h1 h2]
      have hk : K * 2 ^ e ≠ 0 := Nat.pos_iff_ne_zero.1 (Nat.mul_pos (by omega) (Nat.two_pow_pos e))
      unfold R
      rw [if_neg hk, log2_top K e h1 h2]
      rw [show max ((-1074 : Int) + ((52 + e : Nat) : Int) - 52) (-1074) = -1074 + (e : Int) by omega, show ((-1074 : Int) + (e : Int) - (-1074)).toNat = e by omega, show ((-1074 : Int) - (-1074 + (e : Int))).toNat = 0 by omega, Nat.shiftLeft_zero, rhe_mul K _ (Nat.two_pow_pos e)]
      omega
theorem RS_key (x : Nat) (hx : x < 18446744073709551616) (hf : Fin64 x) : RS (vz x) (-1074) = key x := by
  unfold Fin64 at hf
  rw [key_sg x hx]
  unfold vz RS
  have e := R_V (x % 9223372036854775808) hf
  generalize x % 9223372036854775808 = r at *
  cases ng x
  · show (if (V r : Int) < 0 then -(R (Int.natAbs (V r : Int)) (-1074) : Int) else (R (Int.natAbs (V r : Int)) (-1074) : Int)) = (r : Int)
    rw [if_neg (by omega), Int.natAbs_natCast, e]
  · show (if -(V r : Int) < 0 then -(R (Int.natAbs (-(V r : Int))) (-1074) : Int) else (R (Int.natAbs (-(V r : Int))) (-1074) : Int)) = -(r : Int)
    rw [Int.natAbs_neg, Int.natAbs_natCast, e]
    split
    · rfl
    · have h0 : V r = 0 := by omega
      rw [h0] at e
      have : R 0 (-1074) = 0 := rfl
      omega
/-- Half of a float that is not too small. -/
theorem half_word (x : Nat) (hx : x < 18446744073709551616) (hf : Fin64 x) (hb : 9007199254740992 ≤ x % 9223372036854775808) : halfV x = double.word (ng x) (x % 9223372036854775808 - 4503599627370496) := by
  have hm := (half_is x (Nat.le_of_lt hf)).2
  obtain ⟨m, i, e1, hi, v⟩ := read_fin x hf
  have eh : double.read 4602678819172646912 = .number false 4503599627370496 (-53) := by decide +kernel
  have h2 : double.mul x 4602678819172646912 = some (halfV x) := hm
  have h3 : double.mul x 4602678819172646912 = some (double.nearest (ng x ^^ false) (m * 4503599627370496) (i + -53)) := by
    unfold Format.mul
    rw [e1, eh]
    rfl
  have h4 := Option.some.inj (h2.symm.trans h3)
  rw [h4, Bool.xor_false]
  rw [nearest_R]
  refine congrArg (double.word (ng x)) ?_
  unfold Fin64 at hf
  generalize x % 9223372036854775808 = r at *
  have hV : V r = V (r - 4503599627370496) * 2 ^ 1 := by
    obtain ⟨e, K, k1, k2, rfl⟩ : ∃ e K, 4503599627370496 ≤ K ∧ K < 9007199254740992 ∧ (e + 1) * 4503599627370496 + K = r :=
      ⟨r / 4503599627370496 - 2, 4503599627370496 + r % 4503599627370496, by omega, by omega, by omega⟩
    rw [V_top (e + 1) K k1 k2, show (e + 1) * 4503599627370496 + K - 4503599627370496 = e * 4503599627370496 + K by omega, V_top e K k1 k2, Nat.pow_succ, Nat.mul_assoc]
  have e52 : (4503599627370496 : Nat) = 2 ^ 52 := by decide
  have s1 : R (m * 4503599627370496) (i + -53) = R m (i - 1) := by
    have := R_scale m 52 (i - 1)
    rw [← this, ← e52, show (i - 1 - ((52 : Nat) : Int)) = i + -53 by omega]
  have s2 : R m (i - 1) = R (m * 2 ^ (i - (-1074)).toNat) (-1074 - 1) := by
    have := R_scale m (i - (-1074)).toNat (i - 1)
    rw [← this, show (i - 1 - ((i - (-1074)).toNat : Int)) = -1074 - 1 by omega]
  rw [s1, s2, v, hV]
  have s3 := R_scale (V (r - 4503599627370496)) 1 (-1074)
  rw [show ((-1074 : Int) - ((1 : Nat) : Int)) = -1074 - 1 by rfl] at s3
  rw [s3]
  exact R_V _ (by omega)
end Go.Proofs.Ytbbbiicjiagmiaa
