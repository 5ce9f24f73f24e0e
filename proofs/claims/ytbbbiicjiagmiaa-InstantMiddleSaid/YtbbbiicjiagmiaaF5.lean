/- Helper lemmas: a sum of floats goes both ways, and with a greater one it is never lesser. No condition. -/
import Derived.Test.YtbbbiicjiagmiaaF4
set_option linter.unusedVariables false
namespace Go.Proofs.Ytbbbiicjiagmiaa
open Ieee

/-- What a finite float is worth, in least units. -/
def vz (b : Nat) : Int := sg (ng b) (V (b % 9223372036854775808))
/-- The bits stand for a number. -/
def Fin64 (b : Nat) : Prop := b % 9223372036854775808 < 9218868437227405312

theorem sum_comm (d e : Datum) : d.sum e = e.sum d := by
  cases d with
  | nan s t => cases e <;> rfl
  | infinity s =>
    cases e with
    | nan => rfl
    | infinity t => cases s <;> cases t <;> rfl
    | number => rfl
  | number s m i =>
    cases e with
    | nan => rfl
    | infinity t => rfl
    | number t n j =>
      simp only [Datum.sum]
      rw [Int.min_comm i j, Int.add_comm, Bool.and_comm]
theorem add_comm64 (a b : Nat) : double.add a b = double.add b a := by
  unfold Format.add
  rw [sum_comm]

theorem sg_zero (n : Bool) : sg n 0 = 0 := by cases n <;> rfl
theorem add_fin (a b : Nat) (ha : Fin64 a) (hb : Fin64 b) : ∃ r, double.add a b = some r ∧ key r = RS (vz a + vz b) (-1074) ∧ isN r ∧ r < 18446744073709551616 := by
  obtain ⟨m, i, e1, hi, v1⟩ := read_fin a ha
  obtain ⟨n, j, e2, hj, v2⟩ := read_fin b hb
  unfold Format.add
  rw [e1, e2]
  simp only [Datum.sum, Option.map_some]
  refine ⟨_, rfl, ?_⟩
  have hva : signed (ng a) m (i - min i j).toNat * ((2 ^ (min i j - (-1074)).toNat : Nat) : Int) = vz a := by
    unfold vz
    rw [signed_sg, ← sg_mul, Nat.mul_assoc, ← Nat.pow_add, show (i - min i j).toNat + (min i j - (-1074)).toNat = (i - (-1074)).toNat by omega, v1]
  have hvb : signed (ng b) n (j - min i j).toNat * ((2 ^ (min i j - (-1074)).toNat : Nat) : Int) = vz b := by
    unfold vz
    rw [signed_sg, ← sg_mul, Nat.mul_assoc, ← Nat.pow_add, show (j - min i j).toNat + (min i j - (-1074)).toNat = (j - (-1074)).toNat by omega, v2]
  generalize hT : signed (ng a) m (i - min i j).toNat + signed (ng b) n (j - min i j).toNat = T
  have hs := RS_scale T (min i j - (-1074)).toNat (min i j)
  rw [show min i j - ((min i j - (-1074)).toNat : Int) = -1074 by omega, ← hT, Int.add_mul, hva, hvb, hT] at hs
  rw [hs]
  show key (double.nearest _ _ _) = _ ∧ isN (double.nearest _ _ _) ∧ double.nearest _ _ _ < _
  rw [nearest_R]
  have hw := word_key (if T = 0 then ng a && ng b else decide (T < 0)) (R T.natAbs (min i j)) (R_le _ _)
  refine ⟨?_, hw.2⟩
  rw [hw.1]
  unfold RS
  by_cases h0 : T = 0
  · subst h0
    have : R (Int.natAbs 0) (min i j) = 0 := by simp [R]
    rw [this, sg_zero]
    rfl
  · rw [if_neg h0]
    by_cases h1 : T < 0
    · rw [decide_eq_true h1, if_pos h1]; rfl
    · rw [decide_eq_false h1, if_neg h1]; rfl
theorem key_bound (r : Nat) (hr : r < 18446744073709551616) (hn : isN r) : -9218868437227405312 ≤ key r ∧ key r ≤ 9218868437227405312 := by
  unfold isN at hn
  unfold key
  split <;> omega
theorem key_inf (b : Nat) (hb : b < 18446744073709551616) (h : b % 9223372036854775808 = 9218868437227405312) : (ng b = false ∧ key b = 9218868437227405312) ∨ (ng b = true ∧ key b = -9218868437227405312) := by
  rw [key_sg b hb, h]
  cases ng b
  · exact Or.inl ⟨rfl, rfl⟩
  · exact Or.inr ⟨rfl, rfl⟩
theorem write_inf (s : Bool) : key (double.write (.infinity s)) = sg s 9218868437227405312 ∧ isN (double.write (.infinity s)) ∧ double.write (.infinity s) < 18446744073709551616 := by
  have := word_key s 9218868437227405312 (Nat.le_refl _)
  exact this
/-- What a sum is, by its key. -/
theorem add_key (a b r : Nat) (ha : a < 18446744073709551616) (hb : b < 18446744073709551616) (na : isN a) (nb : isN b) (h : double.add a b = some r) :
    isN r ∧ r < 18446744073709551616 ∧ ((Fin64 a ∧ Fin64 b ∧ key r = RS (vz a + vz b) (-1074)) ∨ (¬ Fin64 a ∧ key r = key a) ∨ (Fin64 a ∧ ¬ Fin64 b ∧ key r = key b)) := by
  by_cases fa : Fin64 a
  · by_cases fb : Fin64 b
    · obtain ⟨r', e, k, n, l⟩ := add_fin a b fa fb
      rw [e] at h
      injection h with h
      subst h
      exact ⟨n, l, Or.inl ⟨fa, fb, k⟩⟩
    · have hi : b % 9223372036854775808 = 9218868437227405312 := by unfold isN at nb; unfold Fin64 at fb; omega
      obtain ⟨m, i, e1, _⟩ := read_fin a fa
      unfold Format.add at h
      rw [e1, read_inf b hi] at h
      simp only [Datum.sum, Option.map_some] at h
      injection h with h
      subst h
      obtain ⟨k, n, l⟩ := write_inf (ng b)
      refine ⟨n, l, Or.inr (Or.inr ⟨fa, fb, ?_⟩)⟩
      rw [k, key_sg b hb, hi]
  · have hi : a % 9223372036854775808 = 9218868437227405312 := by unfold isN at na; unfold Fin64 at fa; omega
    have hr : r = double.write (.infinity (ng a)) := by
      unfold Format.add at h
      rw [read_inf a hi] at h
      by_cases fb : Fin64 b
      · obtain ⟨m, i, e1, _⟩ := read_fin b fb
        rw [e1] at h
        simp only [Datum.sum, Option.map_some] at h
        injection h with h
        exact h.symm
      · have hj : b % 9223372036854775808 = 9218868437227405312 := by unfold isN at nb; unfold Fin64 at fb; omega
        rw [read_inf b hj] at h
        simp only [Datum.sum] at h
        split at h
        · injection h with h
          exact h.symm
        · cases h
    subst hr
    obtain ⟨k, n, l⟩ := write_inf (ng a)
    refine ⟨n, l, Or.inr (Or.inl ⟨fa, ?_⟩)⟩
    rw [k, key_sg a ha, hi]
theorem vz_mono (b c : Nat) (hb : b < 18446744073709551616) (hc : c < 18446744073709551616) (h : key b ≤ key c) : vz b ≤ vz c := by
  rw [key_sg b hb, key_sg c hc] at h
  unfold vz
  generalize b % 9223372036854775808 = r at *
  generalize c % 9223372036854775808 = s at *
  have h1 := @V_iff r s
  have h2 := @V_iff s r
  clear hb hc
  generalize ng b = p at *
  generalize ng c = q at *
  cases p <;> cases q
  · change (r : Int) ≤ (s : Int) at h
    show (V r : Int) ≤ (V s : Int)
    omega
  · change (r : Int) ≤ -(s : Int) at h
    obtain rfl : r = 0 := by omega
    obtain rfl : s = 0 := by omega
    exact Int.le_refl _
  · show -(V r : Int) ≤ (V s : Int)
    omega
  · change -(r : Int) ≤ -(s : Int) at h
    show -(V r : Int) ≤ -(V s : Int)
    omega
/-- With a greater float a sum is never lesser. -/
theorem add_mono (a b c r q : Nat) (ha : a < 18446744073709551616) (hb : b < 18446744073709551616) (hc : c < 18446744073709551616) (na : isN a) (nb : isN b) (nc : isN c) (h : key b ≤ key c)
    (h1 : double.add a b = some r) (h2 : double.add a c = some q) : key r ≤ key q := by
  obtain ⟨n1, l1, k1⟩ := add_key a b r ha hb na nb h1
  obtain ⟨n2, l2, k2⟩ := add_key a c q ha hc na nc h2
  have b1 := key_bound r l1 n1
  have b2 := key_bound q l2 n2
  have bb := key_bound b hb nb
  have bc := key_bound c hc nc
  have ib : ¬ Fin64 b → key b = 9218868437227405312 ∨ key b = -9218868437227405312 := fun hf => by
    have hi : b % 9223372036854775808 = 9218868437227405312 := by unfold isN at nb; unfold Fin64 at hf; omega
    rcases key_inf b hb hi with ⟨_, k⟩ | ⟨_, k⟩
    · exact Or.inl k
    · exact Or.inr k
  have ic : ¬ Fin64 c → key c = 9218868437227405312 ∨ key c = -9218868437227405312 := fun hf => by
    have hi : c % 9223372036854775808 = 9218868437227405312 := by unfold isN at nc; unfold Fin64 at hf; omega
    rcases key_inf c hc hi with ⟨_, k⟩ | ⟨_, k⟩
    · exact Or.inl k
    · exact Or.inr k
  rcases k1 with ⟨fa, fb, k1⟩ | ⟨fa, k1⟩ | ⟨fa, fb, k1⟩
  · rcases k2 with ⟨_, fc, k2⟩ | ⟨fa', _⟩ | ⟨_, fc, k2⟩
    · rw [k1, k2]
      exact RS_mono _ (Int.add_le_add_left (vz_mono b c hb hc h) _)
    · exact absurd fa fa'
    · rcases ic fc with e | e
      · omega
      · exfalso
        have hkb : key b = -9218868437227405312 := by omega
        have : b % 9223372036854775808 = 9218868437227405312 := by
          unfold key at hkb
          split at hkb <;> omega
        unfold Fin64 at fb
        omega
  · rcases k2 with ⟨fa', _⟩ | ⟨_, k2⟩ | ⟨fa', _⟩
    · exact absurd fa' fa
    · omega
    · exact absurd fa' fa
  · rcases ib fb with e | e
    · have hkc : key c = 9218868437227405312 := by omega
      rcases k2 with ⟨_, fc, k2⟩ | ⟨fa', _⟩ | ⟨_, fc, k2⟩
      · exfalso
        have : c % 9223372036854775808 = 9218868437227405312 := by
          unfold key at hkc
          split at hkc <;> omega
        unfold Fin64 at fc
        omega
      · exact absurd fa fa'
      · omega
    · omega
end Go.Proofs.Ytbbbiicjiagmiaa
