/- Helper lemmas: the middle of two floats is there, but for those without end both ways, and lies between. No condition. -/
import Derived.Test.YtbbbiicjiagmiaaF8
set_option linter.unusedVariables false
namespace Go.Proofs.Ytbbbiicjiagmiaa
open Ieee

theorem half_mul (x : Nat) (hn : isN x) : double.mul x 4602678819172646912 = some (halfV x) := (half_is x hn).2
/-- Half of a float: its sign, and whether it is without end. -/
theorem half_gen (x : Nat) (hn : isN x) : ∃ h, halfV x = double.word (ng x) h ∧ h ≤ 9218868437227405312 ∧ (h < 9218868437227405312 ↔ Fin64 x) := by
  have hm := half_mul x hn
  have eh : double.read 4602678819172646912 = .number false 4503599627370496 (-53) := by decide +kernel
  by_cases hf : Fin64 x
  · obtain ⟨m, i, e1, hi, v⟩ := read_fin x hf
    have h3 : double.mul x 4602678819172646912 = some (double.nearest (ng x ^^ false) (m * 4503599627370496) (i + -53)) := by
      unfold Format.mul
      rw [e1, eh]
      rfl
    have h4 := Option.some.inj (hm.symm.trans h3)
    rw [Bool.xor_false, nearest_R] at h4
    refine ⟨_, h4, R_le _ _, ?_⟩
    have e52 : (4503599627370496 : Nat) = 2 ^ 52 := by decide
    have s1 : R (m * 4503599627370496) (i + -53) = R m (i - 1) := by
      have := R_scale m 52 (i - 1)
      rw [← this, ← e52, show (i - 1 - ((52 : Nat) : Int)) = i + -53 by omega]
    have s2 : R (m * 2 ^ 1) (i - 1) = R m i := by
      have := R_scale m 1 i
      rw [show (i - ((1 : Nat) : Int)) = i - 1 by rfl] at this
      exact this
    have s3 : R m i = x % 9223372036854775808 := by
      have := R_scale m (i - (-1074)).toNat i
      rw [v, show (i - ((i - (-1074)).toNat : Int)) = -1074 by omega, R_V _ hf] at this
      exact this.symm
    have s4 := R_mono (i - 1) (show m ≤ m * 2 ^ 1 by omega)
    rw [s2, s3] at s4
    rw [s1]
    unfold Fin64 at hf ⊢
    exact ⟨fun _ => hf, fun _ => Nat.lt_of_le_of_lt s4 hf⟩
  · have hi : x % 9223372036854775808 = 9218868437227405312 := by unfold isN at hn; unfold Fin64 at hf; omega
    have h3 : double.mul x 4602678819172646912 = some (double.word (ng x ^^ false) 9218868437227405312) := by
      unfold Format.mul
      rw [read_inf x hi, eh]
      rfl
    have h4 := Option.some.inj (hm.symm.trans h3)
    rw [Bool.xor_false] at h4
    exact ⟨_, h4, Nat.le_refl _, fun h => absurd h (Nat.lt_irrefl _), fun h => absurd h hf⟩
/-- What half of a float is. -/
theorem half_facts (x : Nat) (hn : isN x) : isN (halfV x) ∧ halfV x < 18446744073709551616 ∧ ng (halfV x) = ng x ∧ (Fin64 (halfV x) ↔ Fin64 x) := by
  obtain ⟨h, e, l, f⟩ := half_gen x hn
  rw [e]
  obtain ⟨k, n, b⟩ := word_key (ng x) h l
  refine ⟨n, b, word_ng _ _ l, ?_⟩
  rw [← f]
  unfold Fin64
  rw [word_mod _ _ l]
theorem half_inf (x : Nat) (hx : x < 18446744073709551616) (hn : isN x) (hf : ¬ Fin64 x) : key (halfV x) = key x := by
  obtain ⟨h, e, l, f⟩ := half_gen x hn
  have hh : h = 9218868437227405312 := by
    have : ¬ h < 9218868437227405312 := fun c => hf (f.1 c)
    omega
  have hi : x % 9223372036854775808 = 9218868437227405312 := by unfold isN at hn; unfold Fin64 at hf; omega
  rw [e, hh, (word_key _ _ (Nat.le_refl _)).1, key_sg x hx, hi]
theorem V_half (r : Nat) (hb : 9007199254740992 ≤ r) : V r = V (r - 4503599627370496) * 2 ^ 1 := by
  obtain ⟨e, K, k1, k2, rfl⟩ : ∃ e K, 4503599627370496 ≤ K ∧ K < 9007199254740992 ∧ (e + 1) * 4503599627370496 + K = r :=
    ⟨r / 4503599627370496 - 2, 4503599627370496 + r % 4503599627370496, by omega, by omega, by omega⟩
  rw [V_top (e + 1) K k1 k2, show (e + 1) * 4503599627370496 + K - 4503599627370496 = e * 4503599627370496 + K by omega, V_top e K k1 k2, Nat.pow_succ, Nat.mul_assoc]
theorem sg_two (s : Bool) (u v : Nat) (h : v = u * 2 ^ 1) : 2 * sg s u = sg s v := by
  subst h
  rw [Nat.pow_one]
  unfold sg
  cases s
  · simp only [Bool.false_eq_true, if_false]; omega
  · simp only [if_true]; omega
theorem vz_word (s : Bool) (r : Nat) (h : r ≤ 9218868437227405312) : vz (double.word s r) = sg s (V r) := by
  unfold vz
  rw [word_mod _ _ h, word_ng _ _ h]
theorem half_fin (x : Nat) (hx : x < 18446744073709551616) (hf : Fin64 x) (hb : 9007199254740992 ≤ x % 9223372036854775808) : 2 * vz (halfV x) = vz x := by
  have e := half_word x hx hf hb
  unfold Fin64 at hf
  have hl : x % 9223372036854775808 - 4503599627370496 ≤ 9218868437227405312 := by omega
  have e2 := vz_word (ng x) _ hl
  rw [← e] at e2
  rw [e2]
  exact sg_two _ _ _ (V_half _ hb)
/-- A middle lies between. -/
theorem mid_between (p q r : Nat) (hp : p < 18446744073709551616) (hq : q < 18446744073709551616) (np : isN p) (nq : isN q) (cp : 9007199254740992 ≤ p % 9223372036854775808) (cq : 9007199254740992 ≤ q % 9223372036854775808)
    (h : key p ≤ key q) (hr : double.add (halfV p) (halfV q) = some r) : key p ≤ key r ∧ key r ≤ key q ∧ isN r ∧ r < 18446744073709551616 := by
  obtain ⟨n1, l1, g1, f1⟩ := half_facts p np
  obtain ⟨n2, l2, g2, f2⟩ := half_facts q nq
  obtain ⟨nr, lr, k⟩ := add_key _ _ r l1 l2 n1 n2 hr
  rcases k with ⟨fa, fb, k⟩ | ⟨fa, k⟩ | ⟨fa, fb, k⟩
  · have e1 := half_fin p hp (f1.1 fa) cp
    have e2 := half_fin q hq (f2.1 fb) cq
    have m := vz_mono p q hp hq h
    have k1 := RS_key p hp (f1.1 fa)
    have k2 := RS_key q hq (f2.1 fb)
    rw [k, ← k1, ← k2]
    exact ⟨RS_mono _ (by omega), RS_mono _ (by omega), nr, lr⟩
  · have := half_inf p hp np (fun c => fa (f1.2 c))
    rw [k, this]
    exact ⟨Int.le_refl _, h, nr, lr⟩
  · have := half_inf q hq nq (fun c => fb (f2.2 c))
    rw [k, this]
    exact ⟨h, Int.le_refl _, nr, lr⟩
/-- A sum is there, but for two without end both ways. -/
theorem add_some (a b : Nat) (na : isN a) (nb : isN b) (h : Fin64 a ∨ Fin64 b ∨ ng a = ng b) : ∃ r, double.add a b = some r := by
  unfold Format.add
  by_cases fa : Fin64 a
  · obtain ⟨m, i, e1, _⟩ := read_fin a fa
    rw [e1]
    by_cases fb : Fin64 b
    · obtain ⟨n, j, e2, _⟩ := read_fin b fb
      rw [e2]
      exact ⟨_, rfl⟩
    · rw [read_inf b (by unfold isN at nb; unfold Fin64 at fb; omega)]
      exact ⟨_, rfl⟩
  · rw [read_inf a (by unfold isN at na; unfold Fin64 at fa; omega)]
    by_cases fb : Fin64 b
    · obtain ⟨n, j, e2, _⟩ := read_fin b fb
      rw [e2]
      exact ⟨_, rfl⟩
    · rw [read_inf b (by unfold isN at nb; unfold Fin64 at fb; omega)]
      have e : ng a = ng b := by
        rcases h with h | h | h
        · exact absurd h fa
        · exact absurd h fb
        · exact h
      rw [e]
      refine ⟨double.write (.infinity (ng b)), ?_⟩
      simp only [Datum.sum, if_true, Option.map_some]
end Go.Proofs.Ytbbbiicjiagmiaa
