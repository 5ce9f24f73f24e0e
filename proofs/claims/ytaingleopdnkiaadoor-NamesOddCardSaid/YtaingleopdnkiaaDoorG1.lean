/- Helper lemmas: numbers by signs of sixteen kinds. No condition. -/
import Derived.Test.YtaingleopdnkiaaDoorA6
import Derived.Test.YtaingleopdnkiaaDoorB3
import Derived.Laws.BitsAllLaws
set_option linter.unusedSimpArgs false
set_option linter.unusedVariables false
namespace Go.Proofs.YtaingleopdnkiaaDoor
open Go.RowKit

theorem seg_dat (s : ByteArray) (a b : Nat) : (s.extract a b).data.toList = (s.data.toList.drop a).take (b - a) := by
  simp [List.take_drop]
/-- Bytes as a text. -/
def bsG (l : List UInt8) : ByteArray := ⟨l.toArray⟩
/-- The signs. -/
def digS : ByteArray := ⟨#[48, 49, 50, 51, 52, 53, 54, 55, 56, 57, 97, 98, 99, 100, 101, 102]⟩
/-- A sign. -/
def dig (k : Nat) : UInt8 := digS.data.toList.getD k 0
/-- The last k signs of a number. -/
def padD : Nat → Nat → List UInt8
  | 0, _ => []
  | k + 1, n => padD k (n / 16) ++ [dig (n % 16)]
theorem padD_len : ∀ k n, (padD k n).length = k
  | 0, _ => rfl
  | k + 1, n => by rw [padD, List.length_append, padD_len k]; rfl
theorem padD_front : ∀ k n, padD (k + 1) n = dig (n / 16 ^ k % 16) :: padD k n
  | 0, n => by simp [padD]
  | k + 1, n => by
    rw [padD, padD_front k (n / 16)]
    rw [List.cons_append]
    rw [show padD k (n / 16) ++ [dig (n % 16)] = padD (k + 1) n from rfl]
    rw [Nat.div_div_eq_div_mul, Nat.pow_succ, Nat.mul_comm 16]
theorem padD_drop (b n : Nat) : ∀ a, (padD (a + b) n).drop a = padD b n
  | 0 => by rw [Nat.zero_add]; rfl
  | a + 1 => by
    rw [show a + 1 + b = (a + b) + 1 by omega, padD_front, List.drop_succ_cons]
    exact padD_drop b n a
/-- How many signs a number has. -/
def lenD (n : Nat) : Nat := if h : n < 16 then 1 else lenD (n / 16) + 1
termination_by n
decreasing_by omega
theorem lenD_small {n : Nat} (h : n < 16) : lenD n = 1 := by rw [lenD, dif_pos h]
theorem lenD_big {n : Nat} (h : ¬ n < 16) : lenD n = lenD (n / 16) + 1 := by rw [lenD, dif_neg h]
theorem lenD_pos (n : Nat) : 1 ≤ lenD n := by
  by_cases h : n < 16
  · rw [lenD_small h]; exact Nat.le_refl _
  · rw [lenD_big h]; omega
theorem lt_lenD : ∀ (j n : Nat), 1 ≤ j → (j < lenD n ↔ 16 ^ j ≤ n)
  | 0, _, h => by omega
  | 1, n, _ => by
    by_cases h : n < 16
    · rw [lenD_small h]; simp; omega
    · rw [lenD_big h]
      have := lenD_pos (n / 16)
      constructor
      · intro; simp; omega
      · intro; omega
  | j + 2, n, _ => by
    have hp : 16 ^ (j + 2) = 16 ^ (j + 1) * 16 := Nat.pow_succ ..
    have hpos : 1 ≤ 16 ^ (j + 1) := Nat.pow_pos (by omega)
    by_cases h : n < 16
    · rw [lenD_small h]
      constructor
      · intro h; omega
      · intro h; omega
    · rw [lenD_big h]
      have ih := lt_lenD (j + 1) (n / 16) (by omega)
      have hd : 16 ^ (j + 1) ≤ n / 16 ↔ 16 ^ (j + 1) * 16 ≤ n := Nat.le_div_iff_mul_le (by omega)
      rw [hp]
      constructor
      · intro h; exact hd.1 (ih.1 (by omega))
      · intro h; have := ih.2 (hd.2 h); omega
theorem lenD_lt (n : Nat) : n < 16 ^ lenD n := by
  have := lt_lenD (lenD n) n (lenD_pos n)
  omega
theorem lenD_le (k n : Nat) (hk : 1 ≤ k) (h : n < 16 ^ k) : lenD n ≤ k := by
  have := lt_lenD k n hk
  omega
theorem more_lenD (j n : Nat) : (0 < n / 16 ^ j ∨ j = 0) ↔ j < lenD n := by
  have hpos : 0 < 16 ^ j := Nat.pow_pos (by omega)
  by_cases h0 : j = 0
  · subst h0
    have := lenD_pos n
    constructor
    · intro; omega
    · intro; exact Or.inr rfl
  · rw [lt_lenD j n (by omega)]
    have hd : 1 ≤ n / 16 ^ j ↔ 1 * 16 ^ j ≤ n := Nat.le_div_iff_mul_le hpos
    rw [Nat.one_mul] at hd
    rw [← hd]
    constructor
    · intro h; rcases h with h | h
      · exact h
      · exact absurd h h0
    · intro h; exact Or.inl h
theorem dig_lt (k : Nat) (h : k < 16) : ∀ P : UInt8 → Prop, (∀ x ∈ digS.data.toList, P x) → P (dig k) := fun P hP => hP _ (by
  unfold dig
  rw [List.getD_eq_getElem?_getD, List.getElem?_eq_getElem (show k < digS.data.toList.length from h)]
  exact List.getElem_mem _)
/-- The name of an event, by its signs. -/
def oddL (n d : Nat) : List UInt8 := [99] ++ padD (min (lenD n) 12) n ++ [45] ++ [dig d]
theorem last_12 (n : Nat) : (padD (lenD n) n).drop (lenD n - 12) = padD (min (lenD n) 12) n := by
  have h := padD_drop (min (lenD n) 12) n (lenD n - 12)
  rw [show lenD n - 12 + min (lenD n) 12 = lenD n by omega] at h
  exact h
end Go.Proofs.YtaingleopdnkiaaDoor
