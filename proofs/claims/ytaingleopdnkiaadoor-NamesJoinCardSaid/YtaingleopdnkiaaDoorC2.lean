/- Helper lemmas: texts cut at every slash. No condition. -/
import Derived.Test.YtaingleopdnkiaaDoorB2
import Derived.Lib.IndexBytes
set_option linter.unusedSimpArgs false
set_option linter.unusedVariables false
namespace Go.Proofs.YtaingleopdnkiaaDoor
open Go.RowKit

/-- Signs cut at every slash. -/
def cuts : List UInt8 → List (List UInt8)
  | [] => [[]]
  | b :: l => if b == 47 then [] :: cuts l else match cuts l with
    | x :: r => (b :: x) :: r
    | [] => [[b]]
theorem cuts_ne : ∀ l, cuts l ≠ []
  | [] => by simp [cuts]
  | b :: l => by
    unfold cuts
    split
    · simp
    · split <;> simp
theorem cuts_miss : ∀ l : List UInt8, Lib.indexByte l 47 = -1 → cuts l = [l]
  | [], _ => rfl
  | b :: l, h => by
    rw [Lib.indexByte] at h
    by_cases h47 : (b == 47) = true
    · rw [if_pos h47] at h; omega
    · rw [if_neg h47] at h
      have h1 : Lib.indexByte l 47 = -1 := by
        by_cases h1 : Lib.indexByte l 47 = -1
        · exact h1
        · have h2 : ¬ (Lib.indexByte l 47 == -1) = true := by simpa using h1
          rw [if_neg h2] at h
          have := Lib.indexByte_ge l 47
          omega
      rw [cuts, if_neg h47, cuts_miss l h1]
theorem cuts_hit : ∀ (l : List UInt8) (i : Nat), Lib.indexByte l 47 = (i : Int) → cuts l = l.take i :: cuts (l.drop (i + 1))
  | [], i, h => by
    rw [Lib.indexByte] at h
    omega
  | b :: l, i, h => by
    rw [Lib.indexByte] at h
    by_cases h47 : (b == 47) = true
    · rw [if_pos h47] at h
      obtain rfl : i = 0 := by omega
      rw [cuts, if_pos h47]
      rfl
    · rw [if_neg h47] at h
      by_cases h1 : Lib.indexByte l 47 = -1
      · have h2 : (Lib.indexByte l 47 == -1) = true := by simpa using h1
        rw [if_pos h2] at h
        omega
      · have h2 : ¬ (Lib.indexByte l 47 == -1) = true := by simpa using h1
        rw [if_neg h2] at h
        have := Lib.indexByte_ge l 47
        obtain ⟨k, rfl⟩ : ∃ k, i = k + 1 := ⟨i - 1, by omega⟩
        rw [cuts, if_neg h47, cuts_hit l k (by omega)]
        rfl
theorem slash_at (s : ByteArray) : Lib.indexB s ⟨#[47]⟩ = Lib.indexByte s.data.toList 47 := Lib.index_one _ _
theorem splitB_cuts : ∀ (k : Nat) (s : ByteArray), Lib.countB s ⟨#[47]⟩ = k → (Lib.splitB ⟨#[47]⟩ 0 k s).map (·.data.toList) = cuts s.data.toList
  | 0, s, hk => by
    rcases Lib.indexB_cases s ⟨#[47]⟩ with hix | ⟨i, hix, _⟩
    · rw [cuts_miss _ ((slash_at s).symm.trans hix)]; rfl
    · have := Lib.countB_hit s ⟨#[47]⟩ i (by decide) hix
      omega
  | k + 1, s, hk => by
    rcases Lib.indexB_cases s ⟨#[47]⟩ with hix | ⟨i, hix, _⟩
    · rw [Lib.countB_miss s ⟨#[47]⟩ hix] at hk; omega
    · have h1 := Lib.countB_hit s ⟨#[47]⟩ i (by decide) hix
      have ih := splitB_cuts k (s.extract (i + 1) s.size) (by
        have : Lib.countB (s.extract (i + (⟨#[47]⟩ : ByteArray).size) s.size) ⟨#[47]⟩ = k := by omega
        exact this)
      rw [Lib.splitB_hit ⟨#[47]⟩ 0 k s i hix, cuts_hit _ i ((slash_at s).symm.trans hix), List.map_cons, Lib.extract_from_zero]
      show _ :: List.map (fun x => x.data.toList) (Lib.splitB ⟨#[47]⟩ 0 k (s.extract (i + 1) s.size)) = _
      rw [ih, Lib.extract_to_end]
      rfl
theorem cutL_cuts (s : ByteArray) : (cutL s).map (·.data.toList) = cuts s.data.toList := splitB_cuts _ s rfl
end Go.Proofs.YtaingleopdnkiaaDoor
