/- Helper lemmas: the forms of steps and calls, by the program. No condition. -/
import Derived.Test.YtmcooenafgihkaaGreatDoorS1
set_option linter.unusedSimpArgs false
set_option linter.unusedVariables false
namespace Go.Proofs.YtmcooenafgihkaaGreatDoor
open Go.RowKit

/-- A text's bytes as a text. -/
abbrev str (l : List UInt8) : Value := .string ⟨l.toArray⟩
/-- Forms that lie in a block. -/
def FormsAt (w : World) (b : Nat) (l : List (Bs × Bs)) : Prop := ∀ i, i < l.length → w.cell? ⟨b, i * 2, none⟩ = some (str (l.getD i ([], [])).1) ∧ w.cell? ⟨b, i * 2 + 1, none⟩ = some (str (l.getD i ([], [])).2)
theorem FormsAt.later {w w' : World} {b : Nat} {l : List (Bs × Bs)} (h : FormsAt w b l) (hb : Below w.heap.size w w') : FormsAt w' b l := fun i hi => by
  obtain ⟨h1, h2⟩ := h i hi
  exact ⟨by rw [hb.cell (p := ⟨b, i * 2, none⟩) (World.block_lt_of_cell? w _ h1)]; exact h1, by rw [hb.cell (p := ⟨b, i * 2 + 1, none⟩) (World.block_lt_of_cell? w _ h2)]; exact h2⟩
/-- Forms that were laid anew. -/
def FormsP (l : List (Bs × Bs)) (n : Nat) (w : World) (e : Ending) (w' : World) : Prop := ∃ b : Nat, e = .returned (.slice (some ⟨b, 0, none⟩) n n) ∧ w.heap.size ≤ b ∧ Below w.heap.size w w' ∧ FormsAt w' b l
set_option maxHeartbeats 4000000 in
set_option maxRecDepth 100000 in
theorem steps_any (w : World) : Calls Tryz.prog 49 #[] w (FormsP stepF 13 w) := by
  go_enter Tryz.func49, Tryz.ntmps49
  go_wp2
  go_ret
  refine ⟨w.heap.size, rfl, Nat.le_refl _, (Below.refl _ _).alloc (Nat.le_refl _) _, ?_⟩
  intro i hi
  have h : i = 0 ∨ i = 1 ∨ i = 2 ∨ i = 3 ∨ i = 4 ∨ i = 5 ∨ i = 6 ∨ i = 7 ∨ i = 8 ∨ i = 9 ∨ i = 10 ∨ i = 11 ∨ i = 12 := by
    have : stepF.length = 13 := rfl
    omega
  rcases h with rfl | rfl | rfl | rfl | rfl | rfl | rfl | rfl | rfl | rfl | rfl | rfl | rfl <;> exact ⟨by simp only [World.cell?_alloc_mark] <;> rfl, by simp only [World.cell?_alloc_mark] <;> rfl⟩
set_option maxHeartbeats 4000000 in
set_option maxRecDepth 100000 in
theorem calls_any (w : World) : Calls Tryz.prog 71 #[] w (FormsP callF 19 w) := by
  go_enter Tryz.func71, Tryz.ntmps71
  go_wp2
  go_ret
  refine ⟨w.heap.size, rfl, Nat.le_refl _, (Below.refl _ _).alloc (Nat.le_refl _) _, ?_⟩
  intro i hi
  have h : i = 0 ∨ i = 1 ∨ i = 2 ∨ i = 3 ∨ i = 4 ∨ i = 5 ∨ i = 6 ∨ i = 7 ∨ i = 8 ∨ i = 9 ∨ i = 10 ∨ i = 11 ∨ i = 12 ∨ i = 13 ∨ i = 14 ∨ i = 15 ∨ i = 16 ∨ i = 17 ∨ i = 18 := by
    have : callF.length = 19 := rfl
    omega
  rcases h with rfl | rfl | rfl | rfl | rfl | rfl | rfl | rfl | rfl | rfl | rfl | rfl | rfl | rfl | rfl | rfl | rfl | rfl | rfl <;> exact ⟨by simp only [World.cell?_alloc_mark] <;> rfl, by simp only [World.cell?_alloc_mark] <;> rfl⟩
end Go.Proofs.YtmcooenafgihkaaGreatDoor
