/- Helper lemmas: what a path's parent is, in plain words. No condition. -/
import Derived.Test.YtaingleopdnkiaaDoorB3
import Derived.Test.YtaingleopdnkiaaDoorA5
set_option linter.unusedSimpArgs false
set_option linter.unusedVariables false
namespace Go.Proofs.YtaingleopdnkiaaDoor
open Go.RowKit

theorem parent_err (r : List ByteArray × Int) (h : ¬ (parentR r).2.2 = 0) : ∃ x : Int, ¬ x = 0 ∧ parentR r = ([], ⟨#[]⟩, x) := by
  unfold parentR at *
  by_cases h1 : r.2 = 0
  · rw [if_neg (fun h => h h1)] at h ⊢
    by_cases h2 : r.1.length = 0
    · rw [if_pos h2]; exact ⟨16, by decide, rfl⟩
    · rw [if_neg h2] at h; exact absurd rfl h
  · rw [if_pos h1]; exact ⟨_, h1, rfl⟩
theorem parent_ok (r : List ByteArray × Int) (h : (parentR r).2.2 = 0) : ∃ (l : List ByteArray) (q : ByteArray), r = (l ++ [q], 0) ∧ parentR r = (l, q, 0) := by
  obtain ⟨l, x⟩ := r
  unfold parentR at *
  simp only at *
  by_cases h1 : x = 0
  · subst h1
    rw [if_neg (fun h => h rfl)] at h ⊢
    by_cases h2 : l.length = 0
    · rw [if_pos h2] at h; exact absurd h (show ¬ (16 : Int) = 0 by decide)
    · rw [if_neg h2]
      have hl : l ≠ [] := fun e => h2 (by rw [e]; rfl)
      have e1 : l.take (l.length - 1) = l.dropLast := (List.dropLast_eq_take ..).symm
      have e2 : l.getD (l.length - 1) ByteArray.empty = l.getLast hl := by
        rw [List.getD_eq_getElem?_getD, List.getElem?_eq_getElem (by omega), List.getLast_eq_getElem]; rfl
      exact ⟨l.dropLast, l.getLast hl, by rw [List.dropLast_concat_getLast], by rw [e1, e2]⟩
  · rw [if_pos h1] at h; exact absurd h h1
theorem WB_under (l : List ByteArray) (q : ByteArray) : WB (l ++ [q]) l = true := by simp [WB]
theorem WB_over (l : List ByteArray) (q : ByteArray) : WB l (l ++ [q]) = false := by
  simp [WB]
  intro h
  omega
end Go.Proofs.YtaingleopdnkiaaDoor
