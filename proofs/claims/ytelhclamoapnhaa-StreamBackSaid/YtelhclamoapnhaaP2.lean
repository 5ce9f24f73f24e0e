/- Plain laws: parts of a text that are added to a stage, in any order. No condition. -/
import Derived.Test.YtelhclamoapnhaaP1
set_option linter.unusedSimpArgs false
set_option linter.unusedVariables false
namespace Go.Proofs.Ytelhclamoapnhaa
open Go.RowKit

/-- Parts of these, or nothing, at each place. -/
def SubOf (L P : List ByteArray) : Prop := L.length = P.length ∧ ∀ j, j < P.length → (L.getD j ByteArray.empty).size = 0 ∨ L.getD j ByteArray.empty = P.getD j ByteArray.empty
/-- May these be the parts of a text? -/
def FullP (P : List ByteArray) : Prop := ∀ i, i < P.length → 0 < (P.getD i ByteArray.empty).size ∧ (P.getD i ByteArray.empty).size ≤ 512 ∧ (i + 1 < P.length → (P.getD i ByteArray.empty).size = 512)
theorem add_sub (P L : List ByteArray) (hP : FullP P) (hL : SubOf L P) (i : Nat) (hi : i < P.length) : ∃ b L', addR L (i : Int) (P.getD i ByteArray.empty) = (L', b, 0) ∧ SubOf L' P ∧ L'.getD i ByteArray.empty = P.getD i ByteArray.empty ∧ ∀ j, j < P.length → ¬ j = i → L'.getD j ByteArray.empty = L.getD j ByteArray.empty := by
  obtain ⟨h1, h2, h3⟩ := hP i hi
  obtain ⟨hl, hs⟩ := hL
  unfold addR
  rw [if_neg (by omega), Int.toNat_natCast]
  by_cases h : 0 < (L.getD i ByteArray.empty).size
  · rcases hs i hi with h0 | h0
    · omega
    · rw [if_pos h, if_pos h0]
      exact ⟨_, _, rfl, ⟨hl, hs⟩, h0, fun j _ _ => rfl⟩
  · rw [if_neg h]
    refine ⟨_, _, rfl, ⟨by rw [List.length_set]; exact hl, fun j hj => ?_⟩, ?_, fun j _ hji => ?_⟩
    · rw [getD_set L i j _ (by omega)]
      split
      · rename_i e; subst e; exact Or.inr rfl
      · exact hs j hj
    · rw [getD_set L i i _ (by omega), if_pos rfl]
    · rw [getD_set L i j _ (by omega), if_neg (fun e => hji e.symm)]
theorem sub_new (P : List ByteArray) : SubOf (List.replicate P.length ⟨#[]⟩) P := by
  refine ⟨List.length_replicate, fun j hj => Or.inl ?_⟩
  rw [List.getD_eq_getElem?_getD, List.getElem?_replicate, if_pos hj]
  rfl
theorem sub_all {L P : List ByteArray} (h : SubOf L P) (h2 : ∀ j, j < P.length → L.getD j ByteArray.empty = P.getD j ByteArray.empty) : L = P := by
  apply List.ext_getElem h.1
  intro i h3 h4
  have := h2 i h4
  rwa [List.getD_eq_getElem?_getD, List.getD_eq_getElem?_getD, List.getElem?_eq_getElem h3, List.getElem?_eq_getElem h4] at this
theorem missP_full {P : List ByteArray} (h : FullP P) : missP P = P.length := missP_all P fun j hj => (h j hj).1
theorem cutP_count (s : ByteArray) : (cutP s).length ≤ s.size / 512 + 1 := by
  by_cases h : s.size ≤ 512
  · rw [cutP_small h]; simp
  · rw [cutP_big h, List.length_cons]
    have ih := cutP_count (s.extract 512 s.size)
    rw [ByteArray.size_extract] at ih
    omega
termination_by s.size
decreasing_by simp only [ByteArray.size_extract]; omega
/-- What the parts of sorted changes tell. -/
theorem cut_tells (l : List Ch) (h : sortedP l = true) (hl : l.length ≤ 5000) (ht : chTot l ≤ 1000000) : ∃ P, cutP (strOfNums (putAll l)) = P ∧ 1 ≤ P.length ∧ P.length ≤ 4096 ∧ FullP P ∧ chgR P = (0, l) := by
  have hsz : (strOfNums (putAll l)).size = (putAll l).length := strOfNums_size _
  have hs := sorted_small h
  have hput : 4 ≤ (putAll l).length := by
    rw [putAll_eq l (fun c hc => by have := hs c hc; omega), List.length_append, putL_length]
    omega
  have hle : (putAll l).length ≤ 2000000 := by
    have h1 := putUp_length l l.length (Nat.le_refl _)
    rw [putUp_end, List.take_length] at h1
    omega
  obtain ⟨h1, h2⟩ := cutP_facts (strOfNums (putAll l)) (by omega)
  have hfull : FullP (cutP (strOfNums (putAll l))) := h2
  refine ⟨_, rfl, h1, ?_, hfull, ?_⟩
  · have := cutP_count (strOfNums (putAll l))
    omega
  · unfold chgR
    rw [if_neg (by rw [missP_full hfull]; exact Nat.lt_irrefl _), joinB_cut, getR_some (getV_put l h (by omega))]
end Go.Proofs.Ytelhclamoapnhaa
