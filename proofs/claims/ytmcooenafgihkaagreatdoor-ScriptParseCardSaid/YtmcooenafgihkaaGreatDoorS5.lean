/- Plain laws: texts cut at a byte. No condition. -/
import Derived.Test.YtmcooenafgihkaaGreatDoorS4
import Derived.Test.YtmcooenafgihkaaGreatDoorK
import Derived.Lib.IndexBytes
import Derived.Lib.SplitLaws
set_option linter.unusedSimpArgs false
set_option linter.unusedVariables false
namespace Go.Proofs.YtmcooenafgihkaaGreatDoor

/-- Signs cut at every sign of a kind. -/
def cutC (c : UInt8) : Bs → List Bs
  | [] => [[]]
  | b :: l => if b == c then [] :: cutC c l else match cutC c l with
    | x :: r => (b :: x) :: r
    | [] => [[b]]
theorem cutC_ne (c : UInt8) : ∀ l, cutC c l ≠ []
  | [] => by simp [cutC]
  | b :: l => by
    unfold cutC
    split
    · simp
    · split <;> simp
theorem cutC_words : ∀ l : Bs, cutC 32 l = wordsW l
  | [] => rfl
  | b :: l => by
    have ih := cutC_words l
    simp only [cutC, wordsW, ih, beq_iff_eq]
    by_cases h : b = 32
    · rw [if_pos h, if_pos h]
    · rw [if_neg h, if_neg h]
      cases hw : wordsW l <;> rfl
theorem cutC_miss (c : UInt8) : ∀ l : Bs, Lib.indexByte l c = -1 → cutC c l = [l]
  | [], _ => rfl
  | b :: l, h => by
    rw [Lib.indexByte] at h
    by_cases h47 : (b == c) = true
    · rw [if_pos h47] at h; omega
    · rw [if_neg h47] at h
      have h1 : Lib.indexByte l c = -1 := by
        by_cases h1 : Lib.indexByte l c = -1
        · exact h1
        · have h2 : ¬ (Lib.indexByte l c == -1) = true := by simpa using h1
          rw [if_neg h2] at h
          have := Lib.indexByte_ge l c
          omega
      rw [cutC, if_neg h47, cutC_miss c l h1]
theorem cutC_hit (c : UInt8) : ∀ (l : Bs) (i : Nat), Lib.indexByte l c = (i : Int) → cutC c l = l.take i :: cutC c (l.drop (i + 1))
  | [], i, h => by
    rw [Lib.indexByte] at h
    omega
  | b :: l, i, h => by
    rw [Lib.indexByte] at h
    by_cases h47 : (b == c) = true
    · rw [if_pos h47] at h
      obtain rfl : i = 0 := by omega
      rw [cutC, if_pos h47]
      rfl
    · rw [if_neg h47] at h
      by_cases h1 : Lib.indexByte l c = -1
      · have h2 : (Lib.indexByte l c == -1) = true := by simpa using h1
        rw [if_pos h2] at h
        omega
      · have h2 : ¬ (Lib.indexByte l c == -1) = true := by simpa using h1
        rw [if_neg h2] at h
        have := Lib.indexByte_ge l c
        obtain ⟨k, rfl⟩ : ∃ k, i = k + 1 := ⟨i - 1, by omega⟩
        rw [cutC, if_neg h47, cutC_hit c l k (by omega)]
        rfl
theorem sign_at (c : UInt8) (s : ByteArray) : Lib.indexB s ⟨#[c]⟩ = Lib.indexByte s.data.toList c := Lib.index_one _ _
theorem splitB_cut (c : UInt8) : ∀ (k : Nat) (s : ByteArray), Lib.countB s ⟨#[c]⟩ = k → (Lib.splitB ⟨#[c]⟩ 0 k s).map (·.data.toList) = cutC c s.data.toList
  | 0, s, hk => by
    rcases Lib.indexB_cases s ⟨#[c]⟩ with hix | ⟨i, hix, _⟩
    · rw [cutC_miss c _ ((sign_at c s).symm.trans hix)]; rfl
    · have := Lib.countB_hit s ⟨#[c]⟩ i (by show 1 ≤ 1; omega) hix
      omega
  | k + 1, s, hk => by
    rcases Lib.indexB_cases s ⟨#[c]⟩ with hix | ⟨i, hix, _⟩
    · rw [Lib.countB_miss s ⟨#[c]⟩ hix] at hk; omega
    · have h1 := Lib.countB_hit s ⟨#[c]⟩ i (by show 1 ≤ 1; omega) hix
      have ih := splitB_cut c k (s.extract (i + 1) s.size) (by
        have : Lib.countB (s.extract (i + (⟨#[c]⟩ : ByteArray).size) s.size) ⟨#[c]⟩ = k := by omega
        exact this)
      rw [Lib.splitB_hit ⟨#[c]⟩ 0 k s i hix, cutC_hit c _ i ((sign_at c s).symm.trans hix), List.map_cons, Lib.extract_from_zero]
      show _ :: List.map (fun x => x.data.toList) (Lib.splitB ⟨#[c]⟩ 0 k (s.extract (i + 1) s.size)) = _
      rw [ih, Lib.extract_to_end]
      rfl
theorem map_data_inj (a b : List ByteArray) (h : a.map (·.data.toList) = b.map (·.data.toList)) : a = b :=
  (List.map_inj_right (fun x y e => ByteArray.ext (Array.toList_inj.1 e))).1 h
theorem splitB_strs (c : UInt8) (s : ByteArray) : Lib.splitB ⟨#[c]⟩ 0 (Lib.countB s ⟨#[c]⟩) s = (cutC c s.data.toList).map fun t => ⟨t.toArray⟩ := by
  apply map_data_inj
  rw [splitB_cut c _ s rfl, List.map_map]
  simp [Function.comp_def]
theorem splitB_len (c : UInt8) (s : ByteArray) : (cutC c s.data.toList).length = Lib.countB s ⟨#[c]⟩ + 1 := by
  have h := Lib.splitB_all ⟨#[c]⟩ (by show 1 ≤ 1; omega) 0 _ s rfl
  rw [splitB_strs, List.length_map] at h
  exact h
theorem cutC_len (c : UInt8) : ∀ (l : Bs) (x : Bs), x ∈ cutC c l → x.length ≤ l.length
  | [], x, h => by
    rw [cutC, List.mem_singleton] at h
    rw [h]
    exact Nat.le_refl _
  | b :: l, x, h => by
    have ih := cutC_len c l
    unfold cutC at h
    by_cases h47 : (b == c) = true
    · rw [if_pos h47] at h
      rcases List.mem_cons.1 h with rfl | h
      · simp
      · have := ih x h
        rw [List.length_cons]; omega
    · rw [if_neg h47] at h
      cases hc : cutC c l with
      | nil => exact absurd hc (cutC_ne _ _)
      | cons y r =>
        rw [hc] at h ih
        simp only at h
        rcases List.mem_cons.1 h with rfl | h
        · have := ih y (List.mem_cons_self ..)
          rw [List.length_cons, List.length_cons]; omega
        · have := ih x (List.mem_cons_of_mem _ h)
          rw [List.length_cons]; omega
theorem cutC_many (c : UInt8) : ∀ l : Bs, (cutC c l).length ≤ l.length + 1
  | [] => by simp [cutC]
  | b :: l => by
    have ih := cutC_many c l
    unfold cutC
    split
    · simp; omega
    · cases hc : cutC c l with
      | nil => exact absurd hc (cutC_ne _ _)
      | cons y r => rw [hc] at ih; simp at ih ⊢; omega
/-- The step of a line. -/
def lineL (l : Bs) : Option StepR := if 200 < l.length then none else stepP (wordsW l)
end Go.Proofs.YtmcooenafgihkaaGreatDoor
