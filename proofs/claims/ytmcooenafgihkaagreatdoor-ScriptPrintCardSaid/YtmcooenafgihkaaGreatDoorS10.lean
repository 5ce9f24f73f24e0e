/- Plain laws: the lines of a text, the steps of a text, steps as a text. No condition. -/
import Derived.Test.YtmcooenafgihkaaGreatDoorS9
import Derived.Test.YtmcooenafgihkaaGreatDoorS6
set_option linter.unusedSimpArgs false
set_option linter.unusedVariables false
namespace Go.Proofs.YtmcooenafgihkaaGreatDoor

/-- Whether a line says something. -/
def goodL (p : Bs) : Bool := match p with
  | [] => false
  | c :: _ => !(c == 35)
/-- The lines that say something, each with its number. -/
def keepL (k : Nat) : List Bs → List (Bs × Nat)
  | [] => []
  | p :: r => if goodL p = true then (p, k) :: keepL (k + 1) r else keepL (k + 1) r
theorem keep_snoc : ∀ (k : Nat) (acc : List Bs) (p : Bs), keepL k (acc ++ [p]) = keepL k acc ++ (if goodL p = true then [(p, k + acc.length)] else [])
  | k, [], p => by simp [keepL]
  | k, q :: acc, p => by
    rw [List.cons_append]
    simp only [keepL]
    rw [keep_snoc (k + 1) acc p]
    have e : k + 1 + acc.length = k + (q :: acc).length := by simp; omega
    rw [e]
    by_cases h : goodL q = true
    · rw [if_pos h, if_pos h]; rfl
    · rw [if_neg h, if_neg h]
theorem keep_len : ∀ (k : Nat) (l : List Bs), (keepL k l).length ≤ l.length
  | _, [] => Nat.le_refl _
  | k, p :: r => by
    have := keep_len (k + 1) r
    unfold keepL
    split
    · simp; omega
    · simp; omega
theorem keep_mem : ∀ (k : Nat) (l : List Bs) (x : Bs × Nat), x ∈ keepL k l → x.1 ∈ l ∧ k ≤ x.2 ∧ x.2 < k + l.length
  | _, [], _, h => by cases h
  | k, p :: r, x, h => by
    unfold keepL at h
    by_cases hg : goodL p = true
    · rw [if_pos hg] at h
      rcases List.mem_cons.1 h with rfl | h
      · exact ⟨by simp, Nat.le_refl _, by simp⟩
      · obtain ⟨h1, h2, h3⟩ := keep_mem (k + 1) r x h
        exact ⟨by simp [h1], by omega, by simp; omega⟩
    · rw [if_neg hg] at h
      obtain ⟨h1, h2, h3⟩ := keep_mem (k + 1) r x h
      exact ⟨by simp [h1], by omega, by simp; omega⟩
/-- The lines of a text. -/
def linesR (L : Bs) : List (Bs × Nat) := keepL 1 (cutC 10 L)
theorem lines_len (L : Bs) : (linesR L).length ≤ L.length + 1 := Nat.le_trans (keep_len _ _) (cutC_many 10 L)
theorem lines_mem {L : Bs} {x : Bs × Nat} (h : x ∈ linesR L) : x.1.length ≤ L.length ∧ x.2 ≤ L.length + 1 := by
  obtain ⟨h1, h2, h3⟩ := keep_mem _ _ _ h
  have := cutC_many 10 L
  exact ⟨cutC_len 10 L _ h1, by omega⟩
/-- The steps of lines, or the number of the first one that is wrong. -/
def parseL : List (Bs × Nat) → List StepR ⊕ Nat
  | [] => .inl []
  | x :: r => match lineL x.1 with
    | none => .inr x.2
    | some s => match parseL r with
      | .inl xs => .inl (s :: xs)
      | .inr m => .inr m
/-- Steps so far, and lines to come. -/
def ParS (ls : List (Bs × Nat)) (i : Nat) (acc : List StepR) : Prop := parseL ls = match parseL (ls.drop i) with
  | .inl xs => .inl (acc ++ xs)
  | .inr m => .inr m
section
variable {ls : List (Bs × Nat)} {i : Nat} {acc : List StepR} {x : Bs × Nat}
theorem ParS.start (ls : List (Bs × Nat)) : ParS ls 0 [] := by
  unfold ParS
  rw [List.drop_zero]
  cases parseL ls <;> rfl
theorem ParS.fail (h : ParS ls i acc) (hx : ls[i]? = some x) (hl : lineL x.1 = none) : parseL ls = .inr x.2 := by
  unfold ParS at h
  rw [h, drop_hit hx]
  simp [parseL, hl]
theorem ParS.step (h : ParS ls i acc) (hx : ls[i]? = some x) {s : StepR} (hl : lineL x.1 = some s) : ParS ls (i + 1) (acc ++ [s]) := by
  unfold ParS at h ⊢
  rw [h, drop_hit hx]
  simp only [parseL, hl]
  cases parseL (ls.drop (i + 1)) with
  | inl xs => simp
  | inr m => rfl
theorem ParS.done (h : ParS ls i acc) (hi : ¬ i < ls.length) : parseL ls = .inl acc := by
  unfold ParS at h
  rw [h, List.drop_eq_nil_of_le (by omega)]
  simp [parseL]
end
theorem parse_ok : ∀ (ls : List (Bs × Nat)) (xs : List StepR), parseL ls = .inl xs → xs.length = ls.length ∧ ∀ x ∈ xs, x.Ok ∧ x.keep.length ≤ 201
  | [], xs, h => by
    simp only [parseL] at h
    injection h with h
    subst h
    exact ⟨rfl, fun x hx => by cases hx⟩
  | l :: ls, xs, h => by
    simp only [parseL] at h
    cases hl : lineL l.1 with
    | none => rw [hl] at h; cases h
    | some s =>
      rw [hl] at h
      cases hp : parseL ls with
      | inr m => rw [hp] at h; cases h
      | inl ys =>
        rw [hp] at h
        injection h with h
        subst h
        obtain ⟨h1, h2⟩ := parse_ok ls ys hp
        obtain ⟨h3, h4, _⟩ := line_ok hl
        refine ⟨by simp [h1], fun x hx => ?_⟩
        rcases List.mem_cons.1 hx with rfl | hx
        · exact ⟨h3, h4⟩
        · exact h2 x hx
/-- The first step that can't be said. -/
def badF (l : List StepR) : Option Nat := l.findIdx? fun s => (textW s).isNone
/-- A step as a line with its end. -/
def sayL (s : StepR) : Bs := joinW ((textW s).getD []) ++ [10]
/-- All steps so far are said. -/
def SaidS (l : List StepR) (i : Nat) (out : Bs) : Prop := out = (l.take i).flatMap sayL ∧ ∀ k, k < i → ∀ s, l[k]? = some s → ¬ textW s = none
section
variable {l : List StepR} {i : Nat} {out : Bs} {s : StepR}
theorem SaidS.start (l : List StepR) : SaidS l 0 [] := ⟨by simp, fun k hk => by omega⟩
theorem SaidS.fail (h : SaidS l i out) (hs : l[i]? = some s) (ht : textW s = none) : badF l = some i := by
  obtain ⟨hi, he⟩ := List.getElem?_eq_some_iff.1 hs
  unfold badF
  rw [List.findIdx?_eq_some_iff_getElem]
  refine ⟨hi, by rw [he, ht]; rfl, fun k hk => ?_⟩
  have := h.2 k hk _ (List.getElem?_eq_getElem (Nat.lt_trans hk hi))
  cases hc : textW l[k] with
  | none => exact absurd hc this
  | some _ => exact Bool.false_ne_true
theorem SaidS.step (h : SaidS l i out) (hs : l[i]? = some s) {ws : List Bs} (ht : textW s = some ws) : SaidS l (i + 1) (out ++ joinW ws ++ [10]) := by
  obtain ⟨hi, he⟩ := List.getElem?_eq_some_iff.1 hs
  refine ⟨?_, fun k hk s2 hs2 => ?_⟩
  · have e : l.take (i + 1) = l.take i ++ [s] := by rw [List.take_succ_eq_append_getElem hi, he]
    rw [e, List.flatMap_append, ← h.1]
    simp [sayL, ht]
  · rcases Nat.lt_or_ge k i with hk2 | hk2
    · exact h.2 k hk2 s2 hs2
    · obtain rfl : k = i := by omega
      rw [hs] at hs2
      injection hs2 with e
      subst e
      rw [ht]
      exact fun e => by cases e
theorem SaidS.done (h : SaidS l i out) (hi : l.length ≤ i) : badF l = none ∧ out = l.flatMap sayL := by
  refine ⟨?_, by rw [h.1, List.take_of_length_le hi]⟩
  unfold badF
  rw [List.findIdx?_eq_none_iff]
  intro x hx
  obtain ⟨k, hk, rfl⟩ := List.getElem_of_mem hx
  have := h.2 k (by omega) _ (List.getElem?_eq_getElem hk)
  cases hc : textW l[k] with
  | none => exact absurd hc this
  | some _ => rfl
end
end Go.Proofs.YtmcooenafgihkaaGreatDoor
