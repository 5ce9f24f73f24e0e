/- Plain laws: how the reference comes to a line's step. No condition. -/
import Derived.Test.YtmcooenafgihkaaGreatDoorS5
import Derived.Test.YtmcooenafgihkaaGreatDoorQ6
set_option linter.unusedSimpArgs false
set_option linter.unusedVariables false
namespace Go.Proofs.YtmcooenafgihkaaGreatDoor

/-- The piece begun, and the pieces of the rest. -/
def glueC (c : UInt8) (cur : Bs) (l : Bs) : List Bs := match cutC c l with
  | [] => [cur]
  | h :: t => (cur ++ h) :: t
theorem glue_start (c : UInt8) (l : Bs) : glueC c [] l = cutC c l := by
  unfold glueC
  cases h : cutC c l with
  | nil => exact absurd h (cutC_ne c l)
  | cons a t => simp
theorem glue_nil (c : UInt8) (cur : Bs) : glueC c cur [] = [cur] := by simp [glueC, cutC]
theorem glue_hit (c : UInt8) (cur l : Bs) : glueC c cur (c :: l) = cur :: glueC c [] l := by
  rw [glue_start]
  simp [glueC, cutC]
theorem glue_miss {c x : UInt8} (h : ¬ x = c) (cur l : Bs) : glueC c cur (x :: l) = glueC c (cur ++ [x]) l := by
  have hb : (x == c) = false := by simpa using h
  unfold glueC
  simp only [cutC, hb]
  cases h2 : cutC c l with
  | nil => exact absurd h2 (cutC_ne c l)
  | cons a t => simp
theorem drop_hit {α : Type} {l : List α} {i : Nat} {x : α} (h : l[i]? = some x) : l.drop i = x :: l.drop (i + 1) := by
  obtain ⟨hi, he⟩ := List.getElem?_eq_some_iff.1 h
  rw [List.drop_eq_getElem_cons hi, he]
/-- What was cut so far, and what is to come. -/
def CutS (c : UInt8) (L : Bs) (i : Nat) (acc : List Bs) (cur : Bs) : Prop := cutC c L = acc ++ glueC c cur (L.drop i)
section
variable {c x : UInt8} {L : Bs} {i : Nat} {acc : List Bs} {cur : Bs}
theorem CutS.start (c : UInt8) (L : Bs) : CutS c L 0 [] [] := by unfold CutS; rw [List.drop_zero, glue_start]; rfl
theorem CutS.hit (h : CutS c L i acc cur) (hx : L[i]? = some c) : CutS c L (i + 1) (acc ++ [cur]) [] := by
  unfold CutS at h ⊢
  rw [h, drop_hit hx, glue_hit, List.append_assoc]; rfl
theorem CutS.miss (h : CutS c L i acc cur) (hx : L[i]? = some x) (hne : ¬ x = c) : CutS c L (i + 1) acc (cur ++ [x]) := by
  unfold CutS at h ⊢
  rw [h, drop_hit hx, glue_miss hne]
theorem CutS.done (h : CutS c L i acc cur) (hi : ¬ i < L.length) : cutC c L = acc ++ [cur] := by
  unfold CutS at h
  rw [h, List.drop_eq_nil_of_le (by omega), glue_nil]
end
/-- The kind that was found among the first ones. -/
def seekK (o : Option Nat) (k : Nat) : Int := match o with
  | none => 0
  | some i => if i + 1 < k then (i : Int) + 1 else 0
/-- The kind of a place. -/
def kindOf (o : Option Nat) : Int := match o with
  | none => 0
  | some i => (i : Int) + 1
theorem seek_zero (o : Option Nat) : seekK o 0 = 0 := by cases o <;> simp [seekK]
theorem seek_hit {o : Option Nat} {i : Nat} (h : o = some i) : seekK o (i + 1 + 1) = ((i + 1 : Nat) : Int) := by
  subst h
  simp [seekK]
theorem seek_miss {o : Option Nat} {k : Nat} (h : ∀ i, o = some i → ¬ i + 1 = k) : seekK o (k + 1) = seekK o k := by
  cases o with
  | none => rfl
  | some i =>
    have h1 := h i rfl
    show (if i + 1 < k + 1 then (i : Int) + 1 else 0) = (if i + 1 < k then (i : Int) + 1 else 0)
    by_cases h2 : i + 1 < k
    · rw [if_pos h2, if_pos (by omega)]
    · rw [if_neg h2, if_neg (by omega)]
theorem seek_end {o : Option Nat} {n : Nat} (h : ∀ i, o = some i → i + 1 < n) : seekK o n = kindOf o := by
  cases o with
  | none => rfl
  | some i => show (if i + 1 < n then (i : Int) + 1 else 0) = (i : Int) + 1; rw [if_pos (h i rfl)]
theorem stepWords : ∀ i, i < 13 → (stepK ((i + 1 : Nat) : Int)).1 = (stepF.getD i ([], [])).1 ∧ ¬ (stepK ((i + 1 : Nat) : Int)).1 = [] := by decide +kernel
theorem callWords : ∀ i, i < 19 → (callK ((i + 1 : Nat) : Int)).1 = (callF.getD i ([], [])).1 ∧ ¬ (callK ((i + 1 : Nat) : Int)).1 = [] := by decide +kernel
theorem stepArgs2 : ∀ i, i < 13 → (stepK ((i + 1 : Nat) : Int)).2 = (argsAt stepF i).map bigN := by decide +kernel
theorem callArgs2 : ∀ i, i < 19 → (callK ((i + 1 : Nat) : Int)).2 = 112 :: argsAt callF i := by decide +kernel
theorem step_hit {k : Nat} (hk : k < 14) {w : Bs} (h : (stepK (k : Int)).1 = w) (hne : ¬ (stepK (k : Int)).1 = []) : ∃ i, findF stepF w = some i ∧ k = i + 1 := by
  cases k with
  | zero => exact absurd (by decide +kernel) hne
  | succ i =>
    refine ⟨i, ?_, rfl⟩
    rw [← h, (stepWords i (by omega)).1]
    exact stepFind i (by omega)
theorem step_miss {k : Nat} (hk : k < 14) {w : Bs} (h : ¬ (stepK (k : Int)).1 = w ∨ (stepK (k : Int)).1 = []) (i : Nat) (hi : findF stepF w = some i) : ¬ i + 1 = k := fun e => by
  subst e
  obtain ⟨h1, h2⟩ := stepWords i (by omega)
  rcases h with h | h
  · exact h (h1.trans (findF_at hi))
  · exact h2 h
theorem call_hit {k : Nat} (hk : k < 20) {w : Bs} (h : (callK (k : Int)).1 = w) (hne : ¬ (callK (k : Int)).1 = []) : ∃ i, findF callF w = some i ∧ k = i + 1 := by
  cases k with
  | zero => exact absurd (by decide +kernel) hne
  | succ i =>
    refine ⟨i, ?_, rfl⟩
    rw [← h, (callWords i (by omega)).1]
    exact callFind i (by omega)
theorem call_miss {k : Nat} (hk : k < 20) {w : Bs} (h : ¬ (callK (k : Int)).1 = w ∨ (callK (k : Int)).1 = []) (i : Nat) (hi : findF callF w = some i) : ¬ i + 1 = k := fun e => by
  subst e
  obtain ⟨h1, h2⟩ := callWords i (by omega)
  rcases h with h | h
  · exact h (h1.trans (findF_at hi))
  · exact h2 h
theorem step_lt {w : Bs} (i : Nat) (h : findF stepF w = some i) : i + 1 < 14 := by have := findF_lt h; have : stepF.length = 13 := rfl; omega
theorem call_lt {w : Bs} (i : Nat) (h : findF callF w = some i) : i + 1 < 20 := by have := findF_lt h; have : callF.length = 19 := rfl; omega
theorem lineW_none {w : Bs} {ws : List Bs} (h : findF stepF w = none) : lineW (w :: ws) = none := by simp [lineW, h]
theorem lineW_short {w : Bs} {ws : List Bs} (h : findF stepF w = some 0) (hl : ¬ 2 < ws.length) : lineW (w :: ws) = none := by
  simp only [lineW, h, Option.bind_some, if_pos]
  match ws, hl with
  | [], _ => rfl
  | [_], _ => rfl
  | [_, _], _ => rfl
  | _ :: _ :: _ :: _, hl => exact absurd (by simp) hl
theorem lineW_callnone {w r v cw : Bs} {rest : List Bs} (h : findF stepF w = some 0) (hc : findF callF cw = none) : lineW (w :: r :: v :: cw :: rest) = none := by
  simp [lineW, h, hc]
theorem lineW_call {w r v cw : Bs} {rest : List Bs} {j : Nat} (h : findF stepF w = some 0) (hc : findF callF cw = some j) : lineW (w :: r :: v :: cw :: rest) = runR (114 :: 118 :: 112 :: argsAt callF j) { zeroR with kind := 1, ck := (j : Int) + 1 } (r :: v :: rest) := by
  simp [lineW, h, hc]
theorem lineW_keep {w : Bs} {ws : List Bs} (h : findF stepF w = some 9) : lineW (w :: ws) = runR (114 :: List.replicate (ws.length - 1) 107) { zeroR with kind := 10 } ws := by
  cases ws with
  | nil => simp [lineW, h, runR]
  | cons r ws => simp [lineW, h]
theorem lineW_else {w : Bs} {ws : List Bs} {i : Nat} (h : findF stepF w = some i) (h0 : ¬ i = 0) (h9 : ¬ i = 9) : lineW (w :: ws) = runR ((argsAt stepF i).map bigN) { zeroR with kind := (i : Int) + 1 } ws := by
  simp only [lineW, h, Option.bind_some]
  rw [if_neg h0, if_neg h9]
theorem runR_len : ∀ (cs : Bs) (s : StepR) (ws : List Bs), ¬ cs.length = ws.length → runR cs s ws = none
  | [], _, [], h => absurd rfl h
  | [], _, _ :: _, _ => rfl
  | _ :: _, _, [], _ => rfl
  | c :: cs, s, w :: ws, h => by
    simp only [runR]
    cases setR s c w with
    | none => rfl
    | some s' => exact runR_len cs s' ws (fun e => h (by simp [e]))
/-- What the letters and words to come give is what all gave. -/
def RunsR (R : Option StepR) (cs : Bs) (ws : List Bs) (i : Nat) (s : StepR) : Prop := R = runR (cs.drop i) s (ws.drop i)
section
variable {R : Option StepR} {cs : Bs} {ws : List Bs} {i : Nat} {s : StepR} {c : UInt8} {w : Bs}
theorem RunsR.start (h : R = runR cs s ws) : RunsR R cs ws 0 s := h
theorem RunsR.fail (h : RunsR R cs ws i s) (hc : cs[i]? = some c) (hw : ws[i]? = some w) (hs : setR s c w = none) : R = none := by
  unfold RunsR at h
  rw [h, drop_hit hc, drop_hit hw]
  simp [runR, hs]
theorem RunsR.step (h : RunsR R cs ws i s) (hc : cs[i]? = some c) (hw : ws[i]? = some w) {s' : StepR} (hs : setR s c w = some s') : RunsR R cs ws (i + 1) s' := by
  unfold RunsR at h ⊢
  rw [h, drop_hit hc, drop_hit hw]
  simp [runR, hs]
theorem RunsR.done (h : RunsR R cs ws i s) (hl : cs.length = ws.length) (hi : ¬ i < ws.length) : R = some s := by
  unfold RunsR at h
  rw [h, List.drop_eq_nil_of_le (by omega), List.drop_eq_nil_of_le (by omega)]
  rfl
end
/-- A letter of the reference. -/
def LetR (c : UInt8) : Prop := c = 114 ∨ c = 78 ∨ c = 107 ∨ c = 111 ∨ c = 110 ∨ c = 115 ∨ c = 118 ∨ c = 112 ∨ c = 100 ∨ c = 116
instance (c : UInt8) : Decidable (LetR c) := by unfold LetR; infer_instance
theorem let_step : ∀ i, i < 13 → ¬ i = 0 → ¬ i = 9 → ∀ c ∈ (argsAt stepF i).map bigN, LetR c := by decide +kernel
theorem let_call : ∀ i, i < 19 → ∀ c ∈ argsAt callF i, LetR c := by decide +kernel
/-- A step keeps its numbers but where one is set. -/
theorem setR_keep {s s' : StepR} {c : UInt8} {w : Bs} (h : setR s c w = some s') (hc : ¬ c = 107) : s'.keep = s.keep := by
  have key : ∀ {α : Type} {o : Option α} {f : α → StepR}, o.map f = some s' → (∀ a, (f a).keep = s.keep) → s'.keep = s.keep := fun h hf => by
    obtain ⟨_, _, rfl⟩ := Option.map_eq_some_iff.1 h
    exact hf _
  unfold setR at h
  by_cases h1 : c = 114
  · rw [if_pos h1] at h; exact key h fun _ => rfl
  rw [if_neg h1] at h
  by_cases h1 : c = 78
  · rw [if_pos h1] at h; exact key h fun _ => rfl
  rw [if_neg h1] at h
  rw [if_neg hc] at h
  by_cases h1 : c = 111
  · rw [if_pos h1] at h; exact key h fun _ => rfl
  rw [if_neg h1] at h
  by_cases h1 : c = 110
  · rw [if_pos h1] at h; exact key h fun _ => rfl
  rw [if_neg h1] at h
  by_cases h1 : c = 115
  · rw [if_pos h1] at h; exact key h fun _ => rfl
  rw [if_neg h1] at h
  by_cases h1 : c = 118
  · rw [if_pos h1] at h; exact key h fun _ => rfl
  rw [if_neg h1] at h
  by_cases h1 : c = 112
  · rw [if_pos h1] at h; exact key h fun _ => rfl
  rw [if_neg h1] at h
  by_cases h1 : c = 100
  · rw [if_pos h1] at h; exact key h fun _ => rfl
  rw [if_neg h1] at h
  by_cases h1 : c = 116
  · rw [if_pos h1] at h
    by_cases h2 : s.kind = 1
    · rw [if_pos h2] at h; exact key h fun _ => rfl
    · rw [if_neg h2] at h; exact key h fun _ => rfl
  rw [if_neg h1] at h
  exact key h fun _ => rfl
end Go.Proofs.YtmcooenafgihkaaGreatDoor
