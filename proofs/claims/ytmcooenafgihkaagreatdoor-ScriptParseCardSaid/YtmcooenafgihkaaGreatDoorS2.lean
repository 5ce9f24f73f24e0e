/- Plain laws: the reference's steps as words; both are one. No condition. -/
import Derived.Test.YtmcooenafgihkaaGreatDoorS1
set_option linter.unusedSimpArgs false
set_option linter.unusedVariables false
namespace Go.Proofs.YtmcooenafgihkaaGreatDoor

/-- A step with what a word says for a letter of the reference. -/
def setR (s : StepR) (c : UInt8) (w : Bs) : Option StepR := if c = 114 then (numL w).map fun n => { s with rep := n } else if c = 78 then (numL w).map fun n => { s with n := n } else if c = 107 then (numL w).map fun n => { s with keep := s.keep ++ [n] } else
  if c = 111 then (numL w).map fun n => { s with off := n } else if c = 110 then (numL w).map fun n => { s with cn := n } else if c = 115 then (timeU w).map fun b => { s with time := b } else if c = 118 then (unwordL w).map fun t => { s with vol := ⟨t.toArray⟩ } else
  if c = 112 then (unwordL w).map fun t => { s with path := ⟨t.toArray⟩ } else if c = 100 then (unwordL w).map fun t => { s with data := ⟨t.toArray⟩ } else if c = 116 then (if s.kind = 1 then (unwordL w).map fun t => { s with cto := ⟨t.toArray⟩ } else (unwordL w).map fun t => { s with dst := ⟨t.toArray⟩ }) else (unwordL w).map fun _ => s
def runR : Bs → StepR → List Bs → Option StepR
  | [], s, [] => some s
  | [], _, _ :: _ => none
  | _ :: _, _, [] => none
  | c :: cs, s, w :: ws => (setR s c w).bind fun s' => runR cs s' ws
def bigN (c : UInt8) : UInt8 := if c = 110 then 78 else c
/-- The step of words, as the reference reads them. -/
def lineW : List Bs → Option StepR
  | [] => none
  | w :: ws => (findF stepF w).bind fun i =>
    if i = 0 then (match ws with
      | r :: v :: cw :: rest => (findF callF cw).bind fun j => runR (114 :: 118 :: 112 :: argsAt callF j) { zeroR with kind := 1, ck := (j : Int) + 1 } (r :: v :: rest)
      | _ => none)
    else if i = 9 then (match ws with
      | [] => none
      | r :: ws => runR (114 :: List.replicate ws.length 107) { zeroR with kind := 10 } (r :: ws))
    else runR ((argsAt stepF i).map bigN) { zeroR with kind := (i : Int) + 1 } ws
def isC (c : UInt8) : Bool := c == 116 || c == 111 || c == 110 || c == 100 || c == 115
theorem setC_eq (s : StepR) (c : UInt8) (w : Bs) (h : isC c = true) (hk : s.kind = 1) : setC s c w = setR s c w := by
  unfold isC at h
  simp only [Bool.or_eq_true, beq_iff_eq] at h
  rcases h with (((rfl | rfl) | rfl) | rfl) | rfl <;> simp [setC, setR, hk]
theorem setR_kind (s s' : StepR) (c : UInt8) (w : Bs) (h : setR s c w = some s') : s'.kind = s.kind := by
  have key : ∀ {α : Type} {o : Option α} {f : α → StepR}, o.map f = some s' → (∀ a, (f a).kind = s.kind) → s'.kind = s.kind := fun h hf => by
    obtain ⟨_, _, rfl⟩ := Option.map_eq_some_iff.1 h
    exact hf _
  unfold setR at h
  by_cases h1 : c = 114
  · rw [if_pos h1] at h; exact key h fun _ => rfl
  rw [if_neg h1] at h
  by_cases h1 : c = 78
  · rw [if_pos h1] at h; exact key h fun _ => rfl
  rw [if_neg h1] at h
  by_cases h1 : c = 107
  · rw [if_pos h1] at h; exact key h fun _ => rfl
  rw [if_neg h1] at h
  by_cases h1 : c = 111
  · rw [if_pos h1] at h; exact key h fun _ => rfl
  rw [if_neg h1] at h
  by_cases h1 : c = 110
  · rw [if_pos h1] at h; exact key h fun _ => rfl
  rw [if_neg h1] at h
  by_cases h1 : c = 115
  · rw [if_pos h1] at h; exact key h fun _ => rfl
  rw [if_neg h1] at h
  by_cases h1 : c = 118
  · rw [if_pos h1] at h; exact key h fun _ => rfl
  rw [if_neg h1] at h
  by_cases h1 : c = 112
  · rw [if_pos h1] at h; exact key h fun _ => rfl
  rw [if_neg h1] at h
  by_cases h1 : c = 100
  · rw [if_pos h1] at h; exact key h fun _ => rfl
  rw [if_neg h1] at h
  by_cases h1 : c = 116
  · rw [if_pos h1] at h
    by_cases h2 : s.kind = 1
    · rw [if_pos h2] at h; exact key h fun _ => rfl
    · rw [if_neg h2] at h; exact key h fun _ => rfl
  rw [if_neg h1] at h
  exact key h fun _ => rfl
theorem runC_eq : ∀ (cs : Bs) (s : StepR) (ws : List Bs), (∀ c ∈ cs, isC c = true) → s.kind = 1 → ((runC cs s ws).bind fun x => runS [] x.1 x.2) = runR cs s ws
  | [], s, [], _, _ => by simp [runC, runR, runS]
  | [], s, _ :: _, _, _ => by simp [runC, runR, runS]
  | _ :: _, s, [], _, _ => by simp [runC, runR]
  | c :: cs, s, w :: ws, h, hk => by
    simp only [runC, runR]
    rw [← setC_eq s c w (h c (by simp)) hk]
    cases hc : setC s c w with
    | none => rfl
    | some s' =>
      simp only [Option.bind_some]
      rw [setC_eq s c w (h c (by simp)) hk] at hc
      exact runC_eq cs s' ws (fun c hc => h c (by simp [hc])) ((setR_kind _ _ _ _ hc).trans hk)
theorem oneS_iff (c : UInt8) : oneS c = true ↔ c = 114 ∨ c = 118 ∨ c = 116 ∨ c = 110 := by
  unfold oneS
  simp only [Bool.or_eq_true, beq_iff_eq, or_assoc]
theorem setS_eq (s : StepR) (c : UInt8) (w : Bs) (h : oneS c = true) (hk : ¬ s.kind = 1) : setS s c w = setR s (bigN c) w := by
  rw [oneS_iff] at h
  rcases h with rfl | rfl | rfl | rfl <;> simp [setS, setR, bigN, hk]
theorem runS_eq : ∀ (cs : Bs) (s : StepR) (ws : List Bs), (∀ c ∈ cs, oneS c = true) → ¬ s.kind = 1 → runS cs s ws = runR (cs.map bigN) s ws
  | [], s, [], _, _ => by simp [runR, runS]
  | [], s, _ :: _, _, _ => by simp [runR, runS]
  | c :: cs, s, [], h, _ => by
    have := h c (by simp)
    simp [runS, runR, this]
  | c :: cs, s, w :: ws, h, hk => by
    have h1 := h c (by simp)
    simp only [runS, List.map_cons, runR]
    rw [if_pos h1, ← setS_eq s c w h1 hk]
    cases hc : setS s c w with
    | none => rfl
    | some s' =>
      simp only [Option.bind_some]
      rw [setS_eq s c w h1 hk] at hc
      exact runS_eq cs s' ws (fun c hc => h c (by simp [hc])) (fun e => hk ((setR_kind _ _ _ _ hc).symm.trans e))
theorem keeps_eq : ∀ (ws : List Bs) (s : StepR), runR (List.replicate ws.length 107) s ws = (numsL ws).map fun l => { s with keep := s.keep ++ l }
  | [], s => by simp [runR, numsL]
  | w :: ws, s => by
    rw [List.length_cons, List.replicate_succ]
    simp only [runR, numsL]
    have e : setR s 107 w = (numL w).map fun n => { s with keep := s.keep ++ [n] } := by simp [setR]
    rw [e]
    cases numL w with
    | none => rfl
    | some n =>
      simp only [Option.map_some, Option.bind_some]
      rw [keeps_eq ws]
      cases numsL ws with
      | none => rfl
      | some l => simp
theorem findF_lt {l : List (Bs × Bs)} {w : Bs} {i : Nat} (h : findF l w = some i) : i < l.length := (List.findIdx?_eq_some_iff_findIdx_eq.1 h).1
theorem callArgs : ∀ i, i < 19 → ∀ c ∈ argsAt callF i, isC c = true := by decide +kernel
theorem stepArgs : ∀ i, i < 13 → ¬ i = 0 → ¬ i = 9 → ∀ c ∈ argsAt stepF i, oneS c = true := by decide +kernel
theorem step_call (s : StepR) (ws : List Bs) (hs : s = { zeroR with kind := 1 }) : runS [114, 118, 99] s ws = (match ws with
      | r :: v :: cw :: rest => (findF callF cw).bind fun j => runR (114 :: 118 :: 112 :: argsAt callF j) { zeroR with kind := 1, ck := (j : Int) + 1 } (r :: v :: rest)
      | _ => none) := by
  match ws with
  | [] => simp [runS, oneS]
  | [r] =>
    simp only [runS]
    rw [if_pos (by decide)]
    cases setS s 114 r with
    | none => rfl
    | some s1 => simp [runS, oneS]
  | [r, v] =>
    simp only [runS]
    rw [if_pos (by decide)]
    cases setS s 114 r with
    | none => rfl
    | some s1 =>
      simp only [Option.bind_some]
      rw [if_pos (by decide)]
      cases setS s1 118 v with
      | none => rfl
      | some s2 => simp [callP, oneS]
  | r :: v :: cw :: rest =>
    subst hs
    have a1 : ∀ s w, setS s 114 w = (numL w).map fun n => { s with rep := n } := fun s w => by simp [setS]
    have a2 : ∀ s w, setS s 118 w = (unwordL w).map fun t => { s with vol := ⟨t.toArray⟩ } := fun s w => by simp [setS]
    have b1 : ∀ s w, setR s 114 w = (numL w).map fun n => { s with rep := n } := fun s w => by simp [setR]
    have b2 : ∀ s w, setR s 118 w = (unwordL w).map fun t => { s with vol := ⟨t.toArray⟩ } := fun s w => by simp [setR]
    have b3 : ∀ s w, setR s 112 w = (unwordL w).map fun t => { s with path := ⟨t.toArray⟩ } := fun s w => by simp [setR]
    have o1 : oneS 114 = true := by decide
    have o2 : oneS 118 = true := by decide
    have o3 : ¬ oneS 99 = true := by decide
    have o4 : ¬ (99 : UInt8) = 107 := by decide
    have e1 : ∀ s cs w ws, runS (114 :: cs) s (w :: ws) = (setS s 114 w).bind fun s' => runS cs s' ws := fun s cs w ws => by conv => lhs; unfold runS; rw [if_pos o1]
    have e2 : ∀ s cs w ws, runS (118 :: cs) s (w :: ws) = (setS s 118 w).bind fun s' => runS cs s' ws := fun s cs w ws => by conv => lhs; unfold runS; rw [if_pos o2]
    have e3 : ∀ s cs ws, runS (99 :: cs) s ws = (callP s ws).bind fun x => runS cs x.1 x.2 := fun s cs ws => by conv => lhs; unfold runS; rw [if_neg o3, if_neg o4]
    have r1 : ∀ c s cs w ws, runR (c :: cs) s (w :: ws) = (setR s c w).bind fun s' => runR cs s' ws := fun c s cs w ws => by conv => lhs; unfold runR
    rw [e1]
    simp only [r1, a1, b1]
    cases numL r with
    | none => cases findF callF cw <;> rfl
    | some n =>
      simp only [Option.map_some, Option.bind_some, e2, a2, b2]
      cases unwordL v with
      | none => cases findF callF cw <;> rfl
      | some t =>
        simp only [Option.map_some, Option.bind_some, e3, callP]
        cases hj : findF callF cw with
        | none => rfl
        | some j =>
          simp only [Option.bind_some]
          cases rest with
          | nil => simp [runR]
          | cons p ws =>
            simp only [r1, b3]
            cases unwordL p with
            | none => rfl
            | some q =>
              simp only [Option.map_some, Option.bind_some]
              exact runC_eq _ _ _ (callArgs j (findF_lt hj)) rfl
theorem step_keep (s : StepR) (r : Bs) (ws : List Bs) : runS [114, 107] s (r :: ws) = runR (114 :: List.replicate ws.length 107) s (r :: ws) := by
  have o1 : oneS 114 = true := by decide
  have o2 : ¬ oneS 107 = true := by decide
  simp only [runS, runR]
  rw [if_pos o1]
  have e : setS s 114 r = setR s 114 r := by simp [setS, setR]
  rw [e]
  cases setR s 114 r with
  | none => rfl
  | some s' =>
    simp only [Option.bind_some]
    rw [if_neg o2, keeps_eq]
    cases numsL ws with
    | none => rfl
    | some l => simp
theorem stepP_eq (ws : List Bs) : stepP ws = lineW ws := by
  match ws with
  | [] => rfl
  | w :: ws =>
    simp only [stepP, lineW]
    cases hi : findF stepF w with
    | none => rfl
    | some i =>
      simp only [Option.bind_some]
      have hl := findF_lt hi
      by_cases h0 : i = 0
      · subst h0
        rw [if_pos rfl]
        have : argsAt stepF 0 = [114, 118, 99] := by decide
        rw [this]
        exact step_call _ ws rfl
      · rw [if_neg h0]
        by_cases h9 : i = 9
        · subst h9
          rw [if_pos rfl]
          have : argsAt stepF 9 = [114, 107] := by decide
          rw [this]
          cases ws with
          | nil => simp [runS, oneS]
          | cons r ws => exact step_keep _ r ws
        · rw [if_neg h9]
          exact runS_eq _ _ _ (stepArgs i hl h0 h9) (by show ¬ (i : Int) + 1 = 1; omega)
/-- The words of a letter of the reference. -/
def fldR (s : StepR) (c : UInt8) : Option (List Bs) := if c = 107 then some (s.keep.map Lib.itoa) else if c = 114 then some [Lib.itoa s.rep] else if c = 118 then some [wordL s.vol.data.toList] else if c = 78 then some [Lib.itoa s.n] else if c = 112 then some [wordL s.path.data.toList] else
  if c = 111 then some [Lib.itoa s.off] else if c = 110 then some [Lib.itoa s.cn] else if c = 100 then some [wordL s.data.data.toList] else if c = 115 then (timeL s.time).map fun t => [t] else if c = 116 ∧ s.kind = 1 then some [wordL s.cto.data.toList] else some [wordL s.dst.data.toList]
/-- The words of a step, as the reference says them. -/
def textV (s : StepR) : Option (List Bs) := match formAt stepF s.kind with
  | none => none
  | some (w, cs) => if s.kind = 1 then (match formAt callF s.ck with
      | none => none
      | some (cw, cs) => (flds (fldR s) (112 :: cs)).map fun l => w :: Lib.itoa s.rep :: wordL s.vol.data.toList :: cw :: l)
    else (flds (fldR s) (cs.map bigN)).map fun l => w :: l
theorem fldC_eq (s : StepR) (c : UInt8) (h : isC c = true) (hk : s.kind = 1) : fldC s c = fldR s c := by
  unfold isC at h
  simp only [Bool.or_eq_true, beq_iff_eq] at h
  rcases h with (((rfl | rfl) | rfl) | rfl) | rfl <;> simp [fldC, fldR, hk]
theorem flds_congr (f g : UInt8 → Option (List Bs)) (m : UInt8 → UInt8) : ∀ cs : Bs, (∀ c ∈ cs, f c = g (m c)) → flds f cs = flds g (cs.map m)
  | [], _ => rfl
  | c :: cs, h => by
    simp only [flds, List.map_cons]
    rw [h c (by simp), flds_congr f g m cs fun c hc => h c (by simp [hc])]
theorem fldS_eq (s : StepR) (c : UInt8) (h : oneS c = true ∨ c = 107) (hk : ¬ s.kind = 1) : fldS s c = fldR s (bigN c) := by
  rw [oneS_iff] at h
  rcases h with (rfl | rfl | rfl | rfl) | rfl <;> simp [fldS, fldR, bigN, hk]
theorem formAt_some {l : List (Bs × Bs)} {k : Int} {x : Bs × Bs} (h : formAt l k = some x) : ∃ i : Nat, k = (i : Int) + 1 ∧ i < l.length ∧ l.getD i ([], []) = x := by
  unfold formAt at h
  split at h
  · cases h
  · refine ⟨(k - 1).toNat, by omega, (List.getElem?_eq_some_iff.1 h).1, ?_⟩
    rw [List.getD_eq_getElem?_getD, h]; rfl
theorem formAt_of (l : List (Bs × Bs)) (i : Nat) (h : i < l.length) : formAt l ((i : Int) + 1) = some (l.getD i ([], [])) := by
  unfold formAt
  rw [if_neg (by omega), show ((i : Int) + 1 - 1).toNat = i by omega, List.getD_eq_getElem?_getD, List.getElem?_eq_getElem h]
  rfl
theorem stepLets : ∀ i, i < 13 → ¬ i = 0 → ∀ c ∈ argsAt stepF i, oneS c = true ∨ c = 107 := by decide +kernel
theorem textW_eq (s : StepR) : textW s = textV s := by
  unfold textW textV
  cases hf : formAt stepF s.kind with
  | none => rfl
  | some x =>
    obtain ⟨i, hk, hi, hx⟩ := formAt_some hf
    obtain ⟨w, cs⟩ := x
    have hcs : cs = argsAt stepF i := by unfold argsAt; rw [hx]
    simp only
    by_cases h1 : s.kind = 1
    · rw [if_pos h1]
      obtain rfl : i = 0 := by omega
      have : argsAt stepF 0 = [114, 118, 99] := by decide
      rw [hcs, this]
      have e1 : fldS s 114 = some [Lib.itoa s.rep] := by simp [fldS]
      have e2 : fldS s 118 = some [wordL s.vol.data.toList] := by simp [fldS]
      have e3 : fldS s 99 = calledL s := by simp [fldS]
      simp only [flds, e1, e2, e3, Option.bind_some]
      unfold calledL
      cases hg : formAt callF s.ck with
      | none => rfl
      | some y =>
        obtain ⟨j, _, hj, hy⟩ := formAt_some hg
        obtain ⟨cw, cs'⟩ := y
        have hcs' : cs' = argsAt callF j := by unfold argsAt; rw [hy]
        simp only
        have e4 : fldR s 112 = some [wordL s.path.data.toList] := by simp [fldR]
        rw [e4]
        simp only [Option.bind_some]
        rw [flds_congr (fldC s) (fldR s) id cs' (fun c hc => fldC_eq s c (callArgs j hj c (by rw [← hcs']; exact hc)) h1), List.map_id]
        cases flds (fldR s) cs' with
        | none => rfl
        | some l => simp
    · rw [if_neg h1]
      have h0 : ¬ i = 0 := by omega
      rw [flds_congr (fldS s) (fldR s) bigN cs (fun c hc => fldS_eq s c (stepLets i hi h0 c (by rw [← hcs]; exact hc)) h1)]
end Go.Proofs.YtmcooenafgihkaaGreatDoor
