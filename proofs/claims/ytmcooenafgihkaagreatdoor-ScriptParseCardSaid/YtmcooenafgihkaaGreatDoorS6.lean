/- Plain laws: a line's step has ints and texts of bounds; the example. No condition. -/
import Derived.Test.YtmcooenafgihkaaGreatDoorS5
set_option linter.unusedSimpArgs false
set_option linter.unusedVariables false
namespace Go.Proofs.YtmcooenafgihkaaGreatDoor

theorem wordC_pos (c : UInt8) : 1 ≤ (wordC c).length := by unfold wordC; split <;> simp
theorem wordL_ge (t : Bs) : t.length ≤ (wordL t).length := by
  have h : ∀ l : Bs, l.length ≤ (l.flatMap wordC).length := by
    intro l
    induction l with
    | nil => simp
    | cons c l ih => rw [List.flatMap_cons, List.length_append, List.length_cons]; have := wordC_pos c; omega
  unfold wordL
  split
  · rename_i e; subst e; simp
  · exact h t
theorem unword_len {w t : Bs} (h : unwordL w = some t) : t.length ≤ w.length := by
  have := wordL_ge t
  rw [(unword_iff w t).1 h] at this
  exact this
/-- Its numbers are ints, its texts are not too long. -/
structure StepR.Ok (s : StepR) : Prop where
  fine : s.Fine
  small : s.Small
theorem num_i64 {w : Bs} {n : Int} (h : numL w = some n) : I64 n := ((num_iff w n).1 h).1
theorem size_of {t : Bs} {w : Bs} (h : unwordL w = some t) (hw : w.length ≤ 30000000) : (⟨t.toArray⟩ : ByteArray).size ≤ 30000000 := Nat.le_trans (unword_len h) hw
theorem setC_ok {s s' : StepR} {c : UInt8} {w : Bs} (hs : s.Ok) (hw : w.length ≤ 30000000) (hc : isC c = true) (h : setC s c w = some s') : s'.Ok := by
  obtain ⟨⟨f1, f2, f3, f4, f5, f6⟩, ⟨g1, g2, g3, g4, g5⟩⟩ := hs
  rw [isC_iff] at hc
  rcases hc with rfl | rfl | rfl | rfl | rfl
  · simp [setC] at h; obtain ⟨t, ht, rfl⟩ := h; exact ⟨⟨f1, f2, f3, f4, f5, f6⟩, ⟨g1, g2, g3, size_of ht hw, g5⟩⟩
  · simp [setC] at h; obtain ⟨t, ht, rfl⟩ := h; exact ⟨⟨f1, f2, f3, num_i64 ht, f5, f6⟩, ⟨g1, g2, g3, g4, g5⟩⟩
  · simp [setC] at h; obtain ⟨t, ht, rfl⟩ := h; exact ⟨⟨f1, f2, f3, f4, num_i64 ht, f6⟩, ⟨g1, g2, g3, g4, g5⟩⟩
  · simp [setC] at h; obtain ⟨t, ht, rfl⟩ := h; exact ⟨⟨f1, f2, f3, f4, f5, f6⟩, ⟨g1, g2, g3, g4, size_of ht hw⟩⟩
  · simp [setC] at h; obtain ⟨t, ht, rfl⟩ := h; exact ⟨⟨f1, f2, f3, f4, f5, (timeU_back ht).2⟩, ⟨g1, g2, g3, g4, g5⟩⟩
theorem runC_ok : ∀ (cs : Bs) (s x : StepR) (ws r : List Bs), s.Ok → (∀ t ∈ ws, t.length ≤ 30000000) → (∀ c ∈ cs, isC c = true) → runC cs s ws = some (x, r) → x.Ok ∧ (∀ t ∈ r, t.length ≤ 30000000)
  | [], s, x, ws, r, hs, hw, _, h => by
    simp only [runC, Option.some.injEq, Prod.mk.injEq] at h
    obtain ⟨rfl, rfl⟩ := h
    exact ⟨hs, hw⟩
  | _ :: _, s, x, [], r, _, _, _, h => by simp [runC] at h
  | c :: cs, s, x, w :: ws, r, hs, hw, hc, h => by
    simp only [runC] at h
    obtain ⟨s', h1, h2⟩ := Option.bind_eq_some_iff.1 h
    exact runC_ok cs s' x ws r (setC_ok hs (hw w (by simp)) (hc c (by simp)) h1) (fun t ht => hw t (by simp [ht])) (fun c hc' => hc c (by simp [hc'])) h2
theorem callP_ok {s x : StepR} {ws r : List Bs} (hs : s.Ok) (hw : ∀ t ∈ ws, t.length ≤ 30000000) (h : callP s ws = some (x, r)) : x.Ok ∧ (∀ t ∈ r, t.length ≤ 30000000) := by
  match ws with
  | [] => simp [callP] at h
  | w :: ws =>
    simp only [callP] at h
    obtain ⟨i, hi, h⟩ := Option.bind_eq_some_iff.1 h
    have hl := findF_lt hi
    match ws with
    | [] => simp at h
    | p :: ws =>
      simp only at h
      obtain ⟨t, ht, h⟩ := Option.bind_eq_some_iff.1 h
      obtain ⟨⟨f1, f2, f3, f4, f5, f6⟩, ⟨g1, g2, g3, g4, g5⟩⟩ := hs
      have hs2 : StepR.Ok { s with ck := (i : Int) + 1, path := ⟨t.toArray⟩ } := ⟨⟨f1, f2, f3, f4, f5, f6⟩, ⟨g1, g2, size_of ht (hw p (by simp)), g4, g5⟩⟩
      exact runC_ok _ _ _ _ _ hs2 (fun t ht => hw t (by simp [ht])) (callArgs i hl) h
theorem numsL_ok : ∀ {ws : List Bs} {l : List Int}, numsL ws = some l → (∀ k ∈ l, I64 k)
  | [], l, h => by simp only [numsL, Option.some.injEq] at h; subst h; intro k hk; cases hk
  | w :: ws, l, h => by
    simp only [numsL] at h
    obtain ⟨n, hn, h⟩ := Option.bind_eq_some_iff.1 h
    obtain ⟨l', hl, rfl⟩ := Option.map_eq_some_iff.1 h
    intro k hk
    rw [List.mem_cons] at hk
    rcases hk with rfl | hk
    · exact num_i64 hn
    · exact numsL_ok hl k hk
theorem numsL_len : ∀ {ws : List Bs} {l : List Int}, numsL ws = some l → l.length = ws.length
  | [], l, h => by simp only [numsL, Option.some.injEq] at h; subst h; rfl
  | w :: ws, l, h => by
    simp only [numsL] at h
    obtain ⟨n, hn, h⟩ := Option.bind_eq_some_iff.1 h
    obtain ⟨l', hl, rfl⟩ := Option.map_eq_some_iff.1 h
    simp [numsL_len hl]
theorem setS_ok {s s' : StepR} {c : UInt8} {w : Bs} (hs : s.Ok) (hw : w.length ≤ 30000000) (hc : oneS c = true) (h : setS s c w = some s') : s'.Ok ∧ s'.keep = s.keep := by
  obtain ⟨⟨f1, f2, f3, f4, f5, f6⟩, ⟨g1, g2, g3, g4, g5⟩⟩ := hs
  rw [oneS_iff] at hc
  rcases hc with rfl | rfl | rfl | rfl
  · simp [setS] at h; obtain ⟨t, ht, rfl⟩ := h; exact ⟨⟨⟨num_i64 ht, f2, f3, f4, f5, f6⟩, ⟨g1, g2, g3, g4, g5⟩⟩, rfl⟩
  · simp [setS] at h; obtain ⟨t, ht, rfl⟩ := h; exact ⟨⟨⟨f1, f2, f3, f4, f5, f6⟩, ⟨size_of ht hw, g2, g3, g4, g5⟩⟩, rfl⟩
  · simp [setS] at h; obtain ⟨t, ht, rfl⟩ := h; exact ⟨⟨⟨f1, f2, f3, f4, f5, f6⟩, ⟨g1, size_of ht hw, g3, g4, g5⟩⟩, rfl⟩
  · simp [setS] at h; obtain ⟨t, ht, rfl⟩ := h; exact ⟨⟨⟨f1, num_i64 ht, f3, f4, f5, f6⟩, ⟨g1, g2, g3, g4, g5⟩⟩, rfl⟩
theorem runS_ok : ∀ (cs : Bs) (s x : StepR) (ws : List Bs), s.Ok → (∀ t ∈ ws, t.length ≤ 30000000) → (∀ c ∈ cs, c = 114 ∨ c = 118 ∨ c = 116 ∨ c = 110 ∨ c = 107 ∨ c = 99) → runS cs s ws = some x → x.Ok ∧ x.keep.length ≤ s.keep.length + ws.length
  | [], s, x, ws, hs, _, _, h => by
    obtain ⟨rfl, rfl⟩ := runS_end h
    exact ⟨hs, by simp⟩
  | c :: cs, s, x, ws, hs, hw, hc, h => by
    have hc' := fun d (hd : d ∈ cs) => hc d (by simp [hd])
    by_cases h1 : oneS c = true
    · match ws, hw, h with
      | [], _, h => rw [runS_none h1] at h; cases h
      | w :: ws, hw, h =>
        rw [runS_one h1] at h
        obtain ⟨s', e1, h⟩ := Option.bind_eq_some_iff.1 h
        obtain ⟨k1, k2⟩ := setS_ok hs (hw w (by simp)) h1 e1
        obtain ⟨m1, m2⟩ := runS_ok cs s' x ws k1 (fun t ht => hw t (by simp [ht])) hc' h
        rw [k2] at m2
        exact ⟨m1, by rw [List.length_cons]; omega⟩
    · simp only [runS] at h
      rw [if_neg h1] at h
      by_cases h2 : c = 107
      · rw [if_pos h2] at h
        obtain ⟨l, hl, h⟩ := Option.bind_eq_some_iff.1 h
        obtain ⟨⟨f1, f2, f3, f4, f5, f6⟩, ⟨g1, g2, g3, g4, g5⟩⟩ := hs
        obtain ⟨m1, m2⟩ := runS_ok cs { s with keep := s.keep ++ l } x [] ⟨⟨f1, f2, fun k hk => (by
          rw [List.mem_append] at hk
          rcases hk with hk | hk
          · exact f3 k hk
          · exact numsL_ok hl k hk), f4, f5, f6⟩, ⟨g1, g2, g3, g4, g5⟩⟩ (fun t ht => by cases ht) hc' h
        simp only [List.length_append, numsL_len hl, List.length_nil] at m2
        exact ⟨m1, by omega⟩
      · rw [if_neg h2] at h
        obtain ⟨y, hy, h⟩ := Option.bind_eq_some_iff.1 h
        obtain ⟨k1, k2⟩ := callP_ok hs hw (show callP s ws = some (y.1, y.2) from hy)
        obtain ⟨m1, m2⟩ := runS_ok cs y.1 x y.2 k1 k2 hc' h
        have hk : y.1.keep = s.keep ∧ y.2.length ≤ ws.length := by
          match ws, hy with
          | [], hy => simp [callP] at hy
          | w :: ws, hy =>
            simp only [callP] at hy
            obtain ⟨i, hi, hy⟩ := Option.bind_eq_some_iff.1 hy
            match ws, hy with
            | [], hy => simp at hy
            | p :: ws, hy =>
              simp only at hy
              obtain ⟨t, ht, hy⟩ := Option.bind_eq_some_iff.1 hy
              have key : ∀ (cs : Bs) (s x : StepR) (ws r : List Bs), (∀ c ∈ cs, isC c = true) → runC cs s ws = some (x, r) → x.keep = s.keep ∧ r.length ≤ ws.length := by
                intro cs
                induction cs with
                | nil => intro s x ws r _ h; simp only [runC, Option.some.injEq, Prod.mk.injEq] at h; obtain ⟨rfl, rfl⟩ := h; exact ⟨rfl, Nat.le_refl _⟩
                | cons c cs ih =>
                  intro s x ws r hc h
                  cases ws with
                  | nil => simp [runC] at h
                  | cons w ws =>
                    simp only [runC] at h
                    obtain ⟨s', h1, h2⟩ := Option.bind_eq_some_iff.1 h
                    obtain ⟨i1, i2⟩ := ih s' x ws r (fun d hd => hc d (by simp [hd])) h2
                    have : s'.keep = s.keep := by
                      have hcc := (isC_iff c).1 (hc c (by simp))
                      rcases hcc with rfl | rfl | rfl | rfl | rfl <;> (simp [setC] at h1; obtain ⟨_, _, rfl⟩ := h1; rfl)
                    exact ⟨i1.trans this, by rw [List.length_cons]; omega⟩
              obtain ⟨q1, q2⟩ := key _ _ _ _ _ (callArgs i (findF_lt hi)) (show runC _ _ ws = some (y.1, y.2) from hy)
              exact ⟨q1, by simp only [List.length_cons]; omega⟩
        rw [hk.1] at m2
        exact ⟨m1, by omega⟩
theorem stepLet2 : ∀ i, i < 13 → ∀ c ∈ argsAt stepF i, c = 114 ∨ c = 118 ∨ c = 116 ∨ c = 110 ∨ c = 107 ∨ c = 99 := by decide +kernel
theorem zero_i64 : I64 0 := ⟨by decide, by decide⟩
theorem zero_small : (⟨#[]⟩ : ByteArray).size ≤ 30000000 := by decide
theorem zero_ok (n : Int) : StepR.Ok { zeroR with kind := n } := ⟨⟨zero_i64, zero_i64, (fun k hk => nomatch (show k ∈ ([] : List Int) from hk)), zero_i64, zero_i64, (show 0 < 18446744073709551616 by decide)⟩, ⟨zero_small, zero_small, zero_small, zero_small, zero_small⟩⟩
theorem step_ok {ws : List Bs} {x : StepR} (hw : ∀ t ∈ ws, t.length ≤ 30000000) (h : stepP ws = some x) : x.Ok ∧ x.keep.length ≤ ws.length := by
  match ws with
  | [] => cases h
  | w :: ws =>
    simp only [stepP] at h
    obtain ⟨i, hi, h⟩ := Option.bind_eq_some_iff.1 h
    obtain ⟨m1, m2⟩ := runS_ok _ _ _ _ (zero_ok _) (fun t ht => hw t (by simp [ht])) (stepLet2 i (findF_lt hi)) h
    exact ⟨m1, by rw [List.length_cons]; simp [zeroR] at m2; omega⟩
theorem wordsW_len (l : Bs) (x : Bs) (h : x ∈ wordsW l) : x.length ≤ l.length := by rw [← cutC_words] at h; exact cutC_len 32 l x h
theorem wordsW_many (l : Bs) : (wordsW l).length ≤ l.length + 1 := by rw [← cutC_words]; exact cutC_many 32 l
theorem line_ok {l : Bs} {x : StepR} (h : lineL l = some x) : x.Ok ∧ x.keep.length ≤ 201 ∧ ∃ ws, textW x = some ws ∧ joinW ws = l := by
  unfold lineL at h
  split at h
  · cases h
  · rename_i hl
    obtain ⟨h1, h2⟩ := step_ok (fun t ht => by have := wordsW_len l t ht; omega) h
    exact ⟨h1, by have := wordsW_many l; omega, _, step_back h, join_words l⟩
/-- The example's step. -/
def awakeR : StepR := { zeroR with kind := 1, rep := 0, vol := ⟨#[118, 48]⟩, ck := 1, path := ⟨#[47, 97]⟩, cn := 493, time := 0 }
theorem awake_line : lineL [99, 97, 108, 108, 32, 48, 32, 118, 48, 32, 109, 107, 100, 105, 114, 32, 47, 97, 32, 52, 57, 51, 32, 48] = some awakeR := by
  have w1 : wordsW [99, 97, 108, 108, 32, 48, 32, 118, 48, 32, 109, 107, 100, 105, 114, 32, 47, 97, 32, 52, 57, 51, 32, 48] = [[99, 97, 108, 108], [48], [118, 48], [109, 107, 100, 105, 114], [47, 97], [52, 57, 51], [48]] := by decide +kernel
  have n0 : numL [48] = some 0 := (num_iff _ _).2 ⟨⟨by decide, by decide⟩, by simp [Lib.itoa, Lib.decDigits]⟩
  have n1 : numL [52, 57, 51] = some 493 := (num_iff _ _).2 ⟨⟨by decide, by decide⟩, by simp [Lib.itoa, Lib.decDigits]⟩
  have u1 : unwordL [118, 48] = some [118, 48] := (unword_iff _ _).2 (by decide +kernel)
  have u2 : unwordL [47, 97] = some [47, 97] := (unword_iff _ _).2 (by decide +kernel)
  have f1 : findF stepF [99, 97, 108, 108] = some 0 := by decide +kernel
  have f2 : findF callF [109, 107, 100, 105, 114] = some 0 := by decide +kernel
  have a1 : argsAt stepF 0 = [114, 118, 99] := by decide
  have a2 : argsAt callF 0 = [110, 115] := by decide
  have t1 : timeU [48] = some 0 := by
    unfold timeU
    rw [if_neg (by decide), if_neg (by decide), if_neg (by decide), if_neg (by decide), n0]
    simp only [Option.bind_some]
    rw [if_pos (by decide)]
    decide +kernel
  unfold lineL
  rw [if_neg (by decide), w1]
  simp only [stepP]
  rw [f1]
  simp only [Option.bind_some]
  rw [a1, runS_one (by decide)]
  have s1 : ∀ s, setS s 114 [48] = some { s with rep := 0 } := fun s => by simp [setS, n0]
  have s2 : ∀ s, setS s 118 [118, 48] = some { s with vol := ⟨#[118, 48]⟩ } := fun s => by simp [setS, u1]
  have s3 : ∀ s, setC s 110 [52, 57, 51] = some { s with cn := 493 } := fun s => by simp [setC, n1]
  have s4 : ∀ s, setC s 115 [48] = some { s with time := 0 } := fun s => by simp [setC, t1]
  rw [s1]
  simp only [Option.bind_some]
  rw [runS_one (by decide), s2]
  simp only [Option.bind_some]
  rw [runS_call]
  simp only [callP]
  rw [f2]
  simp only [Option.bind_some]
  rw [u2]
  simp only [Option.bind_some]
  rw [a2]
  simp only [runC]
  rw [s3]
  simp only [Option.bind_some]
  rw [s4]
  rfl
end Go.Proofs.YtmcooenafgihkaaGreatDoor
