/- Plain laws: a line of a step leads back to it; the line of a line's step is that line. No condition. -/
import Derived.Test.YtmcooenafgihkaaGreatDoorS2
set_option linter.unusedSimpArgs false
set_option linter.unusedVariables false
namespace Go.Proofs.YtmcooenafgihkaaGreatDoor

section
open Ieee
theorem float_of_int (n : Int) (h1 : -9007199254740992 ≤ n) (h2 : n ≤ 9007199254740992) : ∃ s : Bool, s = decide (n < 0) ∧ floatOfInt .f64 n = double.nearest s n.natAbs 0 := ⟨_, rfl, rfl⟩
theorem floatOf_facts (n : Int) (h1 : -9007199254740992 ≤ n) (h2 : n ≤ 9007199254740992) : timeL (floatOfInt .f64 n) = some (Lib.itoa n) ∧ floatOfInt .f64 n < 18446744073709551616 := by
  have hq : n.natAbs ≤ 9007199254740992 := by omega
  obtain ⟨s, hs, e⟩ := float_of_int n h1 h2
  rw [e]
  obtain ⟨v, l⟩ := R_whole n.natAbs hq
  obtain ⟨_, k, nn, b⟩ := whole_back s n.natAbs hq
  have hm := word_mod s _ (Nat.le_of_lt l)
  have hg := word_ng s _ (Nat.le_of_lt l)
  rw [← nearest_R] at hm hg
  have hR : R n.natAbs 0 ≤ 4845873199050653696 := by
    have := R_mono (m := n.natAbs) (n := 9007199254740992) 0 hq
    have h4 : R 9007199254740992 0 = 4845873199050653696 := by decide +kernel
    rw [h4] at this; exact this
  generalize double.nearest s n.natAbs 0 = x at *
  refine ⟨?_, b⟩
  have hwq : wq x = n.natAbs := by unfold wq; rw [hm, v, Nat.mul_div_cancel _ LU_pos]
  have hwt : wt x = false := by unfold wt; rw [hm, v, Nat.mul_mod_left]; rfl
  have htr : truncV x = n := by
    unfold truncV
    rw [hwq, hg, hs]
    by_cases h0 : n < 0
    · rw [decide_eq_true h0]; show -(n.natAbs : Int) = n; omega
    · rw [decide_eq_false h0]; show (n.natAbs : Int) = n; omega
  have hfar : far x = false := by
    unfold far
    have a := order_key x 14069245235905429504 b (by decide) nn (by unfold isN; decide)
    have c := order_key x 4845873199050653696 b (by decide) nn (by unfold isN; decide)
    rw [show FloatKind.f64.format = Ieee.double from rfl, a, c]
    have k1 : key 14069245235905429504 = -4845873199050653696 := by decide
    have k2 : key 4845873199050653696 = 4845873199050653696 := by decide
    rw [k1, k2, k]
    have hsg : -4845873199050653696 ≤ sg s (R n.natAbs 0) ∧ sg s (R n.natAbs 0) ≤ 4845873199050653696 := by
      cases s
      · show _ ≤ ((R n.natAbs 0 : Nat) : Int) ∧ ((R n.natAbs 0 : Nat) : Int) ≤ _; omega
      · show _ ≤ -((R n.natAbs 0 : Nat) : Int) ∧ -((R n.natAbs 0 : Nat) : Int) ≤ _; omega
    generalize sg s (R n.natAbs 0) = y at *
    have p : (some (compare y (-4845873199050653696)) == some Ordering.lt) = false := by
      rcases Int.lt_or_eq_of_le hsg.1 with c | c
      · rw [c_gt c]; rfl
      · rw [← c, c_eq]; rfl
    have q : (some (compare y 4845873199050653696) == some Ordering.gt) = false := by
      rcases Int.lt_or_eq_of_le hsg.2 with c | c
      · rw [c_lt c]; rfl
      · rw [c, c_eq]; rfl
    rw [p, q]; rfl
  unfold timeL
  rw [if_neg (by rw [hm]; omega), if_neg, if_neg, if_neg, hfar, hwt, htr]
  · rfl
  · intro e0
    have : ng x = true := by rw [e0]; decide
    rw [hg, hs, decide_eq_true_eq] at this
    have h0 : x % 9223372036854775808 = 0 := by rw [e0]
    rw [h0] at hm
    rw [← hm] at v
    have hV : V 0 = 0 := by decide
    rw [hV] at v
    have := LU_pos
    rcases Nat.mul_eq_zero.1 v.symm with h | h <;> omega
  · intro e0
    rw [e0] at hm; omega
  · intro e0
    rw [e0] at hm; omega
end
theorem timeU_back {w : Bs} {b : Nat} (h : timeU w = some b) : timeL b = some w ∧ b < 18446744073709551616 := by
  unfold timeU at h
  split at h
  · rename_i e; injection h with h; subst h; subst e; exact ⟨by unfold timeL; rw [if_pos (by decide)], by decide⟩
  · split at h
    · rename_i e; injection h with h; subst h; subst e; exact ⟨by unfold timeL; rw [if_neg (by decide), if_pos rfl], by decide⟩
    · split at h
      · rename_i e; injection h with h; subst h; subst e; exact ⟨by unfold timeL; rw [if_neg (by decide), if_neg (by decide), if_pos rfl], by decide⟩
      · split at h
        · rename_i e; injection h with h; subst h; subst e; exact ⟨by unfold timeL; rw [if_neg (by decide), if_neg (by decide), if_neg (by decide), if_pos rfl], by decide⟩
        · obtain ⟨n, hn, h⟩ := Option.bind_eq_some_iff.1 h
          split at h
          · rename_i hr
            injection h with h
            subst h
            obtain ⟨h3, h4⟩ := floatOf_facts n hr.1 hr.2
            rw [((num_iff w n).1 hn).2] at h3
            exact ⟨h3, h4⟩
          · cases h
theorem timeL_fwd {w : Bs} {b : Nat} (hb : b < 18446744073709551616) (h : timeL b = some w) : ∃ b', timeU w = some b' := by
  unfold timeL at h
  split at h
  · injection h with h; subst h; exact ⟨_, rfl⟩
  · rename_i h1
    split at h
    · injection h with h; subst h; exact ⟨_, rfl⟩
    · split at h
      · injection h with h; subst h; exact ⟨_, rfl⟩
      · split at h
        · injection h with h; subst h; exact ⟨_, rfl⟩
        · split at h
          · cases h
          · rename_i hf
            injection h with h
            rw [Bool.or_eq_true] at hf
            have hfar : far b = false := by simpa using fun e => hf (Or.inl e)
            unfold far at hfar
            rw [Bool.or_eq_false_iff] at hfar
            have hr := in_range b hb (by unfold isN; omega) hfar.1 hfar.2
            obtain ⟨_, _, r1, r2⟩ := sg_range (ng b) (wq b) (w_bounds b hr).1
            have hnum : numL w = some (truncV b) := (num_iff w _).2 ⟨i64_of_far r1 r2, h⟩
            unfold timeU
            split
            · exact ⟨_, rfl⟩
            · split
              · exact ⟨_, rfl⟩
              · split
                · exact ⟨_, rfl⟩
                · split
                  · exact ⟨_, rfl⟩
                  · rw [hnum]
                    simp only [Option.bind_some]
                    rw [if_pos ⟨r1, r2⟩]
                    exact ⟨_, rfl⟩
theorem word_of_unword {w t : Bs} (h : unwordL w = some t) : wordL t = w := (unword_iff w t).1 h
theorem itoa_of_num {w : Bs} {n : Int} (h : numL w = some n) : Lib.itoa n = w := ((num_iff w n).1 h).2
theorem isC_iff (c : UInt8) : isC c = true ↔ c = 116 ∨ c = 111 ∨ c = 110 ∨ c = 100 ∨ c = 115 := by
  unfold isC
  simp only [Bool.or_eq_true, beq_iff_eq, or_assoc]
/-- What a call's letter does not touch. -/
theorem setC_back {s s' : StepR} {c : UInt8} {w : Bs} (hc : isC c = true) (h : setC s c w = some s') : fldC s' c = some [w] ∧ (∀ d, isC d = true → ¬ d = c → fldC s' d = fldC s d) ∧ s'.kind = s.kind ∧ s'.rep = s.rep ∧ s'.vol = s.vol ∧ s'.ck = s.ck ∧ s'.path = s.path := by
  rw [isC_iff] at hc
  rcases hc with rfl | rfl | rfl | rfl | rfl
  · simp only [setC] at h
    obtain ⟨t, ht, rfl⟩ := Option.map_eq_some_iff.1 h
    refine ⟨by simp [fldC, word_of_unword ht], fun d hd hn => ?_, rfl, rfl, rfl, rfl, rfl⟩
    simp [fldC, hn]
  · simp [setC] at h
    obtain ⟨t, ht, rfl⟩ := h
    refine ⟨by simp [fldC, itoa_of_num ht], fun d hd hn => ?_, rfl, rfl, rfl, rfl, rfl⟩
    simp [fldC, hn]
  · simp [setC] at h
    obtain ⟨t, ht, rfl⟩ := h
    refine ⟨by simp [fldC, itoa_of_num ht], fun d hd hn => ?_, rfl, rfl, rfl, rfl, rfl⟩
    simp [fldC, hn]
  · simp [setC] at h
    obtain ⟨t, ht, rfl⟩ := h
    refine ⟨by simp [fldC, word_of_unword ht], fun d hd hn => ?_, rfl, rfl, rfl, rfl, rfl⟩
    simp [fldC, hn]
  · simp [setC] at h
    obtain ⟨t, ht, rfl⟩ := h
    refine ⟨by simp [fldC, (timeU_back ht).1], fun d hd hn => ?_, rfl, rfl, rfl, rfl, rfl⟩
    rw [isC_iff] at hd
    rcases hd with rfl | rfl | rfl | rfl | rfl
    · simp [fldC]
    · simp [fldC]
    · simp [fldC]
    · simp [fldC]
    · exact absurd rfl hn
theorem runC_back : ∀ (cs : Bs) (s x : StepR) (ws r : List Bs), (∀ c ∈ cs, isC c = true) → cs.Nodup → runC cs s ws = some (x, r) → (∃ us, ws = us ++ r ∧ flds (fldC x) cs = some us) ∧ (∀ d, isC d = true → ¬ d ∈ cs → fldC x d = fldC s d) ∧ x.kind = s.kind ∧ x.rep = s.rep ∧ x.vol = s.vol ∧ x.ck = s.ck ∧ x.path = s.path
  | [], s, x, ws, r, _, _, h => by
    simp only [runC, Option.some.injEq, Prod.mk.injEq] at h
    obtain ⟨rfl, rfl⟩ := h
    exact ⟨⟨[], rfl, rfl⟩, fun _ _ _ => rfl, rfl, rfl, rfl, rfl, rfl⟩
  | _ :: _, s, x, [], r, _, _, h => by simp [runC] at h
  | c :: cs, s, x, w :: ws, r, hc, hn, h => by
    simp only [runC] at h
    obtain ⟨s', h1, h2⟩ := Option.bind_eq_some_iff.1 h
    rw [List.nodup_cons] at hn
    have hcc := hc c (by simp)
    obtain ⟨f1, f2, f3, f4, f5, f6, f7⟩ := setC_back hcc h1
    obtain ⟨⟨us, rfl, g1⟩, g2, g3, g4, g5, g6, g7⟩ := runC_back cs s' x ws r (fun c hc' => hc c (by simp [hc'])) hn.2 h2
    refine ⟨⟨w :: us, rfl, ?_⟩, fun d hd hm => ?_, g3.trans f3, g4.trans f4, g5.trans f5, g6.trans f6, g7.trans f7⟩
    · simp only [flds]
      rw [g2 c hcc hn.1, f1, g1]
      rfl
    · simp only [List.mem_cons, not_or] at hm
      rw [g2 d hd hm.2, f2 d hd hm.1]
theorem findF_at {l : List (Bs × Bs)} {w : Bs} {i : Nat} (h : findF l w = some i) : (l.getD i ([], [])).1 = w := by
  obtain ⟨h1, h2⟩ := List.findIdx?_eq_some_iff_getElem.1 h
  rw [List.getD_eq_getElem?_getD, List.getElem?_eq_getElem h1]
  simpa using h2.1
theorem callDup : ∀ i, i < 19 → (argsAt callF i).Nodup := by decide +kernel
theorem callP_back {s x : StepR} {ws r : List Bs} (h : callP s ws = some (x, r)) : (∃ us, ws = us ++ r ∧ calledL x = some us) ∧ x.kind = s.kind ∧ x.rep = s.rep ∧ x.vol = s.vol := by
  match ws with
  | [] => simp [callP] at h
  | w :: ws =>
    simp only [callP] at h
    obtain ⟨i, hi, h⟩ := Option.bind_eq_some_iff.1 h
    have hl := findF_lt hi
    match ws with
    | [] => simp at h
    | p :: ws =>
      simp only at h
      obtain ⟨t, ht, h⟩ := Option.bind_eq_some_iff.1 h
      obtain ⟨⟨us, rfl, g1⟩, _, g3, g4, g5, g6, g7⟩ := runC_back _ _ _ _ _ (callArgs i hl) (callDup i hl) h
      refine ⟨⟨w :: p :: us, rfl, ?_⟩, g3, g4, g5⟩
      unfold calledL
      have g6' : x.ck = (i : Int) + 1 := g6
      have g7' : x.path = ⟨t.toArray⟩ := g7
      rw [g6', formAt_of callF i hl]
      have hw := findF_at hi
      have ha : argsAt callF i = (callF.getD i ([], [])).2 := rfl
      rw [ha] at g1
      generalize callF.getD i ([], []) = y at *
      obtain ⟨y1, y2⟩ := y
      simp only at hw g1 ⊢
      rw [g1, g7', hw]
      simp [word_of_unword ht]
theorem numsL_back : ∀ {ws : List Bs} {l : List Int}, numsL ws = some l → l.map Lib.itoa = ws
  | [], l, h => by simp only [numsL, Option.some.injEq] at h; subst h; rfl
  | w :: ws, l, h => by
    simp only [numsL] at h
    obtain ⟨n, hn, h⟩ := Option.bind_eq_some_iff.1 h
    obtain ⟨l', hl, rfl⟩ := Option.map_eq_some_iff.1 h
    rw [List.map_cons, itoa_of_num hn, numsL_back hl]
theorem setS_back {s s' : StepR} {c : UInt8} {w : Bs} (hc : oneS c = true) (h : setS s c w = some s') : fldS s' c = some [w] ∧ (∀ d, oneS d = true → ¬ d = c → fldS s' d = fldS s d) ∧ s'.kind = s.kind ∧ s'.keep = s.keep := by
  rw [oneS_iff] at hc
  have hcl : ∀ (s s' : StepR) (d : UInt8), oneS d = true → (d = 114 → s'.rep = s.rep) → (d = 118 → s'.vol = s.vol) → (d = 116 → s'.dst = s.dst) → (d = 110 → s'.n = s.n) → fldS s' d = fldS s d := by
    intro s s' d hd h1 h2 h3 h4
    rw [oneS_iff] at hd
    rcases hd with rfl | rfl | rfl | rfl
    · simp [fldS, h1 rfl]
    · simp [fldS, h2 rfl]
    · simp [fldS, h3 rfl]
    · simp [fldS, h4 rfl]
  rcases hc with rfl | rfl | rfl | rfl
  · simp [setS] at h
    obtain ⟨t, ht, rfl⟩ := h
    exact ⟨by simp [fldS, itoa_of_num ht], fun d hd hn => hcl _ _ d hd (fun e => absurd e hn) (fun _ => rfl) (fun _ => rfl) (fun _ => rfl), rfl, rfl⟩
  · simp [setS] at h
    obtain ⟨t, ht, rfl⟩ := h
    exact ⟨by simp [fldS, word_of_unword ht], fun d hd hn => hcl _ _ d hd (fun _ => rfl) (fun e => absurd e hn) (fun _ => rfl) (fun _ => rfl), rfl, rfl⟩
  · simp [setS] at h
    obtain ⟨t, ht, rfl⟩ := h
    exact ⟨by simp [fldS, word_of_unword ht], fun d hd hn => hcl _ _ d hd (fun _ => rfl) (fun _ => rfl) (fun e => absurd e hn) (fun _ => rfl), rfl, rfl⟩
  · simp [setS] at h
    obtain ⟨t, ht, rfl⟩ := h
    exact ⟨by simp [fldS, itoa_of_num ht], fun d hd hn => hcl _ _ d hd (fun _ => rfl) (fun _ => rfl) (fun _ => rfl) (fun e => absurd e hn), rfl, rfl⟩
theorem runS_ones : ∀ (cs : Bs) (s x : StepR) (ws : List Bs), (∀ c ∈ cs, oneS c = true) → cs.Nodup → runS cs s ws = some x → flds (fldS x) cs = some ws ∧ (∀ d, oneS d = true → ¬ d ∈ cs → fldS x d = fldS s d) ∧ x.kind = s.kind ∧ x.keep = s.keep
  | [], s, x, ws, _, _, h => by
    simp only [runS] at h
    split at h
    · rename_i e; injection h with h; subst h; subst e
      exact ⟨rfl, fun _ _ _ => rfl, rfl, rfl⟩
    · cases h
  | c :: cs, s, x, [], hc, _, h => by
    simp only [runS] at h
    rw [if_pos (hc c (by simp))] at h
    cases h
  | c :: cs, s, x, w :: ws, hc, hn, h => by
    simp only [runS] at h
    have hcc := hc c (by simp)
    rw [if_pos hcc] at h
    obtain ⟨s', h1, h2⟩ := Option.bind_eq_some_iff.1 h
    rw [List.nodup_cons] at hn
    obtain ⟨f1, f2, f3, f4⟩ := setS_back hcc h1
    obtain ⟨g1, g2, g3, g4⟩ := runS_ones cs s' x ws (fun c hc' => hc c (by simp [hc'])) hn.2 h2
    refine ⟨?_, fun d hd hm => ?_, g3.trans f3, g4.trans f4⟩
    · simp only [flds]
      rw [g2 c hcc hn.1, f1, g1]
      rfl
    · simp only [List.mem_cons, not_or] at hm
      rw [g2 d hd hm.2, f2 d hd hm.1]
theorem stepDup : ∀ i, i < 13 → (argsAt stepF i).Nodup := by decide +kernel
theorem fldS_call (s : StepR) : fldS s 99 = calledL s := by simp [fldS]
theorem fldS_keep (s : StepR) : fldS s 107 = some (s.keep.map Lib.itoa) := by simp [fldS]
theorem runS_one {c : UInt8} (h : oneS c = true) (cs : Bs) (s : StepR) (w : Bs) (ws : List Bs) : runS (c :: cs) s (w :: ws) = (setS s c w).bind fun s' => runS cs s' ws := by conv => lhs; unfold runS; rw [if_pos h]
theorem runS_none {c : UInt8} (h : oneS c = true) (cs : Bs) (s : StepR) : runS (c :: cs) s [] = none := by conv => lhs; unfold runS; rw [if_pos h]
theorem runS_call (s : StepR) (ws : List Bs) : runS [99] s ws = (callP s ws).bind fun x => runS [] x.1 x.2 := by conv => lhs; unfold runS; rw [if_neg (by decide), if_neg (by decide)]
theorem runS_keep (s : StepR) (ws : List Bs) : runS [107] s ws = (numsL ws).bind fun l => some { s with keep := s.keep ++ l } := by
  conv => lhs; unfold runS; rw [if_neg (by decide), if_pos rfl]
  rfl
theorem runS_end {s x : StepR} {ws : List Bs} (h : runS [] s ws = some x) : ws = [] ∧ x = s := by
  simp only [runS] at h
  split at h
  · rename_i e; injection h with h; exact ⟨e, h.symm⟩
  · cases h
/-- A line's step says that line. -/
theorem step_back {ws : List Bs} {x : StepR} (h : stepP ws = some x) : textW x = some ws := by
  match ws with
  | [] => cases h
  | w :: ws =>
    simp only [stepP] at h
    obtain ⟨i, hi, h⟩ := Option.bind_eq_some_iff.1 h
    have hl := findF_lt hi
    have hw := findF_at hi
    have key : x.kind = (i : Int) + 1 → flds (fldS x) (argsAt stepF i) = some ws → textW x = some (w :: ws) := by
      intro hk hf
      unfold textW
      rw [hk, formAt_of stepF i hl]
      unfold argsAt at hf
      generalize stepF.getD i ([], []) = y at *
      obtain ⟨y1, y2⟩ := y
      simp only at hw hf ⊢
      rw [hf, hw]; rfl
    by_cases h0 : i = 0
    · subst h0
      have ha : argsAt stepF 0 = [114, 118, 99] := by decide
      rw [ha] at h key
      match ws, h with
      | [], h => rw [runS_none (by decide)] at h; cases h
      | r :: ws, h =>
        rw [runS_one (by decide)] at h
        obtain ⟨s1, e1, h⟩ := Option.bind_eq_some_iff.1 h
        match ws, h with
        | [], h => rw [runS_none (by decide)] at h; cases h
        | v :: ws, h =>
          rw [runS_one (by decide)] at h
          obtain ⟨s2, e2, h⟩ := Option.bind_eq_some_iff.1 h
          rw [runS_call] at h
          obtain ⟨⟨y, r'⟩, hy, h⟩ := Option.bind_eq_some_iff.1 h
          obtain ⟨rfl, rfl⟩ := runS_end h
          obtain ⟨⟨us, e3, g1⟩, g3, g4, g5⟩ := callP_back hy
          rw [List.append_nil] at e3
          subst e3
          obtain ⟨f1, f2, f3, f4⟩ := setS_back (by decide) e1
          obtain ⟨p1, p2, p3, p4⟩ := setS_back (by decide) e2
          refine key (by rw [g3, p3, f3]) ?_
          have q1 : fldS x 114 = some [r] := by
            rw [← f1, ← p2 114 (by decide) (by decide)]
            simp [fldS, g4]
          have q2 : fldS x 118 = some [v] := by
            rw [← p1]
            simp [fldS, g5]
          simp only [flds, q1, q2, fldS_call, g1, Option.bind_some, Option.map_some]
          simp
    · by_cases h9 : i = 9
      · subst h9
        have ha : argsAt stepF 9 = [114, 107] := by decide
        rw [ha] at h key
        match ws, h with
        | [], h => rw [runS_none (by decide)] at h; cases h
        | r :: ws, h =>
          rw [runS_one (by decide)] at h
          obtain ⟨s1, e1, h⟩ := Option.bind_eq_some_iff.1 h
          obtain ⟨f1, f2, f3, f4⟩ := setS_back (by decide) e1
          rw [runS_keep] at h
          obtain ⟨l, hl2, h⟩ := Option.bind_eq_some_iff.1 h
          injection h with h
          have hx : x.kind = s1.kind ∧ x.rep = s1.rep ∧ x.keep = s1.keep ++ l := by subst h; exact ⟨rfl, rfl, rfl⟩
          obtain ⟨x1, x2, x3⟩ := hx
          refine key (by rw [x1, f3]) ?_
          have q1 : fldS x 114 = some [r] := by
            rw [← f1]
            simp [fldS, x2]
          have f4' : s1.keep = [] := f4
          simp only [flds, q1, fldS_keep, x3, f4', List.nil_append, numsL_back hl2, Option.bind_some, Option.map_some]
          simp
      · obtain ⟨g1, _, g3, _⟩ := runS_ones _ _ _ _ (stepArgs i hl h0 h9) (stepDup i hl) h
        exact key g3 g1
/-- All numbers of a step are ints, its time a float's bits. -/
structure StepR.Fine (s : StepR) : Prop where
  rep : I64 s.rep
  n : I64 s.n
  keep : ∀ k ∈ s.keep, I64 k
  off : I64 s.off
  cn : I64 s.cn
  time : s.time < 18446744073709551616
theorem setC_fwd {s : StepR} (hs : s.Fine) (x : StepR) {c : UInt8} {us : List Bs} (hc : isC c = true) (h : fldC s c = some us) : ∃ w y, us = [w] ∧ setC x c w = some y ∧ y.kind = x.kind ∧ y.ck = x.ck := by
  rw [isC_iff] at hc
  rcases hc with rfl | rfl | rfl | rfl | rfl
  · simp [fldC] at h
    subst h
    exact ⟨_, { x with cto := ⟨s.cto.data.toList.toArray⟩ }, rfl, by simp [setC, (unword_iff _ _).2 rfl], rfl, rfl⟩
  · simp [fldC] at h
    subst h
    exact ⟨_, { x with off := s.off }, rfl, by simp [setC, (num_iff _ _).2 ⟨hs.off, rfl⟩], rfl, rfl⟩
  · simp [fldC] at h
    subst h
    exact ⟨_, { x with cn := s.cn }, rfl, by simp [setC, (num_iff _ _).2 ⟨hs.cn, rfl⟩], rfl, rfl⟩
  · simp [fldC] at h
    subst h
    exact ⟨_, { x with data := ⟨s.data.data.toList.toArray⟩ }, rfl, by simp [setC, (unword_iff _ _).2 rfl], rfl, rfl⟩
  · simp [fldC] at h
    obtain ⟨w, hw, rfl⟩ := h
    obtain ⟨b, hb⟩ := timeL_fwd hs.time hw
    exact ⟨_, { x with time := b }, rfl, by simp [setC, hb], rfl, rfl⟩
theorem runC_fwd {s : StepR} (hs : s.Fine) : ∀ (cs : Bs) (x : StepR) (us r : List Bs), (∀ c ∈ cs, isC c = true) → flds (fldC s) cs = some us → ∃ y, runC cs x (us ++ r) = some (y, r) ∧ y.kind = x.kind ∧ y.ck = x.ck
  | [], x, us, r, _, h => by
    simp only [flds, Option.some.injEq] at h
    subst h
    exact ⟨x, rfl, rfl, rfl⟩
  | c :: cs, x, us, r, hc, h => by
    simp only [flds] at h
    obtain ⟨a, ha, h⟩ := Option.bind_eq_some_iff.1 h
    obtain ⟨b, hb, rfl⟩ := Option.map_eq_some_iff.1 h
    obtain ⟨w, y, rfl, h1, h2, h3⟩ := setC_fwd hs x (hc c (by simp)) ha
    obtain ⟨z, g1, g2, g3⟩ := runC_fwd hs cs y b r (fun c hc' => hc c (by simp [hc'])) hb
    refine ⟨z, ?_, g2.trans h2, g3.trans h3⟩
    simp only [List.singleton_append, List.cons_append, runC]
    rw [h1]
    exact g1
theorem callFind : ∀ i, i < 19 → findF callF (callF.getD i ([], [])).1 = some i := by decide +kernel
theorem stepFind : ∀ i, i < 13 → findF stepF (stepF.getD i ([], [])).1 = some i := by decide +kernel
theorem callP_fwd {s : StepR} (hs : s.Fine) (x : StepR) {us : List Bs} (h : calledL s = some us) : ∃ y, callP x us = some (y, []) ∧ y.kind = x.kind ∧ y.ck = s.ck := by
  unfold calledL at h
  cases hf : formAt callF s.ck with
  | none => rw [hf] at h; cases h
  | some z =>
    rw [hf] at h
    obtain ⟨i, hk, hi, hz⟩ := formAt_some hf
    have hfi := callFind i hi
    have hca := callArgs i hi
    unfold argsAt at hca
    rw [hz] at hfi hca
    obtain ⟨w, cs⟩ := z
    simp only at h hfi hca
    obtain ⟨l, hl, rfl⟩ := Option.map_eq_some_iff.1 h
    obtain ⟨y, h1, h2, h3⟩ := runC_fwd hs cs { x with ck := (i : Int) + 1, path := ⟨s.path.data.toList.toArray⟩ } l [] hca hl
    refine ⟨y, ?_, h2, h3.trans hk.symm⟩
    simp only [callP]
    rw [hfi]
    simp only [Option.bind_some]
    rw [(unword_iff _ _).2 rfl]
    simp only [Option.bind_some]
    rw [List.append_nil] at h1
    have ha : argsAt callF i = cs := by unfold argsAt; rw [hz]
    rw [ha]
    exact h1
theorem setS_fwd {s : StepR} (hs : s.Fine) (x : StepR) {c : UInt8} {us : List Bs} (hc : oneS c = true) (h : fldS s c = some us) : ∃ w y, us = [w] ∧ setS x c w = some y ∧ y.kind = x.kind := by
  rw [oneS_iff] at hc
  rcases hc with rfl | rfl | rfl | rfl
  · simp [fldS] at h
    subst h
    exact ⟨_, { x with rep := s.rep }, rfl, by simp [setS, (num_iff _ _).2 ⟨hs.rep, rfl⟩], rfl⟩
  · simp [fldS] at h
    subst h
    exact ⟨_, { x with vol := ⟨s.vol.data.toList.toArray⟩ }, rfl, by simp [setS, (unword_iff _ _).2 rfl], rfl⟩
  · simp [fldS] at h
    subst h
    exact ⟨_, { x with dst := ⟨s.dst.data.toList.toArray⟩ }, rfl, by simp [setS, (unword_iff _ _).2 rfl], rfl⟩
  · simp [fldS] at h
    subst h
    exact ⟨_, { x with n := s.n }, rfl, by simp [setS, (num_iff _ _).2 ⟨hs.n, rfl⟩], rfl⟩
theorem numsL_fwd : ∀ l : List Int, (∀ k ∈ l, I64 k) → numsL (l.map Lib.itoa) = some l
  | [], _ => rfl
  | n :: l, h => by
    simp only [List.map_cons, numsL]
    rw [(num_iff _ n).2 ⟨h n (by simp), rfl⟩, numsL_fwd l fun k hk => h k (by simp [hk])]
    rfl
theorem runS_fwd {s : StepR} (hs : s.Fine) : ∀ (cs : Bs) (x : StepR) (us : List Bs), (∀ c ∈ cs, oneS c = true) → flds (fldS s) cs = some us → ∃ y, runS cs x us = some y ∧ y.kind = x.kind
  | [], x, us, _, h => by
    simp only [flds, Option.some.injEq] at h
    subst h
    exact ⟨x, by simp [runS], rfl⟩
  | c :: cs, x, us, hc, h => by
    simp only [flds] at h
    obtain ⟨a, ha, h⟩ := Option.bind_eq_some_iff.1 h
    obtain ⟨b, hb, rfl⟩ := Option.map_eq_some_iff.1 h
    obtain ⟨w, y, rfl, h1, h2⟩ := setS_fwd hs x (hc c (by simp)) ha
    obtain ⟨z, g1, g2⟩ := runS_fwd hs cs y b (fun c hc' => hc c (by simp [hc'])) hb
    refine ⟨z, ?_, g2.trans h2⟩
    rw [List.singleton_append, runS_one (hc c (by simp)), h1]
    exact g1
/-- A step's line has a step, of its kinds. -/
theorem step_fwd {s : StepR} (hs : s.Fine) {ws : List Bs} (h : textW s = some ws) : ∃ x, stepP ws = some x ∧ x.kind = s.kind ∧ (s.kind = 1 → x.ck = s.ck) := by
  unfold textW at h
  cases hf : formAt stepF s.kind with
  | none => rw [hf] at h; cases h
  | some z =>
    rw [hf] at h
    obtain ⟨i, hk, hi, hz⟩ := formAt_some hf
    have hfi := stepFind i hi
    have ha : argsAt stepF i = z.2 := by unfold argsAt; rw [hz]
    rw [hz] at hfi
    obtain ⟨w, cs⟩ := z
    simp only at h hfi ha
    obtain ⟨l, hl, rfl⟩ := Option.map_eq_some_iff.1 h
    simp only [stepP]
    rw [hfi]
    simp only [Option.bind_some]
    rw [ha]
    by_cases h0 : i = 0
    · subst h0
      have hc : cs = [114, 118, 99] := by rw [← ha]; decide
      subst hc
      simp only [flds] at hl
      obtain ⟨a, ha1, hl⟩ := Option.bind_eq_some_iff.1 hl
      obtain ⟨b, hb, rfl⟩ := Option.map_eq_some_iff.1 hl
      obtain ⟨a2, ha2, hb⟩ := Option.bind_eq_some_iff.1 hb
      obtain ⟨b2, hb2, rfl⟩ := Option.map_eq_some_iff.1 hb
      obtain ⟨a3, ha3, hb2⟩ := Option.bind_eq_some_iff.1 hb2
      obtain ⟨b3, hb3, rfl⟩ := Option.map_eq_some_iff.1 hb2
      injection hb3 with hb3
      subst hb3
      obtain ⟨w1, y1, rfl, s1, k1⟩ := setS_fwd hs { zeroR with kind := ((0 : Nat) : Int) + 1 } (by decide) ha1
      obtain ⟨w2, y2, rfl, s2, k2⟩ := setS_fwd hs y1 (by decide) ha2
      rw [fldS_call] at ha3
      obtain ⟨y, s3, k3, c3⟩ := callP_fwd hs y2 ha3
      refine ⟨y, ?_, by rw [k3, k2, k1, hk], fun _ => c3⟩
      rw [List.singleton_append, runS_one (by decide), s1]
      simp only [Option.bind_some, List.singleton_append, List.append_nil]
      rw [runS_one (by decide), s2]
      simp only [Option.bind_some]
      rw [runS_call, s3]
      rfl
    · by_cases h9 : i = 9
      · subst h9
        have hc : cs = [114, 107] := by rw [← ha]; decide
        subst hc
        simp only [flds] at hl
        obtain ⟨a, ha1, hl⟩ := Option.bind_eq_some_iff.1 hl
        obtain ⟨b, hb, rfl⟩ := Option.map_eq_some_iff.1 hl
        rw [fldS_keep] at hb
        simp only [Option.bind_some, Option.map_some, Option.some.injEq, List.append_nil] at hb
        subst hb
        obtain ⟨w1, y1, rfl, s1, k1⟩ := setS_fwd hs { zeroR with kind := ((9 : Nat) : Int) + 1 } (by decide) ha1
        refine ⟨{ y1 with keep := y1.keep ++ s.keep }, ?_, ?_, ?_⟩
        · rw [List.singleton_append, runS_one (by decide), s1]
          simp only [Option.bind_some]
          rw [runS_keep, numsL_fwd _ hs.keep]
          rfl
        · rw [hk]; exact k1
        · intro e; rw [hk] at e; exact absurd e (by decide)
      · rw [← ha] at hl ⊢
        obtain ⟨y, h1, h2⟩ := runS_fwd hs _ { zeroR with kind := (i : Int) + 1 } l (stepArgs i hi h0 h9) hl
        exact ⟨y, h1, by rw [h2, hk], fun e => by omega⟩
/-- Words behind one another, a blank between two. -/
def joinW : List Bs → Bs
  | [] => []
  | [w] => w
  | w :: v :: ws => w ++ 32 :: joinW (v :: ws)
/-- What stands between blanks. -/
def wordsW : Bs → List Bs
  | [] => [[]]
  | c :: l => if c = 32 then [] :: wordsW l else match wordsW l with
    | [] => [[c]]
    | w :: ws => (c :: w) :: ws
theorem wordsW_ne (l : Bs) : ¬ wordsW l = [] := by
  cases l with
  | nil => simp [wordsW]
  | cons c l =>
    unfold wordsW
    split
    · simp
    · split <;> simp
theorem words_plain : ∀ w : Bs, (∀ x ∈ w, ¬ x = 32) → wordsW w = [w]
  | [], _ => rfl
  | c :: w, h => by
    simp only [wordsW]
    rw [if_neg (h c (by simp)), words_plain w fun x hx => h x (by simp [hx])]
theorem words_app : ∀ (w l : Bs), (∀ x ∈ w, ¬ x = 32) → wordsW (w ++ 32 :: l) = w :: wordsW l
  | [], l, _ => by simp [wordsW]
  | c :: w, l, h => by
    rw [List.cons_append]
    simp only [wordsW]
    rw [if_neg (h c (by simp)), words_app w l fun x hx => h x (by simp [hx])]
theorem words_join : ∀ ws : List Bs, ¬ ws = [] → (∀ w ∈ ws, ∀ x ∈ w, ¬ x = 32) → wordsW (joinW ws) = ws
  | [], h, _ => absurd rfl h
  | [w], _, h => words_plain w (h w (by simp))
  | w :: v :: ws, _, h => by
    simp only [joinW]
    rw [words_app w _ (h w (by simp)), words_join (v :: ws) (by simp) fun w hw => h w (by simp [hw])]
theorem join_words : ∀ l : Bs, joinW (wordsW l) = l
  | [] => rfl
  | c :: l => by
    have ih := join_words l
    simp only [wordsW]
    split
    · rename_i e
      subst e
      cases hw : wordsW l with
      | nil => exact absurd hw (wordsW_ne l)
      | cons w ws =>
        rw [hw] at ih
        simp only [joinW]
        rw [ih]; rfl
    · cases hw : wordsW l with
      | nil => exact absurd hw (wordsW_ne l)
      | cons w ws =>
        rw [hw] at ih
        cases ws with
        | nil => simp only [joinW] at ih ⊢; rw [ih]
        | cons v ws => simp only [joinW, List.cons_append] at ih ⊢; rw [ih]
end Go.Proofs.YtmcooenafgihkaaGreatDoor
