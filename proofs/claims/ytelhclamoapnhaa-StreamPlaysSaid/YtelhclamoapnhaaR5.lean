/- Helper lemmas: the changes of a text, by the document. No condition. -/
import Derived.Test.YtelhclamoapnhaaE1
import Derived.Test.YtelhclamoapnhaaR3
import Derived.Test.YtelhclamoapnhaaGD
import Derived.Test.YtelhclamoapnhaaPEndx1
set_option linter.unusedSimpArgs false
set_option linter.unusedVariables false
namespace Go.Proofs.Ytelhclamoapnhaa
open Go.RowKit Go.Proofs.YtelhclamoapnhaaW.PrintWords Go.Proofs.YtelhclamoapnhaaW.PrintLast Go.Proofs.YtelhclamoapnhaaW.PrintMore

theorem praw_done0 (s : ByteArray) (a b n : Int) : PText.crannogref01_Eye_Raw.f s a true b n = some (⟨#[]⟩, s, a, true, b) := praw_done s a b n
theorem ptext_done (s : ByteArray) (a b n : Int) (hn : 0 ≤ n) (k : Nat) : PText.crannogref01_Eye_Text.f k s a true b n = some (⟨#[]⟩, s, a, true, b) := by
  unfold PText.crannogref01_Eye_Text.f
  rw [pref_num_done]
  simp only [Option.bind_some]
  rw [if_neg (by omega), praw_done]
  rfl
theorem textP_size {s x t : ByteArray} {n : Int} (h : textP s n = .ok (x, t)) : x.size ≤ s.size := by
  unfold textP at h
  split at h
  · cases h
  · rename_i q hq
    obtain ⟨m, u⟩ := q
    simp only at h
    split at h
    · cases h
    · have h1 := numP_len hq
      unfold rawP at h
      split at h
      · cases h
      · injection h with h
        injection h with h _
        rw [← h, ByteArray.size_extract]
        omega
/-- One change, as the document's eye reads it. -/
theorem parse1_ref (s : ByteArray) (a : Nat) (hs : s.size ≤ 50000000) (ha : a ≤ s.size) : ∃ (g : Nat) (x y : ByteArray) (a1 a2 a3 : Nat) (d1 d2 d3 : Bool) (b1 b2 b3 : Int), g < 9223372036854775808 ∧
    PText.crannogref01_Eye_Num.f 20 s (a : Int) false 0 1 = some ((g : Int), s, (a1 : Int), d1, b1) ∧ PText.crannogref01_Eye_Text.f 20 s (a1 : Int) d1 b1 64 = some (x, s, (a2 : Int), d2, b2) ∧ PText.crannogref01_Eye_Text.f 20 s (a2 : Int) d2 b2 300 = some (y, s, (a3 : Int), d3, b3) ∧
    ((parse1 (s.extract a s.size) = none ∧ (d3 = true ∨ (d3 = false ∧ 1 < g))) ∨ (parse1 (s.extract a s.size) = some (⟨x, y, (g : Int) == 1⟩, s.extract a3 s.size) ∧ d3 = false ∧ ¬ 1 < g ∧ a + 1 ≤ a3 ∧ a3 ≤ s.size ∧ b3 = 0 ∧ x.size ≤ 50000000)) := by
  cases hg : numP (s.extract a s.size) 1 with
  | error c =>
    obtain ⟨a1, h1⟩ := pnum_err s a 1 0 c hs ha hg
    refine ⟨0, _, _, a1, a1, a1, true, true, true, c, c, c, by omega, h1 0, ptext_done s a1 c 64 (by omega) 20, ptext_done s a1 c 300 (by omega) 20, Or.inl ⟨?_, Or.inl rfl⟩⟩
    unfold parse1; rw [hg]
  | ok q =>
  obtain ⟨g, t1⟩ := q
  obtain ⟨a1, h1, e1, ha1⟩ := pnum_ok s t1 a g 1 0 hs ha hg
  have hlt := numP_lt hg
  have hl1 := numP_len hg
  subst e1
  rw [ByteArray.size_extract, ByteArray.size_extract] at hl1
  cases hk : textP (s.extract a1 s.size) 64 with
  | error c =>
    obtain ⟨a2, h2⟩ := ptext_err s a1 64 0 c hs ha1 hk
    refine ⟨g, _, _, a1, a2, a2, false, true, true, 0, c, c, hlt, h1 0, h2 0, ptext_done s a2 c 300 (by omega) 20, Or.inl ⟨?_, Or.inl rfl⟩⟩
    unfold parse1; rw [hg]; simp only; split
    · rfl
    · rw [hk]
  | ok q =>
  obtain ⟨x, t2⟩ := q
  obtain ⟨a2, h2, e2, ha2⟩ := ptext_ok s x t2 a1 64 0 hs ha1 hk
  have hl2 := textP_len hk
  subst e2
  rw [ByteArray.size_extract, ByteArray.size_extract] at hl2
  cases hv : textP (s.extract a2 s.size) 300 with
  | error c =>
    obtain ⟨a3, h3⟩ := ptext_err s a2 300 0 c hs ha2 hv
    refine ⟨g, _, _, a1, a2, a3, false, false, true, 0, 0, c, hlt, h1 0, h2 0, h3 0, Or.inl ⟨?_, Or.inl rfl⟩⟩
    unfold parse1; rw [hg]; simp only; split
    · rfl
    · rw [hk]; simp only; rw [hv]
  | ok q =>
  obtain ⟨y, t3⟩ := q
  obtain ⟨a3, h3, e3, ha3⟩ := ptext_ok s y t3 a2 300 0 hs ha2 hv
  have hl3 := textP_len hv
  subst e3
  rw [ByteArray.size_extract, ByteArray.size_extract] at hl3
  by_cases hg1 : 1 < g
  · refine ⟨g, x, y, a1, a2, a3, false, false, false, 0, 0, 0, hlt, h1 0, h2 0, h3 0, Or.inl ⟨?_, Or.inr ⟨rfl, hg1⟩⟩⟩
    unfold parse1; rw [hg]; simp only; rw [if_pos hg1]
  · refine ⟨g, x, y, a1, a2, a3, false, false, false, 0, 0, 0, hlt, h1 0, h2 0, h3 0, Or.inr ⟨?_, rfl, hg1, by omega, ha3, rfl, ?_⟩⟩
    rotate_left
    · have := textP_size hk; rw [ByteArray.size_extract] at this; omega
    unfold parse1; rw [hg]; simp only; rw [if_neg hg1, hk]; simp only; rw [hv]
/-- The state of the document's reading: the eye in a block of its own, the changes so far. -/
structure RSt (w : World) (s : ByteArray) (a : Int) (d : Bool) (b : Int) (v : Value) (l : List Ch) (W : World) : Prop where
  below : Below w.heap.size w W
  eye : W.heap[w.heap.size]? = some (.cells #[.string s, .int .i64 a, .bool d, .int .i64 b] 89 (0, 0))
  own : W.ownsRow (w.heap.size + 1) 43 3 v l.length (chCells l)
/-- The same, and a change that is being read. -/
structure RS2 (w : World) (s : ByteArray) (a : Int) (d : Bool) (b : Int) (v : Value) (l : List Ch) (cb : Nat) (c : Ch) (W : World) : Prop where
  st : RSt w s a d b v l W
  blk : W.heap[cb]? = some (.cells #[.string c.key, .string c.val, .bool c.gone] 43 (0, 0))
  gt : w.heap.size < cb
  off : ¬ v.ownBlock = some cb
section
variable {w : World} {s s2 : ByteArray} {a a2 : Int} {d d2 : Bool} {b b2 : Int} {v : Value} {l : List Ch} {cb : Nat} {c : Ch} {W W' : World}
theorem RSt.kept (h : RSt w s a d b v l W) (hb : Below w.heap.size w W') (he : W'.heap[w.heap.size]? = some (.cells #[.string s2, .int .i64 a2, .bool d2, .int .i64 b2] 89 (0, 0))) (hk : KeepBut W W' w.heap.size none) : RSt w s2 a2 d2 b2 v l W' :=
  ⟨hb, he, own_same h.own fun g hg hlt => hk.2 g hlt (by omega) (by simp)⟩
theorem RS2.kept (h : RS2 w s a d b v l cb c W) (hb : Below w.heap.size w W') (he : W'.heap[w.heap.size]? = some (.cells #[.string s2, .int .i64 a2, .bool d2, .int .i64 b2] 89 (0, 0))) (hk : KeepBut W W' w.heap.size none) : RS2 w s2 a2 d2 b2 v l cb c W' :=
  ⟨h.st.kept hb he hk, (hk.2 cb (Array.getElem?_eq_some_iff.1 h.blk).1 (by have := h.gt; omega) (by simp)).trans h.blk, h.gt, h.off⟩
theorem RSt.open (h : RSt w s a d b v l W) (c : Ch) : RS2 w s a d b v l W.heap.size c (W.alloc (.cells #[.string c.key, .string c.val, .bool c.gone] 43)) := by
  have hlt := (Array.getElem?_eq_some_iff.1 h.eye).1
  refine ⟨⟨h.below.alloc h.below.size _, ?_, h.own.alloc _⟩, heap_alloc_new W _, hlt, fun e => ?_⟩
  · rw [Lib.alloc_old _ _ _ hlt]; exact h.eye
  · obtain ⟨_, ⟨hv, _⟩ | ⟨g, cap, cur, hv, hg, h6, _⟩⟩ := h.own
    · rw [hv] at e; simp [Value.ownBlock] at e
    · rw [hv] at e
      have hgb : g = W.heap.size := by simpa [Value.ownBlock] using e
      have := (Array.getElem?_eq_some_iff.1 h6).1
      omega
theorem own_off {B e k n : Nat} {v : Value} {xs : List Value} (h : W.ownsRow B e k v n xs) (hoff : ¬ v.ownBlock = some cb) (hs : ∀ g, ¬ g = cb → W'.heap[g]? = W.heap[g]?) : W'.ownsRow B e k v n xs := by
  obtain ⟨h0, h1 | ⟨g, cap, cur, rfl, hb, h2, h3⟩⟩ := h
  · exact ⟨h0, Or.inl h1⟩
  · exact ⟨h0, Or.inr ⟨g, cap, cur, rfl, hb, (hs g (fun e => hoff (by simp [Value.ownBlock, e]))).trans h2, h3⟩⟩
theorem RS2.set (h : RS2 w s a d b v l cb c W) (i : Nat) (u : Value) (c2 : Ch) (hc : (#[.string c.key, .string c.val, .bool c.gone] : Array Value).setIfInBounds i u = #[.string c2.key, .string c2.val, .bool c2.gone]) : RS2 w s a d b v l cb c2 (W.setCell ⟨cb, i, none⟩ u) := by
  have hgt := h.gt
  refine ⟨⟨h.st.below.setCell (p := ⟨cb, i, none⟩) (by simp only; omega) _, ?_, own_off h.st.own h.off fun g hg => heap_set_other _ _ _ _ hg⟩, ?_, hgt, h.off⟩
  · rw [heap_set_other _ _ _ _ (show ¬ w.heap.size = cb by omega)]; exact h.st.eye
  · simp [World.setCell, Array.getElem?_modify, h.blk]
    simpa using hc
theorem RS2.cells (h : RS2 w s a d b v l cb c W) : W.cell? ⟨cb, 0, none⟩ = some (.string c.key) ∧ W.cell? ⟨cb, 1, none⟩ = some (.string c.val) ∧ W.cell? ⟨cb, 2, none⟩ = some (.bool c.gone) ∧ W.frozen? ⟨cb, 0, none⟩ = false ∧ W.frozen? ⟨cb, 1, none⟩ = false ∧ W.cell? ⟨w.heap.size, 2, none⟩ = some (.bool d) :=
  ⟨by rw [Lib.cell_of_heap h.blk]; rfl, by rw [Lib.cell_of_heap h.blk]; rfl, by rw [Lib.cell_of_heap h.blk]; rfl, Lib.frozen_of_heap h.blk 0, Lib.frozen_of_heap h.blk 1, by rw [Lib.cell_of_heap h.st.eye]; rfl⟩
theorem num_r (h : RSt w s a d b v l W) {n r : Int} (hf : PText.crannogref01_Eye_Num.f 20 s a d b n = some (r, s2, a2, d2, b2)) : Calls Try.prog 53 #[.pointer (some ⟨w.heap.size, 0, none⟩), .int .i64 n] W fun e W' => e = .returned (.int .i64 r) ∧ Hid (RSt w s2 a2 d2 b2 v l W') :=
  (PText.crannogref01_Eye_Num.calls 20 w.heap.size s a d b n r s2 a2 d2 b2 w W ⟨h.eye, Nat.le_refl _⟩ h.below hf).mono fun e W' ⟨he, hi, hb, hk⟩ => ⟨he, Lib.hid (h.kept hb hi.1 hk)⟩
theorem text_r (h : RS2 w s a d b v l cb c W) {n : Int} {x : ByteArray} (hf : PText.crannogref01_Eye_Text.f 20 s a d b n = some (x, s2, a2, d2, b2)) : Calls Try.prog 54 #[.pointer (some ⟨w.heap.size, 0, none⟩), .int .i64 n] W fun e W' => e = .returned (.string x) ∧ Hid (RS2 w s2 a2 d2 b2 v l cb c W') :=
  (PText.crannogref01_Eye_Text.calls 20 w.heap.size s a d b n x s2 a2 d2 b2 w W ⟨h.st.eye, Nat.le_refl _⟩ h.st.below hf).mono fun e W' ⟨he, hi, hb, hk⟩ => ⟨he, Lib.hid (h.kept hb hi.1 hk)⟩
theorem end_r (h : RSt w s a d b v l W) {r : Int} (hf : PEnd.crannogref01_Eye_End.f s a d b = some (r, s2, a2, d2, b2)) : Calls Try.prog 55 #[.pointer (some ⟨w.heap.size, 0, none⟩)] W fun e W' => e = .returned (.int .i64 r) ∧ Hid (RSt w s2 a2 d2 b2 v l W') :=
  (PEnd.crannogref01_Eye_End.calls w.heap.size s a d b r s2 a2 d2 b2 w W ⟨h.eye, Nat.le_refl _⟩ h.below hf).mono fun e W' ⟨he, hi, hb, hk⟩ => ⟨he, Lib.hid (h.kept hb hi.1 hk)⟩
end
theorem rst_start (w : World) (s : ByteArray) : RSt w s 0 false 0 (.slice none 0 0) [] (w.alloc (.cells #[.string s, .int .i64 0, .bool false, .int .i64 0] 89)) := ⟨Below.alloc (Below.refl _ _) (Nat.le_refl _) _, heap_alloc_new w _, ⟨rfl, Or.inl ⟨rfl, rfl⟩⟩⟩
theorem end_done (s : ByteArray) (a b : Int) : PEnd.crannogref01_Eye_End.f s a true b = some (b, s, a, true, b) := by unfold PEnd.crannogref01_Eye_End.f; rw [if_pos rfl]
theorem end_all (s : ByteArray) (a b : Int) (h : ¬ a < (s.size : Int)) : PEnd.crannogref01_Eye_End.f s a false b = some (b, s, a, false, b) := by unfold PEnd.crannogref01_Eye_End.f; rw [if_neg (by simp), if_neg h]
theorem end_more (s : ByteArray) (a b : Int) (h : a < (s.size : Int)) : PEnd.crannogref01_Eye_End.f s a false b = some (201, s, a, true, 201) := by
  unfold PEnd.crannogref01_Eye_End.f PEnd.crannogref01_Eye_Fail.f; rw [if_neg (by simp), if_pos h, if_neg (by simp)]; rfl
set_option maxHeartbeats 8000000 in
set_option maxRecDepth 100000 in
theorem refget_no (s : ByteArray) (w : World) (hs : s.size ≤ 50000000) (c : Int) (h4 : numP s 4 = .error c) : Calls Try.prog 42 #[.string s] w (ChgC (201, []) w) := by
  have hz := numP_err h4
  have he : s.extract 0 s.size = s := ByteArray.extract_zero_size
  obtain ⟨a1, h1⟩ := pnum_err s 0 4 0 c hs (Nat.zero_le _) (by rw [he]; exact h4)
  have HN := Lib.hid (h1 0)
  have HE := Lib.hid (end_done s (a1 : Int) c)
  have HST := Lib.hid (rst_start w s)
  have hcz : (c != 0) = true := by simpa using hz
  clear h1 h4 he hs
  go_enter Try.func42, Try.ntmps42
  go_wp2_with (go_at_call 53; (with_reducible refine (num_r HST.out HN.out).mono ?_); rintro e1 w1 ⟨rfl, HS1⟩)
  go_loop [7, 8, 15] (fun v7 v8 v15 => v15 = .int .i64 0) (fun _ _ _ => 0)
  case atStart => rfl
  case round =>
    subst hrel
    go_wp2_with (go_at_call 55; (with_reducible refine (end_r HS1.out HE.out).mono ?_); rintro e7 w7 ⟨rfl, HS7⟩)
    go_ret2
    exact ChgC.none rfl HS7.out.below
set_option maxHeartbeats 8000000 in
set_option maxRecDepth 100000 in
theorem refget_main (s : ByteArray) (w : World) (hs : s.size ≤ 50000000) (m : Nat) (t0 : ByteArray) (h4 : numP s 4 = .ok (m, t0)) : Calls Try.prog 42 #[.string s] w (ChgC (getR s) w) := by
  have he : s.extract 0 s.size = s := ByteArray.extract_zero_size
  obtain ⟨a1, h1, e1, ha1⟩ := pnum_ok s t0 0 m 4 0 hs (Nat.zero_le _) (by rw [he]; exact h4)
  have HN := Lib.hid (h1 0)
  have HST := Lib.hid (rst_start w s)
  have HML := Lib.hid (numP_lt h4)
  have HG : Hid (getG s = match parseN m t0 [] with | none => none | some (l, u) => if sortedP l = true then some (l, u) else none) := Lib.hid (by unfold getG; rw [h4]; try rfl)
  have HNO := Lib.hid (show parseN m t0 [] = none → getR s = (201, []) from fun h => getR_none (by
    unfold getV
    rw [HG.out, h]))
  have HEND := Lib.hid (show ∀ l u, parseN m t0 [] = some (l, u) → getR s = if sortedP l = true ∧ u.size = 0 then (0, l) else (201, []) from fun l u h => by
    have hg := HG.out
    rw [h] at hg
    simp only at hg
    by_cases h1 : sortedP l = true
    · rw [if_pos h1] at hg
      by_cases h2 : u.size = 0
      · rw [if_pos ⟨h1, h2⟩]
        refine getR_some ?_
        unfold getV; rw [hg]; simp only; rw [if_pos h2]
      · rw [if_neg (fun e => h2 e.2)]
        refine getR_none ?_
        unfold getV; rw [hg]; simp only; rw [if_neg h2]
    · rw [if_neg h1] at hg
      rw [if_neg (fun e => h1 e.1)]
      refine getR_none ?_
      unfold getV; rw [hg])
  subst e1
  have HP1 := Lib.hid (parse1_ref s)
  have HSZ := Lib.hid hs
  generalize getR s = r at *
  clear h1 h4 he HG hs
  go_enter Try.func42, Try.ntmps42
  go_wp2_with (go_at_call 53; (with_reducible refine (num_r HST.out HN.out).mono ?_); rintro e1 w1 ⟨rfl, HS1⟩)
  go_loopw [6, 7, 8, 15] (fun v6 v7 v8 v15 wr => ∃ (i a : Nat) (l : List Ch), i ≤ m ∧ v15 = .int .i64 (i : Int) ∧ l.length ≤ a ∧ a ≤ s.size ∧ Hid (RSt w s (a : Int) false 0 v6 l wr) ∧ Hid (parseN m (s.extract a1 s.size) [] = parseN (m - i) (s.extract a s.size) l) ∧ Hid (∀ j, (l.getD j noCh).key.size ≤ 50000000)) (fun _ _ _ i _ => ((m : Int) - intOf i).toNat)
  case atStart => exact ⟨0, a1, [], Nat.zero_le _, rfl, Nat.zero_le _, ha1, HS1, Lib.hid rfl, Lib.hid fun j => by
    rw [show ([] : List Ch).getD j noCh = noCh from by simp]; exact Nat.zero_le _⟩
  case round =>
    obtain ⟨i, a, l, hi, rfl, hla, ha, HS, HP, HKEY⟩ := hrel
    have hl5 : l.length ≤ 50000000 := by have := HSZ.out; omega
    by_cases hin : i = m
    · subst hin
      have HEQ := Lib.hid (HEND.out l (s.extract a s.size) (by rw [HP.out, Nat.sub_self]; rfl))
      have hus : (s.extract a s.size).size = s.size - a := by rw [ByteArray.size_extract]; omega
      by_cases hend : a < s.size
      · have HF := Lib.hid (show r = (201, []) by rw [HEQ.out, if_neg (fun e => by have := e.2; omega)])
        have HE := Lib.hid (end_more s (a : Int) 0 (by omega))
        clear HEQ hus hend
        go_wp2_with (go_at_call 55; (with_reducible refine (end_r HS.out HE.out).mono ?_); rintro e7 w7 ⟨rfl, HS7⟩)
        go_ret2
        rw [HF.out]
        exact ChgC.none rfl HS7.out.below
      · have HE := Lib.hid (end_all s (a : Int) 0 (by omega))
        have HF0 := Lib.hid (show r = if sortedP l = true then (0, l) else (201, []) by
          rw [HEQ.out]
          by_cases h1 : sortedP l = true
          · rw [if_pos h1, if_pos ⟨h1, by omega⟩]
          · rw [if_neg h1, if_neg (fun e => h1 e.1)])
        obtain ⟨A, c, hv6, hA0, hlc, hcm, hz⟩ := chs_of_own HS.out.own
        clear HEQ hus hend hz hA0
        have H23 := Lib.hid (fun W (h : RSt w s (a : Int) false 0 (.slice A l.length c) l W) => show Calls Try.prog 23 #[.slice A l.length c] W (Ret (.bool (sortedP l)) W) from by
          obtain ⟨A2, c2, hv2, hA2, _⟩ := chs_of_own h.own
          injection hv2 with e1 e2 e3
          subst e1
          exact refsorted_any A c l W hA2 (by omega) (fun i => by have := HKEY.out i; omega))
        subst hv6
        have HCC := Lib.hid hlc
        have HCM := Lib.hid hcm
        clear hlc hcm
        cases hso : sortedP l with
        | true =>
          rw [hso] at H23
          have HF := Lib.hid (show r = (0, l) by rw [HF0.out, if_pos hso])
          clear hso HF0
          go_wp2_with (first | (go_at_call 55; (with_reducible refine (end_r HS.out HE.out).mono ?_); rintro e7 w7 ⟨rfl, HS7⟩) | (go_at_call 23; (with_reducible refine (H23.out _ HS7.out).mono ?_); rintro e8 w8 ⟨rfl, j8, hw8⟩; have HE8 := Lib.hid (show Below w7.heap.size w7 w8 by rw [hw8]; exact w_ext_below _ _); have HB8 := Lib.hid (below_tr HS7.out.below HE8.out); have HC8 : Hid (ChsAt w8 A l) := Lib.hid (by obtain ⟨A2, c2, hv2, hA2, _⟩ := chs_of_own HS7.out.own; injection hv2 with q1 q2 q3; rw [q1]; exact hA2.later HE8.out); clear hw8))
          go_ret2
          rw [HF.out]
          exact ⟨A, c, rfl, HB8, HC8, HCC, HCM⟩
        | false =>
          rw [hso] at H23
          have HF := Lib.hid (show r = (201, []) by rw [HF0.out, if_neg (by rw [hso]; simp)])
          clear hso HF0
          go_wp2_with (first | (go_at_call 55; (with_reducible refine (end_r HS.out HE.out).mono ?_); rintro e7 w7 ⟨rfl, HS7⟩) | (go_at_call 23; (with_reducible refine (H23.out _ HS7.out).mono ?_); rintro e8 w8 ⟨rfl, j8, hw8⟩; have HE8 := Lib.hid (show Below w7.heap.size w7 w8 by rw [hw8]; exact w_ext_below _ _); have HB8 := Lib.hid (below_tr HS7.out.below HE8.out); have HC8 : Hid (ChsAt w8 A l) := Lib.hid (by obtain ⟨A2, c2, hv2, hA2, _⟩ := chs_of_own HS7.out.own; injection hv2 with q1 q2 q3; rw [q1]; exact hA2.later HE8.out); clear hw8))
          go_ret2
          rw [HF.out]
          exact ChgC.none rfl HB8.out
    · have hlt : (i : Int) < (m : Int) := by omega
      have hge : (0 : Int) ≤ (i : Int) := by omega
      have hwr : wrap64 ((i : Int) + 1) = ((i + 1 : Nat) : Int) := by rw [wrap64_eq]; have := HML.out; omega
      have HPS := Lib.hid (show parseN (m - i) (s.extract a s.size) l = match parse1 (s.extract a s.size) with | none => none | some (c, t) => parseN (m - (i + 1)) t (l ++ [c]) by
        rw [show m - i = (m - (i + 1)) + 1 by omega]; try rfl)
      obtain ⟨g, x, y, b1, b2, b3, d1, d2, d3, z1, z2, z3, hgb, f1, f2, f3, hout⟩ := HP1.out a HSZ.out ha
      have HF1 := Lib.hid f1
      have HF2 := Lib.hid f2
      have HF3 := Lib.hid f3
      obtain ⟨gb, hgbv⟩ : ∃ gb, ((g : Int) == 1) = gb := ⟨_, rfl⟩
      clear f1 f2 f3 hgb
      rcases hout with ⟨hnone, hbad⟩ | ⟨hsome, rfl, hg1, ha3, ha4, rfl, hx5⟩
      · have HF := Lib.hid (show r = (201, []) from HNO.out (by rw [HP.out, HPS.out, hnone]))
        clear hnone
        rcases hbad with rfl | ⟨rfl, hg1⟩
        · go_wp2_with (first | (go_at_call 53; (with_reducible refine (num_r HS.out HF1.out).mono ?_); rintro e2 w2 ⟨rfl, HS2⟩; have hlw2 := leB_of_cell (show w2.cell? ⟨w.heap.size, 0, none⟩ = some (.string s) by rw [Lib.cell_of_heap HS2.out.eye]; rfl)) | (go_at_call 54; (with_reducible refine (text_r (RSt.open HS2.out ⟨⟨#[]⟩, ⟨#[]⟩, gb⟩) HF2.out).mono ?_); rintro e3 w3 ⟨rfl, HS3⟩; obtain ⟨q0, q1, q2, q3, q4, q5⟩ := HS3.out.cells; dsimp only at q0 q1 q2) | (go_at_call 54; (with_reducible refine (text_r (HS3.out.set 0 (.string x) ⟨x, ⟨#[]⟩, gb⟩ rfl) HF3.out).mono ?_); rintro e4 w4 ⟨rfl, HS4⟩; obtain ⟨p0, p1, p2, p3, p4, p5⟩ := HS4.out.cells; dsimp only at p0 p1 p2; have HS5 := Lib.hid (HS4.out.set 1 (.string y) ⟨x, y, gb⟩ rfl); obtain ⟨k0, k1, k2, k3, k4, k5⟩ := HS5.out.cells; dsimp only at k0 k1 k2))
          go_ret2
          rw [HF.out]
          exact ChgC.none rfl HS5.out.st.below
        · have hg2 : (1 : Int) < (g : Int) := by omega
          go_wp2_with (first | (go_at_call 53; (with_reducible refine (num_r HS.out HF1.out).mono ?_); rintro e2 w2 ⟨rfl, HS2⟩; have hlw2 := leB_of_cell (show w2.cell? ⟨w.heap.size, 0, none⟩ = some (.string s) by rw [Lib.cell_of_heap HS2.out.eye]; rfl)) | (go_at_call 54; (with_reducible refine (text_r (RSt.open HS2.out ⟨⟨#[]⟩, ⟨#[]⟩, gb⟩) HF2.out).mono ?_); rintro e3 w3 ⟨rfl, HS3⟩; obtain ⟨q0, q1, q2, q3, q4, q5⟩ := HS3.out.cells; dsimp only at q0 q1 q2) | (go_at_call 54; (with_reducible refine (text_r (HS3.out.set 0 (.string x) ⟨x, ⟨#[]⟩, gb⟩ rfl) HF3.out).mono ?_); rintro e4 w4 ⟨rfl, HS4⟩; obtain ⟨p0, p1, p2, p3, p4, p5⟩ := HS4.out.cells; dsimp only at p0 p1 p2; have HS5 := Lib.hid (HS4.out.set 1 (.string y) ⟨x, y, gb⟩ rfl); obtain ⟨k0, k1, k2, k3, k4, k5⟩ := HS5.out.cells; dsimp only at k0 k1 k2))
          go_ret2
          rw [HF.out]
          exact ChgC.none rfl HS5.out.st.below
      · have hg2 : ¬ (1 : Int) < (g : Int) := by omega
        have HP2 := Lib.hid (show parseN m (s.extract a1 s.size) [] = parseN (m - (i + 1)) (s.extract b3 s.size) (l ++ [⟨x, y, gb⟩]) by rw [HP.out, HPS.out, hsome, ← hgbv])
        have HX5 := Lib.hid hx5
        clear hsome hg1 hx5
        go_wp2_with (first | (go_at_call 53; (with_reducible refine (num_r HS.out HF1.out).mono ?_); rintro e2 w2 ⟨rfl, HS2⟩; have hlw2 := leB_of_cell (show w2.cell? ⟨w.heap.size, 0, none⟩ = some (.string s) by rw [Lib.cell_of_heap HS2.out.eye]; rfl)) | (go_at_call 54; (with_reducible refine (text_r (RSt.open HS2.out ⟨⟨#[]⟩, ⟨#[]⟩, gb⟩) HF2.out).mono ?_); rintro e3 w3 ⟨rfl, HS3⟩; obtain ⟨q0, q1, q2, q3, q4, q5⟩ := HS3.out.cells; dsimp only at q0 q1 q2) | (go_at_call 54; (with_reducible refine (text_r (HS3.out.set 0 (.string x) ⟨x, ⟨#[]⟩, gb⟩ rfl) HF3.out).mono ?_); rintro e4 w4 ⟨rfl, HS4⟩; obtain ⟨p0, p1, p2, p3, p4, p5⟩ := HS4.out.cells; dsimp only at p0 p1 p2; have HS5 := Lib.hid (HS4.out.set 1 (.string y) ⟨x, y, gb⟩ rfl); obtain ⟨k0, k1, k2, k3, k4, k5⟩ := HS5.out.cells; dsimp only at k0 k1 k2; obtain ⟨v9, w9, happ, HO9, HB9⟩ := app_ch (w.heap.size + 1) (w4.setCell ⟨w2.heap.size, 1, none⟩ (.string y)) u6 l ⟨x, y, gb⟩ HS5.out.st.own (Array.getElem?_eq_some_iff.1 HS5.out.st.eye).1 (by omega); rw [show (w4.setCell ⟨w2.heap.size, 1, none⟩ (.string y)).heap.size = w4.heap.size by simp [World.setCell]] at happ; dsimp only at happ; have HS9 : Hid (RSt w s (b3 : Int) false 0 v9 (l ++ [⟨x, y, gb⟩]) w9) := Lib.hid ⟨HS5.out.st.below.trans (HB9.out.mono (Nat.le_succ _)), (HB9.out.block _ (Nat.lt_succ_self _)).trans HS5.out.st.eye, HO9.out⟩) | (at_builtin; refine app_step 22 _ _ rfl rfl rfl rfl rfl happ ?_))
        go_roundw
        case rel => exact ⟨i + 1, b3, l ++ [⟨x, y, gb⟩], by omega, by rw [hwr], by rw [List.length_append, List.length_singleton]; omega, ha4, HS9, HP2, Lib.hid fun j => by
          rw [List.getD_eq_getElem?_getD, List.getElem?_append]
          split
          · have := HKEY.out j; rwa [List.getD_eq_getElem?_getD] at this
          · rename_i hj
            by_cases h0 : j - l.length = 0
            · rw [h0]; exact HX5.out
            · rw [List.getElem?_eq_none (by simp; omega)]; exact Nat.zero_le _⟩
        case measure => rw [intOf_lit, intOf_lit, hwr]; omega
theorem refget_any (s : ByteArray) (w : World) (hs : s.size ≤ 50000000) : Calls Try.prog 42 #[.string s] w (ChgC (getR s) w) := by
  cases h4 : numP s 4 with
  | error c =>
    have e : getR s = (201, []) := getR_none (by
      unfold getV getG; rw [h4])
    rw [e]; exact refget_no s w hs c h4
  | ok q =>
    obtain ⟨m, t0⟩ := q
    exact refget_main s w hs m t0 h4
end Go.Proofs.Ytelhclamoapnhaa
