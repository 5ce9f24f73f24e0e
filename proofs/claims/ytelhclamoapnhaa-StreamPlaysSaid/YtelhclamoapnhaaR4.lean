/- Helper lemmas: the document's stage: New, Add, Missing, Has, Whole. No condition. -/
import Derived.Test.YtelhclamoapnhaaGD
import Derived.Laws.MakeOwn
set_option linter.unusedSimpArgs false
set_option linter.unusedVariables false
namespace Go.Proofs.Ytelhclamoapnhaa
open Go.RowKit

/-- The document's stage in block rb, its parts in block g. -/
structure RefAt (W : World) (rb g : Nat) (L : List ByteArray) : Prop where
  slot : W.heap[rb]? = some (.cells #[.slice (some ⟨g, 0, none⟩) L.length L.length] 77 (0, 0))
  row : W.heap[g]? = some (.cells (L.map Value.string).toArray 9 (0, 0))
  ne : ¬ rb = g
  many : L.length ≤ 4096
section
variable {W W' : World} {rb g : Nat} {L : List ByteArray}
theorem RefAt.keep (h : RefAt W rb g L) (h1 : W'.heap[rb]? = W.heap[rb]?) (h2 : W'.heap[g]? = W.heap[g]?) : RefAt W' rb g L := ⟨h1.trans h.slot, h2.trans h.row, h.ne, h.many⟩
theorem RefAt.lt (h : RefAt W rb g L) : rb < W.heap.size ∧ g < W.heap.size := ⟨(Array.getElem?_eq_some_iff.1 h.slot).1, (Array.getElem?_eq_some_iff.1 h.row).1⟩
theorem RefAt.later (h : RefAt W rb g L) (hb : Below W.heap.size W W') : RefAt W' rb g L := h.keep (hb.block rb h.lt.1) (hb.block g h.lt.2)
theorem RefAt.c0 (h : RefAt W rb g L) : W.cell? ⟨rb, 0, none⟩ = some (.slice (some ⟨g, 0, none⟩) L.length L.length) := by rw [Lib.cell_of_heap h.slot]; rfl
theorem RefAt.at (h : RefAt W rb g L) (i : Nat) (hi : i < L.length) : W.cell? ⟨g, i, none⟩ = some (.string (L.getD i ByteArray.empty)) := by
  rw [Lib.cell_of_heap h.row, List.getElem?_toArray, List.getElem?_map, List.getD_eq_getElem?_getD, List.getElem?_eq_getElem hi]
  rfl
theorem RefAt.fz (h : RefAt W rb g L) (i : Nat) : W.frozen? ⟨g, i, none⟩ = false := Lib.frozen_of_heap h.row i
theorem RefAt.put (h : RefAt W rb g L) (i : Nat) (q : ByteArray) : RefAt (W.setCell ⟨g, i, none⟩ (.string q)) rb g (L.set i q) := by
  refine ⟨?_, ?_, h.ne, by rw [List.length_set]; exact h.many⟩
  · rw [heap_set_other _ _ _ _ h.ne, List.length_set]; exact h.slot
  · simp [World.setCell, Array.getElem?_modify, h.row, List.map_set]
end
theorem made_str (n : Nat) : madeCells #[.string ⟨#[]⟩] n = ((List.replicate n (⟨#[]⟩ : ByteArray)).map Value.string).toArray := by
  apply Array.ext
  · simp [madeCells]
  · intro i h1 h2
    simp [madeCells, Nat.mod_one]
/-- The document's new stage. -/
def RNewP (n : Nat) (w : World) (e : Ending) (w' : World) : Prop := e = .returned (.tuple #[.pointer (some ⟨w.heap.size + 1, 0, none⟩), .int .i64 0]) ∧ Hid (RefAt w' (w.heap.size + 1) w.heap.size (List.replicate n ⟨#[]⟩)) ∧ Hid (Below w.heap.size w w')
set_option maxHeartbeats 8000000 in
set_option maxRecDepth 100000 in
theorem refnew_yes (n : Nat) (w : World) (h1 : 1 ≤ n) (h2 : n ≤ 4096) : Calls Try.prog 25 #[.int .i64 (n : Int)] w (RNewP n w) := by
  have h3 : ¬ (n : Int) < 1 := by omega
  have h4 : ¬ (4096 : Int) < (n : Int) := by omega
  have h5 : (0 : Int) ≤ (n : Int) := by omega
  have hms : (Instr.makeSlice 25 (.int .i64 (n : Int)) (.int .i64 (n : Int))).run Try.prog w = .ok (.slice (some ⟨w.heap.size, 0, none⟩) n n) (w.alloc (.cells ((List.replicate n (⟨#[]⟩ : ByteArray)).map Value.string).toArray 9)) := by
    obtain ⟨i0, hi, hzz⟩ := Option.map_eq_some_iff.1 (show (Try.prog.info? 9).map (fun i => (i.zero, i.size, i.bytes)) = some (some (.string ⟨#[]⟩), 1, 16) by kernel_rfl)
    simp only [Prod.mk.injEq] at hzz
    obtain ⟨hz0, hz1, hz2⟩ := hzz
    have h := run_make (P := Try.prog) w 25 9 i0 (.string ⟨#[]⟩) Try.underlying25 hi hz0 .i64 .i64 (n : Int) (n : Int) h5 (by omega) (by rw [hz2]; omega) (by omega)
    rw [Int.toNat_natCast, hz1, Nat.mul_one] at h
    rw [h, ← made_str]
    rfl
  generalize hC : ((List.replicate n (⟨#[]⟩ : ByteArray)).map Value.string).toArray = C at *
  have HC := Lib.hid hC
  clear hC
  go_enter Try.func25, Try.ntmps25
  go_wp2
  go_ret2
  refine ⟨rfl, Lib.hid ⟨?_, ?_, by omega, by rw [List.length_replicate]; exact h2⟩, Lib.hid ?_⟩
  · rw [List.length_replicate]
    have := heap_alloc_new (w.alloc (.cells C 9)) (.cells #[.slice (some ⟨w.heap.size, 0, none⟩) n n] 77)
    have hs : (w.alloc (.cells C 9)).heap.size = w.heap.size + 1 := by simp
    rwa [hs] at this
  · rw [HC.out, Lib.alloc_old _ _ _ (by simp)]
    exact heap_alloc_new w _
  · exact Below.alloc (Below.alloc (Below.refl _ _) (Nat.le_refl _) _) (by simp) _
set_option maxHeartbeats 2000000 in
set_option maxRecDepth 100000 in
theorem refnew_no (n : Int) (w : World) (h : n < 1 ∨ 4096 < n) : Calls Try.prog 25 #[.int .i64 n] w (Tells (.tuple #[.pointer none, .int .i64 22]) w) := by
  rcases h with h | h
  · go_enter Try.func25, Try.ntmps25
    go_wp2
    go_ret2
    exact ⟨rfl, rfl⟩
  · have h0 : ¬ n < 1 := by omega
    go_enter Try.func25, Try.ntmps25
    go_wp2
    go_ret2
    exact ⟨rfl, rfl⟩
set_option maxHeartbeats 8000000 in
set_option maxRecDepth 100000 in
theorem refmiss (rb g : Nat) (L : List ByteArray) (w : World) (h : RefAt w rb g L) : Calls Try.prog 29 #[.pointer (some ⟨rb, 0, none⟩)] w (Tells (.int .i64 (missP L : Int)) w) := by
  have HRF := Lib.hid h
  have hm := h.many
  have c0 := h.c0
  obtain ⟨n, hn⟩ : ∃ n, L.length = n := ⟨_, rfl⟩
  have HN := Lib.hid hn
  have hlb := leB_of_cell c0
  rw [hn] at c0 hm
  obtain ⟨r, hr⟩ : ∃ r, missP L = r := ⟨_, rfl⟩
  rw [hr]
  have HR := Lib.hid hr
  clear hr h hn
  go_enter Try.func29, Try.ntmps29
  go_wp2
  go_loop [3, 4, 10] (fun v3 v4 v10 => ∃ i : Nat, i ≤ n ∧ v10 = .int .i64 (i : Int) ∧ Hid (∀ j, j < i → 0 < (L.getD j ByteArray.empty).size)) (fun _ _ i => ((n : Int) - intOf i).toNat)
  case atStart => exact ⟨0, Nat.zero_le _, rfl, Lib.hid fun j hj => by omega⟩
  case round =>
    obtain ⟨i, hi, rfl, HA⟩ := hrel
    by_cases hin : i = n
    · subst hin
      have HF := Lib.hid (show (r : Int) = (i : Int) by rw [← HR.out, missP_all L (fun j hj => HA.out j (by rw [HN.out] at hj; exact hj)), HN.out])
      go_wp2
      go_ret
      exact ⟨by rw [HF.out]; rfl, rfl⟩
    · have hlt : (i : Int) < (n : Int) := by omega
      have hge : (0 : Int) ≤ (i : Int) := by omega
      have hwr : wrap64 ((i : Int) + 1) = ((i + 1 : Nat) : Int) := by rw [wrap64_eq]; omega
      have ci := HRF.out.at i (by rw [HN.out]; omega)
      by_cases hz : 0 < (L.getD i ByteArray.empty).size
      · have hze := nonempty_of_size hz
        have HA2 := Lib.hid (show ∀ j, j < i + 1 → 0 < (L.getD j ByteArray.empty).size from fun j hj => by
          by_cases e : j = i
          · rw [e]; exact hz
          · exact HA.out j (by omega))
        clear hz
        generalize L.getD i ByteArray.empty = q at *
        go_wp2
        go_round
        case rel => exact ⟨i + 1, by omega, by first | rfl | rw [hwr], HA2⟩
        case measure => first | (simp [intOf]; omega) | (rw [intOf_lit, intOf_lit, hwr]; omega)
      · have HF := Lib.hid (show (r : Int) = (i : Int) by rw [← HR.out, missP_at L i (by rw [HN.out]; omega) HA.out (by omega)])
        have hq := empty_of_size (q := L.getD i ByteArray.empty) (by omega)
        clear hz
        rw [hq] at ci
        clear hq
        go_wp2
        go_ret
        exact ⟨by rw [HF.out]; rfl, rfl⟩
theorem cntP_take (L : List ByteArray) (i : Nat) (h : i < L.length) : cntP (L.take (i + 1)) = cntP (L.take i) + (if 0 < (L.getD i ByteArray.empty).size then 1 else 0) := by
  unfold cntP
  rw [List.take_succ_eq_append_getElem h, List.filter_append, List.length_append, List.getD_eq_getElem?_getD, List.getElem?_eq_getElem h]
  congr 1
  rw [List.filter_cons]
  show (if decide (0 < L[i].size) = true then _ else _ : List ByteArray).length = if 0 < L[i].size then 1 else 0
  by_cases hz : 0 < L[i].size
  · rw [if_pos (by simpa using hz), if_pos hz]; rfl
  · rw [if_neg (by simpa using hz), if_neg hz]; rfl
set_option maxHeartbeats 8000000 in
set_option maxRecDepth 100000 in
theorem refhas (rb g : Nat) (L : List ByteArray) (w : World) (h : RefAt w rb g L) : Calls Try.prog 28 #[.pointer (some ⟨rb, 0, none⟩)] w (Tells (.int .i64 (cntP L : Int)) w) := by
  have HRF := Lib.hid h
  have hm := h.many
  have c0 := h.c0
  obtain ⟨n, hn⟩ : ∃ n, L.length = n := ⟨_, rfl⟩
  have HN := Lib.hid hn
  have hlb := leB_of_cell c0
  rw [hn] at c0 hm
  have HCN := Lib.hid (fun i => cntP_le (L.take i))
  clear h hn
  go_enter Try.func28, Try.ntmps28
  go_wp2
  go_loop [3, 5, 11] (fun v3 v5 v11 => ∃ i m : Nat, i ≤ n ∧ v11 = .int .i64 (i : Int) ∧ v3 = .int .i64 (m : Int) ∧ m ≤ i ∧ Hid (m = cntP (L.take i))) (fun _ _ i => ((n : Int) - intOf i).toNat)
  case atStart => exact ⟨0, 0, Nat.zero_le _, rfl, rfl, Nat.le_refl _, Lib.hid rfl⟩
  case round =>
    obtain ⟨i, m, hi, rfl, rfl, hmi, HM⟩ := hrel
    by_cases hin : i = n
    · subst hin
      have HF := Lib.hid (show (cntP L : Int) = (m : Int) by rw [HM.out, ← HN.out, List.take_length])
      go_wp2
      go_ret
      exact ⟨by rw [HF.out]; rfl, rfl⟩
    · have hlt : (i : Int) < (n : Int) := by omega
      have hge : (0 : Int) ≤ (i : Int) := by omega
      have hwr : wrap64 ((i : Int) + 1) = ((i + 1 : Nat) : Int) := by rw [wrap64_eq]; omega
      have hwm : wrap64 ((m : Int) + 1) = ((m + 1 : Nat) : Int) := by rw [wrap64_eq]; omega
      have ci := HRF.out.at i (by rw [HN.out]; omega)
      have HT := Lib.hid (cntP_take L i (by rw [HN.out]; omega))
      by_cases hz : 0 < (L.getD i ByteArray.empty).size
      · have hze := nonempty_of_size hz
        have HM2 := Lib.hid (show m + 1 = cntP (L.take (i + 1)) by rw [HT.out, if_pos hz, HM.out])
        clear hz HT
        generalize L.getD i ByteArray.empty = q at *
        go_wp2
        go_round
        case rel => exact ⟨i + 1, m + 1, by omega, by first | rfl | rw [hwr], by first | rfl | rw [hwm], by omega, HM2⟩
        case measure => first | (simp [intOf]; omega) | (rw [intOf_lit, intOf_lit, hwr]; omega)
      · have HM2 := Lib.hid (show m = cntP (L.take (i + 1)) by rw [HT.out, if_neg hz, HM.out]; rfl)
        have hq := empty_of_size (q := L.getD i ByteArray.empty) (by omega)
        clear hz HT
        rw [hq] at ci
        clear hq
        go_wp2
        go_round
        case rel => exact ⟨i + 1, m, by omega, by first | rfl | rw [hwr], rfl, by omega, HM2⟩
        case measure => first | (simp [intOf]; omega) | (rw [intOf_lit, intOf_lit, hwr]; omega)
set_option maxHeartbeats 8000000 in
set_option maxRecDepth 100000 in
theorem refwhole_out (rb g : Nat) (L : List ByteArray) (i : Int) (w : World) (h : RefAt w rb g L) (hi : i < 0 ∨ (L.length : Int) ≤ i) : Calls Try.prog 31 #[.pointer (some ⟨rb, 0, none⟩), .int .i64 i] w (Tells (.bool false) w) := by
  have HRF := Lib.hid h
  have hm := h.many
  have c0 := h.c0
  obtain ⟨n, hn⟩ : ∃ n, L.length = n := ⟨_, rfl⟩
  have HN := Lib.hid hn
  have hlb := leB_of_cell c0
  rw [hn] at c0 hm
  rw [hn] at hi
  clear h hn
  rcases hi with hi | hi
  · go_enter Try.func31, Try.ntmps31
    go_wp2
    go_ret
    exact ⟨rfl, rfl⟩
  · have h0 : ¬ i < 0 := by omega
    go_enter Try.func31, Try.ntmps31
    go_wp2
    go_ret
    exact ⟨rfl, rfl⟩
set_option maxHeartbeats 8000000 in
set_option maxRecDepth 100000 in
theorem refwhole_in (rb g : Nat) (L : List ByteArray) (i : Nat) (w : World) (h : RefAt w rb g L) (hi : i < L.length) : Calls Try.prog 31 #[.pointer (some ⟨rb, 0, none⟩), .int .i64 (i : Int)] w (Tells (.bool (wholeP L (i : Int))) w) := by
  have HRF := Lib.hid h
  have hm := h.many
  have c0 := h.c0
  obtain ⟨n, hn⟩ : ∃ n, L.length = n := ⟨_, rfl⟩
  have HN := Lib.hid hn
  have hlb := leB_of_cell c0
  rw [hn] at c0 hm
  have HE : Hid (wholeP L (i : Int) = decide (∀ k, k < n → k / 4 = i / 4 → 0 < (L.getD k ByteArray.empty).size)) := Lib.hid (by
    unfold wholeP
    rw [decide_eq_true (by omega), decide_eq_true (by omega), Bool.true_and, Bool.true_and]
    refine decide_eq_decide.2 ⟨fun h k hk he => h k (by omega) (by omega), fun h k hk he => h k (by omega) (by omega)⟩)
  rw [hn] at hi
  clear h hn
  generalize wholeP L (i : Int) = r at *
  have h0 : ¬ (i : Int) < 0 := by omega
  have h1 : ¬ (n : Int) ≤ (i : Int) := by omega
  have h1' : (i : Int) < (n : Int) := by omega
  have hb0 : decide ((i : Int) < 0) = false := decide_eq_false h0
  have hbn : decide (n ≤ i) = false := decide_eq_false (by omega)
  obtain ⟨iq, hiq⟩ : ∃ iq, i / 4 = iq := ⟨_, rfl⟩
  rw [hiq] at HE
  have hti : Int.tdiv (i : Int) 4 = (iq : Int) := by rw [Int.tdiv_eq_ediv_of_nonneg (by omega)]; omega
  have hwi : wrap64 (iq : Int) = (iq : Int) := by rw [wrap64_eq]; omega
  clear hiq
  go_enter Try.func31, Try.ntmps31
  go_wp2
  go_loop [5, 6, 23] (fun v5 v6 v23 => ∃ k : Nat, k ≤ n ∧ v23 = .int .i64 (k : Int) ∧ Hid (∀ j, j < k → j / 4 = iq → 0 < (L.getD j ByteArray.empty).size)) (fun _ _ k => ((n : Int) - intOf k).toNat)
  case atStart => exact ⟨0, Nat.zero_le _, rfl, Lib.hid fun j hj => by omega⟩
  case round =>
    obtain ⟨k, hk, rfl, HA⟩ := hrel
    by_cases hkn : k = n
    · subst hkn
      have HF := Lib.hid (show r = true by rw [HE.out]; exact decide_eq_true HA.out)
      go_wp2
      go_ret
      exact ⟨by rw [HF.out]; rfl, rfl⟩
    · have hlt : (k : Int) < (n : Int) := by omega
      have hge : (0 : Int) ≤ (k : Int) := by omega
      have hwr : wrap64 ((k : Int) + 1) = ((k + 1 : Nat) : Int) := by rw [wrap64_eq]; omega
      have ci := HRF.out.at k (by rw [HN.out]; omega)
      obtain ⟨kq, hkq⟩ : ∃ kq, k / 4 = kq := ⟨_, rfl⟩
      have htk : Int.tdiv (k : Int) 4 = (kq : Int) := by rw [Int.tdiv_eq_ediv_of_nonneg (by omega)]; omega
      have hwk : wrap64 (kq : Int) = (kq : Int) := by rw [wrap64_eq]; omega
      have HKQ := Lib.hid hkq
      clear hkq
      by_cases hqq : kq = iq
      · have hq1 : ((kq : Int) == (iq : Int)) = true := by rw [beq_iff_eq]; omega
        have hq2 : (kq == iq) = true := by rw [beq_iff_eq]; exact hqq
        by_cases hz : 0 < (L.getD k ByteArray.empty).size
        · have hze := nonempty_of_size hz
          have HA2 := Lib.hid (show ∀ j, j < k + 1 → j / 4 = iq → 0 < (L.getD j ByteArray.empty).size from fun j hj he => by
            by_cases e : j = k
            · rw [e]; exact hz
            · exact HA.out j (by omega) he)
          clear hz hqq
          generalize L.getD k ByteArray.empty = q at *
          go_wp2
          go_round
          case rel => exact ⟨k + 1, by omega, by first | rfl | rw [hwr], HA2⟩
          case measure => first | (simp [intOf]; omega) | (rw [intOf_lit, intOf_lit, hwr]; omega)
        · have HF := Lib.hid (show r = false by
            rw [HE.out]
            exact decide_eq_false fun h => hz (h k (by omega) (by rw [HKQ.out]; exact hqq)))
          have hq := empty_of_size (q := L.getD k ByteArray.empty) (by omega)
          clear hz hqq
          rw [hq] at ci
          clear hq
          go_wp2
          go_ret
          exact ⟨by rw [HF.out]; rfl, rfl⟩
      · have hq1 : ((kq : Int) == (iq : Int)) = false := beq_eq_false_iff_ne.2 (by omega)
        have hq2 : (kq == iq) = false := beq_eq_false_iff_ne.2 hqq
        have HA2 := Lib.hid (show ∀ j, j < k + 1 → j / 4 = iq → 0 < (L.getD j ByteArray.empty).size from fun j hj he => by
          by_cases e : j = k
          · subst e; exact absurd (HKQ.out.symm.trans he) hqq
          · exact HA.out j (by omega) he)
        clear hqq
        generalize L.getD k ByteArray.empty = q at *
        go_wp2
        go_round
        case rel => exact ⟨k + 1, by omega, by first | rfl | rw [hwr], HA2⟩
        case measure => first | (simp [intOf]; omega) | (rw [intOf_lit, intOf_lit, hwr]; omega)
theorem refwhole (rb g : Nat) (L : List ByteArray) (i : Int) (w : World) (h : RefAt w rb g L) : Calls Try.prog 31 #[.pointer (some ⟨rb, 0, none⟩), .int .i64 i] w (Tells (.bool (wholeP L i)) w) := by
  by_cases hi : i < 0 ∨ (L.length : Int) ≤ i
  · have e : wholeP L i = false := by
      unfold wholeP
      rcases hi with hi | hi
      · rw [decide_eq_false (show ¬ 0 ≤ i by omega)]; rfl
      · rw [decide_eq_false (show ¬ i < (L.length : Int) by omega), Bool.and_false]; rfl
    rw [e]
    exact refwhole_out rb g L i w h hi
  · obtain ⟨k, rfl⟩ : ∃ k : Nat, i = (k : Int) := ⟨i.toNat, by omega⟩
    exact refwhole_in rb g L k w h (by omega)
/-- The document's stage behind an Add. -/
def RAddP (r : List ByteArray × Bool × Int) (rb g : Nat) (w : World) (e : Ending) (w' : World) : Prop := e = .returned (.tuple #[.bool r.2.1, .int .i64 r.2.2]) ∧ Hid (RefAt w' rb g r.1) ∧ Hid (Below g w w') ∧ Hid (∀ k, ¬ k = g → w'.heap[k]? = w.heap[k]?)
set_option maxHeartbeats 8000000 in
set_option maxRecDepth 100000 in
theorem refadd_bad (rb g : Nat) (L : List ByteArray) (i : Int) (q : ByteArray) (w : World) (h : RefAt w rb g L) (h1 : 1 ≤ L.length) (hb : i < 0 ∨ (L.length : Int) ≤ i ∨ 512 < q.size ∨ q.size = 0 ∨ (i < (L.length : Int) - 1 ∧ q.size ≠ 512)) : Calls Try.prog 26 #[.pointer (some ⟨rb, 0, none⟩), .int .i64 i, .string q] w (RAddP (addR L i q) rb g w) := by
  have HRF := Lib.hid h
  have hm := h.many
  have c0 := h.c0
  obtain ⟨n, hn⟩ : ∃ n, L.length = n := ⟨_, rfl⟩
  have HN := Lib.hid hn
  have hlb := leB_of_cell c0
  rw [hn] at c0 hm
  have HR := Lib.hid (show addR L i q = (L, false, 22) by unfold addR; rw [if_pos hb])
  rw [hn] at hb h1
  clear h hn
  generalize addR L i q = r at *
  have hw1 : wrap64 ((n : Int) - 1) = (n : Int) - 1 := by rw [wrap64_eq]; omega
  by_cases g1 : i < 0
  · clear hb
    go_enter Try.func26, Try.ntmps26
    go_wp2
    go_ret2
    rw [HR.out]
    exact ⟨rfl, HRF, Lib.hid (Below.refl _ _), Lib.hid fun _ _ => rfl⟩
  by_cases g2 : (n : Int) - 1 < i
  · clear hb
    go_enter Try.func26, Try.ntmps26
    go_wp2
    go_ret2
    rw [HR.out]
    exact ⟨rfl, HRF, Lib.hid (Below.refl _ _), Lib.hid fun _ _ => rfl⟩
  by_cases g3 : (q.size : Int) < 1
  · clear hb
    go_enter Try.func26, Try.ntmps26
    go_wp2
    go_ret2
    rw [HR.out]
    exact ⟨rfl, HRF, Lib.hid (Below.refl _ _), Lib.hid fun _ _ => rfl⟩
  by_cases g4 : (512 : Int) < (q.size : Int)
  · clear hb
    go_enter Try.func26, Try.ntmps26
    go_wp2
    go_ret2
    rw [HR.out]
    exact ⟨rfl, HRF, Lib.hid (Below.refl _ _), Lib.hid fun _ _ => rfl⟩
  have g5 : i < (n : Int) - 1 := by omega
  have g6 : (q.size : Int) < 512 := by omega
  clear hb
  go_enter Try.func26, Try.ntmps26
  go_wp2
  go_ret2
  rw [HR.out]
  exact ⟨rfl, HRF, Lib.hid (Below.refl _ _), Lib.hid fun _ _ => rfl⟩
set_option maxHeartbeats 8000000 in
set_option maxRecDepth 100000 in
theorem refadd_good (rb g : Nat) (L : List ByteArray) (i : Nat) (q : ByteArray) (w : World) (h : RefAt w rb g L) (hi : i < L.length) (h512 : q.size ≤ 512) (hq0 : 0 < q.size) (hq : (i : Int) < (L.length : Int) - 1 → q.size = 512) : Calls Try.prog 26 #[.pointer (some ⟨rb, 0, none⟩), .int .i64 (i : Int), .string q] w (RAddP (addR L (i : Int) q) rb g w) := by
  have HRF := Lib.hid h
  have hm := h.many
  have c0 := h.c0
  obtain ⟨n, hn⟩ : ∃ n, L.length = n := ⟨_, rfl⟩
  have HN := Lib.hid hn
  have hlb := leB_of_cell c0
  rw [hn] at c0 hm
  have HR := Lib.hid (show addR L (i : Int) q = if 0 < (L.getD i ByteArray.empty).size then (if L.getD i ByteArray.empty = q then (L, false, 0) else (L, false, 17)) else (L.set i q, true, 0) by
    unfold addR
    rw [if_neg (by omega), Int.toNat_natCast])
  have ci := HRF.out.at i hi
  have hfz := HRF.out.fz i
  have hlg := leB_of_cell ci
  rw [hn] at hi hq
  clear h hn
  generalize addR L (i : Int) q = r at *
  have hw1 : wrap64 ((n : Int) - 1) = (n : Int) - 1 := by rw [wrap64_eq]; omega
  have g1 : ¬ (i : Int) < 0 := by omega
  have g2 : ¬ (n : Int) - 1 < (i : Int) := by omega
  have g3 : ¬ (q.size : Int) < 1 := by omega
  have g4 : ¬ (512 : Int) < (q.size : Int) := by omega
  have g7 : (0 : Int) ≤ (i : Int) := by omega
  have g8 : (i : Int) < (n : Int) := by omega
  have hcs : ((i : Int) < (n : Int) - 1 ∧ ¬ (q.size : Int) < 512) ∨ ¬ (i : Int) < (n : Int) - 1 := by
    by_cases hc : (i : Int) < (n : Int) - 1
    · left; exact ⟨hc, by rw [hq hc]; omega⟩
    · right; exact hc
  have HPUT := Lib.hid (HRF.out.put i q)
  have HQ0 := Lib.hid hq0
  clear hq h512 hq0
  by_cases hz : 0 < (L.getD i ByteArray.empty).size
  · by_cases he : L.getD i ByteArray.empty = q
    · have HF := Lib.hid (show r = (L, false, 0) by rw [HR.out, if_pos hz, if_pos he])
      rw [he] at ci
      clear hz he
      rcases hcs with ⟨hc1, hc2⟩ | hc1
      all_goals
        go_enter Try.func26, Try.ntmps26
        go_wp2
        go_ret2
        rw [HF.out]
        exact ⟨rfl, HRF, Lib.hid (Below.refl _ _), Lib.hid fun _ _ => rfl⟩
    · have HF := Lib.hid (show r = (L, false, 17) by rw [HR.out, if_pos hz, if_neg he])
      have hne := toList_ne he
      have hze := nonempty_of_size hz
      generalize L.getD i ByteArray.empty = p at *
      have hq4 : (p.toList == q.toList) = false := by simpa using hne
      clear hz he hne
      rcases hcs with ⟨hc1, hc2⟩ | hc1
      all_goals
        go_enter Try.func26, Try.ntmps26
        go_wp2
        go_ret2
        rw [HF.out]
        exact ⟨rfl, HRF, Lib.hid (Below.refl _ _), Lib.hid fun _ _ => rfl⟩
  · have HF := Lib.hid (show r = (L.set i q, true, 0) by rw [HR.out, if_neg hz])
    have hp := empty_of_size (q := L.getD i ByteArray.empty) (by omega)
    rw [hp] at ci
    have hq4 : ((⟨#[]⟩ : ByteArray).toList == q.toList) = false := by
      rw [beq_eq_false_iff_ne]
      intro e
      have h1 := nonempty_of_size HQ0.out
      rw [← e] at h1
      rw [ByteArray.toList_eq] at h1
      cases h1
    have hq5 : q.toList.isEmpty = false := nonempty_of_size HQ0.out
    clear hz hp
    rcases hcs with ⟨hc1, hc2⟩ | hc1
    all_goals
      go_enter Try.func26, Try.ntmps26
      go_wp2
      go_ret2
      rw [HF.out]
      exact ⟨rfl, HPUT, Lib.hid ((Below.refl _ _).setCell (p := ⟨g, i, none⟩) (Nat.le_refl _) _), Lib.hid fun k hk => heap_set_other _ _ _ _ hk⟩
theorem refadd (rb g : Nat) (L : List ByteArray) (i : Int) (q : ByteArray) (w : World) (h : RefAt w rb g L) (h1 : 1 ≤ L.length) : Calls Try.prog 26 #[.pointer (some ⟨rb, 0, none⟩), .int .i64 i, .string q] w (RAddP (addR L i q) rb g w) := by
  by_cases hb : i < 0 ∨ (L.length : Int) ≤ i ∨ 512 < q.size ∨ q.size = 0 ∨ (i < (L.length : Int) - 1 ∧ q.size ≠ 512)
  · exact refadd_bad rb g L i q w h h1 hb
  · obtain ⟨k, rfl⟩ : ∃ k : Nat, i = (k : Int) := ⟨i.toNat, by omega⟩
    exact refadd_good rb g L k q w h (by omega) (by omega) (by omega) (by omega)
end Go.Proofs.Ytelhclamoapnhaa
