/- Helper lemmas: a text that is put together: one more behind it, or one byte more. No condition. -/
import Derived.Test.YtmcooenafgihkaaGreatDoorK
import Derived.Test.YtmcooenafgihkaaGreatDoorShelf
import Derived.Lib.AppendStr
import Derived.Lib.Builder
import Derived.Laws.Externs
import Derived.Deep.AppendLies
set_option linter.unusedSimpArgs false
set_option linter.unusedVariables false
namespace Go.Proofs.YtmcooenafgihkaaGreatDoor
open Go.RowKit

theorem builderSize : ∃ j, Tryz.prog.info? 61 = some j ∧ j.size ≠ 0 := by
  obtain ⟨j, hj, hs⟩ := Option.map_eq_some_iff.1 (show (Tryz.prog.info? 61).map (·.size) = some 2 by kernel_rfl)
  exact ⟨j, hj, by rw [hs]; decide⟩
theorem builderLies : liesAt Tryz.prog Tryz.prog.depth 61 (2 / Tryz.prog.cellsOf 61) 0 61 1 = true := by kernel_rfl
set_option maxHeartbeats 2000000 in
set_option maxRecDepth 100000 in
theorem check_used (b : Nat) (w : World) (h0 : w.cell? ⟨b, 0, none⟩ = some (.pointer (some ⟨b, 0, none⟩))) : Calls Tryz.prog 55 #[.pointer (some ⟨b, 0, none⟩)] w (Tells (.tuple #[]) w) := by
  obtain ⟨j, hj, _⟩ := builderSize
  go_enter Tryz.func55, Tryz.ntmps55
  go_wp2
  rw [Lib.run_neq_ptr_same w _ Tryz.underlying58 hj]
  go_wp2
  go_end0
  exact ⟨rfl, rfl⟩
set_option maxHeartbeats 2000000 in
set_option maxRecDepth 100000 in
theorem check_fresh (b : Nat) (w : World) (h0 : w.cell? ⟨b, 0, none⟩ = some (.pointer none)) (hsh : w.shape? b = some (61, 2)) (hfz : w.frozen? ⟨b, 0, none⟩ = false) : Calls Tryz.prog 55 #[.pointer (some ⟨b, 0, none⟩)] w fun e w' => e = .returned (.tuple #[]) ∧ w' = w.setCell ⟨b, 0, none⟩ (.pointer (some ⟨b, 0, none⟩)) := by
  obtain ⟨j, hj, hjs⟩ := builderSize
  go_enter Tryz.func55, Tryz.ntmps55
  go_wp2
  rw [Lib.run_to_unsafe w ⟨b, 0, none⟩ Tryz.underlying58 Tryz.underlying108 hj hjs hsh (Nat.zero_lt_succ 1)]
  simp only [Result.andThen]
  rw [Oper.upon_value]
  go_wp2
  rw [run_callFunc_extern Tryz.func76 (by kernel_rfl) (by kernel_rfl) (by kernel_rfl) (e := Extern.AbiNoEscape.same) (by kernel_rfl)]
  rw [Lib.run_noEscape]
  simp only [Result.andThen]
  rw [Oper.upon_value]
  go_wp2
  rw [Lib.run_from_unsafe w ⟨b, 0, none⟩ Tryz.underlying108 Tryz.underlying58 hj hsh builderLies]
  simp only [Result.andThen]
  rw [Oper.upon_value]
  go_wp2
  go_end0
  exact ⟨rfl, rfl⟩
/-- A builder behind its own check. -/
def CheckP (B b : Nat) (bs : List Value) (w : World) (e : Ending) (w' : World) : Prop := e = .returned (.tuple #[]) ∧ Lib.BuilderAt 61 5 B b (.pointer (some ⟨b, 0, none⟩)) bs w' ∧ Below B w w'
theorem check_any (B b : Nat) (bs : List Value) (w : World) (h : Lib.IsBuilder 61 5 B b bs w) : Calls Tryz.prog 55 #[.pointer (some ⟨b, 0, none⟩)] w (CheckP B b bs w) := by
  rcases h with h | h
  · refine (check_fresh b w h.cell0 h.shape h.frozen0).mono ?_
    rintro e w' ⟨rfl, rfl⟩
    exact ⟨rfl, h.used _, (Below.refl B w).setCell (p := ⟨b, 0, none⟩) h.1 _⟩
  · refine (check_used b w h.cell0).mono ?_
    rintro e w' ⟨rfl, rfl⟩
    exact ⟨rfl, h, Below.refl B _⟩
/-- A builder with more behind what it held. -/
def WroteP (B b : Nat) (bs : List Value) (n : Int) (w : World) (e : Ending) (w' : World) : Prop := e = .returned (.tuple #[.int .i64 n, .nilIface]) ∧ Lib.BuilderAt 61 5 B b (.pointer (some ⟨b, 0, none⟩)) bs w' ∧ Below B w w'
set_option maxHeartbeats 2000000 in
set_option maxRecDepth 100000 in
theorem write_any (B b : Nat) (bs : List Value) (s : ByteArray) (w : World) (h : Lib.IsBuilder 61 5 B b bs w) (hlen : bs.length + s.size ≤ 140737488355328) (hBw : B ≤ w.heap.size) : Calls Tryz.prog 32 #[.pointer (some ⟨b, 0, none⟩), .string s] w (WroteP B b (bs ++ Lib.strCells s) (s.size : Int) w) := by
  obtain ⟨i0, hi, hz0, hz1, hz2⟩ := info_parts (show (Tryz.prog.info? 5).map (fun i => (i.zero, i.size, i.bytes)) = some (some (.int .u8 0), 1, 1) by kernel_rfl)
  have HLEN := Lib.hid hlen
  clear hlen
  go_enter Tryz.func32, Tryz.ntmps32
  go_wp2_with (first | (go_at_call 55; (with_reducible refine (check_any B b bs _ h).mono ?_); rintro e w1 ⟨rfl, h1, hb1⟩; obtain ⟨hB, v, hbk, hown, hne⟩ := h1; have c0 : w1.cell? ⟨b, 0, none⟩ = some (.pointer (some ⟨b, 0, none⟩)) := (by rw [Lib.cell_of_heap hbk]; rfl); have c1 : w1.cell? ⟨b, 1, none⟩ = some v := (by rw [Lib.cell_of_heap hbk]; rfl)) | (at_builtin; refine Lib.wpList_append_own_string _ rfl _ _ 59 9 rfl B 5 i0 Tryz.underlying59 Tryz.underlying9 hi hz0 hz1 hz2 _ _ _ rfl hown s rfl ?c3 ?c4 ?c5 ?_))
  case c3 => have := HLEN.out; unfold maxLen; omega
  case c4 => have := HLEN.out; omega
  case c5 => have := hb1.size; omega
  intro v' w2 hown' hgrow _
  have hlt : b < w1.heap.size := by
    rcases Nat.lt_or_ge b w1.heap.size with h' | h'
    · exact h'
    · simp [Array.getElem?_eq_none h'] at hbk
  have hb2 : w2.heap[b]? = some (.cells #[.pointer (some ⟨b, 0, none⟩), v] 61 (0, 0)) := by
    rw [hgrow.block b hlt (fun e => hne e.symm)]
    exact hbk
  have d0 : w2.cell? ⟨b, 0, none⟩ = some (.pointer (some ⟨b, 0, none⟩)) := by rw [Lib.cell_of_heap hb2]; rfl
  have d1 : w2.cell? ⟨b, 1, none⟩ = some v := by rw [Lib.cell_of_heap hb2]; rfl
  have f1 : w2.frozen? ⟨b, 1, none⟩ = false := Lib.frozen_of_heap hb2 1
  obtain ⟨ao, n', cap, rfl⟩ : ∃ ao n' cap, v' = .slice ao n' cap := by
    rcases hown'.2 with ⟨hv, _⟩ | ⟨g, cap, cur, hv, _⟩
    · exact ⟨_, _, _, hv⟩
    · exact ⟨_, _, _, hv⟩
  go_wp2
  go_ret2
  refine ⟨rfl, ?_, ?_⟩
  · exact Lib.BuilderAt.put (T := 61) (e := 5) hB hb2 (bs' := bs ++ Lib.strCells s) (by simpa [Lib.strCells_length] using hown') (by decide)
  · exact (hb1.grown hgrow (by have := hb1.size; omega) (fun k hk => (hown.lt k hk).1)).setCell (p := ⟨b, 1, none⟩) hB _
/-- One byte behind a row of one's own. -/
theorem app_big (B : Nat) (W : World) (v : Value) (bs : List Value) (c : Int) (HO : W.ownsRow B 5 1 v bs.length bs) (hB : B ≤ W.heap.size) (hl : bs.length ≤ 100000000000000) :
    ∃ (v2 : Value) (w2 : World), (Builtin.append_ #[59, 59] 59 #[v, .slice (some ⟨W.heap.size, 0, none⟩) 1 1]).run Tryz.prog (W.alloc (.cells #[.int .u8 c] 5)) = .ok v2 w2 ∧ w2.ownsRow B 5 1 v2 (bs ++ [Value.int .u8 c]).length (bs ++ [Value.int .u8 c]) ∧ Below B W w2 ∧ (∀ k, k < W.heap.size → ¬ v.ownBlock = some k → w2.heap[k]? = W.heap[k]?) := by
  obtain ⟨i0, hi, hz0, hz1, hz2⟩ := info_parts (show (Tryz.prog.info? 5).map (fun i => (i.zero, i.size, i.bytes)) = some (some (.int .u8 0), 1, 1) by kernel_rfl)
  obtain ⟨v2, w2, hr, hown, hg, _, _⟩ := run_append_own_at (P := Tryz.prog) (W.alloc (.cells #[.int .u8 c] 5)) B 59 59 5 i0 (.int .u8 0) 1 1 Tryz.underlying59 hi hz0 hz1 hz2 rfl (by decide) v bs.length bs (HO.alloc _) ⟨W.heap.size, 0, none⟩ 1 1 [.int .u8 c] rfl
    (World.news_of_block (cs := #[.int .u8 c]) (t := 5) (fr := (0, 0)) (heap_alloc_new W _)) (by simp [Value.oneCell']) (by simp only [maxLen]; omega) (by omega) (by simp; omega)
  have own_b : ∀ k, v.ownBlock = some k → B ≤ k := fun k hk => by
    obtain ⟨_, ⟨rfl, _⟩ | ⟨g, cap, cur, rfl, hb, _⟩⟩ := HO
    · simp [Value.ownBlock] at hk
    · have : g = k := by simpa [Value.ownBlock] using hk
      omega
  refine ⟨v2, w2, hr, ?_, ((Below.refl B W).alloc hB _).grown hg (by simp; omega) own_b, fun k hk hne => ?_⟩
  · rw [List.length_append]; exact hown
  · rw [hg.block k (by simp; omega) (fun e => hne e.symm)]
    exact Lib.alloc_old W _ k hk
theorem app_one (B : Nat) (W : World) (v : Value) (bs : List Value) (c : Int) (HO : W.ownsRow B 5 1 v bs.length bs) (hB : B ≤ W.heap.size) (hl : bs.length ≤ 100000000) :
    ∃ (v2 : Value) (w2 : World), (Builtin.append_ #[59, 59] 59 #[v, .slice (some ⟨W.heap.size, 0, none⟩) 1 1]).run Tryz.prog (W.alloc (.cells #[.int .u8 c] 5)) = .ok v2 w2 ∧ w2.ownsRow B 5 1 v2 (bs ++ [Value.int .u8 c]).length (bs ++ [Value.int .u8 c]) ∧ Below B W w2 ∧ (∀ k, k < W.heap.size → ¬ v.ownBlock = some k → w2.heap[k]? = W.heap[k]?) :=
  app_big B W v bs c HO hB (Nat.le_trans hl (by decide))
/-- A builder with one byte more behind what it held. -/
def WroteB (B b : Nat) (bs : List Value) (w : World) (e : Ending) (w' : World) : Prop := e = .returned .nilIface ∧ Lib.BuilderAt 61 5 B b (.pointer (some ⟨b, 0, none⟩)) bs w' ∧ Below B w w'
set_option maxHeartbeats 2000000 in
set_option maxRecDepth 100000 in
theorem wbyte_any (B b : Nat) (bs : List Value) (c : Int) (w : World) (h : Lib.IsBuilder 61 5 B b bs w) (hlen : bs.length ≤ 100000000000000) (hBw : B ≤ w.heap.size) : Calls Tryz.prog 33 #[.pointer (some ⟨b, 0, none⟩), .int .u8 c] w (WroteB B b (bs ++ [Value.int .u8 c]) w) := by
  obtain ⟨i0, hi, hz0, hz1, hz2⟩ := info_parts (show (Tryz.prog.info? 5).map (fun i => (i.zero, i.size, i.bytes)) = some (some (.int .u8 0), 1, 1) by kernel_rfl)
  have HLEN := Lib.hid hlen
  have HBW := Lib.hid hBw
  clear hlen hBw
  go_enter Tryz.func33, Tryz.ntmps33
  go_wp2_with (first | (go_at_call 55; (with_reducible refine (check_any B b bs _ h).mono ?_); rintro e w1 ⟨rfl, h1, hb1⟩; obtain ⟨hB, v, hbk, hown, hne⟩ := h1; have HB1 := Lib.hid hb1; have c1 : w1.cell? ⟨b, 1, none⟩ = some v := (by rw [Lib.cell_of_heap hbk]; rfl); obtain ⟨v2, w2, happ, hown2, hgrow, hb2⟩ := app_big B w1 v bs c hown (Nat.le_trans HBW.out HB1.out.size) HLEN.out; have hlt : b < w1.heap.size := (by rcases Nat.lt_or_ge b w1.heap.size with h' | h'; exact h'; (simp [Array.getElem?_eq_none h'] at hbk)); have hbk2 : w2.heap[b]? = some (.cells #[.pointer (some ⟨b, 0, none⟩), v] 61 (0, 0)) := (hb2 b hlt hne).trans hbk; have d1 : w2.cell? ⟨b, 1, none⟩ = some v := (by rw [Lib.cell_of_heap hbk2]; rfl); have f1 : w2.frozen? ⟨b, 1, none⟩ = false := Lib.frozen_of_heap hbk2 1; obtain ⟨ao, n', cap, hv2⟩ : ∃ ao n' cap, v2 = .slice ao n' cap := (by rcases hown2.2 with ⟨hv, _⟩ | ⟨g, cap, cur, hv, _⟩; exact ⟨_, _, _, hv⟩; exact ⟨_, _, _, hv⟩); subst hv2; have HGR := Lib.hid hgrow; have HO2 := Lib.hid hown2; clear hgrow hown2) | (at_builtin; refine app_step 59 _ _ rfl rfl rfl rfl rfl happ ?_))
  go_ret
  refine ⟨rfl, ?_, ?_⟩
  · exact Lib.BuilderAt.put (T := 61) (e := 5) hB hbk2 (bs' := bs ++ [Value.int .u8 c]) HO2.out (by decide)
  · exact (HB1.out.trans HGR.out).setCell (p := ⟨b, 1, none⟩) hB _
end Go.Proofs.YtmcooenafgihkaaGreatDoor
