/- Helper lemmas: the step of a line, by the program. No condition. -/
import Derived.Test.YtmcooenafgihkaaGreatDoorP17
import Derived.Test.YtmcooenafgihkaaGreatDoorS5
import Derived.Recover
set_option linter.unusedSimpArgs false
set_option linter.unusedVariables false
namespace Go.Proofs.YtmcooenafgihkaaGreatDoor
open Go.RowKit

/-- What the library's variables hold, the search's greatest length among them. -/
structure GlobM (w : World) : Prop where
  glob : Glob w
  mx : ∃ m : Int, w.cell? ⟨3, 0, none⟩ = some (.int .i64 m)
theorem GlobM.later {w w' : World} (h : GlobM w) (hb : Below w.heap.size w w') : GlobM w' := by
  obtain ⟨h1, m, h2⟩ := h
  exact ⟨h1.later hb, m, by rw [hb.cell (p := ⟨3, 0, none⟩) (World.block_lt_of_cell? w _ h2)]; exact h2⟩
/-- Words that were laid anew. -/
def CutP (l : List Bs) (w : World) (e : Ending) (w' : World) : Prop := e = .returned (.slice (some ⟨w.heap.size, 0, none⟩) l.length l.length) ∧ Below w.heap.size w w' ∧ ∀ i, i < l.length → w'.cell? ⟨w.heap.size, 0 + i, none⟩ = some (str (l.getD i []))
theorem cut_any (c : UInt8) (s : ByteArray) (w : World) (hs : s.size ≤ 30000000) (hg : GlobM w) : Calls Tryz.prog 31 #[.string s, .string ⟨#[c]⟩] w (CutP (cutC c s.data.toList) w) := by
  obtain ⟨_, m, hm⟩ := hg
  refine (Tryz.strings_Split s ⟨#[c]⟩ m w (Nat.lt_of_le_of_lt hs (by decide)) hm (by show 1 ≤ 1; omega)).mono ?_
  rintro e w' ⟨rfl, rfl⟩
  refine ⟨by rw [splitB_len], Below.alloc (Below.refl _ _) (Nat.le_refl _) _, fun i hi => ?_⟩
  rw [splitB_strs, Nat.zero_add]
  refine cell_at (heap_alloc_new w _) ?_
  rw [List.map_map, List.getElem?_toArray, List.getElem?_map, List.getElem?_eq_getElem hi, List.getD_eq_getElem?_getD, List.getElem?_eq_getElem hi]
  rfl
set_option maxHeartbeats 2000000 in
set_option maxRecDepth 100000 in
theorem caught_none (a b : Nat) (w : World) : CallsD Tryz.prog 35 #[.pointer (some ⟨a, 0, none⟩), .pointer (some ⟨b, 0, none⟩)] .returning w fun e u' w' =>
      e = .returned (.tuple #[]) ∧ u' = .returning ∧ w' = w := by
  refine callsD_of_wpS Tryz.func35 rfl fun c₀ cs hu => ?_
  simp only [Tryz.ntmps35, List.size_toArray, List.length_cons, List.length_nil, Nat.reduceAdd, Nat.reduceSub, Array.replicate_succ, Array.replicate_zero, List.push_toArray, List.append_toArray, List.nil_append, List.cons_append]
  apply wpS_seq
  apply wpS_region
  simp [wpOpsS, go_sem, recoverD, hu, Exit.thenS]
  refine wpS_of_wp ?_
  go_wp2
  cases c₀
  simp_all [bodyPostS, results, Tryz.results35]
set_option maxHeartbeats 8000000 in
set_option maxRecDepth 100000 in
theorem caught_some (a b : Nat) (w : World) (old : Array Value) (r0 : Value) (ha : w.heap[a]? = some (.cells old 33 (0, 0))) (ho : old.size = 13) (hb : w.cell? ⟨b, 0, none⟩ = some r0) (hbz : w.frozen? ⟨b, 0, none⟩ = false) (hab : ¬ a = b) :
    CallsD Tryz.prog 35 #[.pointer (some ⟨a, 0, none⟩), .pointer (some ⟨b, 0, none⟩)] (.panicking [refusal]) w fun e u' w' =>
      e = .returned (.tuple #[]) ∧ u' = .panicking [{ refusal with recovered := true }] ∧ w'.heap[a]? = some (.cells stepZero 33 (0, 0)) ∧ w'.cell? ⟨b, 0, none⟩ = some (.int .i64 205) ∧ (∀ B, B ≤ a → B ≤ b → B ≤ w.heap.size → Below B w w') := by
  obtain ⟨w1, hst, hs1⟩ := row_store (w := w.alloc (.cells #[] 69)) (ty := 33) (cs := stepZero) ((Lib.alloc_old w _ a (Array.getElem?_eq_some_iff.1 ha).1).trans ha) (by kernel_rfl) (by rw [ho]; rfl) (by simp [Value.oneCell'])
  have hlt := leB_of_cell hb
  have hblt := World.block_lt_of_cell? w _ hb
  simp only at hblt
  have hb1 : w1.cell? ⟨b, 0, none⟩ = some r0 := by
    have e : w1.heap[b]? = w.heap[b]? := (hs1.rest b (fun e => hab e.symm)).trans (Lib.alloc_old w _ b hblt)
    unfold World.cell? at hb ⊢
    simp only at hb ⊢
    rw [e]; exact hb
  have hz1 : w1.frozen? ⟨b, 0, none⟩ = false := by
    have e : w1.heap[b]? = w.heap[b]? := (hs1.rest b (fun e => hab e.symm)).trans (Lib.alloc_old w _ b hblt)
    unfold World.frozen? at hbz ⊢
    simp only at hbz ⊢
    rw [e]; exact hbz
  have HB : Hid (∀ B, B ≤ a → B ≤ b → B ≤ w.heap.size → Below B w (w1.setCell ⟨b, 0, none⟩ (.int .i64 205))) := Lib.hid fun B h1 h2 h3 => by
    refine Below.setCell ?_ h2 _
    exact ⟨hs1.os, hs1.tape, hs1.output, by rw [hs1.size]; simp, fun j hj => (hs1.rest j (by omega)).trans (Lib.alloc_old w _ j (by omega))⟩
  have HA : Hid ((w1.setCell ⟨b, 0, none⟩ (.int .i64 205)).heap[a]? = some (.cells stepZero 33 (0, 0))) := Lib.hid ((heap_set_other w1 _ _ a hab).trans hs1.at')
  have HC : Hid ((w1.setCell ⟨b, 0, none⟩ (.int .i64 205)).cell? ⟨b, 0, none⟩ = some (.int .i64 205)) := Lib.hid (World.cell?_setCell_same w1 _ _ hb1)
  clear hs1 ha hb hbz
  refine callsD_of_wpS Tryz.func35 rfl fun c₀ cs hu => ?_
  simp only [refusal] at hu ⊢
  simp only [Tryz.ntmps35, List.size_toArray, List.length_cons, List.length_nil, Nat.reduceAdd, Nat.reduceSub, Array.replicate_succ, Array.replicate_zero, List.push_toArray, List.append_toArray, List.nil_append, List.cons_append]
  apply wpS_seq
  apply wpS_region
  simp [wpOpsS, go_sem, recoverD, hu, Exit.thenS]
  refine wpS_of_wp ?_
  have hta : ∀ W, (Instr.typeAssert (.iface 69 (.agg #[])) 20 69 true).run Tryz.prog W = .ok (.tuple #[.agg #[], .bool true]) W := fun _ => by kernel_rfl
  have hneq : ∀ W, (binOp .eql 20 (.iface 69 (.agg #[])) .nilIface).run Tryz.prog W = .ok (.bool false) W := fun _ => by kernel_rfl
  go_wp2_with (refine store_step 33 _ _ rfl rfl rfl rfl hst ?_)
  simp [bodyPostS, results, Tryz.results35]
  exact ⟨HA.out, HC.out, HB.out⟩
theorem own_mono {w : World} {B B' e k n : Nat} {v : Value} {xs : List Value} (h : w.ownsRow B e k v n xs) (hb : B' ≤ B) : w.ownsRow B' e k v n xs := by
  obtain ⟨h0, h1 | ⟨g, cap, cur, rfl, hg, h2⟩⟩ := h
  · exact ⟨h0, Or.inl h1⟩
  · exact ⟨h0, Or.inr ⟨g, cap, cur, rfl, Nat.le_trans hb hg, h2⟩⟩
/-- What a line gives. -/
def LineC (R : Option StepR) (w : World) (e : Ending) (w' : World) : Prop := (∃ (s : StepR) (v : Value), R = some s ∧ e = .returned (.tuple #[.agg (stepCells s v), .int .i64 0]) ∧ Below w.heap.size w w' ∧ OwnI w' w.heap.size v s.keep) ∨ (R = none ∧ e = .returned (.tuple #[.agg stepZero, .int .i64 205]) ∧ Below w.heap.size w w')
theorem LineC.no {R : Option StepR} {w w' : World} (h : R = none) (hb : Below w.heap.size w w') : LineC R w (.returned (.tuple #[.agg stepZero, .int .i64 205])) w' := Or.inr ⟨h, rfl, hb⟩
theorem cell_heap {w w' : World} {b i : Nat} {v : Value} (h : w.cell? ⟨b, i, none⟩ = some v) (e : w'.heap[b]? = w.heap[b]?) : w'.cell? ⟨b, i, none⟩ = some v := by
  unfold World.cell? at h ⊢
  simp only at h ⊢
  rw [e]; exact h
theorem frozen_heap {w w' : World} {b i : Nat} (h : w.frozen? ⟨b, i, none⟩ = false) (e : w'.heap[b]? = w.heap[b]?) : w'.frozen? ⟨b, i, none⟩ = false := by
  unfold World.frozen? at h ⊢
  simp only at h ⊢
  rw [e]; exact h
/-- A row and a cell beside it, set. -/
theorem set_two {w : World} {a b : Nat} {old cs : Array Value} (r0 n : Int) (ha : w.heap[a]? = some (.cells old 33 (0, 0))) (ho : old.size = 13) (hb : w.heap[b]? = some (.cells #[.int .i64 r0] 24 (0, 0))) (hab : ¬ a = b) (hcs : cs.size = 13) (h1 : cs.all (·.oneCell') = true) :
    ∃ w6, (Instr.storeAt 33 (.pointer (some ⟨a, 0, none⟩)) (.agg cs)).run Tryz.prog w = .ok () w6 ∧ w6.cell? ⟨b, 0, none⟩ = some (.int .i64 r0) ∧ w6.frozen? ⟨b, 0, none⟩ = false ∧ (w6.setCell ⟨b, 0, none⟩ (.int .i64 n)).heap[a]? = some (.cells cs 33 (0, 0)) ∧ (w6.setCell ⟨b, 0, none⟩ (.int .i64 n)).cell? ⟨b, 0, none⟩ = some (.int .i64 n) ∧
      (∀ B, B ≤ a → B ≤ b → B ≤ w.heap.size → Below B w (w6.setCell ⟨b, 0, none⟩ (.int .i64 n))) ∧ (∀ j, ¬ j = a → ¬ j = b → (w6.setCell ⟨b, 0, none⟩ (.int .i64 n)).heap[j]? = w.heap[j]?) := by
  obtain ⟨w6, hst, hs⟩ := row_store (ty := 33) (cs := cs) ha (by rw [hcs]; kernel_rfl) (by rw [ho, hcs]) h1
  have e := hs.rest b (fun e => hab e.symm)
  have hb6 : w6.cell? ⟨b, 0, none⟩ = some (.int .i64 r0) := cell_at (e.trans hb) rfl
  refine ⟨w6, hst, hb6, Lib.frozen_of_heap (e.trans hb) 0, (heap_set_other w6 _ _ a hab).trans hs.at', World.cell?_setCell_same w6 _ _ hb6, fun B b1 b2 b3 => Below.setCell ⟨hs.os, hs.tape, hs.output, Nat.le_of_eq hs.size.symm, fun j hj => hs.rest j (by omega)⟩ b2 _, fun j j1 j2 => (heap_set_other w6 _ _ j j2).trans (hs.rest j j1)⟩
/-- The world behind Line's own results. -/
abbrev lineW0 (w : World) : World := (w.alloc (.cells stepZero 33)).alloc (.cells #[.int .i64 0] 24)
theorem line_a (w : World) : (lineW0 w).heap[w.heap.size]? = some (.cells stepZero 33 (0, 0)) := (Lib.alloc_old _ _ _ (by simp)).trans (heap_alloc_new w _)
theorem line_b (w : World) : (lineW0 w).heap[w.heap.size + 1]? = some (.cells #[.int .i64 0] 24 (0, 0)) := by
  have := heap_alloc_new (w.alloc (.cells stepZero 33)) (.cells #[.int .i64 0] 24)
  simpa using this
theorem line_z (w : World) : (lineW0 w).heap.size = w.heap.size + 2 := by simp
theorem line_w (w : World) : Below w.heap.size w (lineW0 w) := Below.alloc (Below.alloc (Below.refl w.heap.size w) (Nat.le_refl _) _) (by simp) _
set_option maxHeartbeats 8000000 in
set_option maxRecDepth 100000 in
theorem line_long (s : ByteArray) (w : World) (R : Option StepR) (hR : Hid (R = none)) (hl : 200 < (s.size : Int)) : Calls Tryz.prog 20 #[.string s] w (LineC R w) := by
  obtain ⟨w6, hst, hb6, hz6, ha9, hb9, hbl, _⟩ := set_two (cs := stepZero) 0 205 (line_a w) rfl (line_b w) (by omega) rfl (by simp [Value.oneCell'])
  have HA9 := Lib.hid ha9
  have HBL := Lib.hid ((line_w w).trans (hbl w.heap.size (Nat.le_refl _) (by omega) (by rw [line_z]; omega)))
  clear ha9 hbl
  have hv0 := cell_at (i := 0) HA9.out rfl
  have hv1 := cell_at (i := 1) HA9.out rfl
  have hv2 := cell_at (i := 2) HA9.out rfl
  have hv3 := cell_at (i := 3) HA9.out rfl
  have hv4 := cell_at (i := 4) HA9.out rfl
  have hv5 := cell_at (i := 5) HA9.out rfl
  have hv6 := cell_at (i := 6) HA9.out rfl
  have hv7 := cell_at (i := 7) HA9.out rfl
  have hv8 := cell_at (i := 8) HA9.out rfl
  have hv9 := cell_at (i := 9) HA9.out rfl
  have hv10 := cell_at (i := 10) HA9.out rfl
  have hv11 := cell_at (i := 11) HA9.out rfl
  have hv12 := cell_at (i := 12) HA9.out rfl
  clear HA9
  go_enter_defers Tryz.func20, Tryz.ntmps20
  go_wp2_with (refine store_step 33 _ _ rfl rfl rfl rfl hst ?_)
  refine leaves_cons (f := 35) (args := #[.pointer (some ⟨w.heap.size, 0, none⟩), .pointer (some ⟨w.heap.size + 1, 0, none⟩)]) (by simp) (by simp [go_sem]) ?_
  refine (caught_none w.heap.size (w.heap.size + 1) _).mono ?_
  rintro e u' w'' ⟨rfl, rfl, rfl⟩
  simp [Leaves, settle, results, Tryz.results20, go_sem, hb9, hv0, hv1, hv2, hv3, hv4, hv5, hv6, hv7, hv8, hv9, hv10, hv11, hv12]
  exact LineC.no hR.out HBL.out
set_option maxHeartbeats 8000000 in
set_option maxRecDepth 100000 in
theorem line_main (s : ByteArray) (w : World) (R : Option StepR) (hl : ¬ 200 < (s.size : Int)) (HG : Hid (GlobM w)) (HR : Hid (stepP (cutC 32 s.data.toList) = R)) : Calls Tryz.prog 20 #[.string s] w (LineC R w) := by
  have HCU := Lib.hid (cut_any 32 s (lineW0 w) (by omega) (HG.out.later (line_w w)))
  have HLW : Hid (∀ t, t ∈ cutC 32 s.data.toList → t.length ≤ 30000000) := Lib.hid fun t ht => by
    have h1 := cutC_len 32 _ t ht
    have h2 : s.data.toList.length = s.size := by rw [Array.length_toList]; rfl
    omega
  have HLN : Hid ((cutC 32 s.data.toList).length ≤ 1000000) := Lib.hid (by
    have h1 := cutC_many 32 s.data.toList
    have h2 : s.data.toList.length = s.size := by rw [Array.length_toList]; rfl
    omega)
  obtain ⟨ws, hws⟩ : ∃ ws, cutC 32 s.data.toList = ws := ⟨_, rfl⟩
  rw [hws] at HCU HLW HLN HR
  clear hws
  obtain ⟨n, hn⟩ : ∃ n, ws.length = n := ⟨_, rfl⟩
  have HN := Lib.hid hn
  clear hn
  go_enter_defers Tryz.func20, Tryz.ntmps20
  go_wp2_with (fail)
  refine HCU.out.mono ?_
  rintro e1 w3 ⟨rfl, hb3, hc3⟩
  have hz : (lineW0 w).heap.size = w.heap.size + 1 + 1 := by simp
  rw [hz] at hc3
  have HRD : Hid (Rd (w3.heap.size + 1) w3.heap.size ws (w3.alloc (.cells #[.slice (some ⟨w.heap.size + 1 + 1, 0, none⟩) ws.length ws.length] 72))) := Lib.hid (by
    refine ⟨Nat.lt_succ_self _, _, _, heap_alloc_new w3 _, Nat.le_refl _, by have := HLN.out; omega, fun i hi => ?_⟩
    have hlt := World.block_lt_of_cell? w3 _ (hc3 i hi)
    simp only at hlt
    exact ⟨_, 0, rfl, by omega, by omega, cell_heap (hc3 i hi) (Lib.alloc_old w3 _ _ hlt)⟩)
  have HB3 : Hid (Below (lineW0 w).heap.size (lineW0 w) (w3.alloc (.cells #[.slice (some ⟨w.heap.size + 1 + 1, 0, none⟩) ws.length ws.length] 72))) := Lib.hid (Below.alloc hb3 hb3.size _)
  have HZ3 : Hid ((lineW0 w).heap.size ≤ w3.heap.size) := Lib.hid hb3.size
  have HST := Lib.hid (step_any (w3.heap.size + 1) w3.heap.size ws (w3.alloc (.cells #[.slice (some ⟨w.heap.size + 1 + 1, 0, none⟩) ws.length ws.length] 72)) HRD.out (by simp) (GlobP.fresh (HG.out.glob) (by have := HZ3.out; rw [line_z] at this; omega) ((HG.out.glob.later (line_w w)).later HB3.out)) HLW.out HLN.out)
  rw [HR.out] at HST
  clear hb3 hc3
  cases R with
  | none =>
    have HSN : Hid (Calls Tryz.prog 36 #[.pointer (some ⟨w3.heap.size, 0, none⟩)] (w3.alloc (.cells #[.slice (some ⟨w.heap.size + 1 + 1, 0, none⟩) ws.length ws.length] 72)) fun e w' => e = .panicked [refusal] ∧ Kept w3.heap.size (w3.alloc (.cells #[.slice (some ⟨w.heap.size + 1 + 1, 0, none⟩) ws.length ws.length] 72)) w') := Lib.hid (HST.out.mono (by
      rintro e w' (⟨_, _, h1, _⟩ | ⟨_, h2, h3⟩)
      · cases h1
      · exact ⟨h2, h3⟩))
    clear HST
    have HA3 : Hid ((w3.alloc (.cells #[.slice (some ⟨w.heap.size + 1 + 1, 0, none⟩) ws.length ws.length] 72)).heap[w.heap.size]? = some (.cells stepZero 33 (0, 0))) := Lib.hid ((HB3.out.block w.heap.size (by rw [line_z]; omega)).trans (line_a w))
    have HBC3 : Hid ((w3.alloc (.cells #[.slice (some ⟨w.heap.size + 1 + 1, 0, none⟩) ws.length ws.length] 72)).heap[w.heap.size + 1]? = some (.cells #[.int .i64 0] 24 (0, 0))) := Lib.hid ((HB3.out.block (w.heap.size + 1) (by rw [line_z]; omega)).trans (line_b w))
    go_wp2_with (fail)
    refine HSN.out.mono ?_
    rintro e5 w5 ⟨rfl, hk5⟩
    have hz4 := HZ3.out
    rw [line_z] at hz4
    have a5 := (hk5.rest w.heap.size (by simp; omega) (by omega)).trans HA3.out
    have b5 := (hk5.rest (w.heap.size + 1) (by simp; omega) (by omega)).trans HBC3.out
    have HK5 : Hid (Below w.heap.size w w5) := Lib.hid (((line_w w).trans (HB3.out.mono (by rw [line_z]; omega))).trans ⟨hk5.os, hk5.tape, hk5.output, hk5.size, fun j hj => hk5.rest j (by simp; omega) (by omega)⟩)
    have HZ5 : Hid (w.heap.size ≤ w5.heap.size) := Lib.hid (by have := hk5.size; simp at this; omega)
    clear hk5 hz4
    refine leaves_cons (f := 35) (args := #[.pointer (some ⟨w.heap.size, 0, none⟩), .pointer (some ⟨w.heap.size + 1, 0, none⟩)]) (by simp) (by simp [go_sem]) ?_
    refine (caught_some w.heap.size (w.heap.size + 1) w5 stepZero (.int .i64 0) a5 rfl (cell_at b5 rfl) (Lib.frozen_of_heap b5 0) (by omega)).mono ?_
    rintro e u' w'' ⟨rfl, rfl, ha9, hb9, hbl⟩
    have HA9 := Lib.hid ha9
    have HBL := Lib.hid (HK5.out.trans (hbl w.heap.size (Nat.le_refl _) (by omega) HZ5.out))
    clear ha9 hbl
    have hv0 := cell_at (i := 0) HA9.out rfl
    have hv1 := cell_at (i := 1) HA9.out rfl
    have hv2 := cell_at (i := 2) HA9.out rfl
    have hv3 := cell_at (i := 3) HA9.out rfl
    have hv4 := cell_at (i := 4) HA9.out rfl
    have hv5 := cell_at (i := 5) HA9.out rfl
    have hv6 := cell_at (i := 6) HA9.out rfl
    have hv7 := cell_at (i := 7) HA9.out rfl
    have hv8 := cell_at (i := 8) HA9.out rfl
    have hv9 := cell_at (i := 9) HA9.out rfl
    have hv10 := cell_at (i := 10) HA9.out rfl
    have hv11 := cell_at (i := 11) HA9.out rfl
    have hv12 := cell_at (i := 12) HA9.out rfl
    clear HA9 a5 b5
    simp [Leaves, settle, results, Tryz.results20, go_sem, hb9, hv0, hv1, hv2, hv3, hv4, hv5, hv6, hv7, hv8, hv9, hv10, hv11, hv12]
    exact LineC.no rfl HBL.out
  | some st =>
    have HSN : Hid (Calls Tryz.prog 36 #[.pointer (some ⟨w3.heap.size, 0, none⟩)] (w3.alloc (.cells #[.slice (some ⟨w.heap.size + 1 + 1, 0, none⟩) ws.length ws.length] 72)) fun e w' => ∃ (A : Option Addr) (m c : Nat), e = .returned (.agg (stepCells st (.slice A m c))) ∧ Hid (Kept w3.heap.size (w3.alloc (.cells #[.slice (some ⟨w.heap.size + 1 + 1, 0, none⟩) ws.length ws.length] 72)) w' ∧ OwnI w' (w3.heap.size + 1) (.slice A m c) st.keep)) := Lib.hid (HST.out.mono (by
      rintro e w' (⟨s1, v, h1, h2, h3, h4⟩ | ⟨h1, _⟩)
      · injection h1 with h1
        subst h1
        obtain ⟨A, m, c, rfl⟩ := own_sl h4
        exact ⟨A, m, c, h2, Lib.hid ⟨h3, by simpa using h4⟩⟩
      · cases h1))
    clear HST
    have HA3 : Hid ((w3.alloc (.cells #[.slice (some ⟨w.heap.size + 1 + 1, 0, none⟩) ws.length ws.length] 72)).heap[w.heap.size]? = some (.cells stepZero 33 (0, 0))) := Lib.hid ((HB3.out.block w.heap.size (by rw [line_z]; omega)).trans (line_a w))
    have HBC3 : Hid ((w3.alloc (.cells #[.slice (some ⟨w.heap.size + 1 + 1, 0, none⟩) ws.length ws.length] 72)).heap[w.heap.size + 1]? = some (.cells #[.int .i64 0] 24 (0, 0))) := Lib.hid ((HB3.out.block (w.heap.size + 1) (by rw [line_z]; omega)).trans (line_b w))
    go_wp2_with (fail)
    refine HSN.out.mono ?_
    rintro e5 w5 ⟨A, m, c, rfl, hh⟩
    obtain ⟨hk5, ho5⟩ := hh.out
    have hz4 := HZ3.out
    rw [line_z] at hz4
    have a5 := (hk5.rest w.heap.size (by simp; omega) (by omega)).trans HA3.out
    have b5 := (hk5.rest (w.heap.size + 1) (by simp; omega) (by omega)).trans HBC3.out
    have hz5 : w.heap.size ≤ w5.heap.size := by have := hk5.size; simp at this; omega
    have hk6 : Below w.heap.size w w5 := ((line_w w).trans (HB3.out.mono (by rw [line_z]; omega))).trans ⟨hk5.os, hk5.tape, hk5.output, hk5.size, fun j hj => hk5.rest j (by simp; omega) (by omega)⟩
    obtain ⟨w6, hst, hb6, hz6, ha9, hb9, hbl, hrest⟩ := set_two (cs := stepCells st (.slice A m c)) 0 0 a5 rfl b5 (by omega) rfl (by simp [Value.oneCell'])
    have HA9 := Lib.hid ha9
    have HBL := Lib.hid (hk6.trans (hbl w.heap.size (Nat.le_refl _) (by omega) hz5))
    have HO9 : Hid (OwnI (w6.setCell ⟨w.heap.size + 1, 0, none⟩ (.int .i64 0)) w.heap.size (.slice A m c) st.keep) := Lib.hid (own_mono (own_upd ho5 fun g hg => hrest g (by have := (World.ownsRow.lt ho5 g hg).1; omega) (by have := (World.ownsRow.lt ho5 g hg).1; omega)) (by omega))
    clear ha9 hbl hrest hk6 hk5 ho5 hh hz4 hz5 a5 b5
    have hv0 := cell_at (i := 0) HA9.out rfl
    have hv1 := cell_at (i := 1) HA9.out rfl
    have hv2 := cell_at (i := 2) HA9.out rfl
    have hv3 := cell_at (i := 3) HA9.out rfl
    have hv4 := cell_at (i := 4) HA9.out rfl
    have hv5 := cell_at (i := 5) HA9.out rfl
    have hv6 := cell_at (i := 6) HA9.out rfl
    have hv7 := cell_at (i := 7) HA9.out rfl
    have hv8 := cell_at (i := 8) HA9.out rfl
    have hv9 := cell_at (i := 9) HA9.out rfl
    have hv10 := cell_at (i := 10) HA9.out rfl
    have hv11 := cell_at (i := 11) HA9.out rfl
    have hv12 := cell_at (i := 12) HA9.out rfl
    clear HA9
    go_wp2_with (refine store_step 33 _ _ rfl rfl rfl rfl hst ?_)
    refine leaves_cons (f := 35) (args := #[.pointer (some ⟨w.heap.size, 0, none⟩), .pointer (some ⟨w.heap.size + 1, 0, none⟩)]) (by simp) (by simp [go_sem]) ?_
    refine (caught_none w.heap.size (w.heap.size + 1) _).mono ?_
    rintro e u' w'' ⟨rfl, rfl, rfl⟩
    simp [Leaves, settle, results, Tryz.results20, go_sem, hb9, hv0, hv1, hv2, hv3, hv4, hv5, hv6, hv7, hv8, hv9, hv10, hv11, hv12]
    exact Or.inl ⟨st, _, rfl, rfl, HBL.out, HO9.out⟩
theorem line_any (s : ByteArray) (w : World) (hg : GlobM w) : Calls Tryz.prog 20 #[.string s] w (LineC (lineL s.data.toList) w) := by
  have e : s.data.toList.length = s.size := by rw [Array.length_toList]; rfl
  by_cases hl : 200 < s.size
  · exact line_long s w _ (Lib.hid (by unfold lineL; rw [e, if_pos hl])) (by omega)
  · refine line_main s w _ (by omega) (Lib.hid hg) (Lib.hid ?_)
    unfold lineL
    rw [e, if_neg hl, cutC_words]
end Go.Proofs.YtmcooenafgihkaaGreatDoor
