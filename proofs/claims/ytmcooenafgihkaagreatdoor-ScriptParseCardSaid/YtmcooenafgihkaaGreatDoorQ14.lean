/- Helper lemmas: a step with what a word says for a letter, by the reference. No condition. -/
import Derived.Test.YtmcooenafgihkaaGreatDoorQ4
import Derived.Test.YtmcooenafgihkaaGreatDoorQ11
import Derived.Test.YtmcooenafgihkaaGreatDoorQ12
import Derived.Test.YtmcooenafgihkaaGreatDoorP18
import Derived.Test.YtmcooenafgihkaaGreatDoorS9
set_option linter.unusedSimpArgs false
set_option linter.unusedVariables false
namespace Go.Proofs.YtmcooenafgihkaaGreatDoor
open Go.RowKit

/-- What lay before has not turned, but for a row of one's own. -/
structure Moved (B : Nat) (v : Value) (w w' : World) : Prop where
  bel : Below B w w'
  rest : ∀ k, k < w.heap.size → ¬ v.ownBlock = some k → w'.heap[k]? = w.heap[k]?
theorem Moved.of_below {B : Nat} {v : Value} {w w' : World} (h : Below w.heap.size w w') (hB : B ≤ w.heap.size) : Moved B v w w' := ⟨h.mono hB, fun k hk _ => h.block k hk⟩
/-- What a word sets; false: it says nothing. -/
def SetC (R : Option StepR) (B : Nat) (v : Value) (w : World) (e : Ending) (w' : World) : Prop := ∃ (s' : StepR) (A : Option Addr) (m c : Nat) (b : Bool), e = .returned (.tuple #[.agg (stepCells s' (.slice A m c)), .bool b]) ∧ R = (if b = true then some s' else none) ∧ Moved B v w w' ∧ OwnI w' B (.slice A m c) s'.keep
theorem SetC.mk {R : Option StepR} {B : Nat} {v : Value} {w w' : World} {A : Option Addr} {m c : Nat} (s' : StepR) (b : Bool) (h : R = (if b = true then some s' else none)) (hm : Moved B v w w') (ho : OwnI w' B (.slice A m c) s'.keep) : SetC R B v w (.returned (.tuple #[.agg (stepCells s' (.slice A m c)), .bool b])) w' := ⟨s', A, m, c, b, rfl, h, hm, ho⟩
theorem num_form (R : Option Int) : ∃ n, numV R = .tuple #[.int .i64 n, .bool R.isSome] ∧ ∀ u, R = some u → n = u := by
  cases R with
  | none => exact ⟨_, rfl, fun u h => by cases h⟩
  | some k => exact ⟨_, rfl, fun u h => by injection h⟩
theorem map_if {α : Type} {R : Option α} {b : Bool} (hb : R.isSome = b) {x : α} (hx : ∀ u, R = some u → x = u) (f : α → StepR) : R.map f = (if b = true then some (f x) else none) := by
  subst hb
  cases R with
  | none => rfl
  | some u => rw [hx u rfl]; rfl
theorem two_a (w : World) (a b : Array Value) (t : TypeId) : ((w.alloc (.cells a t)).alloc (.cells b t)).heap[w.heap.size]? = some (.cells a t (0, 0)) := (Lib.alloc_old _ _ _ (by simp)).trans (heap_alloc_new w _)
theorem two_b (w : World) (a b : Array Value) (t : TypeId) : ((w.alloc (.cells a t)).alloc (.cells b t)).heap[w.heap.size + 1]? = some (.cells b t (0, 0)) := by
  have h := heap_alloc_new (w.alloc (.cells a t)) (.cells b t)
  have e : (w.alloc (.cells a t)).heap.size = w.heap.size + 1 := by simp
  rw [e] at h
  exact h
theorem moved_end {B : Nat} {v u : Value} {w w4 w9 : World} {j : Nat} {cs : Array Value} {t : TypeId} (h : Moved B v w w4) (hB : B ≤ w.heap.size) (hs : SetRow (w.heap.size + 1) cs t (w4.setCell ⟨w.heap.size, j, none⟩ u) w9) : Moved B v w w9 :=
  ⟨⟨hs.os.trans (h.bel.os), hs.tape.trans h.bel.tape, hs.output.trans h.bel.output, by rw [hs.size, set_size]; exact h.bel.size, fun k hk => (hs.rest k (by omega)).trans ((heap_set_other _ _ _ _ (by simp; omega)).trans (h.bel.block k hk))⟩,
    fun k hk hne => (hs.rest k (by omega)).trans ((heap_set_other _ _ _ _ (by simp; omega)).trans (h.rest k hk hne))⟩
theorem own_end {B a : Nat} {v u : Value} {w4 w9 : World} {j : Nat} {cs ca cb : Array Value} {l : List Int} {fr : Nat × Nat} (h : OwnI w4 B v l) (ha : w4.heap[a]? = some (.cells ca 33 fr)) (hs : SetRow (a + 1) cs 33 (w4.setCell ⟨a, j, none⟩ u) w9) (hb : w4.heap[a + 1]? = some (.cells cb 33 fr)) : OwnI w9 B v l :=
  own_upd h fun g hg => (hs.rest g (fun e => own_ne h hb (fun _ _ e => by injection e with _ e2; exact absurd e2 (by decide)) (hg.trans (congrArg some e)))).trans (heap_set_other _ _ _ _ fun e => own_ne h ha (fun _ _ e => by injection e with _ e2; exact absurd e2 (by decide)) (hg.trans (congrArg some e)))
set_option maxHeartbeats 8000000 in
set_option maxRecDepth 100000 in
theorem set_r (s : StepR) (v : Value) (q : ByteArray) (B : Nat) (w : World) (HOI : Hid (OwnI w B v s.keep)) (HBW : Hid (B ≤ w.heap.size)) (HQS : Hid (q.size ≤ 30000000)) : Calls Tryz.prog 40 #[.agg (stepCells s v), .int .u8 114, .string q] w (SetC (setR s 114 q.data.toList) B v w) := by
  obtain ⟨n, hnv, hns⟩ := num_form (numL q.data.toList)
  have HNU : Hid (∀ W, Calls Tryz.prog 23 #[.string q] W fun e w' => e = .returned (.tuple #[.int .i64 n, .bool (numL q.data.toList).isSome]) ∧ Below W.heap.size W w') := Lib.hid fun W => by
    have h := rnumber_any q W
    rw [hnv] at h
    exact h
  have HNS := Lib.hid hns
  have HTX := Lib.hid (fun W => rtextw_any q W HQS.out)
  obtain ⟨nb, hnb⟩ : ∃ nb, (numL q.data.toList).isSome = nb := ⟨_, rfl⟩
  rw [hnb] at HNU
  have HNB := Lib.hid hnb
  unfold RTextC at HTX
  obtain ⟨tb, htb⟩ : ∃ tb, (unwordL q.data.toList).isSome = tb := ⟨_, rfl⟩
  rw [htb] at HTX
  have HTB := Lib.hid htb
  obtain ⟨A, m, c, rfl⟩ := own_sl HOI.out
  clear hnv hns hnb htb
  have HB0 := Lib.hid (show Below w.heap.size w ((w.alloc (.cells (stepCells s (.slice A m c)) 33)).alloc (.cells stepZero 33)) from Below.alloc (Below.alloc (Below.refl _ _) (Nat.le_refl _) _) (by simp) _)
  have HS0 := Lib.hid (show w.heap.size + 1 + 1 ≤ ((w.alloc (.cells (stepCells s (.slice A m c)) 33)).alloc (.cells stepZero 33)).heap.size by simp)
  have HL0 := Lib.hid (show w.heap.size < ((w.alloc (.cells (stepCells s (.slice A m c)) 33)).alloc (.cells stepZero 33)).heap.size by simp; omega)
  have HL1 := Lib.hid (show w.heap.size + 1 < ((w.alloc (.cells (stepCells s (.slice A m c)) 33)).alloc (.cells stepZero 33)).heap.size by simp)
  have HX0 := Lib.hid (two_a w (stepCells s (.slice A m c)) stepZero 33)
  have HY0 := Lib.hid (two_b w (stepCells s (.slice A m c)) stepZero 33)
  go_enter Tryz.func40, Tryz.ntmps40
  go_wp2_with (fail)
  refine (HNU.out _).mono ?_
  rintro e1 w1 ⟨rfl, hb1⟩
  have HB1 := Lib.hid (below_tr HB0.out hb1)
  have HX1 := Lib.hid ((hb1.block w.heap.size HL0.out).trans HX0.out)
  have HY1 := Lib.hid ((hb1.block (w.heap.size + 1) HL1.out).trans HY0.out)
  have HZ1 := Lib.hid (Nat.le_trans HS0.out hb1.size)
  clear hb1
  go_wp2_with (fail)
  refine (HTX.out _).mono ?_
  rintro e2 w2 ⟨t, rfl, ht, hb2⟩
  have HT := Lib.hid ht
  have HB2 := Lib.hid (below_tr HB1.out hb2)
  have HX2 := Lib.hid ((hb2.block w.heap.size (Array.getElem?_eq_some_iff.1 HX1.out).1).trans HX1.out)
  have HY2 := Lib.hid ((hb2.block (w.heap.size + 1) (Array.getElem?_eq_some_iff.1 HY1.out).1).trans HY1.out)
  have HZ2 := Lib.hid (Nat.le_trans HZ1.out hb2.size)
  clear ht hb2
  have f1 : w2.cell? ⟨w.heap.size, 1, none⟩ = some (.int .i64 s.rep) := cell_at HX2.out rfl
  have z1 : w2.frozen? ⟨w.heap.size, 1, none⟩ = false := Lib.frozen_of_heap HX2.out 1
  have l1 := leB_of_cell f1
  have hx5 : (w2.setCell ⟨w.heap.size, 1, none⟩ (.int .i64 n)).heap[w.heap.size]? = some (.cells (stepCells { s with rep := n } (.slice A m c)) 33 (0, 0)) := (heap_set_at HX2.out 1 _).trans (by rfl)
  have hy5 : (w2.setCell ⟨w.heap.size, 1, none⟩ (.int .i64 n)).heap[w.heap.size + 1]? = some (.cells stepZero 33 (0, 0)) := (heap_set_other w2 _ _ _ (by simp)).trans HY2.out
  have hld := (row_load (ty := 33) hx5 Tryz.underlying33 (by kernel_rfl)).2
  obtain ⟨w9, hst9, hs9⟩ := row_store (ty := 33) (cs := stepCells { s with rep := n } (.slice A m c)) hy5 (by kernel_rfl) rfl (by simp [Value.oneCell'])
  have hv0 := cell_at (i := 0) hs9.at' rfl
  have hv1 := cell_at (i := 1) hs9.at' rfl
  have hv2 := cell_at (i := 2) hs9.at' rfl
  have hv3 := cell_at (i := 3) hs9.at' rfl
  have hv4 := cell_at (i := 4) hs9.at' rfl
  have hv5 := cell_at (i := 5) hs9.at' rfl
  have hv6 := cell_at (i := 6) hs9.at' rfl
  have hv7 := cell_at (i := 7) hs9.at' rfl
  have hv8 := cell_at (i := 8) hs9.at' rfl
  have hv9 := cell_at (i := 9) hs9.at' rfl
  have hv10 := cell_at (i := 10) hs9.at' rfl
  have hv11 := cell_at (i := 11) hs9.at' rfl
  have hv12 := cell_at (i := 12) hs9.at' rfl
  have HS9 := Lib.hid hs9
  clear hs9 hx5 hy5
  go_wp2_with (first | (refine load_step 33 _ rfl rfl rfl hld ?_) | (refine store_step 33 _ _ rfl rfl rfl rfl hst9 ?_))
  exact bodyPost_ret (v := .tuple #[.agg (stepCells { s with rep := n } (.slice A m c)), .bool nb]) (by simp [results, Tryz.results40, go_sem, hv0, hv1, hv2, hv3, hv4, hv5, hv6, hv7, hv8, hv9, hv10, hv11, hv12]) rfl (SetC.mk { s with rep := n } nb (map_if HNB.out HNS.out (fun n => { s with rep := n })) (moved_end (Moved.of_below HB2.out HBW.out) HBW.out HS9.out) (own_end (own_below HOI.out HB2.out) HX2.out HS9.out HY2.out))
set_option maxHeartbeats 8000000 in
set_option maxRecDepth 100000 in
theorem set_N (s : StepR) (v : Value) (q : ByteArray) (B : Nat) (w : World) (HOI : Hid (OwnI w B v s.keep)) (HBW : Hid (B ≤ w.heap.size)) (HQS : Hid (q.size ≤ 30000000)) : Calls Tryz.prog 40 #[.agg (stepCells s v), .int .u8 78, .string q] w (SetC (setR s 78 q.data.toList) B v w) := by
  obtain ⟨n, hnv, hns⟩ := num_form (numL q.data.toList)
  have HNU : Hid (∀ W, Calls Tryz.prog 23 #[.string q] W fun e w' => e = .returned (.tuple #[.int .i64 n, .bool (numL q.data.toList).isSome]) ∧ Below W.heap.size W w') := Lib.hid fun W => by
    have h := rnumber_any q W
    rw [hnv] at h
    exact h
  have HNS := Lib.hid hns
  have HTX := Lib.hid (fun W => rtextw_any q W HQS.out)
  obtain ⟨nb, hnb⟩ : ∃ nb, (numL q.data.toList).isSome = nb := ⟨_, rfl⟩
  rw [hnb] at HNU
  have HNB := Lib.hid hnb
  unfold RTextC at HTX
  obtain ⟨tb, htb⟩ : ∃ tb, (unwordL q.data.toList).isSome = tb := ⟨_, rfl⟩
  rw [htb] at HTX
  have HTB := Lib.hid htb
  obtain ⟨A, m, c, rfl⟩ := own_sl HOI.out
  clear hnv hns hnb htb
  have HB0 := Lib.hid (show Below w.heap.size w ((w.alloc (.cells (stepCells s (.slice A m c)) 33)).alloc (.cells stepZero 33)) from Below.alloc (Below.alloc (Below.refl _ _) (Nat.le_refl _) _) (by simp) _)
  have HS0 := Lib.hid (show w.heap.size + 1 + 1 ≤ ((w.alloc (.cells (stepCells s (.slice A m c)) 33)).alloc (.cells stepZero 33)).heap.size by simp)
  have HL0 := Lib.hid (show w.heap.size < ((w.alloc (.cells (stepCells s (.slice A m c)) 33)).alloc (.cells stepZero 33)).heap.size by simp; omega)
  have HL1 := Lib.hid (show w.heap.size + 1 < ((w.alloc (.cells (stepCells s (.slice A m c)) 33)).alloc (.cells stepZero 33)).heap.size by simp)
  have HX0 := Lib.hid (two_a w (stepCells s (.slice A m c)) stepZero 33)
  have HY0 := Lib.hid (two_b w (stepCells s (.slice A m c)) stepZero 33)
  go_enter Tryz.func40, Tryz.ntmps40
  go_wp2_with (fail)
  refine (HNU.out _).mono ?_
  rintro e1 w1 ⟨rfl, hb1⟩
  have HB1 := Lib.hid (below_tr HB0.out hb1)
  have HX1 := Lib.hid ((hb1.block w.heap.size HL0.out).trans HX0.out)
  have HY1 := Lib.hid ((hb1.block (w.heap.size + 1) HL1.out).trans HY0.out)
  have HZ1 := Lib.hid (Nat.le_trans HS0.out hb1.size)
  clear hb1
  go_wp2_with (fail)
  refine (HTX.out _).mono ?_
  rintro e2 w2 ⟨t, rfl, ht, hb2⟩
  have HT := Lib.hid ht
  have HB2 := Lib.hid (below_tr HB1.out hb2)
  have HX2 := Lib.hid ((hb2.block w.heap.size (Array.getElem?_eq_some_iff.1 HX1.out).1).trans HX1.out)
  have HY2 := Lib.hid ((hb2.block (w.heap.size + 1) (Array.getElem?_eq_some_iff.1 HY1.out).1).trans HY1.out)
  have HZ2 := Lib.hid (Nat.le_trans HZ1.out hb2.size)
  clear ht hb2
  have f4 : w2.cell? ⟨w.heap.size, 4, none⟩ = some (.int .i64 s.n) := cell_at HX2.out rfl
  have z4 : w2.frozen? ⟨w.heap.size, 4, none⟩ = false := Lib.frozen_of_heap HX2.out 4
  have l4 := leB_of_cell f4
  have hx5 : (w2.setCell ⟨w.heap.size, 4, none⟩ (.int .i64 n)).heap[w.heap.size]? = some (.cells (stepCells { s with n := n } (.slice A m c)) 33 (0, 0)) := (heap_set_at HX2.out 4 _).trans (by rfl)
  have hy5 : (w2.setCell ⟨w.heap.size, 4, none⟩ (.int .i64 n)).heap[w.heap.size + 1]? = some (.cells stepZero 33 (0, 0)) := (heap_set_other w2 _ _ _ (by simp)).trans HY2.out
  have hld := (row_load (ty := 33) hx5 Tryz.underlying33 (by kernel_rfl)).2
  obtain ⟨w9, hst9, hs9⟩ := row_store (ty := 33) (cs := stepCells { s with n := n } (.slice A m c)) hy5 (by kernel_rfl) rfl (by simp [Value.oneCell'])
  have hv0 := cell_at (i := 0) hs9.at' rfl
  have hv1 := cell_at (i := 1) hs9.at' rfl
  have hv2 := cell_at (i := 2) hs9.at' rfl
  have hv3 := cell_at (i := 3) hs9.at' rfl
  have hv4 := cell_at (i := 4) hs9.at' rfl
  have hv5 := cell_at (i := 5) hs9.at' rfl
  have hv6 := cell_at (i := 6) hs9.at' rfl
  have hv7 := cell_at (i := 7) hs9.at' rfl
  have hv8 := cell_at (i := 8) hs9.at' rfl
  have hv9 := cell_at (i := 9) hs9.at' rfl
  have hv10 := cell_at (i := 10) hs9.at' rfl
  have hv11 := cell_at (i := 11) hs9.at' rfl
  have hv12 := cell_at (i := 12) hs9.at' rfl
  have HS9 := Lib.hid hs9
  clear hs9 hx5 hy5
  go_wp2_with (first | (refine load_step 33 _ rfl rfl rfl hld ?_) | (refine store_step 33 _ _ rfl rfl rfl rfl hst9 ?_))
  exact bodyPost_ret (v := .tuple #[.agg (stepCells { s with n := n } (.slice A m c)), .bool nb]) (by simp [results, Tryz.results40, go_sem, hv0, hv1, hv2, hv3, hv4, hv5, hv6, hv7, hv8, hv9, hv10, hv11, hv12]) rfl (SetC.mk { s with n := n } nb (map_if HNB.out HNS.out (fun n => { s with n := n })) (moved_end (Moved.of_below HB2.out HBW.out) HBW.out HS9.out) (own_end (own_below HOI.out HB2.out) HX2.out HS9.out HY2.out))
set_option maxHeartbeats 8000000 in
set_option maxRecDepth 100000 in
theorem set_o (s : StepR) (v : Value) (q : ByteArray) (B : Nat) (w : World) (HOI : Hid (OwnI w B v s.keep)) (HBW : Hid (B ≤ w.heap.size)) (HQS : Hid (q.size ≤ 30000000)) : Calls Tryz.prog 40 #[.agg (stepCells s v), .int .u8 111, .string q] w (SetC (setR s 111 q.data.toList) B v w) := by
  obtain ⟨n, hnv, hns⟩ := num_form (numL q.data.toList)
  have HNU : Hid (∀ W, Calls Tryz.prog 23 #[.string q] W fun e w' => e = .returned (.tuple #[.int .i64 n, .bool (numL q.data.toList).isSome]) ∧ Below W.heap.size W w') := Lib.hid fun W => by
    have h := rnumber_any q W
    rw [hnv] at h
    exact h
  have HNS := Lib.hid hns
  have HTX := Lib.hid (fun W => rtextw_any q W HQS.out)
  obtain ⟨nb, hnb⟩ : ∃ nb, (numL q.data.toList).isSome = nb := ⟨_, rfl⟩
  rw [hnb] at HNU
  have HNB := Lib.hid hnb
  unfold RTextC at HTX
  obtain ⟨tb, htb⟩ : ∃ tb, (unwordL q.data.toList).isSome = tb := ⟨_, rfl⟩
  rw [htb] at HTX
  have HTB := Lib.hid htb
  obtain ⟨A, m, c, rfl⟩ := own_sl HOI.out
  clear hnv hns hnb htb
  have HB0 := Lib.hid (show Below w.heap.size w ((w.alloc (.cells (stepCells s (.slice A m c)) 33)).alloc (.cells stepZero 33)) from Below.alloc (Below.alloc (Below.refl _ _) (Nat.le_refl _) _) (by simp) _)
  have HS0 := Lib.hid (show w.heap.size + 1 + 1 ≤ ((w.alloc (.cells (stepCells s (.slice A m c)) 33)).alloc (.cells stepZero 33)).heap.size by simp)
  have HL0 := Lib.hid (show w.heap.size < ((w.alloc (.cells (stepCells s (.slice A m c)) 33)).alloc (.cells stepZero 33)).heap.size by simp; omega)
  have HL1 := Lib.hid (show w.heap.size + 1 < ((w.alloc (.cells (stepCells s (.slice A m c)) 33)).alloc (.cells stepZero 33)).heap.size by simp)
  have HX0 := Lib.hid (two_a w (stepCells s (.slice A m c)) stepZero 33)
  have HY0 := Lib.hid (two_b w (stepCells s (.slice A m c)) stepZero 33)
  go_enter Tryz.func40, Tryz.ntmps40
  go_wp2_with (fail)
  refine (HNU.out _).mono ?_
  rintro e1 w1 ⟨rfl, hb1⟩
  have HB1 := Lib.hid (below_tr HB0.out hb1)
  have HX1 := Lib.hid ((hb1.block w.heap.size HL0.out).trans HX0.out)
  have HY1 := Lib.hid ((hb1.block (w.heap.size + 1) HL1.out).trans HY0.out)
  have HZ1 := Lib.hid (Nat.le_trans HS0.out hb1.size)
  clear hb1
  go_wp2_with (fail)
  refine (HTX.out _).mono ?_
  rintro e2 w2 ⟨t, rfl, ht, hb2⟩
  have HT := Lib.hid ht
  have HB2 := Lib.hid (below_tr HB1.out hb2)
  have HX2 := Lib.hid ((hb2.block w.heap.size (Array.getElem?_eq_some_iff.1 HX1.out).1).trans HX1.out)
  have HY2 := Lib.hid ((hb2.block (w.heap.size + 1) (Array.getElem?_eq_some_iff.1 HY1.out).1).trans HY1.out)
  have HZ2 := Lib.hid (Nat.le_trans HZ1.out hb2.size)
  clear ht hb2
  have f9 : w2.cell? ⟨w.heap.size, 9, none⟩ = some (.int .i64 s.off) := cell_at HX2.out rfl
  have z9 : w2.frozen? ⟨w.heap.size, 9, none⟩ = false := Lib.frozen_of_heap HX2.out 9
  have l9 := leB_of_cell f9
  have hx5 : (w2.setCell ⟨w.heap.size, 9, none⟩ (.int .i64 n)).heap[w.heap.size]? = some (.cells (stepCells { s with off := n } (.slice A m c)) 33 (0, 0)) := (heap_set_at HX2.out 9 _).trans (by rfl)
  have hy5 : (w2.setCell ⟨w.heap.size, 9, none⟩ (.int .i64 n)).heap[w.heap.size + 1]? = some (.cells stepZero 33 (0, 0)) := (heap_set_other w2 _ _ _ (by simp)).trans HY2.out
  have hld := (row_load (ty := 33) hx5 Tryz.underlying33 (by kernel_rfl)).2
  obtain ⟨w9, hst9, hs9⟩ := row_store (ty := 33) (cs := stepCells { s with off := n } (.slice A m c)) hy5 (by kernel_rfl) rfl (by simp [Value.oneCell'])
  have hv0 := cell_at (i := 0) hs9.at' rfl
  have hv1 := cell_at (i := 1) hs9.at' rfl
  have hv2 := cell_at (i := 2) hs9.at' rfl
  have hv3 := cell_at (i := 3) hs9.at' rfl
  have hv4 := cell_at (i := 4) hs9.at' rfl
  have hv5 := cell_at (i := 5) hs9.at' rfl
  have hv6 := cell_at (i := 6) hs9.at' rfl
  have hv7 := cell_at (i := 7) hs9.at' rfl
  have hv8 := cell_at (i := 8) hs9.at' rfl
  have hv9 := cell_at (i := 9) hs9.at' rfl
  have hv10 := cell_at (i := 10) hs9.at' rfl
  have hv11 := cell_at (i := 11) hs9.at' rfl
  have hv12 := cell_at (i := 12) hs9.at' rfl
  have HS9 := Lib.hid hs9
  clear hs9 hx5 hy5
  go_wp2_with (first | (refine load_step 33 _ rfl rfl rfl hld ?_) | (refine store_step 33 _ _ rfl rfl rfl rfl hst9 ?_))
  exact bodyPost_ret (v := .tuple #[.agg (stepCells { s with off := n } (.slice A m c)), .bool nb]) (by simp [results, Tryz.results40, go_sem, hv0, hv1, hv2, hv3, hv4, hv5, hv6, hv7, hv8, hv9, hv10, hv11, hv12]) rfl (SetC.mk { s with off := n } nb (map_if HNB.out HNS.out (fun n => { s with off := n })) (moved_end (Moved.of_below HB2.out HBW.out) HBW.out HS9.out) (own_end (own_below HOI.out HB2.out) HX2.out HS9.out HY2.out))
set_option maxHeartbeats 8000000 in
set_option maxRecDepth 100000 in
theorem set_n (s : StepR) (v : Value) (q : ByteArray) (B : Nat) (w : World) (HOI : Hid (OwnI w B v s.keep)) (HBW : Hid (B ≤ w.heap.size)) (HQS : Hid (q.size ≤ 30000000)) : Calls Tryz.prog 40 #[.agg (stepCells s v), .int .u8 110, .string q] w (SetC (setR s 110 q.data.toList) B v w) := by
  obtain ⟨n, hnv, hns⟩ := num_form (numL q.data.toList)
  have HNU : Hid (∀ W, Calls Tryz.prog 23 #[.string q] W fun e w' => e = .returned (.tuple #[.int .i64 n, .bool (numL q.data.toList).isSome]) ∧ Below W.heap.size W w') := Lib.hid fun W => by
    have h := rnumber_any q W
    rw [hnv] at h
    exact h
  have HNS := Lib.hid hns
  have HTX := Lib.hid (fun W => rtextw_any q W HQS.out)
  obtain ⟨nb, hnb⟩ : ∃ nb, (numL q.data.toList).isSome = nb := ⟨_, rfl⟩
  rw [hnb] at HNU
  have HNB := Lib.hid hnb
  unfold RTextC at HTX
  obtain ⟨tb, htb⟩ : ∃ tb, (unwordL q.data.toList).isSome = tb := ⟨_, rfl⟩
  rw [htb] at HTX
  have HTB := Lib.hid htb
  obtain ⟨A, m, c, rfl⟩ := own_sl HOI.out
  clear hnv hns hnb htb
  have HB0 := Lib.hid (show Below w.heap.size w ((w.alloc (.cells (stepCells s (.slice A m c)) 33)).alloc (.cells stepZero 33)) from Below.alloc (Below.alloc (Below.refl _ _) (Nat.le_refl _) _) (by simp) _)
  have HS0 := Lib.hid (show w.heap.size + 1 + 1 ≤ ((w.alloc (.cells (stepCells s (.slice A m c)) 33)).alloc (.cells stepZero 33)).heap.size by simp)
  have HL0 := Lib.hid (show w.heap.size < ((w.alloc (.cells (stepCells s (.slice A m c)) 33)).alloc (.cells stepZero 33)).heap.size by simp; omega)
  have HL1 := Lib.hid (show w.heap.size + 1 < ((w.alloc (.cells (stepCells s (.slice A m c)) 33)).alloc (.cells stepZero 33)).heap.size by simp)
  have HX0 := Lib.hid (two_a w (stepCells s (.slice A m c)) stepZero 33)
  have HY0 := Lib.hid (two_b w (stepCells s (.slice A m c)) stepZero 33)
  go_enter Tryz.func40, Tryz.ntmps40
  go_wp2_with (fail)
  refine (HNU.out _).mono ?_
  rintro e1 w1 ⟨rfl, hb1⟩
  have HB1 := Lib.hid (below_tr HB0.out hb1)
  have HX1 := Lib.hid ((hb1.block w.heap.size HL0.out).trans HX0.out)
  have HY1 := Lib.hid ((hb1.block (w.heap.size + 1) HL1.out).trans HY0.out)
  have HZ1 := Lib.hid (Nat.le_trans HS0.out hb1.size)
  clear hb1
  go_wp2_with (fail)
  refine (HTX.out _).mono ?_
  rintro e2 w2 ⟨t, rfl, ht, hb2⟩
  have HT := Lib.hid ht
  have HB2 := Lib.hid (below_tr HB1.out hb2)
  have HX2 := Lib.hid ((hb2.block w.heap.size (Array.getElem?_eq_some_iff.1 HX1.out).1).trans HX1.out)
  have HY2 := Lib.hid ((hb2.block (w.heap.size + 1) (Array.getElem?_eq_some_iff.1 HY1.out).1).trans HY1.out)
  have HZ2 := Lib.hid (Nat.le_trans HZ1.out hb2.size)
  clear ht hb2
  have f10 : w2.cell? ⟨w.heap.size, 10, none⟩ = some (.int .i64 s.cn) := cell_at HX2.out rfl
  have z10 : w2.frozen? ⟨w.heap.size, 10, none⟩ = false := Lib.frozen_of_heap HX2.out 10
  have l10 := leB_of_cell f10
  have hx5 : (w2.setCell ⟨w.heap.size, 10, none⟩ (.int .i64 n)).heap[w.heap.size]? = some (.cells (stepCells { s with cn := n } (.slice A m c)) 33 (0, 0)) := (heap_set_at HX2.out 10 _).trans (by rfl)
  have hy5 : (w2.setCell ⟨w.heap.size, 10, none⟩ (.int .i64 n)).heap[w.heap.size + 1]? = some (.cells stepZero 33 (0, 0)) := (heap_set_other w2 _ _ _ (by simp)).trans HY2.out
  have hld := (row_load (ty := 33) hx5 Tryz.underlying33 (by kernel_rfl)).2
  obtain ⟨w9, hst9, hs9⟩ := row_store (ty := 33) (cs := stepCells { s with cn := n } (.slice A m c)) hy5 (by kernel_rfl) rfl (by simp [Value.oneCell'])
  have hv0 := cell_at (i := 0) hs9.at' rfl
  have hv1 := cell_at (i := 1) hs9.at' rfl
  have hv2 := cell_at (i := 2) hs9.at' rfl
  have hv3 := cell_at (i := 3) hs9.at' rfl
  have hv4 := cell_at (i := 4) hs9.at' rfl
  have hv5 := cell_at (i := 5) hs9.at' rfl
  have hv6 := cell_at (i := 6) hs9.at' rfl
  have hv7 := cell_at (i := 7) hs9.at' rfl
  have hv8 := cell_at (i := 8) hs9.at' rfl
  have hv9 := cell_at (i := 9) hs9.at' rfl
  have hv10 := cell_at (i := 10) hs9.at' rfl
  have hv11 := cell_at (i := 11) hs9.at' rfl
  have hv12 := cell_at (i := 12) hs9.at' rfl
  have HS9 := Lib.hid hs9
  clear hs9 hx5 hy5
  go_wp2_with (first | (refine load_step 33 _ rfl rfl rfl hld ?_) | (refine store_step 33 _ _ rfl rfl rfl rfl hst9 ?_))
  exact bodyPost_ret (v := .tuple #[.agg (stepCells { s with cn := n } (.slice A m c)), .bool nb]) (by simp [results, Tryz.results40, go_sem, hv0, hv1, hv2, hv3, hv4, hv5, hv6, hv7, hv8, hv9, hv10, hv11, hv12]) rfl (SetC.mk { s with cn := n } nb (map_if HNB.out HNS.out (fun n => { s with cn := n })) (moved_end (Moved.of_below HB2.out HBW.out) HBW.out HS9.out) (own_end (own_below HOI.out HB2.out) HX2.out HS9.out HY2.out))
set_option maxHeartbeats 8000000 in
set_option maxRecDepth 100000 in
theorem set_s (s : StepR) (v : Value) (q : ByteArray) (B : Nat) (w : World) (HOI : Hid (OwnI w B v s.keep)) (HBW : Hid (B ≤ w.heap.size)) (HQS : Hid (q.size ≤ 30000000)) : Calls Tryz.prog 40 #[.agg (stepCells s v), .int .u8 115, .string q] w (SetC (setR s 115 q.data.toList) B v w) := by
  obtain ⟨n, hnv, hns⟩ := num_form (numL q.data.toList)
  have HNU : Hid (∀ W, Calls Tryz.prog 23 #[.string q] W fun e w' => e = .returned (.tuple #[.int .i64 n, .bool (numL q.data.toList).isSome]) ∧ Below W.heap.size W w') := Lib.hid fun W => by
    have h := rnumber_any q W
    rw [hnv] at h
    exact h
  have HNS := Lib.hid hns
  have HTX := Lib.hid (fun W => rtextw_any q W HQS.out)
  obtain ⟨nb, hnb⟩ : ∃ nb, (numL q.data.toList).isSome = nb := ⟨_, rfl⟩
  rw [hnb] at HNU
  have HNB := Lib.hid hnb
  unfold RTextC at HTX
  obtain ⟨tb, htb⟩ : ∃ tb, (unwordL q.data.toList).isSome = tb := ⟨_, rfl⟩
  rw [htb] at HTX
  have HTB := Lib.hid htb
  obtain ⟨A, m, c, rfl⟩ := own_sl HOI.out
  clear hnv hns hnb htb
  have HB0 := Lib.hid (show Below w.heap.size w ((w.alloc (.cells (stepCells s (.slice A m c)) 33)).alloc (.cells stepZero 33)) from Below.alloc (Below.alloc (Below.refl _ _) (Nat.le_refl _) _) (by simp) _)
  have HS0 := Lib.hid (show w.heap.size + 1 + 1 ≤ ((w.alloc (.cells (stepCells s (.slice A m c)) 33)).alloc (.cells stepZero 33)).heap.size by simp)
  have HL0 := Lib.hid (show w.heap.size < ((w.alloc (.cells (stepCells s (.slice A m c)) 33)).alloc (.cells stepZero 33)).heap.size by simp; omega)
  have HL1 := Lib.hid (show w.heap.size + 1 < ((w.alloc (.cells (stepCells s (.slice A m c)) 33)).alloc (.cells stepZero 33)).heap.size by simp)
  have HX0 := Lib.hid (two_a w (stepCells s (.slice A m c)) stepZero 33)
  have HY0 := Lib.hid (two_b w (stepCells s (.slice A m c)) stepZero 33)
  go_enter Tryz.func40, Tryz.ntmps40
  have HTM := Lib.hid (fun W => rtimew_any q W)
  unfold RTimeC at HTM
  obtain ⟨mb, hmb⟩ : ∃ mb, (timeU q.data.toList).isSome = mb := ⟨_, rfl⟩
  rw [hmb] at HTM
  have HMB := Lib.hid hmb
  clear hmb
  go_wp2_with (fail)
  refine (HNU.out _).mono ?_
  rintro e1 w1 ⟨rfl, hb1⟩
  have HB1 := Lib.hid (below_tr HB0.out hb1)
  have HX1 := Lib.hid ((hb1.block w.heap.size HL0.out).trans HX0.out)
  have HY1 := Lib.hid ((hb1.block (w.heap.size + 1) HL1.out).trans HY0.out)
  have HZ1 := Lib.hid (Nat.le_trans HS0.out hb1.size)
  clear hb1
  go_wp2_with (fail)
  refine (HTX.out _).mono ?_
  rintro e2 w2 ⟨t, rfl, ht, hb2⟩
  have HT := Lib.hid ht
  have HB2 := Lib.hid (below_tr HB1.out hb2)
  have HX2 := Lib.hid ((hb2.block w.heap.size (Array.getElem?_eq_some_iff.1 HX1.out).1).trans HX1.out)
  have HY2 := Lib.hid ((hb2.block (w.heap.size + 1) (Array.getElem?_eq_some_iff.1 HY1.out).1).trans HY1.out)
  have HZ2 := Lib.hid (Nat.le_trans HZ1.out hb2.size)
  clear ht hb2
  go_wp2_with (fail)
  refine (HTM.out _).mono ?_
  rintro e3 w3 ⟨tm, rfl, htm, hb3⟩
  have HTI := Lib.hid htm
  have HB3 := Lib.hid (below_tr HB2.out hb3)
  have HX3 := Lib.hid ((hb3.block w.heap.size (Array.getElem?_eq_some_iff.1 HX2.out).1).trans HX2.out)
  have HY3 := Lib.hid ((hb3.block (w.heap.size + 1) (Array.getElem?_eq_some_iff.1 HY2.out).1).trans HY2.out)
  have HZ3 := Lib.hid (Nat.le_trans HZ2.out hb3.size)
  clear htm hb3
  have f12 : w3.cell? ⟨w.heap.size, 12, none⟩ = some (f64 s.time) := cell_at HX3.out rfl
  have z12 : w3.frozen? ⟨w.heap.size, 12, none⟩ = false := Lib.frozen_of_heap HX3.out 12
  have l12 := leB_of_cell f12
  have hx5 : (w3.setCell ⟨w.heap.size, 12, none⟩ (f64 tm)).heap[w.heap.size]? = some (.cells (stepCells { s with time := tm } (.slice A m c)) 33 (0, 0)) := (heap_set_at HX3.out 12 _).trans (by rfl)
  have hy5 : (w3.setCell ⟨w.heap.size, 12, none⟩ (f64 tm)).heap[w.heap.size + 1]? = some (.cells stepZero 33 (0, 0)) := (heap_set_other w3 _ _ _ (by simp)).trans HY3.out
  have hld := (row_load (ty := 33) hx5 Tryz.underlying33 (by kernel_rfl)).2
  obtain ⟨w9, hst9, hs9⟩ := row_store (ty := 33) (cs := stepCells { s with time := tm } (.slice A m c)) hy5 (by kernel_rfl) rfl (by simp [Value.oneCell'])
  have hv0 := cell_at (i := 0) hs9.at' rfl
  have hv1 := cell_at (i := 1) hs9.at' rfl
  have hv2 := cell_at (i := 2) hs9.at' rfl
  have hv3 := cell_at (i := 3) hs9.at' rfl
  have hv4 := cell_at (i := 4) hs9.at' rfl
  have hv5 := cell_at (i := 5) hs9.at' rfl
  have hv6 := cell_at (i := 6) hs9.at' rfl
  have hv7 := cell_at (i := 7) hs9.at' rfl
  have hv8 := cell_at (i := 8) hs9.at' rfl
  have hv9 := cell_at (i := 9) hs9.at' rfl
  have hv10 := cell_at (i := 10) hs9.at' rfl
  have hv11 := cell_at (i := 11) hs9.at' rfl
  have hv12 := cell_at (i := 12) hs9.at' rfl
  have HS9 := Lib.hid hs9
  clear hs9 hx5 hy5
  go_wp2_with (first | (refine load_step 33 _ rfl rfl rfl hld ?_) | (refine store_step 33 _ _ rfl rfl rfl rfl hst9 ?_))
  exact bodyPost_ret (v := .tuple #[.agg (stepCells { s with time := tm } (.slice A m c)), .bool mb]) (by simp [results, Tryz.results40, go_sem, hv0, hv1, hv2, hv3, hv4, hv5, hv6, hv7, hv8, hv9, hv10, hv11, hv12]) rfl (SetC.mk { s with time := tm } mb (map_if HMB.out HTI.out (fun t => { s with time := t })) (moved_end (Moved.of_below HB3.out HBW.out) HBW.out HS9.out) (own_end (own_below HOI.out HB3.out) HX3.out HS9.out HY3.out))
set_option maxHeartbeats 8000000 in
set_option maxRecDepth 100000 in
theorem set_v (s : StepR) (v : Value) (q : ByteArray) (B : Nat) (w : World) (HOI : Hid (OwnI w B v s.keep)) (HBW : Hid (B ≤ w.heap.size)) (HQS : Hid (q.size ≤ 30000000)) : Calls Tryz.prog 40 #[.agg (stepCells s v), .int .u8 118, .string q] w (SetC (setR s 118 q.data.toList) B v w) := by
  obtain ⟨n, hnv, hns⟩ := num_form (numL q.data.toList)
  have HNU : Hid (∀ W, Calls Tryz.prog 23 #[.string q] W fun e w' => e = .returned (.tuple #[.int .i64 n, .bool (numL q.data.toList).isSome]) ∧ Below W.heap.size W w') := Lib.hid fun W => by
    have h := rnumber_any q W
    rw [hnv] at h
    exact h
  have HNS := Lib.hid hns
  have HTX := Lib.hid (fun W => rtextw_any q W HQS.out)
  obtain ⟨nb, hnb⟩ : ∃ nb, (numL q.data.toList).isSome = nb := ⟨_, rfl⟩
  rw [hnb] at HNU
  have HNB := Lib.hid hnb
  unfold RTextC at HTX
  obtain ⟨tb, htb⟩ : ∃ tb, (unwordL q.data.toList).isSome = tb := ⟨_, rfl⟩
  rw [htb] at HTX
  have HTB := Lib.hid htb
  obtain ⟨A, m, c, rfl⟩ := own_sl HOI.out
  clear hnv hns hnb htb
  have HB0 := Lib.hid (show Below w.heap.size w ((w.alloc (.cells (stepCells s (.slice A m c)) 33)).alloc (.cells stepZero 33)) from Below.alloc (Below.alloc (Below.refl _ _) (Nat.le_refl _) _) (by simp) _)
  have HS0 := Lib.hid (show w.heap.size + 1 + 1 ≤ ((w.alloc (.cells (stepCells s (.slice A m c)) 33)).alloc (.cells stepZero 33)).heap.size by simp)
  have HL0 := Lib.hid (show w.heap.size < ((w.alloc (.cells (stepCells s (.slice A m c)) 33)).alloc (.cells stepZero 33)).heap.size by simp; omega)
  have HL1 := Lib.hid (show w.heap.size + 1 < ((w.alloc (.cells (stepCells s (.slice A m c)) 33)).alloc (.cells stepZero 33)).heap.size by simp)
  have HX0 := Lib.hid (two_a w (stepCells s (.slice A m c)) stepZero 33)
  have HY0 := Lib.hid (two_b w (stepCells s (.slice A m c)) stepZero 33)
  go_enter Tryz.func40, Tryz.ntmps40
  go_wp2_with (fail)
  refine (HNU.out _).mono ?_
  rintro e1 w1 ⟨rfl, hb1⟩
  have HB1 := Lib.hid (below_tr HB0.out hb1)
  have HX1 := Lib.hid ((hb1.block w.heap.size HL0.out).trans HX0.out)
  have HY1 := Lib.hid ((hb1.block (w.heap.size + 1) HL1.out).trans HY0.out)
  have HZ1 := Lib.hid (Nat.le_trans HS0.out hb1.size)
  clear hb1
  go_wp2_with (fail)
  refine (HTX.out _).mono ?_
  rintro e2 w2 ⟨t, rfl, ht, hb2⟩
  have HT := Lib.hid ht
  have HB2 := Lib.hid (below_tr HB1.out hb2)
  have HX2 := Lib.hid ((hb2.block w.heap.size (Array.getElem?_eq_some_iff.1 HX1.out).1).trans HX1.out)
  have HY2 := Lib.hid ((hb2.block (w.heap.size + 1) (Array.getElem?_eq_some_iff.1 HY1.out).1).trans HY1.out)
  have HZ2 := Lib.hid (Nat.le_trans HZ1.out hb2.size)
  clear ht hb2
  have f2 : w2.cell? ⟨w.heap.size, 2, none⟩ = some (.string s.vol) := cell_at HX2.out rfl
  have z2 : w2.frozen? ⟨w.heap.size, 2, none⟩ = false := Lib.frozen_of_heap HX2.out 2
  have l2 := leB_of_cell f2
  have hx5 : (w2.setCell ⟨w.heap.size, 2, none⟩ (.string ⟨t.toArray⟩)).heap[w.heap.size]? = some (.cells (stepCells { s with vol := ⟨t.toArray⟩ } (.slice A m c)) 33 (0, 0)) := (heap_set_at HX2.out 2 _).trans (by rfl)
  have hy5 : (w2.setCell ⟨w.heap.size, 2, none⟩ (.string ⟨t.toArray⟩)).heap[w.heap.size + 1]? = some (.cells stepZero 33 (0, 0)) := (heap_set_other w2 _ _ _ (by simp)).trans HY2.out
  have hld := (row_load (ty := 33) hx5 Tryz.underlying33 (by kernel_rfl)).2
  obtain ⟨w9, hst9, hs9⟩ := row_store (ty := 33) (cs := stepCells { s with vol := ⟨t.toArray⟩ } (.slice A m c)) hy5 (by kernel_rfl) rfl (by simp [Value.oneCell'])
  have hv0 := cell_at (i := 0) hs9.at' rfl
  have hv1 := cell_at (i := 1) hs9.at' rfl
  have hv2 := cell_at (i := 2) hs9.at' rfl
  have hv3 := cell_at (i := 3) hs9.at' rfl
  have hv4 := cell_at (i := 4) hs9.at' rfl
  have hv5 := cell_at (i := 5) hs9.at' rfl
  have hv6 := cell_at (i := 6) hs9.at' rfl
  have hv7 := cell_at (i := 7) hs9.at' rfl
  have hv8 := cell_at (i := 8) hs9.at' rfl
  have hv9 := cell_at (i := 9) hs9.at' rfl
  have hv10 := cell_at (i := 10) hs9.at' rfl
  have hv11 := cell_at (i := 11) hs9.at' rfl
  have hv12 := cell_at (i := 12) hs9.at' rfl
  have HS9 := Lib.hid hs9
  clear hs9 hx5 hy5
  go_wp2_with (first | (refine load_step 33 _ rfl rfl rfl hld ?_) | (refine store_step 33 _ _ rfl rfl rfl rfl hst9 ?_))
  exact bodyPost_ret (v := .tuple #[.agg (stepCells { s with vol := ⟨t.toArray⟩ } (.slice A m c)), .bool tb]) (by simp [results, Tryz.results40, go_sem, hv0, hv1, hv2, hv3, hv4, hv5, hv6, hv7, hv8, hv9, hv10, hv11, hv12]) rfl (SetC.mk { s with vol := ⟨t.toArray⟩ } tb (map_if HTB.out HT.out (fun t => { s with vol := ⟨t.toArray⟩ })) (moved_end (Moved.of_below HB2.out HBW.out) HBW.out HS9.out) (own_end (own_below HOI.out HB2.out) HX2.out HS9.out HY2.out))
set_option maxHeartbeats 8000000 in
set_option maxRecDepth 100000 in
theorem set_p (s : StepR) (v : Value) (q : ByteArray) (B : Nat) (w : World) (HOI : Hid (OwnI w B v s.keep)) (HBW : Hid (B ≤ w.heap.size)) (HQS : Hid (q.size ≤ 30000000)) : Calls Tryz.prog 40 #[.agg (stepCells s v), .int .u8 112, .string q] w (SetC (setR s 112 q.data.toList) B v w) := by
  obtain ⟨n, hnv, hns⟩ := num_form (numL q.data.toList)
  have HNU : Hid (∀ W, Calls Tryz.prog 23 #[.string q] W fun e w' => e = .returned (.tuple #[.int .i64 n, .bool (numL q.data.toList).isSome]) ∧ Below W.heap.size W w') := Lib.hid fun W => by
    have h := rnumber_any q W
    rw [hnv] at h
    exact h
  have HNS := Lib.hid hns
  have HTX := Lib.hid (fun W => rtextw_any q W HQS.out)
  obtain ⟨nb, hnb⟩ : ∃ nb, (numL q.data.toList).isSome = nb := ⟨_, rfl⟩
  rw [hnb] at HNU
  have HNB := Lib.hid hnb
  unfold RTextC at HTX
  obtain ⟨tb, htb⟩ : ∃ tb, (unwordL q.data.toList).isSome = tb := ⟨_, rfl⟩
  rw [htb] at HTX
  have HTB := Lib.hid htb
  obtain ⟨A, m, c, rfl⟩ := own_sl HOI.out
  clear hnv hns hnb htb
  have HB0 := Lib.hid (show Below w.heap.size w ((w.alloc (.cells (stepCells s (.slice A m c)) 33)).alloc (.cells stepZero 33)) from Below.alloc (Below.alloc (Below.refl _ _) (Nat.le_refl _) _) (by simp) _)
  have HS0 := Lib.hid (show w.heap.size + 1 + 1 ≤ ((w.alloc (.cells (stepCells s (.slice A m c)) 33)).alloc (.cells stepZero 33)).heap.size by simp)
  have HL0 := Lib.hid (show w.heap.size < ((w.alloc (.cells (stepCells s (.slice A m c)) 33)).alloc (.cells stepZero 33)).heap.size by simp; omega)
  have HL1 := Lib.hid (show w.heap.size + 1 < ((w.alloc (.cells (stepCells s (.slice A m c)) 33)).alloc (.cells stepZero 33)).heap.size by simp)
  have HX0 := Lib.hid (two_a w (stepCells s (.slice A m c)) stepZero 33)
  have HY0 := Lib.hid (two_b w (stepCells s (.slice A m c)) stepZero 33)
  go_enter Tryz.func40, Tryz.ntmps40
  go_wp2_with (fail)
  refine (HNU.out _).mono ?_
  rintro e1 w1 ⟨rfl, hb1⟩
  have HB1 := Lib.hid (below_tr HB0.out hb1)
  have HX1 := Lib.hid ((hb1.block w.heap.size HL0.out).trans HX0.out)
  have HY1 := Lib.hid ((hb1.block (w.heap.size + 1) HL1.out).trans HY0.out)
  have HZ1 := Lib.hid (Nat.le_trans HS0.out hb1.size)
  clear hb1
  go_wp2_with (fail)
  refine (HTX.out _).mono ?_
  rintro e2 w2 ⟨t, rfl, ht, hb2⟩
  have HT := Lib.hid ht
  have HB2 := Lib.hid (below_tr HB1.out hb2)
  have HX2 := Lib.hid ((hb2.block w.heap.size (Array.getElem?_eq_some_iff.1 HX1.out).1).trans HX1.out)
  have HY2 := Lib.hid ((hb2.block (w.heap.size + 1) (Array.getElem?_eq_some_iff.1 HY1.out).1).trans HY1.out)
  have HZ2 := Lib.hid (Nat.le_trans HZ1.out hb2.size)
  clear ht hb2
  have f7 : w2.cell? ⟨w.heap.size, 7, none⟩ = some (.string s.path) := cell_at HX2.out rfl
  have z7 : w2.frozen? ⟨w.heap.size, 7, none⟩ = false := Lib.frozen_of_heap HX2.out 7
  have l7 := leB_of_cell f7
  have hx5 : (w2.setCell ⟨w.heap.size, 7, none⟩ (.string ⟨t.toArray⟩)).heap[w.heap.size]? = some (.cells (stepCells { s with path := ⟨t.toArray⟩ } (.slice A m c)) 33 (0, 0)) := (heap_set_at HX2.out 7 _).trans (by rfl)
  have hy5 : (w2.setCell ⟨w.heap.size, 7, none⟩ (.string ⟨t.toArray⟩)).heap[w.heap.size + 1]? = some (.cells stepZero 33 (0, 0)) := (heap_set_other w2 _ _ _ (by simp)).trans HY2.out
  have hld := (row_load (ty := 33) hx5 Tryz.underlying33 (by kernel_rfl)).2
  obtain ⟨w9, hst9, hs9⟩ := row_store (ty := 33) (cs := stepCells { s with path := ⟨t.toArray⟩ } (.slice A m c)) hy5 (by kernel_rfl) rfl (by simp [Value.oneCell'])
  have hv0 := cell_at (i := 0) hs9.at' rfl
  have hv1 := cell_at (i := 1) hs9.at' rfl
  have hv2 := cell_at (i := 2) hs9.at' rfl
  have hv3 := cell_at (i := 3) hs9.at' rfl
  have hv4 := cell_at (i := 4) hs9.at' rfl
  have hv5 := cell_at (i := 5) hs9.at' rfl
  have hv6 := cell_at (i := 6) hs9.at' rfl
  have hv7 := cell_at (i := 7) hs9.at' rfl
  have hv8 := cell_at (i := 8) hs9.at' rfl
  have hv9 := cell_at (i := 9) hs9.at' rfl
  have hv10 := cell_at (i := 10) hs9.at' rfl
  have hv11 := cell_at (i := 11) hs9.at' rfl
  have hv12 := cell_at (i := 12) hs9.at' rfl
  have HS9 := Lib.hid hs9
  clear hs9 hx5 hy5
  go_wp2_with (first | (refine load_step 33 _ rfl rfl rfl hld ?_) | (refine store_step 33 _ _ rfl rfl rfl rfl hst9 ?_))
  exact bodyPost_ret (v := .tuple #[.agg (stepCells { s with path := ⟨t.toArray⟩ } (.slice A m c)), .bool tb]) (by simp [results, Tryz.results40, go_sem, hv0, hv1, hv2, hv3, hv4, hv5, hv6, hv7, hv8, hv9, hv10, hv11, hv12]) rfl (SetC.mk { s with path := ⟨t.toArray⟩ } tb (map_if HTB.out HT.out (fun t => { s with path := ⟨t.toArray⟩ })) (moved_end (Moved.of_below HB2.out HBW.out) HBW.out HS9.out) (own_end (own_below HOI.out HB2.out) HX2.out HS9.out HY2.out))
set_option maxHeartbeats 8000000 in
set_option maxRecDepth 100000 in
theorem set_d (s : StepR) (v : Value) (q : ByteArray) (B : Nat) (w : World) (HOI : Hid (OwnI w B v s.keep)) (HBW : Hid (B ≤ w.heap.size)) (HQS : Hid (q.size ≤ 30000000)) : Calls Tryz.prog 40 #[.agg (stepCells s v), .int .u8 100, .string q] w (SetC (setR s 100 q.data.toList) B v w) := by
  obtain ⟨n, hnv, hns⟩ := num_form (numL q.data.toList)
  have HNU : Hid (∀ W, Calls Tryz.prog 23 #[.string q] W fun e w' => e = .returned (.tuple #[.int .i64 n, .bool (numL q.data.toList).isSome]) ∧ Below W.heap.size W w') := Lib.hid fun W => by
    have h := rnumber_any q W
    rw [hnv] at h
    exact h
  have HNS := Lib.hid hns
  have HTX := Lib.hid (fun W => rtextw_any q W HQS.out)
  obtain ⟨nb, hnb⟩ : ∃ nb, (numL q.data.toList).isSome = nb := ⟨_, rfl⟩
  rw [hnb] at HNU
  have HNB := Lib.hid hnb
  unfold RTextC at HTX
  obtain ⟨tb, htb⟩ : ∃ tb, (unwordL q.data.toList).isSome = tb := ⟨_, rfl⟩
  rw [htb] at HTX
  have HTB := Lib.hid htb
  obtain ⟨A, m, c, rfl⟩ := own_sl HOI.out
  clear hnv hns hnb htb
  have HB0 := Lib.hid (show Below w.heap.size w ((w.alloc (.cells (stepCells s (.slice A m c)) 33)).alloc (.cells stepZero 33)) from Below.alloc (Below.alloc (Below.refl _ _) (Nat.le_refl _) _) (by simp) _)
  have HS0 := Lib.hid (show w.heap.size + 1 + 1 ≤ ((w.alloc (.cells (stepCells s (.slice A m c)) 33)).alloc (.cells stepZero 33)).heap.size by simp)
  have HL0 := Lib.hid (show w.heap.size < ((w.alloc (.cells (stepCells s (.slice A m c)) 33)).alloc (.cells stepZero 33)).heap.size by simp; omega)
  have HL1 := Lib.hid (show w.heap.size + 1 < ((w.alloc (.cells (stepCells s (.slice A m c)) 33)).alloc (.cells stepZero 33)).heap.size by simp)
  have HX0 := Lib.hid (two_a w (stepCells s (.slice A m c)) stepZero 33)
  have HY0 := Lib.hid (two_b w (stepCells s (.slice A m c)) stepZero 33)
  go_enter Tryz.func40, Tryz.ntmps40
  go_wp2_with (fail)
  refine (HNU.out _).mono ?_
  rintro e1 w1 ⟨rfl, hb1⟩
  have HB1 := Lib.hid (below_tr HB0.out hb1)
  have HX1 := Lib.hid ((hb1.block w.heap.size HL0.out).trans HX0.out)
  have HY1 := Lib.hid ((hb1.block (w.heap.size + 1) HL1.out).trans HY0.out)
  have HZ1 := Lib.hid (Nat.le_trans HS0.out hb1.size)
  clear hb1
  go_wp2_with (fail)
  refine (HTX.out _).mono ?_
  rintro e2 w2 ⟨t, rfl, ht, hb2⟩
  have HT := Lib.hid ht
  have HB2 := Lib.hid (below_tr HB1.out hb2)
  have HX2 := Lib.hid ((hb2.block w.heap.size (Array.getElem?_eq_some_iff.1 HX1.out).1).trans HX1.out)
  have HY2 := Lib.hid ((hb2.block (w.heap.size + 1) (Array.getElem?_eq_some_iff.1 HY1.out).1).trans HY1.out)
  have HZ2 := Lib.hid (Nat.le_trans HZ1.out hb2.size)
  clear ht hb2
  have f11 : w2.cell? ⟨w.heap.size, 11, none⟩ = some (.string s.data) := cell_at HX2.out rfl
  have z11 : w2.frozen? ⟨w.heap.size, 11, none⟩ = false := Lib.frozen_of_heap HX2.out 11
  have l11 := leB_of_cell f11
  have hx5 : (w2.setCell ⟨w.heap.size, 11, none⟩ (.string ⟨t.toArray⟩)).heap[w.heap.size]? = some (.cells (stepCells { s with data := ⟨t.toArray⟩ } (.slice A m c)) 33 (0, 0)) := (heap_set_at HX2.out 11 _).trans (by rfl)
  have hy5 : (w2.setCell ⟨w.heap.size, 11, none⟩ (.string ⟨t.toArray⟩)).heap[w.heap.size + 1]? = some (.cells stepZero 33 (0, 0)) := (heap_set_other w2 _ _ _ (by simp)).trans HY2.out
  have hld := (row_load (ty := 33) hx5 Tryz.underlying33 (by kernel_rfl)).2
  obtain ⟨w9, hst9, hs9⟩ := row_store (ty := 33) (cs := stepCells { s with data := ⟨t.toArray⟩ } (.slice A m c)) hy5 (by kernel_rfl) rfl (by simp [Value.oneCell'])
  have hv0 := cell_at (i := 0) hs9.at' rfl
  have hv1 := cell_at (i := 1) hs9.at' rfl
  have hv2 := cell_at (i := 2) hs9.at' rfl
  have hv3 := cell_at (i := 3) hs9.at' rfl
  have hv4 := cell_at (i := 4) hs9.at' rfl
  have hv5 := cell_at (i := 5) hs9.at' rfl
  have hv6 := cell_at (i := 6) hs9.at' rfl
  have hv7 := cell_at (i := 7) hs9.at' rfl
  have hv8 := cell_at (i := 8) hs9.at' rfl
  have hv9 := cell_at (i := 9) hs9.at' rfl
  have hv10 := cell_at (i := 10) hs9.at' rfl
  have hv11 := cell_at (i := 11) hs9.at' rfl
  have hv12 := cell_at (i := 12) hs9.at' rfl
  have HS9 := Lib.hid hs9
  clear hs9 hx5 hy5
  go_wp2_with (first | (refine load_step 33 _ rfl rfl rfl hld ?_) | (refine store_step 33 _ _ rfl rfl rfl rfl hst9 ?_))
  exact bodyPost_ret (v := .tuple #[.agg (stepCells { s with data := ⟨t.toArray⟩ } (.slice A m c)), .bool tb]) (by simp [results, Tryz.results40, go_sem, hv0, hv1, hv2, hv3, hv4, hv5, hv6, hv7, hv8, hv9, hv10, hv11, hv12]) rfl (SetC.mk { s with data := ⟨t.toArray⟩ } tb (map_if HTB.out HT.out (fun t => { s with data := ⟨t.toArray⟩ })) (moved_end (Moved.of_below HB2.out HBW.out) HBW.out HS9.out) (own_end (own_below HOI.out HB2.out) HX2.out HS9.out HY2.out))
set_option maxHeartbeats 8000000 in
set_option maxRecDepth 100000 in
theorem set_t1 (s : StepR) (v : Value) (q : ByteArray) (B : Nat) (w : World) (HOI : Hid (OwnI w B v s.keep)) (HBW : Hid (B ≤ w.heap.size)) (HQS : Hid (q.size ≤ 30000000)) (hk1 : s.kind = 1) : Calls Tryz.prog 40 #[.agg (stepCells s v), .int .u8 116, .string q] w (SetC (setR s 116 q.data.toList) B v w) := by
  have HK1 := Lib.hid hk1
  clear hk1
  obtain ⟨n, hnv, hns⟩ := num_form (numL q.data.toList)
  have HNU : Hid (∀ W, Calls Tryz.prog 23 #[.string q] W fun e w' => e = .returned (.tuple #[.int .i64 n, .bool (numL q.data.toList).isSome]) ∧ Below W.heap.size W w') := Lib.hid fun W => by
    have h := rnumber_any q W
    rw [hnv] at h
    exact h
  have HNS := Lib.hid hns
  have HTX := Lib.hid (fun W => rtextw_any q W HQS.out)
  obtain ⟨nb, hnb⟩ : ∃ nb, (numL q.data.toList).isSome = nb := ⟨_, rfl⟩
  rw [hnb] at HNU
  have HNB := Lib.hid hnb
  unfold RTextC at HTX
  obtain ⟨tb, htb⟩ : ∃ tb, (unwordL q.data.toList).isSome = tb := ⟨_, rfl⟩
  rw [htb] at HTX
  have HTB := Lib.hid htb
  obtain ⟨A, m, c, rfl⟩ := own_sl HOI.out
  clear hnv hns hnb htb
  have HB0 := Lib.hid (show Below w.heap.size w ((w.alloc (.cells (stepCells s (.slice A m c)) 33)).alloc (.cells stepZero 33)) from Below.alloc (Below.alloc (Below.refl _ _) (Nat.le_refl _) _) (by simp) _)
  have HS0 := Lib.hid (show w.heap.size + 1 + 1 ≤ ((w.alloc (.cells (stepCells s (.slice A m c)) 33)).alloc (.cells stepZero 33)).heap.size by simp)
  have HL0 := Lib.hid (show w.heap.size < ((w.alloc (.cells (stepCells s (.slice A m c)) 33)).alloc (.cells stepZero 33)).heap.size by simp; omega)
  have HL1 := Lib.hid (show w.heap.size + 1 < ((w.alloc (.cells (stepCells s (.slice A m c)) 33)).alloc (.cells stepZero 33)).heap.size by simp)
  have HX0 := Lib.hid (two_a w (stepCells s (.slice A m c)) stepZero 33)
  have HY0 := Lib.hid (two_b w (stepCells s (.slice A m c)) stepZero 33)
  go_enter Tryz.func40, Tryz.ntmps40
  go_wp2_with (fail)
  refine (HNU.out _).mono ?_
  rintro e1 w1 ⟨rfl, hb1⟩
  have HB1 := Lib.hid (below_tr HB0.out hb1)
  have HX1 := Lib.hid ((hb1.block w.heap.size HL0.out).trans HX0.out)
  have HY1 := Lib.hid ((hb1.block (w.heap.size + 1) HL1.out).trans HY0.out)
  have HZ1 := Lib.hid (Nat.le_trans HS0.out hb1.size)
  clear hb1
  go_wp2_with (fail)
  refine (HTX.out _).mono ?_
  rintro e2 w2 ⟨t, rfl, ht, hb2⟩
  have HT := Lib.hid ht
  have HB2 := Lib.hid (below_tr HB1.out hb2)
  have HX2 := Lib.hid ((hb2.block w.heap.size (Array.getElem?_eq_some_iff.1 HX1.out).1).trans HX1.out)
  have HY2 := Lib.hid ((hb2.block (w.heap.size + 1) (Array.getElem?_eq_some_iff.1 HY1.out).1).trans HY1.out)
  have HZ2 := Lib.hid (Nat.le_trans HZ1.out hb2.size)
  clear ht hb2
  have f8 : w2.cell? ⟨w.heap.size, 8, none⟩ = some (.string s.cto) := cell_at HX2.out rfl
  have z8 : w2.frozen? ⟨w.heap.size, 8, none⟩ = false := Lib.frozen_of_heap HX2.out 8
  have l8 := leB_of_cell f8
  have f0 : w2.cell? ⟨w.heap.size, 0, none⟩ = some (.int .i64 1) := by rw [← HK1.out]; exact cell_at HX2.out rfl
  have g0 : (w2.setCell ⟨w.heap.size, 8, none⟩ (.string ⟨t.toArray⟩)).cell? ⟨w.heap.size, 0, none⟩ = some (.int .i64 1) := by rw [← HK1.out]; exact cell_at (heap_set_at HX2.out 8 _) rfl
  have hx5 : (w2.setCell ⟨w.heap.size, 8, none⟩ (.string ⟨t.toArray⟩)).heap[w.heap.size]? = some (.cells (stepCells { s with cto := ⟨t.toArray⟩ } (.slice A m c)) 33 (0, 0)) := (heap_set_at HX2.out 8 _).trans (by rfl)
  have hy5 : (w2.setCell ⟨w.heap.size, 8, none⟩ (.string ⟨t.toArray⟩)).heap[w.heap.size + 1]? = some (.cells stepZero 33 (0, 0)) := (heap_set_other w2 _ _ _ (by simp)).trans HY2.out
  have hld := (row_load (ty := 33) hx5 Tryz.underlying33 (by kernel_rfl)).2
  obtain ⟨w9, hst9, hs9⟩ := row_store (ty := 33) (cs := stepCells { s with cto := ⟨t.toArray⟩ } (.slice A m c)) hy5 (by kernel_rfl) rfl (by simp [Value.oneCell'])
  have hv0 := cell_at (i := 0) hs9.at' rfl
  have hv1 := cell_at (i := 1) hs9.at' rfl
  have hv2 := cell_at (i := 2) hs9.at' rfl
  have hv3 := cell_at (i := 3) hs9.at' rfl
  have hv4 := cell_at (i := 4) hs9.at' rfl
  have hv5 := cell_at (i := 5) hs9.at' rfl
  have hv6 := cell_at (i := 6) hs9.at' rfl
  have hv7 := cell_at (i := 7) hs9.at' rfl
  have hv8 := cell_at (i := 8) hs9.at' rfl
  have hv9 := cell_at (i := 9) hs9.at' rfl
  have hv10 := cell_at (i := 10) hs9.at' rfl
  have hv11 := cell_at (i := 11) hs9.at' rfl
  have hv12 := cell_at (i := 12) hs9.at' rfl
  have HS9 := Lib.hid hs9
  clear hs9 hx5 hy5
  go_wp2_with (first | (refine load_step 33 _ rfl rfl rfl hld ?_) | (refine store_step 33 _ _ rfl rfl rfl rfl hst9 ?_))
  exact bodyPost_ret (v := .tuple #[.agg (stepCells { s with cto := ⟨t.toArray⟩ } (.slice A m c)), .bool tb]) (by simp [results, Tryz.results40, go_sem, hv0, hv1, hv2, hv3, hv4, hv5, hv6, hv7, hv8, hv9, hv10, hv11, hv12]) rfl (SetC.mk { s with cto := ⟨t.toArray⟩ } tb ((show setR s 116 q.data.toList = (unwordL q.data.toList).map (fun t => { s with cto := ⟨t.toArray⟩ }) by simp [setR, HK1.out]).trans (map_if HTB.out HT.out (fun t => { s with cto := ⟨t.toArray⟩ }))) (moved_end (Moved.of_below HB2.out HBW.out) HBW.out HS9.out) (own_end (own_below HOI.out HB2.out) HX2.out HS9.out HY2.out))
set_option maxHeartbeats 8000000 in
set_option maxRecDepth 100000 in
theorem set_t2 (s : StepR) (v : Value) (q : ByteArray) (B : Nat) (w : World) (HOI : Hid (OwnI w B v s.keep)) (HBW : Hid (B ≤ w.heap.size)) (HQS : Hid (q.size ≤ 30000000)) (hk1 : ¬ s.kind = 1) : Calls Tryz.prog 40 #[.agg (stepCells s v), .int .u8 116, .string q] w (SetC (setR s 116 q.data.toList) B v w) := by
  have HK1 := Lib.hid hk1
  clear hk1
  obtain ⟨n, hnv, hns⟩ := num_form (numL q.data.toList)
  have HNU : Hid (∀ W, Calls Tryz.prog 23 #[.string q] W fun e w' => e = .returned (.tuple #[.int .i64 n, .bool (numL q.data.toList).isSome]) ∧ Below W.heap.size W w') := Lib.hid fun W => by
    have h := rnumber_any q W
    rw [hnv] at h
    exact h
  have HNS := Lib.hid hns
  have HTX := Lib.hid (fun W => rtextw_any q W HQS.out)
  obtain ⟨nb, hnb⟩ : ∃ nb, (numL q.data.toList).isSome = nb := ⟨_, rfl⟩
  rw [hnb] at HNU
  have HNB := Lib.hid hnb
  unfold RTextC at HTX
  obtain ⟨tb, htb⟩ : ∃ tb, (unwordL q.data.toList).isSome = tb := ⟨_, rfl⟩
  rw [htb] at HTX
  have HTB := Lib.hid htb
  obtain ⟨A, m, c, rfl⟩ := own_sl HOI.out
  clear hnv hns hnb htb
  have HB0 := Lib.hid (show Below w.heap.size w ((w.alloc (.cells (stepCells s (.slice A m c)) 33)).alloc (.cells stepZero 33)) from Below.alloc (Below.alloc (Below.refl _ _) (Nat.le_refl _) _) (by simp) _)
  have HS0 := Lib.hid (show w.heap.size + 1 + 1 ≤ ((w.alloc (.cells (stepCells s (.slice A m c)) 33)).alloc (.cells stepZero 33)).heap.size by simp)
  have HL0 := Lib.hid (show w.heap.size < ((w.alloc (.cells (stepCells s (.slice A m c)) 33)).alloc (.cells stepZero 33)).heap.size by simp; omega)
  have HL1 := Lib.hid (show w.heap.size + 1 < ((w.alloc (.cells (stepCells s (.slice A m c)) 33)).alloc (.cells stepZero 33)).heap.size by simp)
  have HX0 := Lib.hid (two_a w (stepCells s (.slice A m c)) stepZero 33)
  have HY0 := Lib.hid (two_b w (stepCells s (.slice A m c)) stepZero 33)
  go_enter Tryz.func40, Tryz.ntmps40
  go_wp2_with (fail)
  refine (HNU.out _).mono ?_
  rintro e1 w1 ⟨rfl, hb1⟩
  have HB1 := Lib.hid (below_tr HB0.out hb1)
  have HX1 := Lib.hid ((hb1.block w.heap.size HL0.out).trans HX0.out)
  have HY1 := Lib.hid ((hb1.block (w.heap.size + 1) HL1.out).trans HY0.out)
  have HZ1 := Lib.hid (Nat.le_trans HS0.out hb1.size)
  clear hb1
  go_wp2_with (fail)
  refine (HTX.out _).mono ?_
  rintro e2 w2 ⟨t, rfl, ht, hb2⟩
  have HT := Lib.hid ht
  have HB2 := Lib.hid (below_tr HB1.out hb2)
  have HX2 := Lib.hid ((hb2.block w.heap.size (Array.getElem?_eq_some_iff.1 HX1.out).1).trans HX1.out)
  have HY2 := Lib.hid ((hb2.block (w.heap.size + 1) (Array.getElem?_eq_some_iff.1 HY1.out).1).trans HY1.out)
  have HZ2 := Lib.hid (Nat.le_trans HZ1.out hb2.size)
  clear ht hb2
  have f3 : w2.cell? ⟨w.heap.size, 3, none⟩ = some (.string s.dst) := cell_at HX2.out rfl
  have z3 : w2.frozen? ⟨w.heap.size, 3, none⟩ = false := Lib.frozen_of_heap HX2.out 3
  have l3 := leB_of_cell f3
  have f0 : w2.cell? ⟨w.heap.size, 0, none⟩ = some (.int .i64 s.kind) := cell_at HX2.out rfl
  have q1 : (s.kind == 1) = false := by simpa using HK1.out
  have q2 : (s.kind != 1) = true := by simpa using HK1.out
  have hx5 : (w2.setCell ⟨w.heap.size, 3, none⟩ (.string ⟨t.toArray⟩)).heap[w.heap.size]? = some (.cells (stepCells { s with dst := ⟨t.toArray⟩ } (.slice A m c)) 33 (0, 0)) := (heap_set_at HX2.out 3 _).trans (by rfl)
  have hy5 : (w2.setCell ⟨w.heap.size, 3, none⟩ (.string ⟨t.toArray⟩)).heap[w.heap.size + 1]? = some (.cells stepZero 33 (0, 0)) := (heap_set_other w2 _ _ _ (by simp)).trans HY2.out
  have hld := (row_load (ty := 33) hx5 Tryz.underlying33 (by kernel_rfl)).2
  obtain ⟨w9, hst9, hs9⟩ := row_store (ty := 33) (cs := stepCells { s with dst := ⟨t.toArray⟩ } (.slice A m c)) hy5 (by kernel_rfl) rfl (by simp [Value.oneCell'])
  have hv0 := cell_at (i := 0) hs9.at' rfl
  have hv1 := cell_at (i := 1) hs9.at' rfl
  have hv2 := cell_at (i := 2) hs9.at' rfl
  have hv3 := cell_at (i := 3) hs9.at' rfl
  have hv4 := cell_at (i := 4) hs9.at' rfl
  have hv5 := cell_at (i := 5) hs9.at' rfl
  have hv6 := cell_at (i := 6) hs9.at' rfl
  have hv7 := cell_at (i := 7) hs9.at' rfl
  have hv8 := cell_at (i := 8) hs9.at' rfl
  have hv9 := cell_at (i := 9) hs9.at' rfl
  have hv10 := cell_at (i := 10) hs9.at' rfl
  have hv11 := cell_at (i := 11) hs9.at' rfl
  have hv12 := cell_at (i := 12) hs9.at' rfl
  have HS9 := Lib.hid hs9
  clear hs9 hx5 hy5
  go_wp2_with (first | (refine load_step 33 _ rfl rfl rfl hld ?_) | (refine store_step 33 _ _ rfl rfl rfl rfl hst9 ?_))
  exact bodyPost_ret (v := .tuple #[.agg (stepCells { s with dst := ⟨t.toArray⟩ } (.slice A m c)), .bool tb]) (by simp [results, Tryz.results40, go_sem, hv0, hv1, hv2, hv3, hv4, hv5, hv6, hv7, hv8, hv9, hv10, hv11, hv12]) rfl (SetC.mk { s with dst := ⟨t.toArray⟩ } tb ((show setR s 116 q.data.toList = (unwordL q.data.toList).map (fun t => { s with dst := ⟨t.toArray⟩ }) by simp [setR, HK1.out]).trans (map_if HTB.out HT.out (fun t => { s with dst := ⟨t.toArray⟩ }))) (moved_end (Moved.of_below HB2.out HBW.out) HBW.out HS9.out) (own_end (own_below HOI.out HB2.out) HX2.out HS9.out HY2.out))
set_option maxHeartbeats 8000000 in
set_option maxRecDepth 100000 in
theorem set_k (s : StepR) (v : Value) (q : ByteArray) (B : Nat) (w : World) (HOI : Hid (OwnI w B v s.keep)) (HBW : Hid (B ≤ w.heap.size)) (HQS : Hid (q.size ≤ 30000000)) (HKL : Hid (s.keep.length ≤ 10000000)) : Calls Tryz.prog 40 #[.agg (stepCells s v), .int .u8 107, .string q] w (SetC (setR s 107 q.data.toList) B v w) := by
  obtain ⟨n, hnv, hns⟩ := num_form (numL q.data.toList)
  have HNU : Hid (∀ W, Calls Tryz.prog 23 #[.string q] W fun e w' => e = .returned (.tuple #[.int .i64 n, .bool (numL q.data.toList).isSome]) ∧ Below W.heap.size W w') := Lib.hid fun W => by
    have h := rnumber_any q W
    rw [hnv] at h
    exact h
  have HNS := Lib.hid hns
  have HTX := Lib.hid (fun W => rtextw_any q W HQS.out)
  obtain ⟨nb, hnb⟩ : ∃ nb, (numL q.data.toList).isSome = nb := ⟨_, rfl⟩
  rw [hnb] at HNU
  have HNB := Lib.hid hnb
  unfold RTextC at HTX
  obtain ⟨tb, htb⟩ : ∃ tb, (unwordL q.data.toList).isSome = tb := ⟨_, rfl⟩
  rw [htb] at HTX
  have HTB := Lib.hid htb
  obtain ⟨A, m, c, rfl⟩ := own_sl HOI.out
  clear hnv hns hnb htb
  have HB0 := Lib.hid (show Below w.heap.size w ((w.alloc (.cells (stepCells s (.slice A m c)) 33)).alloc (.cells stepZero 33)) from Below.alloc (Below.alloc (Below.refl _ _) (Nat.le_refl _) _) (by simp) _)
  have HS0 := Lib.hid (show w.heap.size + 1 + 1 ≤ ((w.alloc (.cells (stepCells s (.slice A m c)) 33)).alloc (.cells stepZero 33)).heap.size by simp)
  have HL0 := Lib.hid (show w.heap.size < ((w.alloc (.cells (stepCells s (.slice A m c)) 33)).alloc (.cells stepZero 33)).heap.size by simp; omega)
  have HL1 := Lib.hid (show w.heap.size + 1 < ((w.alloc (.cells (stepCells s (.slice A m c)) 33)).alloc (.cells stepZero 33)).heap.size by simp)
  have HX0 := Lib.hid (two_a w (stepCells s (.slice A m c)) stepZero 33)
  have HY0 := Lib.hid (two_b w (stepCells s (.slice A m c)) stepZero 33)
  go_enter Tryz.func40, Tryz.ntmps40
  go_wp2_with (fail)
  refine (HNU.out _).mono ?_
  rintro e1 w1 ⟨rfl, hb1⟩
  have HB1 := Lib.hid (below_tr HB0.out hb1)
  have HX1 := Lib.hid ((hb1.block w.heap.size HL0.out).trans HX0.out)
  have HY1 := Lib.hid ((hb1.block (w.heap.size + 1) HL1.out).trans HY0.out)
  have HZ1 := Lib.hid (Nat.le_trans HS0.out hb1.size)
  clear hb1
  go_wp2_with (fail)
  refine (HTX.out _).mono ?_
  rintro e2 w2 ⟨t, rfl, ht, hb2⟩
  have HT := Lib.hid ht
  have HB2 := Lib.hid (below_tr HB1.out hb2)
  have HX2 := Lib.hid ((hb2.block w.heap.size (Array.getElem?_eq_some_iff.1 HX1.out).1).trans HX1.out)
  have HY2 := Lib.hid ((hb2.block (w.heap.size + 1) (Array.getElem?_eq_some_iff.1 HY1.out).1).trans HY1.out)
  have HZ2 := Lib.hid (Nat.le_trans HZ1.out hb2.size)
  clear ht hb2
  obtain ⟨A9, m9, c9, w4, happ, hown, hb4, hr4⟩ := app_int B w2 (.slice A m c) s.keep n (own_below HOI.out HB2.out) (Nat.le_trans HBW.out HB2.out.size) HKL.out
  have HX4 := Lib.hid ((hr4 _ (Array.getElem?_eq_some_iff.1 HX2.out).1 (own_ne (own_below HOI.out HB2.out) HX2.out fun _ _ e => by injection e with _ e2; exact absurd e2 (by decide))).trans HX2.out)
  have HY4 := Lib.hid ((hr4 _ (Array.getElem?_eq_some_iff.1 HY2.out).1 (own_ne (own_below HOI.out HB2.out) HY2.out fun _ _ e => by injection e with _ e2; exact absurd e2 (by decide))).trans HY2.out)
  have HM4 : Hid (Moved B (.slice A m c) w w4) := Lib.hid ⟨(HB2.out.mono HBW.out).trans hb4, fun k hk hne => (hr4 k (Nat.lt_of_lt_of_le hk HB2.out.size) hne).trans (HB2.out.block k hk)⟩
  have HO4 : Hid (OwnI w4 B (.slice A9 m9 c9) (s.keep ++ [n])) := Lib.hid hown
  have f5 : w4.cell? ⟨w.heap.size, 5, none⟩ = some (.slice A m c) := cell_at HX4.out rfl
  have c5 : w2.cell? ⟨w.heap.size, 5, none⟩ = some (.slice A m c) := cell_at HX2.out rfl
  have z5 : w4.frozen? ⟨w.heap.size, 5, none⟩ = false := Lib.frozen_of_heap HX4.out 5
  have l5 := leB_of_cell c5
  have l6 := leB_of_cell f5
  clear hown hb4 hr4
  have hx5 : (w4.setCell ⟨w.heap.size, 5, none⟩ (.slice A9 m9 c9)).heap[w.heap.size]? = some (.cells (stepCells { s with keep := s.keep ++ [n] } (.slice A9 m9 c9)) 33 (0, 0)) := (heap_set_at HX4.out 5 _).trans (by rfl)
  have hy5 : (w4.setCell ⟨w.heap.size, 5, none⟩ (.slice A9 m9 c9)).heap[w.heap.size + 1]? = some (.cells stepZero 33 (0, 0)) := (heap_set_other w4 _ _ _ (by simp)).trans HY4.out
  have hld := (row_load (ty := 33) hx5 Tryz.underlying33 (by kernel_rfl)).2
  obtain ⟨w9, hst9, hs9⟩ := row_store (ty := 33) (cs := stepCells { s with keep := s.keep ++ [n] } (.slice A9 m9 c9)) hy5 (by kernel_rfl) rfl (by simp [Value.oneCell'])
  have hv0 := cell_at (i := 0) hs9.at' rfl
  have hv1 := cell_at (i := 1) hs9.at' rfl
  have hv2 := cell_at (i := 2) hs9.at' rfl
  have hv3 := cell_at (i := 3) hs9.at' rfl
  have hv4 := cell_at (i := 4) hs9.at' rfl
  have hv5 := cell_at (i := 5) hs9.at' rfl
  have hv6 := cell_at (i := 6) hs9.at' rfl
  have hv7 := cell_at (i := 7) hs9.at' rfl
  have hv8 := cell_at (i := 8) hs9.at' rfl
  have hv9 := cell_at (i := 9) hs9.at' rfl
  have hv10 := cell_at (i := 10) hs9.at' rfl
  have hv11 := cell_at (i := 11) hs9.at' rfl
  have hv12 := cell_at (i := 12) hs9.at' rfl
  have HS9 := Lib.hid hs9
  clear hs9 hx5 hy5
  go_wp2_with (first | (refine load_step 33 _ rfl rfl rfl hld ?_) | (refine store_step 33 _ _ rfl rfl rfl rfl hst9 ?_) | (at_builtin; refine app_step 28 _ _ rfl rfl rfl rfl rfl happ ?_))
  exact bodyPost_ret (v := .tuple #[.agg (stepCells { s with keep := s.keep ++ [n] } (.slice A9 m9 c9)), .bool nb]) (by simp [results, Tryz.results40, go_sem, hv0, hv1, hv2, hv3, hv4, hv5, hv6, hv7, hv8, hv9, hv10, hv11, hv12]) rfl (SetC.mk { s with keep := s.keep ++ [n] } nb (map_if HNB.out HNS.out (fun n => { s with keep := s.keep ++ [n] })) (moved_end HM4.out HBW.out HS9.out) (own_end HO4.out HX4.out HS9.out HY4.out))
end Go.Proofs.YtmcooenafgihkaaGreatDoor
