/- Whatever parts come, in any order, however often: each answer, what has come, what is missing, and what they tell, is what the document says, for all numbers of parts and all parts. -/
import Derived.Test.YtelhclamoapnhaaL2
import Derived.Test.YtelhclamoapnhaaR6
namespace Go.Proofs.Ytelhclamoapnhaa
open Go.ChangeShapes Go.WideShapes Go.ChangeAt Go.RowKit Go.Proofs.YtelhclamoapnhaaW.PrintWords
set_option linter.unusedSimpArgs false
set_option linter.unusedVariables false
theorem StageAt.keep {W W' : World} {sb mb B : Nat} {L : List ByteArray} (h : StageAt W sb mb L) (hb : Below B W W') (h1 : sb < B) (h2 : mb < B) : StageAt W' sb mb L := by
  refine ⟨?_, ?_, ?_, h.some⟩
  · rw [hb.cell (p := ⟨sb, 0, none⟩) h1]; exact h.total
  · rw [hb.cell (p := ⟨sb, 1, none⟩) h1]; exact h.parts
  · obtain ⟨D, ho, h4⟩ := h.map
    obtain ⟨es, clock, hh, F, hs, hD⟩ := ho
    exact ⟨D, ⟨es, clock, by rw [hb.block mb h2]; exact hh, F, hs, hD⟩, h4⟩
theorem RefAt.turned {W W' : World} {rb g mb : Nat} {L : List ByteArray} (h : RefAt W rb g L) (ht : W.mapTurned W' mb) (h1 : mb < rb) (h2 : mb < g) : RefAt W' rb g L := by
  obtain ⟨es, k, es', k', hb, rfl⟩ := ht
  exact h.keep (Go.ChangeMaps.heap_setBlock_other hb _ (by omega)) (Go.ChangeMaps.heap_setBlock_other hb _ (by omega))
theorem StageAt.small {W : World} {sb mb : Nat} {L : List ByteArray} (h : StageAt W sb mb L) : L.length ≤ 4096 ∧ ∀ q ∈ L, q.size ≤ 512 := by
  obtain ⟨D, _, h1, h2, _⟩ := h.map
  exact ⟨h1, h2⟩
theorem addR_length (L : List ByteArray) (i : Int) (q : ByteArray) : (addR L i q).1.length = L.length := by
  unfold addR
  split
  · rfl
  · split
    · split <;> rfl
    · exact List.length_set
/-- The stage behind an Add, and the cells that lie elsewhere. -/
def AddPP (L2 : List ByteArray) (b0 : Bool) (e0 : Int) (sb mb : Nat) (w : World) (e : Ending) (w' : World) : Prop := e = .returned (.tuple #[.bool b0, .int .i64 e0]) ∧ Hid (StageAt w' sb mb L2) ∧ Hid (w.mapTurned w' mb)
def RAddPP (L2 : List ByteArray) (b0 : Bool) (e0 : Int) (rb g : Nat) (w : World) (e : Ending) (w' : World) : Prop := e = .returned (.tuple #[.bool b0, .int .i64 e0]) ∧ Hid (RefAt w' rb g L2) ∧ Hid (Below g w w') ∧ Hid (∀ k, ¬ k = g → w'.heap[k]? = w.heap[k]?)
/-- Changes and an error. -/
def ChgE (l : List Ch) (n : Nat) (c : Int) (w : World) (e : Ending) (w' : World) : Prop := ∃ (A : Option Addr) (d : Nat), e = .returned (.tuple #[.slice A n d, .int .i64 c]) ∧ Hid (Below w.heap.size w w') ∧ Hid (ChsAt w' A l)
set_option maxHeartbeats 16000000 in
set_option maxRecDepth 100000 in
theorem streamPlays_calls {w : World} (t : Int) (wt : I64 t) (A : Option Addr) (c : Nat) (l : List Pt) (hA : PtsAt w A l) (hc : l.length ≤ c) (hm : l.length ≤ maxLen) (w' : World) (e : w = w') : Calls Try.prog 7 #[.int .i64 t, .slice A l.length c] w' (Ret (.bool true) w') := by
  subst e
  obtain ⟨r, hr, hsm⟩ := smalls_any l
  have H24 := Lib.hid (fun W (h : PtsAt W A l) => hsm A c W h hc (by simp only [maxLen] at hm; omega))
  have HA := Lib.hid hA
  clear hsm hA
  cases r with
  | false =>
    clear hr
    generalize l.length = n at *
    go_enter Try.func7, Try.ntmps7
    go_wp2_with (first | (go_at_call 24; (with_reducible refine (H24.out _ HA.out).mono ?_); rintro e1 w1 ⟨rfl, j1, hw1⟩; have HB1 := Lib.hid (show Below w.heap.size w w1 by rw [hw1]; exact w_ext_below _ _); have HA1 := Lib.hid (HA.out.later HB1.out); clear hw1) | (go_at_call 13; (with_reducible refine (awake_any _).mono ?_); rintro e9 w9 ⟨rfl, j9, hw9⟩; have HBZ := Lib.hid (show Below w.heap.size w w9 from below_tr HB1.out (by rw [hw9]; exact w_ext_below _ _)); clear hw9))
    go_ret
    exact Ret.mk rfl HBZ.out
  | true =>
  have h120 := hr rfl
  clear hr
  by_cases hbad : t < 1 ∨ 4096 < t
  · have H18 := Lib.hid (fun W => new_no t W hbad)
    have H25 := Lib.hid (fun W => refnew_no t W hbad)
    clear hbad h120
    generalize l.length = n at *
    go_enter Try.func7, Try.ntmps7
    go_wp2_with (first | (go_at_call 24; (with_reducible refine (H24.out _ HA.out).mono ?_); rintro e1 w1 ⟨rfl, j1, hw1⟩; have HB1 := Lib.hid (show Below w.heap.size w w1 by rw [hw1]; exact w_ext_below _ _); have HA1 := Lib.hid (HA.out.later HB1.out); clear hw1) | (go_at_call 18; (with_reducible refine (H18.out _).mono ?_); rintro e2 w2 ⟨rfl, hw2⟩; replace hw2 := hw2.symm; subst hw2) | (go_at_call 25; (with_reducible refine (H25.out _).mono ?_); rintro e3 w3 ⟨rfl, hw3⟩; replace hw3 := hw3.symm; subst hw3) | (go_at_call 13; (with_reducible refine (awake_any _).mono ?_); rintro e9 w9 ⟨rfl, j9, hw9⟩; have HBZ := Lib.hid (show Below w.heap.size w w9 from below_tr HB1.out (by rw [hw9]; exact w_ext_below _ _)); clear hw9))
    go_ret
    exact Ret.mk rfl HBZ.out
  obtain ⟨N, rfl⟩ : ∃ N : Nat, t = (N : Int) := ⟨t.toNat, by omega⟩
  have H18 : Hid (∀ W, Calls Try.prog 18 #[.int .i64 (N : Int)] W (NewP N W)) := Lib.hid fun W => new_stage N (by omega) (by omega) W
  have H25 : Hid (∀ W, Calls Try.prog 25 #[.int .i64 (N : Int)] W (RNewP N W)) := Lib.hid fun W => refnew_yes N W (by omega) (by omega)
  have hN1 : 1 ≤ N := by omega
  obtain ⟨n, hn⟩ : ∃ n, l.length = n := ⟨_, rfl⟩
  have HN := Lib.hid hn
  rw [hn] at H24 h120 ⊢
  clear hbad hc hm wt hn
  go_enter Try.func7, Try.ntmps7
  go_wp2_with (first | (go_at_call 24; (with_reducible refine (H24.out _ HA.out).mono ?_); rintro e1 w1 ⟨rfl, j1, hw1⟩; have HB1 := Lib.hid (show Below w.heap.size w w1 by rw [hw1]; exact w_ext_below _ _); have HA1 := Lib.hid (HA.out.later HB1.out); clear hw1) | (go_at_call 18; (with_reducible refine (H18.out _).mono ?_); rintro e2 w2 ⟨rfl, HST, HB2⟩) | (go_at_call 25; (with_reducible refine (H25.out _).mono ?_); rintro e3 w3 ⟨rfl, HRF, HB3⟩))
  have hsz : w1.heap.size + 1 < w2.heap.size := HST.out.total |> World.block_lt_of_cell? w2 _
  have HB1b := Lib.hid (show Below w1.heap.size w1 w3 from below_tr HB2.out HB3.out)
  have HSTb := Lib.hid (HST.out.later HB3.out)
  clear HST
  have HL0 := Lib.hid (show (List.replicate N (⟨#[]⟩ : ByteArray)).length = N from List.length_replicate)
  go_loopw [10, 11, 12, 13, 14, 15, 16, 50] (fun v10 v11 v12 v13 v14 v15 v16 v50 wr => ∃ (k : Nat) (L : List ByteArray), k ≤ n ∧ v50 = .int .i64 (k : Int) ∧ Hid (L.length = N) ∧ Hid (StageAt wr (w1.heap.size + 1) w1.heap.size L) ∧ Hid (RefAt wr (w2.heap.size + 1) w2.heap.size L) ∧ Hid (Below w1.heap.size w1 wr)) (fun _ _ _ _ _ _ _ k _ => ((n : Int) - intOf k).toNat)
  case atStart => exact ⟨0, _, Nat.zero_le _, rfl, HL0, HSTb, HRF, HB1b⟩
  case round =>
    obtain ⟨k, L, hk, rfl, HL, HS, HR, HB⟩ := hrel
    by_cases hkn : k = n
    · subst hkn
      obtain ⟨hl4, hl5⟩ := HS.out.small
      have hlc := chgR_len L hl5 hl4
      have H20 : Hid (∀ W, StageAt W (w1.heap.size + 1) w1.heap.size L → Calls Try.prog 20 #[.pointer (some ⟨w1.heap.size + 1, 0, none⟩)] W (ChgE (chgR L).2 (chgR L).2.length (chgR L).1 W)) := Lib.hid fun W h => (changes_live _ _ L W h).mono fun e w' ⟨A3, c3, he, h3, h4, _, _⟩ => ⟨A3, c3, he, h3, h4⟩
      have H32 : Hid (∀ W, RefAt W (w2.heap.size + 1) w2.heap.size L → Calls Try.prog 32 #[.pointer (some ⟨w2.heap.size + 1, 0, none⟩)] W (ChgE (chgR L).2 (chgR L).2.length (chgR L).1 W)) := Lib.hid fun W h => (refchanges _ _ L W h hl5).mono fun e w' ⟨A3, c3, he, h3, h4, _, _⟩ => ⟨A3, c3, he, h3, h4⟩
      have H21 := Lib.hid (fun (A5 A6 : Option Addr) (c5 c6 : Nat) W (h : ChsAt W A5 (chgR L).2) (h' : ChsAt W A6 (chgR L).2) => show Calls Try.prog 21 #[.slice A5 (chgR L).2.length c5, .slice A6 (chgR L).2.length c6] W (Ret (.bool true) W) from by
        have h := eqC_any A5 A6 c5 c6 (chgR L).2 (chgR L).2 W h h' (by omega)
        rwa [decide_eq_true rfl] at h)
      clear hlc hl5 hl4
      generalize (chgR L).2 = x at *
      generalize (chgR L).1 = ec at *
      generalize x.length = nx at *
      go_wp2_with (first | (go_at_call 20; (with_reducible refine (H20.out _ HS.out).mono ?_); rintro e2 w4 ⟨A4, c4, rfl, HB4, HC4⟩; have HR4 := Lib.hid (HR.out.later HB4.out); have HBA := Lib.hid (below_tr HB.out HB4.out)) | (go_at_call 32; (with_reducible refine (H32.out _ HR4.out).mono ?_); rintro e3 w5 ⟨A5, c5, rfl, HB5, HC5⟩; have HC4b := Lib.hid (HC4.out.later HB5.out); have HBB := Lib.hid (below_tr HBA.out HB5.out)) | (go_at_call 21; (with_reducible refine (H21.out _ _ _ _ _ HC4b.out HC5.out).mono ?_); rintro e4 w6 ⟨rfl, j6, hw6⟩; have HBC := Lib.hid (show Below w.heap.size w w6 from below_tr HB1.out (below_tr HBB.out (by rw [hw6]; exact w_ext_below _ _))); clear hw6) | (go_at_call 13; (with_reducible refine (awake_any _).mono ?_); rintro e9 w9 ⟨rfl, j9, hw9⟩; have HBZ := Lib.hid (show Below w.heap.size w w9 from below_tr HBC.out (by rw [hw9]; exact w_ext_below _ _)); clear hw9))
      go_ret
      exact Ret.mk (by first | rfl | simp) HBZ.out
    · have hlt : (k : Int) < (n : Int) := by omega
      have hge : (0 : Int) ≤ (k : Int) := by omega
      have hnl : ¬ (k : Int) < 0 := by omega
      have hwr : wrap64 ((k : Int) + 1) = ((k + 1 : Nat) : Int) := by rw [wrap64_eq]; omega
      obtain ⟨b, o, eA, p0, p1⟩ := (HA1.out.later HB.out) k (by rw [HN.out]; omega)
      subst eA
      have hlb := leB_of_cell p0
      generalize l.getD k noPt = pt at *
      obtain ⟨pi, q⟩ := pt
      simp only at p0 p1
      have HL2 := Lib.hid (addR_length L pi q)
      have H19 : Hid (∀ W, StageAt W (w1.heap.size + 1) w1.heap.size L → Calls Try.prog 19 #[.pointer (some ⟨w1.heap.size + 1, 0, none⟩), .int .i64 pi, .string q] W (AddPP (addR L pi q).1 (addR L pi q).2.1 (addR L pi q).2.2 (w1.heap.size + 1) w1.heap.size W)) := Lib.hid fun W h => (add_live _ _ L pi q W h).mono fun e w' ⟨h1, h2, h3⟩ => ⟨h1, Lib.hid h2, Lib.hid h3⟩
      have H26 : Hid (∀ W, RefAt W (w2.heap.size + 1) w2.heap.size L → Calls Try.prog 26 #[.pointer (some ⟨w2.heap.size + 1, 0, none⟩), .int .i64 pi, .string q] W (RAddPP (addR L pi q).1 (addR L pi q).2.1 (addR L pi q).2.2 (w2.heap.size + 1) w2.heap.size W)) := Lib.hid fun W h => (refadd _ _ L pi q W h (by rw [HL.out]; exact hN1)).mono fun e w' ⟨h1, h2, h3, h4⟩ => ⟨h1, h2, h3, h4⟩
      generalize (addR L pi q).1 = L2 at *
      generalize (addR L pi q).2.1 = b0 at *
      generalize (addR L pi q).2.2 = e0 at *
      have HLN : Hid (L2.length = N) := Lib.hid (HL2.out.trans HL.out)
      have H27 : Hid (∀ W, StageAt W (w1.heap.size + 1) w1.heap.size L2 → Calls Try.prog 27 #[.pointer (some ⟨w1.heap.size + 1, 0, none⟩)] W (Ret (.tuple #[.int .i64 (cntP L2 : Int), .int .i64 (N : Int)]) W)) := Lib.hid fun W h => by
        have h1 := has_live _ _ L2 W h
        rwa [HLN.out] at h1
      have H22 := Lib.hid (fun W (h : StageAt W (w1.heap.size + 1) w1.heap.size L2) => missing_live _ _ L2 W h)
      have H30 := Lib.hid (fun W (h : StageAt W (w1.heap.size + 1) w1.heap.size L2) => whole_live _ _ L2 pi W h)
      have H28 := Lib.hid (fun W (h : RefAt W (w2.heap.size + 1) w2.heap.size L2) => refhas _ _ L2 W h)
      have H29 := Lib.hid (fun W (h : RefAt W (w2.heap.size + 1) w2.heap.size L2) => refmiss _ _ L2 W h)
      have H31 := Lib.hid (fun W (h : RefAt W (w2.heap.size + 1) w2.heap.size L2) => refwhole _ _ L2 pi W h)
      generalize cntP L2 = cn at *
      generalize missP L2 = ms at *
      generalize wholeP L2 pi = wh at *
      have HS5 := Lib.hid (HS.out.later (Below.alloc (Below.refl wr.heap.size wr) (Nat.le_refl _) (.cells #[.int .i64 pi, .string q] 53)))
      have HR5 := Lib.hid (HR.out.later (Below.alloc (Below.refl wr.heap.size wr) (Nat.le_refl _) (.cells #[.int .i64 pi, .string q] 53)))
      have q0 : (wr.alloc (.cells #[.int .i64 pi, .string q] 53)).cell? ⟨wr.heap.size, 0, none⟩ = some (.int .i64 pi) := by rw [Lib.cell_of_heap (heap_alloc_new wr _)]; rfl
      have q1 : (wr.alloc (.cells #[.int .i64 pi, .string q] 53)).cell? ⟨wr.heap.size, 1, none⟩ = some (.string q) := by rw [Lib.cell_of_heap (heap_alloc_new wr _)]; rfl
      have hgw : w2.heap.size < wr.heap.size := HR.out.lt.2
      go_wp2_with (first | (go_at_call 19; (with_reducible refine (H19.out _ (HS5.out)).mono ?_); rintro e4 w4 ⟨rfl, HS4, HT4⟩; have HR4 := Lib.hid (HR5.out.turned HT4.out (by omega) (by omega)); have k0 := (cell_turned HT4.out wr.heap.size 0).trans q0; have k1 := (cell_turned HT4.out wr.heap.size 1).trans q1) | (go_at_call 26; (with_reducible refine (H26.out _ HR4.out).mono ?_); rintro e6 w6 ⟨rfl, HR6a, HB6, HE6⟩; have HS6a := Lib.hid (HS4.out.keep HB6.out (by omega) (by omega)); have c6 : Hid (∀ (j : Nat) (u : Value), w4.cell? ⟨wr.heap.size, j, none⟩ = some u → w6.cell? ⟨wr.heap.size, j, none⟩ = some u) := Lib.hid (fun j u hu => by rw [← hu]; unfold World.cell?; simp only [HE6.out wr.heap.size (by omega)])) | (go_at_call 27; (with_reducible refine (H27.out _ HS6a.out).mono ?_); rintro e7 w7 ⟨rfl, j7, hw7⟩; have HE7 := Lib.hid (show Below w6.heap.size w6 w7 by rw [hw7]; exact w_ext_below _ _); have HR6 := Lib.hid (HR6a.out.later HE7.out); have HS6 := Lib.hid (HS6a.out.later HE7.out); have m0 : w7.cell? ⟨wr.heap.size, 0, none⟩ = some (.int .i64 pi) := (HE7.out.cell (p := ⟨wr.heap.size, 0, none⟩) (World.block_lt_of_cell? w6 _ (c6.out 0 _ k0))).trans (c6.out 0 _ k0); have hlm := leB_of_cell m0; have HBW := Lib.hid (show Below w1.heap.size w1 w7 from below_tr (((HB.out.alloc HB.out.size (.cells #[.int .i64 pi, .string q] 53)).trans (below_turned HT4.out (Nat.le_refl _))).trans (HB6.out.mono (by omega))) HE7.out); clear hw7))
      refine wp_region_mix [(0, true), (1, true), (2, true), (3, true), (4, true), (5, true), (6, true), (7, true), (8, true), (9, true), (10, true), (11, false), (12, true), (13, true), (14, true), (15, true), (16, true), (17, true), (18, true), (19, true), (20, true), (22, true), (21, false), (23, false), (24, true), (25, true), (26, true), (27, true), (28, true), (29, true), (31, true), (32, true), (33, true), (30, false), (34, false), (35, true), (36, true)] (by kernel_rfl) (by kernel_rfl) rfl (by kernel_rfl) (by intro _ _ d _ _ h; cases d <;> exact h) ?_; intro j1; (repeat (first | (refine wpMix_skipK rfl rfl ?_; intro K hK; go_simp; refine hK _ ?_; clear hK K) | (refine wpMix_light rfl rfl ?_; intro K hK; go_simp; refine hK _ ?_; clear hK K) | (refine wpMix_heavy rfl rfl ?_; intro K hK; go_wp2_with ((first | (go_at_call 28; (with_reducible refine (H28.out _ ?_).mono ?_); (· exact HR6.out.later (by (repeat' (first | (with_reducible exact Below.refl _ _) | (with_reducible assumption) | (with_reducible exact below_app _ _ _ _) | (with_reducible refine below_pre ?_; (simp only [List.append_assoc, List.prefix_append, List.prefix_refl, List.prefix_append_right_inj])) | (with_reducible refine Below.alloc ?_ ?_ _) | (with_reducible refine below_ext ?_ ?_ _) | (with_reducible refine Below.drew ?_) | (with_reducible refine below_drewN ?_ _) | (with_reducible refine Below.setCell ?_ ?_ _) | go_size | (simp only [w_size_ext, List.length_append, World.alloc_size]; omega) | (simp; done) | (simp; omega))))); rintro e1 w1 ⟨rfl, hw⟩; replace hw := hw.symm; subst hw) | (go_at_call 22; (with_reducible refine (H22.out _ ?_).mono ?_); (· exact HS6.out.later (by (repeat' (first | (with_reducible exact Below.refl _ _) | (with_reducible assumption) | (with_reducible exact below_app _ _ _ _) | (with_reducible refine below_pre ?_; (simp only [List.append_assoc, List.prefix_append, List.prefix_refl, List.prefix_append_right_inj])) | (with_reducible refine Below.alloc ?_ ?_ _) | (with_reducible refine below_ext ?_ ?_ _) | (with_reducible refine Below.drew ?_) | (with_reducible refine below_drewN ?_ _) | (with_reducible refine Below.setCell ?_ ?_ _) | go_size | (simp only [w_size_ext, List.length_append, World.alloc_size]; omega) | (simp; done) | (simp; omega))))); rintro e1 w1 ⟨rfl, hw⟩; replace hw := hw.symm; subst hw) | (go_at_call 29; (with_reducible refine (H29.out _ ?_).mono ?_); (· exact HR6.out.later (by (repeat' (first | (with_reducible exact Below.refl _ _) | (with_reducible assumption) | (with_reducible exact below_app _ _ _ _) | (with_reducible refine below_pre ?_; (simp only [List.append_assoc, List.prefix_append, List.prefix_refl, List.prefix_append_right_inj])) | (with_reducible refine Below.alloc ?_ ?_ _) | (with_reducible refine below_ext ?_ ?_ _) | (with_reducible refine Below.drew ?_) | (with_reducible refine below_drewN ?_ _) | (with_reducible refine Below.setCell ?_ ?_ _) | go_size | (simp only [w_size_ext, List.length_append, World.alloc_size]; omega) | (simp; done) | (simp; omega))))); rintro e1 w1 ⟨rfl, hw⟩; replace hw := hw.symm; subst hw) | (go_at_call 30; (with_reducible refine (H30.out _ ?_).mono ?_); (· exact HS6.out.later (by (repeat' (first | (with_reducible exact Below.refl _ _) | (with_reducible assumption) | (with_reducible exact below_app _ _ _ _) | (with_reducible refine below_pre ?_; (simp only [List.append_assoc, List.prefix_append, List.prefix_refl, List.prefix_append_right_inj])) | (with_reducible refine Below.alloc ?_ ?_ _) | (with_reducible refine below_ext ?_ ?_ _) | (with_reducible refine Below.drew ?_) | (with_reducible refine below_drewN ?_ _) | (with_reducible refine Below.setCell ?_ ?_ _) | go_size | (simp only [w_size_ext, List.length_append, World.alloc_size]; omega) | (simp; done) | (simp; omega))))); rintro e1 w1 ⟨rfl, hw⟩; replace hw := hw.symm; subst hw) | (go_at_call 31; (with_reducible refine (H31.out _ ?_).mono ?_); (· exact HR6.out.later (by (repeat' (first | (with_reducible exact Below.refl _ _) | (with_reducible assumption) | (with_reducible exact below_app _ _ _ _) | (with_reducible refine below_pre ?_; (simp only [List.append_assoc, List.prefix_append, List.prefix_refl, List.prefix_append_right_inj])) | (with_reducible refine Below.alloc ?_ ?_ _) | (with_reducible refine below_ext ?_ ?_ _) | (with_reducible refine Below.drew ?_) | (with_reducible refine below_drewN ?_ _) | (with_reducible refine Below.setCell ?_ ?_ _) | go_size | (simp only [w_size_ext, List.length_append, World.alloc_size]; omega) | (simp; done) | (simp; omega))))); rintro e1 w1 ⟨rfl, hw⟩; replace hw := hw.symm; subst hw))); refine ⟨w_ext_of_below (by (repeat' (first | (with_reducible exact Below.refl _ _) | (with_reducible assumption) | (with_reducible exact below_app _ _ _ _) | (with_reducible refine below_pre ?_; (simp only [List.append_assoc, List.prefix_append, List.prefix_refl, List.prefix_append_right_inj])) | (with_reducible refine Below.alloc ?_ ?_ _) | (with_reducible refine below_ext ?_ ?_ _) | (with_reducible refine Below.drew ?_) | (with_reducible refine below_drewN ?_ _) | (with_reducible refine Below.setCell ?_ ?_ _) | go_size | (simp only [w_size_ext, List.length_append, World.alloc_size]; omega) | (simp; done) | (simp; omega)))), ?_⟩))); refine wpMix_nil ?_
      go_wp2
      go_roundw
      case rel => exact ⟨k + 1, L2, by omega, by first | rfl | rw [hwr], HLN, Lib.hid (HS6.out.later (by (repeat' (first | (with_reducible exact Below.refl _ _) | (with_reducible assumption) | (with_reducible exact below_app _ _ _ _) | (with_reducible refine below_pre ?_; (simp only [List.append_assoc, List.prefix_append, List.prefix_refl, List.prefix_append_right_inj])) | (with_reducible refine Below.alloc ?_ ?_ _) | (with_reducible refine below_ext ?_ ?_ _) | (with_reducible refine Below.drew ?_) | (with_reducible refine below_drewN ?_ _) | (with_reducible refine Below.setCell ?_ ?_ _) | go_size | (simp only [w_size_ext, List.length_append, World.alloc_size]; omega) | (simp; done) | (simp; omega))))), Lib.hid (HR6.out.later (by (repeat' (first | (with_reducible exact Below.refl _ _) | (with_reducible assumption) | (with_reducible exact below_app _ _ _ _) | (with_reducible refine below_pre ?_; (simp only [List.append_assoc, List.prefix_append, List.prefix_refl, List.prefix_append_right_inj])) | (with_reducible refine Below.alloc ?_ ?_ _) | (with_reducible refine below_ext ?_ ?_ _) | (with_reducible refine Below.drew ?_) | (with_reducible refine below_drewN ?_ _) | (with_reducible refine Below.setCell ?_ ?_ _) | go_size | (simp only [w_size_ext, List.length_append, World.alloc_size]; omega) | (simp; done) | (simp; omega))))), Lib.hid (below_tr HBW.out (by (repeat' (first | (with_reducible exact Below.refl _ _) | (with_reducible assumption) | (with_reducible exact below_app _ _ _ _) | (with_reducible refine below_pre ?_; (simp only [List.append_assoc, List.prefix_append, List.prefix_refl, List.prefix_append_right_inj])) | (with_reducible refine Below.alloc ?_ ?_ _) | (with_reducible refine below_ext ?_ ?_ _) | (with_reducible refine Below.drew ?_) | (with_reducible refine below_drewN ?_ _) | (with_reducible refine Below.setCell ?_ ?_ _) | go_size | (simp only [w_size_ext, List.length_append, World.alloc_size]; omega) | (simp; done) | (simp; omega)))))⟩
      case measure => first | (rw [intOf_lit, intOf_lit, hwr]; omega) | (rw [intOf_lit, intOf_lit]; omega)

set_option maxRecDepth 100000 in
theorem streamPlays_lifted (os : Os) (started : os.Started) (H : Type) (enc : TypeId × Value → H) :
    ReturnsInHanded {} Try.checked os 7 .any (Rows.streamPlaysSpec.pre6 enc Try.prog Try.f7 Rows.streamPlaysRow.domain false) (Rows.streamPlaysSpec.post enc Try.prog Try.f7 false true false false) := by
  refine returnsInHanded_of_change (C := Try.checked) Try.own started (by kernel_rfl) Try.func7
    (ChangeSpec.witness6 (enc := enc) (C := Try.checked) false ⟨#[], #[.int .i64 0, .slice none 0 0], []⟩ 8 (by kernel_rfl) (by kernel_rfl) (by kernel_rfl) (by kernel_rfl)) ?_
  intro W base args ds gs before hval0 hW hcnd _
  have hval : ∀ (j : Nat) t v, Try.f7.params[j]? = some t → args[j]? = some v → Value.okWide Try.prog W .any base t v := hval0
  have hW' := hW
  obtain ⟨p, q, hA0, hV, rfl, hfz, hnd⟩ := hW
  have hA : DataW.TrodAll enc Try.prog W 0 (fun _ => true) true Try.f7.params.toList args.toList ds p := hA0
  rw [Try.params7] at hA hval
  obtain ⟨v0, vs0, d0, ds0, p0, q0, hargs, rfl, rfl, h0, r0⟩ := trodAll_cons hA
  obtain ⟨v1, vs1, d1, ds1, p1, q1, rfl, rfl, rfl, h1, r1⟩ := trodAll_cons r0
  obtain ⟨rfl, rfl, rfl⟩ := trodAll_nil r1
  obtain rfl : args = #[v0, v1] := by cases args; simp_all
  obtain ⟨rfl, rfl⟩ := trodVars_none hV
  obtain ⟨n0, rfl, wn0⟩ := open_i64 (hval 0 3 _ rfl rfl) h0
  obtain ⟨A1, c1, l1, rfl, C1, k1, m1⟩ := open_parts (hval 1 47 _ rfl rfl) h1
  refine (streamPlays_calls n0 wn0 A1 c1 l1 C1 k1 m1 W rfl).mono fun e W' ⟨he, j, hj⟩ => ?_
  subst he; subst hj
  exact ⟨_, rfl, law_post Try.laidOut (by kernel_rfl) rfl rfl rfl hW' (w_ext_below _ _)⟩

theorem streamPlays_holds : Rows.StreamPlaysSaid :=
  OpenClaim.holds_of_wide 7 Try.f7 rfl rfl rfl rfl rfl rfl rfl ⟨rfl, rfl, rfl, rfl, rfl⟩ rfl rfl rfl rfl rfl (by kernel_rfl) Try.func7 (by kernel_rfl)
    (of_decide_eq_true (by kernel_rfl)) (by unfold Func.isWrapper; first | (rw [if_pos (by decide +kernel)]; kernel_rfl) | (rw [if_neg (by decide +kernel)]; exact ⟨rfl, rfl⟩))
    (fun os started H enc _ => streamPlays_lifted os started H enc)
end Go.Proofs.Ytelhclamoapnhaa
