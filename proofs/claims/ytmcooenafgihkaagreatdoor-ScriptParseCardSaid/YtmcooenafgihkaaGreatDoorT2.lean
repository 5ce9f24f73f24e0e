/- Helper lemmas: two equal steps are the same, by the reference. No condition. -/
import Derived.Test.YtmcooenafgihkaaGreatDoorK3
import Derived.Test.YtmcooenafgihkaaGreatDoorT1
import Derived.Test.YtmcooenafgihkaaGreatDoorP5
set_option linter.unusedSimpArgs false
set_option linter.unusedVariables false
namespace Go.Proofs.YtmcooenafgihkaaGreatDoor
open Go.RowKit

/-- Two rows of steps. -/
def RowsAt (k : Nat) (ca cb : Array Value) (t : TypeId) (W : World) : Prop := W.heap[k]? = some (.cells ca t (0, 0)) ∧ W.heap[k + 1]? = some (.cells cb t (0, 0))
section
variable {k : Nat} {ca cb : Array Value} {t : TypeId} {W W2 : World}
theorem RowsAt.drew (h : RowsAt k ca cb t W) : RowsAt k ca cb t W.drew := h
theorem RowsAt.below (h : RowsAt k ca cb t W) (hb : Below W.heap.size W W2) : RowsAt k ca cb t W2 := ⟨(hb.block _ (Array.getElem?_eq_some_iff.1 h.1).1).trans h.1, (hb.block _ (Array.getElem?_eq_some_iff.1 h.2).1).trans h.2⟩
theorem RowsAt.alloc (h : RowsAt k ca cb t W) (o : Obj) : RowsAt k ca cb t (W.alloc o) := h.below (Below.alloc (Below.refl _ _) (Nat.le_refl _) _)
theorem RowsAt.set (h : RowsAt k ca cb t W) {g : Nat} {cs : Array Value} {u : TypeId} (hs : SetRow g cs u W W2) (h1 : ¬ k = g) (h2 : ¬ k + 1 = g) : RowsAt k ca cb t W2 := ⟨(hs.rest _ h1).trans h.1, (hs.rest _ h2).trans h.2⟩
theorem RowsAt.start (w : World) (a b : Array Value) (t : TypeId) : RowsAt w.heap.size a b t ((w.alloc (.cells a t)).alloc (.cells b t)).drew := by
  refine ⟨?_, ?_⟩
  · exact (heap_alloc_old (w.alloc (.cells a t)) _ (by simp)).trans (heap_alloc_new w _)
  · have h := heap_alloc_new (w.alloc (.cells a t)) (.cells b t)
    have e : (w.alloc (.cells a t)).heap.size = w.heap.size + 1 := by simp
    rw [e] at h
    exact h
end
theorem below7 {w V w6 w7 : World} {g g2 : Nat} {c c2 : Array Value} {t t2 : TypeId} (h6 : SetRow g c t V w6) (h7 : SetRow g2 c2 t2 w6 w7) (hb : Below w.heap.size w V) (h1 : w.heap.size ≤ g) (h2 : w.heap.size ≤ g2) : Below w.heap.size w w7 :=
  ⟨h7.os.trans (h6.os.trans hb.os), h7.tape.trans (h6.tape.trans hb.tape), h7.output.trans (h6.output.trans hb.output), by rw [h7.size, h6.size]; exact hb.size, fun j hj => (h7.rest j (by omega)).trans ((h6.rest j (by omega)).trans (hb.block j hj))⟩
theorem new2 (V : World) (n : Nat) (hn : V.heap.size = n) (cs : Array Value) (t : TypeId) : ((V.alloc (.cells cs t)).alloc (.cells cs t)).heap[n]? = some (.cells cs t (0, 0)) ∧ ((V.alloc (.cells cs t)).alloc (.cells cs t)).heap[n + 1]? = some (.cells cs t (0, 0)) := by
  subst hn
  refine ⟨(heap_alloc_old (V.alloc (.cells cs t)) _ (by simp)).trans (heap_alloc_new V _), ?_⟩
  have h := heap_alloc_new (V.alloc (.cells cs t)) (.cells cs t)
  have e : (V.alloc (.cells cs t)).heap.size = V.heap.size + 1 := by simp
  rw [e] at h
  exact h
set_option maxHeartbeats 8000000 in
set_option maxRecDepth 100000 in
theorem same_main (s : StepR) (A B : Option Addr) (mk c d : Nat) (w : World) (HT : Hid (s.time < 18446744073709551616)) (HK : Hid (s.keep.length = mk)) (HM : Hid (mk ≤ 100000)) (HA : Hid (IntsAt w A s.keep)) (HB : Hid (IntsAt w B s.keep)) : Calls Tryz.prog 12 #[.agg #[.int .i64 s.kind, .int .i64 s.rep, .string s.vol, .string s.dst, .int .i64 s.n, .slice A mk c, .int .i64 s.ck, .string s.path, .string s.cto, .int .i64 s.off, .int .i64 s.cn, .string s.data, f64 s.time], .agg #[.int .i64 s.kind, .int .i64 s.rep, .string s.vol, .string s.dst, .int .i64 s.n, .slice B mk d, .int .i64 s.ck, .string s.path, .string s.cto, .int .i64 s.off, .int .i64 s.cn, .string s.data, f64 s.time]] w (fun e w' => e = .returned (.bool true) ∧ Below w.heap.size w w') := by
  have HC0 := Lib.hid (RowsAt.start w #[.int .i64 s.kind, .int .i64 s.rep, .string s.vol, .string s.dst, .int .i64 s.n, .slice A mk c, .int .i64 s.ck, .string s.path, .string s.cto, .int .i64 s.off, .int .i64 s.cn, .string s.data, f64 s.time] #[.int .i64 s.kind, .int .i64 s.rep, .string s.vol, .string s.dst, .int .i64 s.n, .slice B mk d, .int .i64 s.ck, .string s.path, .string s.cto, .int .i64 s.off, .int .i64 s.cn, .string s.data, f64 s.time] 33)
  have HZ := Lib.hid (new2 ((w.alloc (.cells #[.int .i64 s.kind, .int .i64 s.rep, .string s.vol, .string s.dst, .int .i64 s.n, .slice A mk c, .int .i64 s.ck, .string s.path, .string s.cto, .int .i64 s.off, .int .i64 s.cn, .string s.data, f64 s.time] 33)).alloc (.cells #[.int .i64 s.kind, .int .i64 s.rep, .string s.vol, .string s.dst, .int .i64 s.n, .slice B mk d, .int .i64 s.ck, .string s.path, .string s.cto, .int .i64 s.off, .int .i64 s.cn, .string s.data, f64 s.time] 33)) (w.heap.size + 1 + 1) (by simp) callZero 31)
  go_enter Tryz.func12, Tryz.ntmps12
  go_wp2
  refine wp_region_ordC (RowsAt w.heap.size #[.int .i64 s.kind, .int .i64 s.rep, .string s.vol, .string s.dst, .int .i64 s.n, .slice A mk c, .int .i64 s.ck, .string s.path, .string s.cto, .int .i64 s.off, .int .i64 s.cn, .string s.data, f64 s.time] #[.int .i64 s.kind, .int .i64 s.rep, .string s.vol, .string s.dst, .int .i64 s.n, .slice B mk d, .int .i64 s.ck, .string s.path, .string s.cto, .int .i64 s.off, .int .i64 s.cn, .string s.data, f64 s.time] 33) (.take 0 (.take 1 (.take 2 (.take 3 (.two 4 5 (.one 5 (.one 6 (.one 7 .done))) (.one 4 (.one 6 (.one 7 .done)))))))) (by kernel_rfl) (by kernel_rfl) (by decide) (by kernel_rfl) (by intro _ _ d _ _ h; cases d <;> exact h) HC0.out ?_
  refine wpOrdC_take rfl rfl ?_; intro K hK; refine ⟨.pointer (some ⟨w.heap.size, 6, none⟩), fun W hW => ?_, hK _ ?_⟩; (· clear hK; go_simp); clear hK K
  refine wpOrdC_take rfl rfl ?_; intro K hK; refine ⟨.agg (callCells s), fun W hW => ?_, hK _ ?_⟩; (· obtain ⟨hA, hB⟩ := hW; have c6 := cell_at (i := 6) hA rfl; have c7 := cell_at (i := 7) hA rfl; have c8 := cell_at (i := 8) hA rfl; have c9 := cell_at (i := 9) hA rfl; have c10 := cell_at (i := 10) hA rfl; have c11 := cell_at (i := 11) hA rfl; have c12 := cell_at (i := 12) hA rfl; have lp := leB_of_cell c6; go_simp); clear hK K
  refine wpOrdC_take rfl rfl ?_; intro K hK; refine ⟨.pointer (some ⟨w.heap.size + 1, 6, none⟩), fun W hW => ?_, hK _ ?_⟩; (· clear hK; go_simp); clear hK K
  refine wpOrdC_take rfl rfl ?_; intro K hK; refine ⟨.agg (callCells s), fun W hW => ?_, hK _ ?_⟩; (· obtain ⟨hA, hB⟩ := hW; have c6 := cell_at (i := 6) hB rfl; have c7 := cell_at (i := 7) hB rfl; have c8 := cell_at (i := 8) hB rfl; have c9 := cell_at (i := 9) hB rfl; have c10 := cell_at (i := 10) hB rfl; have c11 := cell_at (i := 11) hB rfl; have c12 := cell_at (i := 12) hB rfl; have lp := leB_of_cell c6; go_simp); clear hK K
  refine wpOrdC_two ?_ ?_
  · refine wpOrdC_one rfl rfl ?_; intro K hK; go_wp2
    refine hK _ _ (HC0.out.alloc _) ?_; clear hK K
    refine wpOrdC_one rfl rfl ?_; intro K hK; go_wp2
    refine hK _ _ ((HC0.out.alloc _).alloc _) ?_; clear hK K
    refine wpOrdC_one rfl rfl ?_; intro K hK
    refine store_op (W := _) (g := w.heap.size + 1 + 1) 31 _ _ rfl rfl rfl HZ.out.1 (by kernel_rfl) rfl (by simp [Value.oneCell']) ?_
    intro w6 h6
    refine hK _ _ (((HC0.out.alloc _).alloc _).set h6 (by omega) (by omega)) ?_; clear hK K
    refine wpOrdC_one rfl rfl ?_; intro K hK
    refine store_op (W := w6) (g := w.heap.size + 1 + 1 + 1) 31 _ _ rfl rfl rfl ((h6.rest _ (by omega)).trans HZ.out.2) (by kernel_rfl) rfl (by simp [Value.oneCell']) ?_
    intro w7 h7
    refine hK _ _ ((((HC0.out.alloc _).alloc _).set h6 (by omega) (by omega)).set h7 (by omega) (by omega)) ?_; clear hK K
    refine wpOrdC_done ?_
    have hbw : Below w.heap.size w w7 := below7 h6 h7 (Below.drew (Below.alloc (Below.alloc (Below.alloc (Below.alloc (Below.refl _ _) (Nat.le_refl _) _) (by simp) _) (by simp; omega) _) (by simp; omega) _)) (by omega) (by omega)
    have HR := Lib.hid ((((HC0.out.alloc _).alloc _).set h6 (by omega) (by omega)).set h7 (by omega) (by omega))
    have H5 := Lib.hid ((h7.rest _ (by omega)).trans h6.at')
    have H6 := Lib.hid h7.at'
    have a0 := cell_at (i := 0) HR.out.1 rfl
    have b0 := cell_at (i := 0) HR.out.2 rfl
    have a1 := cell_at (i := 1) HR.out.1 rfl
    have b1 := cell_at (i := 1) HR.out.2 rfl
    have a2 := cell_at (i := 2) HR.out.1 rfl
    have b2 := cell_at (i := 2) HR.out.2 rfl
    have a3 := cell_at (i := 3) HR.out.1 rfl
    have b3 := cell_at (i := 3) HR.out.2 rfl
    have a4 := cell_at (i := 4) HR.out.1 rfl
    have b4 := cell_at (i := 4) HR.out.2 rfl
    have a5 := cell_at (i := 5) HR.out.1 rfl
    have b5 := cell_at (i := 5) HR.out.2 rfl
    have t0 := cell_at (i := 0) H5.out rfl
    have u0 := cell_at (i := 0) H6.out rfl
    have t1 := cell_at (i := 1) H5.out rfl
    have u1 := cell_at (i := 1) H6.out rfl
    have t2 := cell_at (i := 2) H5.out rfl
    have u2 := cell_at (i := 2) H6.out rfl
    have t3 := cell_at (i := 3) H5.out rfl
    have u3 := cell_at (i := 3) H6.out rfl
    have t4 := cell_at (i := 4) H5.out rfl
    have u4 := cell_at (i := 4) H6.out rfl
    have t5 := cell_at (i := 5) H5.out rfl
    have u5 := cell_at (i := 5) H6.out rfl
    have t6 := cell_at (i := 6) H5.out rfl
    have u6 := cell_at (i := 6) H6.out rfl
    have l5 := leB_of_cell t0
    have l6 := leB_of_cell u0
    have la := leB_of_cell a0
    have lb := leB_of_cell b0
    have HBW := Lib.hid hbw
    clear hbw
    have HS := Lib.hid (fun W => signbit_any s.time HT.out W)
    have hnf := nan_fact s.time HT.out
    obtain ⟨sb, hsb⟩ : ∃ sb, decide (9223372036854775808 ≤ s.time) = sb := ⟨_, rfl⟩
    rw [hsb] at HS
    clear hsb h6 h7
    by_cases hn : s.time % 9223372036854775808 > 9218868437227405312
    · rw [decide_eq_true hn] at hnf
      have hnf2 : (FloatKind.f64.format.order s.time s.time == some .eq) = false := by simpa [bne] using hnf
      clear hn
      go_wp2
      refine wp_region_mix [(0, true), (1, true), (2, true), (3, true), (4, true), (5, true), (6, true), (7, true), (9, true), (10, true), (8, false), (11, false), (12, true), (13, true), (14, true), (15, true), (16, true), (17, true), (18, true), (19, true), (20, true), (21, true), (22, true), (23, true), (24, true), (25, true), (26, true), (27, true), (28, true)] (by kernel_rfl) (by kernel_rfl) rfl (by kernel_rfl) (by intro _ _ d _ _ h; cases d <;> exact h) ?_; intro j1; (repeat (first | (refine wpMix_skipK rfl rfl ?_; intro K hK; go_simp; refine hK _ ?_; clear hK K) | (refine wpMix_light rfl rfl ?_; intro K hK; go_simp; refine hK _ ?_; clear hK K) | (refine wpMix_heavy rfl rfl ?_; intro K hK; go_wp2_with ((go_at_call 30; (with_reducible refine (HS.out _).mono ?_); rintro e1 w1 ⟨rfl, hw⟩; replace hw := hw.symm; subst hw)); refine ⟨w_ext_of_below (by (repeat' (first | (with_reducible exact Below.refl _ _) | (with_reducible assumption) | (with_reducible exact below_app _ _ _ _) | (with_reducible refine below_pre ?_; (simp only [List.append_assoc, List.prefix_append, List.prefix_refl, List.prefix_append_right_inj])) | (with_reducible refine Below.alloc ?_ ?_ _) | (with_reducible refine below_ext ?_ ?_ _) | (with_reducible refine Below.drew ?_) | (with_reducible refine below_drewN ?_ _) | (with_reducible refine Below.setCell ?_ ?_ _) | go_size | (simp only [w_size_ext, List.length_append, World.alloc_size]; omega) | (simp; done) | (simp; omega)))), ?_⟩))); refine wpMix_nil ?_
      go_wp2
      go_loopw [90] (fun v90 wr => ∃ i : Nat, i ≤ mk ∧ v90 = .int .i64 (i : Int) ∧ ∃ jx, wr = wext w7 jx) (fun v90 _ => ((mk : Int) - intOf v90).toNat)
      case atStart => exact ⟨0, Nat.zero_le _, rfl, _, rfl⟩
      case round =>
        obtain ⟨i, hi, rfl, jx, rfl⟩ := hrel
        by_cases hin : i < mk
        · obtain ⟨ba, oa, eA, hca⟩ := HA.out i (by rw [HK.out]; exact hin)
          obtain ⟨bb, ob, eB, hcb⟩ := HB.out i (by rw [HK.out]; exact hin)
          subst eA; subst eB
          have hka := (HBW.out.cell (p := ⟨ba, oa + i, none⟩) (World.block_lt_of_cell? w _ hca)).trans hca
          have hkb := (HBW.out.cell (p := ⟨bb, ob + i, none⟩) (World.block_lt_of_cell? w _ hcb)).trans hcb
          have lka := leB_of_cell hka
          have lkb := leB_of_cell hkb
          generalize s.keep.getD i 0 = x at *
          clear hca hcb
          have hlt : (i : Int) < (mk : Int) := by omega
          have hge : (0 : Int) ≤ (i : Int) := by omega
          have hnl : ¬ (i : Int) < 0 := by omega
          have hwr : wrap64 ((i : Int) + 1) = (i : Int) + 1 := by have := HM.out; rw [wrap64_eq]; omega
          go_wp2
          refine wp_region_mix [(0, true), (1, true), (2, true), (3, true), (4, true), (5, true), (6, true), (7, true), (8, true), (9, true), (10, true)] (by kernel_rfl) (by kernel_rfl) rfl (by kernel_rfl) (by intro _ _ d _ _ h; cases d <;> exact h) ?_; intro j2; (repeat (first | (refine wpMix_skipK rfl rfl ?_; intro K hK; go_simp; refine hK _ ?_; clear hK K) | (refine wpMix_light rfl rfl ?_; intro K hK; go_simp; refine hK _ ?_; clear hK K) | (refine wpMix_heavy rfl rfl ?_; intro K hK; go_wp2_with (fail); refine ⟨w_ext_of_below (by (repeat' (first | (with_reducible exact Below.refl _ _) | (with_reducible assumption) | (with_reducible exact below_app _ _ _ _) | (with_reducible refine below_pre ?_; (simp only [List.append_assoc, List.prefix_append, List.prefix_refl, List.prefix_append_right_inj])) | (with_reducible refine Below.alloc ?_ ?_ _) | (with_reducible refine below_ext ?_ ?_ _) | (with_reducible refine Below.drew ?_) | (with_reducible refine below_drewN ?_ _) | (with_reducible refine Below.setCell ?_ ?_ _) | go_size | (simp only [w_size_ext, List.length_append, World.alloc_size]; omega) | (simp; done) | (simp; omega)))), ?_⟩))); refine wpMix_nil ?_
          go_wp2
          go_roundw
          case rel => exact ⟨i + 1, hin, by first | exact cast_one _ | (rw [hwr]; exact cast_one _), _, rfl⟩
          case measure => first | (rw [intOf_lit, intOf_lit, hwr]; omega) | (rw [intOf_lit, intOf_lit]; omega)
        · have hnlt : ¬ (i : Int) < (mk : Int) := by omega
          go_wp2
          go_ret
          exact ⟨rfl, below_tr HBW.out (w_ext_below _ _)⟩

    · have hq : decide (s.time % 9223372036854775808 > 9218868437227405312) = false := decide_eq_false hn
      rw [hq] at hnf
      have hnf2 : (FloatKind.f64.format.order s.time s.time == some .eq) = true := by simpa [bne] using hnf
      clear hn hq
      go_wp2
      refine wp_region_mix [(0, true), (1, true), (2, true), (3, true), (4, true), (5, true), (6, true), (7, true), (9, true), (10, true), (8, false), (11, false), (12, true), (13, true), (14, true), (15, true), (16, true), (17, true), (18, true), (19, true), (20, true), (21, true), (22, true), (23, true), (24, true), (25, true), (26, true), (27, true), (28, true)] (by kernel_rfl) (by kernel_rfl) rfl (by kernel_rfl) (by intro _ _ d _ _ h; cases d <;> exact h) ?_; intro j1; (repeat (first | (refine wpMix_skipK rfl rfl ?_; intro K hK; go_simp; refine hK _ ?_; clear hK K) | (refine wpMix_light rfl rfl ?_; intro K hK; go_simp; refine hK _ ?_; clear hK K) | (refine wpMix_heavy rfl rfl ?_; intro K hK; go_wp2_with ((go_at_call 30; (with_reducible refine (HS.out _).mono ?_); rintro e1 w1 ⟨rfl, hw⟩; replace hw := hw.symm; subst hw)); refine ⟨w_ext_of_below (by (repeat' (first | (with_reducible exact Below.refl _ _) | (with_reducible assumption) | (with_reducible exact below_app _ _ _ _) | (with_reducible refine below_pre ?_; (simp only [List.append_assoc, List.prefix_append, List.prefix_refl, List.prefix_append_right_inj])) | (with_reducible refine Below.alloc ?_ ?_ _) | (with_reducible refine below_ext ?_ ?_ _) | (with_reducible refine Below.drew ?_) | (with_reducible refine below_drewN ?_ _) | (with_reducible refine Below.setCell ?_ ?_ _) | go_size | (simp only [w_size_ext, List.length_append, World.alloc_size]; omega) | (simp; done) | (simp; omega)))), ?_⟩))); refine wpMix_nil ?_
      go_wp2
      go_loopw [90] (fun v90 wr => ∃ i : Nat, i ≤ mk ∧ v90 = .int .i64 (i : Int) ∧ ∃ jx, wr = wext w7 jx) (fun v90 _ => ((mk : Int) - intOf v90).toNat)
      case atStart => exact ⟨0, Nat.zero_le _, rfl, _, rfl⟩
      case round =>
        obtain ⟨i, hi, rfl, jx, rfl⟩ := hrel
        by_cases hin : i < mk
        · obtain ⟨ba, oa, eA, hca⟩ := HA.out i (by rw [HK.out]; exact hin)
          obtain ⟨bb, ob, eB, hcb⟩ := HB.out i (by rw [HK.out]; exact hin)
          subst eA; subst eB
          have hka := (HBW.out.cell (p := ⟨ba, oa + i, none⟩) (World.block_lt_of_cell? w _ hca)).trans hca
          have hkb := (HBW.out.cell (p := ⟨bb, ob + i, none⟩) (World.block_lt_of_cell? w _ hcb)).trans hcb
          have lka := leB_of_cell hka
          have lkb := leB_of_cell hkb
          generalize s.keep.getD i 0 = x at *
          clear hca hcb
          have hlt : (i : Int) < (mk : Int) := by omega
          have hge : (0 : Int) ≤ (i : Int) := by omega
          have hnl : ¬ (i : Int) < 0 := by omega
          have hwr : wrap64 ((i : Int) + 1) = (i : Int) + 1 := by have := HM.out; rw [wrap64_eq]; omega
          go_wp2
          refine wp_region_mix [(0, true), (1, true), (2, true), (3, true), (4, true), (5, true), (6, true), (7, true), (8, true), (9, true), (10, true)] (by kernel_rfl) (by kernel_rfl) rfl (by kernel_rfl) (by intro _ _ d _ _ h; cases d <;> exact h) ?_; intro j2; (repeat (first | (refine wpMix_skipK rfl rfl ?_; intro K hK; go_simp; refine hK _ ?_; clear hK K) | (refine wpMix_light rfl rfl ?_; intro K hK; go_simp; refine hK _ ?_; clear hK K) | (refine wpMix_heavy rfl rfl ?_; intro K hK; go_wp2_with (fail); refine ⟨w_ext_of_below (by (repeat' (first | (with_reducible exact Below.refl _ _) | (with_reducible assumption) | (with_reducible exact below_app _ _ _ _) | (with_reducible refine below_pre ?_; (simp only [List.append_assoc, List.prefix_append, List.prefix_refl, List.prefix_append_right_inj])) | (with_reducible refine Below.alloc ?_ ?_ _) | (with_reducible refine below_ext ?_ ?_ _) | (with_reducible refine Below.drew ?_) | (with_reducible refine below_drewN ?_ _) | (with_reducible refine Below.setCell ?_ ?_ _) | go_size | (simp only [w_size_ext, List.length_append, World.alloc_size]; omega) | (simp; done) | (simp; omega)))), ?_⟩))); refine wpMix_nil ?_
          go_wp2
          go_roundw
          case rel => exact ⟨i + 1, hin, by first | exact cast_one _ | (rw [hwr]; exact cast_one _), _, rfl⟩
          case measure => first | (rw [intOf_lit, intOf_lit, hwr]; omega) | (rw [intOf_lit, intOf_lit]; omega)
        · have hnlt : ¬ (i : Int) < (mk : Int) := by omega
          go_wp2
          go_ret
          exact ⟨rfl, below_tr HBW.out (w_ext_below _ _)⟩
  · refine wpOrdC_one rfl rfl ?_; intro K hK; go_wp2
    refine hK _ _ (HC0.out.alloc _) ?_; clear hK K
    refine wpOrdC_one rfl rfl ?_; intro K hK; go_wp2
    refine hK _ _ ((HC0.out.alloc _).alloc _) ?_; clear hK K
    refine wpOrdC_one rfl rfl ?_; intro K hK
    refine store_op (W := _) (g := w.heap.size + 1 + 1 + 1) 31 _ _ rfl rfl rfl HZ.out.2 (by kernel_rfl) rfl (by simp [Value.oneCell']) ?_
    intro w6 h6
    refine hK _ _ (((HC0.out.alloc _).alloc _).set h6 (by omega) (by omega)) ?_; clear hK K
    refine wpOrdC_one rfl rfl ?_; intro K hK
    refine store_op (W := w6) (g := w.heap.size + 1 + 1) 31 _ _ rfl rfl rfl ((h6.rest _ (by omega)).trans HZ.out.1) (by kernel_rfl) rfl (by simp [Value.oneCell']) ?_
    intro w7 h7
    refine hK _ _ ((((HC0.out.alloc _).alloc _).set h6 (by omega) (by omega)).set h7 (by omega) (by omega)) ?_; clear hK K
    refine wpOrdC_done ?_
    have hbw : Below w.heap.size w w7 := below7 h6 h7 (Below.drew (Below.alloc (Below.alloc (Below.alloc (Below.alloc (Below.refl _ _) (Nat.le_refl _) _) (by simp) _) (by simp; omega) _) (by simp; omega) _)) (by omega) (by omega)
    have HR := Lib.hid ((((HC0.out.alloc _).alloc _).set h6 (by omega) (by omega)).set h7 (by omega) (by omega))
    have H6 := Lib.hid ((h7.rest _ (by omega)).trans h6.at')
    have H5 := Lib.hid h7.at'
    have a0 := cell_at (i := 0) HR.out.1 rfl
    have b0 := cell_at (i := 0) HR.out.2 rfl
    have a1 := cell_at (i := 1) HR.out.1 rfl
    have b1 := cell_at (i := 1) HR.out.2 rfl
    have a2 := cell_at (i := 2) HR.out.1 rfl
    have b2 := cell_at (i := 2) HR.out.2 rfl
    have a3 := cell_at (i := 3) HR.out.1 rfl
    have b3 := cell_at (i := 3) HR.out.2 rfl
    have a4 := cell_at (i := 4) HR.out.1 rfl
    have b4 := cell_at (i := 4) HR.out.2 rfl
    have a5 := cell_at (i := 5) HR.out.1 rfl
    have b5 := cell_at (i := 5) HR.out.2 rfl
    have t0 := cell_at (i := 0) H5.out rfl
    have u0 := cell_at (i := 0) H6.out rfl
    have t1 := cell_at (i := 1) H5.out rfl
    have u1 := cell_at (i := 1) H6.out rfl
    have t2 := cell_at (i := 2) H5.out rfl
    have u2 := cell_at (i := 2) H6.out rfl
    have t3 := cell_at (i := 3) H5.out rfl
    have u3 := cell_at (i := 3) H6.out rfl
    have t4 := cell_at (i := 4) H5.out rfl
    have u4 := cell_at (i := 4) H6.out rfl
    have t5 := cell_at (i := 5) H5.out rfl
    have u5 := cell_at (i := 5) H6.out rfl
    have t6 := cell_at (i := 6) H5.out rfl
    have u6 := cell_at (i := 6) H6.out rfl
    have l5 := leB_of_cell t0
    have l6 := leB_of_cell u0
    have la := leB_of_cell a0
    have lb := leB_of_cell b0
    have HBW := Lib.hid hbw
    clear hbw
    have HS := Lib.hid (fun W => signbit_any s.time HT.out W)
    have hnf := nan_fact s.time HT.out
    obtain ⟨sb, hsb⟩ : ∃ sb, decide (9223372036854775808 ≤ s.time) = sb := ⟨_, rfl⟩
    rw [hsb] at HS
    clear hsb h6 h7
    by_cases hn : s.time % 9223372036854775808 > 9218868437227405312
    · rw [decide_eq_true hn] at hnf
      have hnf2 : (FloatKind.f64.format.order s.time s.time == some .eq) = false := by simpa [bne] using hnf
      clear hn
      go_wp2
      refine wp_region_mix [(0, true), (1, true), (2, true), (3, true), (4, true), (5, true), (6, true), (7, true), (9, true), (10, true), (8, false), (11, false), (12, true), (13, true), (14, true), (15, true), (16, true), (17, true), (18, true), (19, true), (20, true), (21, true), (22, true), (23, true), (24, true), (25, true), (26, true), (27, true), (28, true)] (by kernel_rfl) (by kernel_rfl) rfl (by kernel_rfl) (by intro _ _ d _ _ h; cases d <;> exact h) ?_; intro j1; (repeat (first | (refine wpMix_skipK rfl rfl ?_; intro K hK; go_simp; refine hK _ ?_; clear hK K) | (refine wpMix_light rfl rfl ?_; intro K hK; go_simp; refine hK _ ?_; clear hK K) | (refine wpMix_heavy rfl rfl ?_; intro K hK; go_wp2_with ((go_at_call 30; (with_reducible refine (HS.out _).mono ?_); rintro e1 w1 ⟨rfl, hw⟩; replace hw := hw.symm; subst hw)); refine ⟨w_ext_of_below (by (repeat' (first | (with_reducible exact Below.refl _ _) | (with_reducible assumption) | (with_reducible exact below_app _ _ _ _) | (with_reducible refine below_pre ?_; (simp only [List.append_assoc, List.prefix_append, List.prefix_refl, List.prefix_append_right_inj])) | (with_reducible refine Below.alloc ?_ ?_ _) | (with_reducible refine below_ext ?_ ?_ _) | (with_reducible refine Below.drew ?_) | (with_reducible refine below_drewN ?_ _) | (with_reducible refine Below.setCell ?_ ?_ _) | go_size | (simp only [w_size_ext, List.length_append, World.alloc_size]; omega) | (simp; done) | (simp; omega)))), ?_⟩))); refine wpMix_nil ?_
      go_wp2
      go_loopw [90] (fun v90 wr => ∃ i : Nat, i ≤ mk ∧ v90 = .int .i64 (i : Int) ∧ ∃ jx, wr = wext w7 jx) (fun v90 _ => ((mk : Int) - intOf v90).toNat)
      case atStart => exact ⟨0, Nat.zero_le _, rfl, _, rfl⟩
      case round =>
        obtain ⟨i, hi, rfl, jx, rfl⟩ := hrel
        by_cases hin : i < mk
        · obtain ⟨ba, oa, eA, hca⟩ := HA.out i (by rw [HK.out]; exact hin)
          obtain ⟨bb, ob, eB, hcb⟩ := HB.out i (by rw [HK.out]; exact hin)
          subst eA; subst eB
          have hka := (HBW.out.cell (p := ⟨ba, oa + i, none⟩) (World.block_lt_of_cell? w _ hca)).trans hca
          have hkb := (HBW.out.cell (p := ⟨bb, ob + i, none⟩) (World.block_lt_of_cell? w _ hcb)).trans hcb
          have lka := leB_of_cell hka
          have lkb := leB_of_cell hkb
          generalize s.keep.getD i 0 = x at *
          clear hca hcb
          have hlt : (i : Int) < (mk : Int) := by omega
          have hge : (0 : Int) ≤ (i : Int) := by omega
          have hnl : ¬ (i : Int) < 0 := by omega
          have hwr : wrap64 ((i : Int) + 1) = (i : Int) + 1 := by have := HM.out; rw [wrap64_eq]; omega
          go_wp2
          refine wp_region_mix [(0, true), (1, true), (2, true), (3, true), (4, true), (5, true), (6, true), (7, true), (8, true), (9, true), (10, true)] (by kernel_rfl) (by kernel_rfl) rfl (by kernel_rfl) (by intro _ _ d _ _ h; cases d <;> exact h) ?_; intro j2; (repeat (first | (refine wpMix_skipK rfl rfl ?_; intro K hK; go_simp; refine hK _ ?_; clear hK K) | (refine wpMix_light rfl rfl ?_; intro K hK; go_simp; refine hK _ ?_; clear hK K) | (refine wpMix_heavy rfl rfl ?_; intro K hK; go_wp2_with (fail); refine ⟨w_ext_of_below (by (repeat' (first | (with_reducible exact Below.refl _ _) | (with_reducible assumption) | (with_reducible exact below_app _ _ _ _) | (with_reducible refine below_pre ?_; (simp only [List.append_assoc, List.prefix_append, List.prefix_refl, List.prefix_append_right_inj])) | (with_reducible refine Below.alloc ?_ ?_ _) | (with_reducible refine below_ext ?_ ?_ _) | (with_reducible refine Below.drew ?_) | (with_reducible refine below_drewN ?_ _) | (with_reducible refine Below.setCell ?_ ?_ _) | go_size | (simp only [w_size_ext, List.length_append, World.alloc_size]; omega) | (simp; done) | (simp; omega)))), ?_⟩))); refine wpMix_nil ?_
          go_wp2
          go_roundw
          case rel => exact ⟨i + 1, hin, by first | exact cast_one _ | (rw [hwr]; exact cast_one _), _, rfl⟩
          case measure => first | (rw [intOf_lit, intOf_lit, hwr]; omega) | (rw [intOf_lit, intOf_lit]; omega)
        · have hnlt : ¬ (i : Int) < (mk : Int) := by omega
          go_wp2
          go_ret
          exact ⟨rfl, below_tr HBW.out (w_ext_below _ _)⟩

    · have hq : decide (s.time % 9223372036854775808 > 9218868437227405312) = false := decide_eq_false hn
      rw [hq] at hnf
      have hnf2 : (FloatKind.f64.format.order s.time s.time == some .eq) = true := by simpa [bne] using hnf
      clear hn hq
      go_wp2
      refine wp_region_mix [(0, true), (1, true), (2, true), (3, true), (4, true), (5, true), (6, true), (7, true), (9, true), (10, true), (8, false), (11, false), (12, true), (13, true), (14, true), (15, true), (16, true), (17, true), (18, true), (19, true), (20, true), (21, true), (22, true), (23, true), (24, true), (25, true), (26, true), (27, true), (28, true)] (by kernel_rfl) (by kernel_rfl) rfl (by kernel_rfl) (by intro _ _ d _ _ h; cases d <;> exact h) ?_; intro j1; (repeat (first | (refine wpMix_skipK rfl rfl ?_; intro K hK; go_simp; refine hK _ ?_; clear hK K) | (refine wpMix_light rfl rfl ?_; intro K hK; go_simp; refine hK _ ?_; clear hK K) | (refine wpMix_heavy rfl rfl ?_; intro K hK; go_wp2_with ((go_at_call 30; (with_reducible refine (HS.out _).mono ?_); rintro e1 w1 ⟨rfl, hw⟩; replace hw := hw.symm; subst hw)); refine ⟨w_ext_of_below (by (repeat' (first | (with_reducible exact Below.refl _ _) | (with_reducible assumption) | (with_reducible exact below_app _ _ _ _) | (with_reducible refine below_pre ?_; (simp only [List.append_assoc, List.prefix_append, List.prefix_refl, List.prefix_append_right_inj])) | (with_reducible refine Below.alloc ?_ ?_ _) | (with_reducible refine below_ext ?_ ?_ _) | (with_reducible refine Below.drew ?_) | (with_reducible refine below_drewN ?_ _) | (with_reducible refine Below.setCell ?_ ?_ _) | go_size | (simp only [w_size_ext, List.length_append, World.alloc_size]; omega) | (simp; done) | (simp; omega)))), ?_⟩))); refine wpMix_nil ?_
      go_wp2
      go_loopw [90] (fun v90 wr => ∃ i : Nat, i ≤ mk ∧ v90 = .int .i64 (i : Int) ∧ ∃ jx, wr = wext w7 jx) (fun v90 _ => ((mk : Int) - intOf v90).toNat)
      case atStart => exact ⟨0, Nat.zero_le _, rfl, _, rfl⟩
      case round =>
        obtain ⟨i, hi, rfl, jx, rfl⟩ := hrel
        by_cases hin : i < mk
        · obtain ⟨ba, oa, eA, hca⟩ := HA.out i (by rw [HK.out]; exact hin)
          obtain ⟨bb, ob, eB, hcb⟩ := HB.out i (by rw [HK.out]; exact hin)
          subst eA; subst eB
          have hka := (HBW.out.cell (p := ⟨ba, oa + i, none⟩) (World.block_lt_of_cell? w _ hca)).trans hca
          have hkb := (HBW.out.cell (p := ⟨bb, ob + i, none⟩) (World.block_lt_of_cell? w _ hcb)).trans hcb
          have lka := leB_of_cell hka
          have lkb := leB_of_cell hkb
          generalize s.keep.getD i 0 = x at *
          clear hca hcb
          have hlt : (i : Int) < (mk : Int) := by omega
          have hge : (0 : Int) ≤ (i : Int) := by omega
          have hnl : ¬ (i : Int) < 0 := by omega
          have hwr : wrap64 ((i : Int) + 1) = (i : Int) + 1 := by have := HM.out; rw [wrap64_eq]; omega
          go_wp2
          refine wp_region_mix [(0, true), (1, true), (2, true), (3, true), (4, true), (5, true), (6, true), (7, true), (8, true), (9, true), (10, true)] (by kernel_rfl) (by kernel_rfl) rfl (by kernel_rfl) (by intro _ _ d _ _ h; cases d <;> exact h) ?_; intro j2; (repeat (first | (refine wpMix_skipK rfl rfl ?_; intro K hK; go_simp; refine hK _ ?_; clear hK K) | (refine wpMix_light rfl rfl ?_; intro K hK; go_simp; refine hK _ ?_; clear hK K) | (refine wpMix_heavy rfl rfl ?_; intro K hK; go_wp2_with (fail); refine ⟨w_ext_of_below (by (repeat' (first | (with_reducible exact Below.refl _ _) | (with_reducible assumption) | (with_reducible exact below_app _ _ _ _) | (with_reducible refine below_pre ?_; (simp only [List.append_assoc, List.prefix_append, List.prefix_refl, List.prefix_append_right_inj])) | (with_reducible refine Below.alloc ?_ ?_ _) | (with_reducible refine below_ext ?_ ?_ _) | (with_reducible refine Below.drew ?_) | (with_reducible refine below_drewN ?_ _) | (with_reducible refine Below.setCell ?_ ?_ _) | go_size | (simp only [w_size_ext, List.length_append, World.alloc_size]; omega) | (simp; done) | (simp; omega)))), ?_⟩))); refine wpMix_nil ?_
          go_wp2
          go_roundw
          case rel => exact ⟨i + 1, hin, by first | exact cast_one _ | (rw [hwr]; exact cast_one _), _, rfl⟩
          case measure => first | (rw [intOf_lit, intOf_lit, hwr]; omega) | (rw [intOf_lit, intOf_lit]; omega)
        · have hnlt : ¬ (i : Int) < (mk : Int) := by omega
          go_wp2
          go_ret
          exact ⟨rfl, below_tr HBW.out (w_ext_below _ _)⟩
end Go.Proofs.YtmcooenafgihkaaGreatDoor
