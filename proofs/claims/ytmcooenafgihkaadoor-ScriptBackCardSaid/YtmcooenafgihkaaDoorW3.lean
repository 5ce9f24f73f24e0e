/- The law on a line and back: it returns true. No condition. -/
import Derived.Test.YtmcooenafgihkaaDoorT2
import Derived.Test.YtmcooenafgihkaaDoorP19
set_option linter.unusedSimpArgs false
set_option linter.unusedVariables false
namespace Go.Proofs.YtmcooenafgihkaaDoor
open Go.RowKit

theorem brief_small {s : StepR} (h : Brief s) : s.Small := by
  obtain ⟨h1, h2, h3, h4, h5, h6⟩ := h
  exact ⟨by omega, by omega, by omega, by omega, by omega⟩
theorem sts_one {w : World} {g : Nat} {s : StepR} {A : Option Addr} {mk ck : Nat} {t : TypeId} (h : w.heap[g]? = some (.cells (cellsOf s A mk ck) t (0, 0))) (hk : s.keep.length = mk) (hi : IntsAt w A s.keep) : StsAt w (some ⟨g, 0, none⟩) [s] := fun i hi' => by
  obtain rfl : i = 0 := by simpa using hi'
  refine ⟨g, 0, rfl, A, mk, ck, hi, hk, fun k hk => ?_⟩
  obtain ⟨v, hv⟩ : ∃ v, (cellsOf s A mk ck)[k]? = some v := ⟨_, Array.getElem?_eq_getElem (by simpa using hk)⟩
  have e : (0 : Nat) + 0 * 13 + k = k := by omega
  rw [e]
  exact (cell_at h hv).trans hv.symm
/-- The line of a step leads back to it. -/
theorem back_plain {s : StepR} (hf : s.Fine) (hm : s.Small) {ws : List Bs} (h : textW s = some ws) (hl : (joinW ws).length ≤ 200) : ∃ x, lineL (joinW ws) = some x ∧ x.kind = s.kind ∧ (s.kind = 1 → x.ck = s.ck) := by
  obtain ⟨x, h1, h2, h3⟩ := step_fwd hf h
  refine ⟨x, ?_, h2, h3⟩
  unfold lineL
  rw [if_neg (by omega), join_text hf hm h]
  exact h1
theorem str_self (s : ByteArray) : str s.data.toList = .string s := by
  show Value.string ⟨s.data.toList.toArray⟩ = Value.string s
  rw [Array.toArray_toList]
theorem tell_line (x : StepR) (A : Option Addr) (m c : Nat) (W : World) (line : ByteArray) (hf : x.Fine) (hm : x.Small) (hk : x.keep.length = m) (hl : x.keep.length ≤ 201) (hi : IntsAt W A x.keep) (hg : Glob W) {ws : List Bs} (ht : textW x = some ws) (hj : joinW ws = line.data.toList) : Calls Tryd.prog 7 #[.agg (stepCells x (.slice A m c))] W fun e w' => e = .returned (.tuple #[.string line, .int .i64 0]) ∧ Below W.heap.size W w' := by
  have h := script_text x A m c W hf hm hk (by omega) hi hg
  unfold LineP lineV at h
  rw [ht] at h
  simp only [hj, str_self] at h
  exact h
set_option maxHeartbeats 8000000 in
set_option maxRecDepth 100000 in
theorem back_law (s : StepR) (A : Option Addr) (mk ck : Nat) (line : ByteArray) (w : World) (hg : GlobM w) (hf : s.Fine) (hk : s.keep.length = mk) (hK : IntsAt w A s.keep) : Calls Tryd.prog 3 #[.agg #[.int .i64 s.kind, .int .i64 s.rep, .string s.vol, .string s.dst, .int .i64 s.n, .slice A mk ck, .int .i64 s.ck, .string s.path, .string s.cto, .int .i64 s.off, .int .i64 s.cn, .string s.data, f64 s.time], .string line] w (fun e w' => e = .returned (.bool true) ∧ Below w.heap.size w w') := by
  have HG := Lib.hid hg
  have HF := Lib.hid hf
  have HK := Lib.hid hk
  have HI := Lib.hid hK
  have HB1 := Lib.hid (show Below w.heap.size w (w.alloc (.cells #[.int .i64 s.kind, .int .i64 s.rep, .string s.vol, .string s.dst, .int .i64 s.n, .slice A mk ck, .int .i64 s.ck, .string s.path, .string s.cto, .int .i64 s.off, .int .i64 s.cn, .string s.data, f64 s.time] 27)) from Below.alloc (Below.refl _ _) (Nat.le_refl _) _)
  have HB2 := Lib.hid (show Below w.heap.size w ((w.alloc (.cells #[.int .i64 s.kind, .int .i64 s.rep, .string s.vol, .string s.dst, .int .i64 s.n, .slice A mk ck, .int .i64 s.ck, .string s.path, .string s.cto, .int .i64 s.off, .int .i64 s.cn, .string s.data, f64 s.time] 27)).alloc (.cells #[.int .i64 s.kind, .int .i64 s.rep, .string s.vol, .string s.dst, .int .i64 s.n, .slice A mk ck, .int .i64 s.ck, .string s.path, .string s.cto, .int .i64 s.off, .int .i64 s.cn, .string s.data, f64 s.time] 27)) from Below.alloc (Below.alloc (Below.refl _ _) (Nat.le_refl _) _) (by simp) _)
  have HX := Lib.hid (show ((w.alloc (.cells #[.int .i64 s.kind, .int .i64 s.rep, .string s.vol, .string s.dst, .int .i64 s.n, .slice A mk ck, .int .i64 s.ck, .string s.path, .string s.cto, .int .i64 s.off, .int .i64 s.cn, .string s.data, f64 s.time] 27)).alloc (.cells #[.int .i64 s.kind, .int .i64 s.rep, .string s.vol, .string s.dst, .int .i64 s.n, .slice A mk ck, .int .i64 s.ck, .string s.path, .string s.cto, .int .i64 s.off, .int .i64 s.cn, .string s.data, f64 s.time] 27)).heap[w.heap.size]? = some (.cells #[.int .i64 s.kind, .int .i64 s.rep, .string s.vol, .string s.dst, .int .i64 s.n, .slice A mk ck, .int .i64 s.ck, .string s.path, .string s.cto, .int .i64 s.off, .int .i64 s.cn, .string s.data, f64 s.time] 27 (0, 0)) from (heap_alloc_old (w.alloc (.cells #[.int .i64 s.kind, .int .i64 s.rep, .string s.vol, .string s.dst, .int .i64 s.n, .slice A mk ck, .int .i64 s.ck, .string s.path, .string s.cto, .int .i64 s.off, .int .i64 s.cn, .string s.data, f64 s.time] 27)) _ (by simp)).trans (heap_alloc_new w _))
  have HY := Lib.hid (show ((w.alloc (.cells #[.int .i64 s.kind, .int .i64 s.rep, .string s.vol, .string s.dst, .int .i64 s.n, .slice A mk ck, .int .i64 s.ck, .string s.path, .string s.cto, .int .i64 s.off, .int .i64 s.cn, .string s.data, f64 s.time] 27)).alloc (.cells #[.int .i64 s.kind, .int .i64 s.rep, .string s.vol, .string s.dst, .int .i64 s.n, .slice A mk ck, .int .i64 s.ck, .string s.path, .string s.cto, .int .i64 s.off, .int .i64 s.cn, .string s.data, f64 s.time] 27)).heap[w.heap.size + 1]? = some (.cells #[.int .i64 s.kind, .int .i64 s.rep, .string s.vol, .string s.dst, .int .i64 s.n, .slice A mk ck, .int .i64 s.ck, .string s.path, .string s.cto, .int .i64 s.off, .int .i64 s.cn, .string s.data, f64 s.time] 27 (0, 0)) by
    have h := heap_alloc_new (w.alloc (.cells #[.int .i64 s.kind, .int .i64 s.rep, .string s.vol, .string s.dst, .int .i64 s.n, .slice A mk ck, .int .i64 s.ck, .string s.path, .string s.cto, .int .i64 s.off, .int .i64 s.cn, .string s.data, f64 s.time] 27)) (.cells #[.int .i64 s.kind, .int .i64 s.rep, .string s.vol, .string s.dst, .int .i64 s.n, .slice A mk ck, .int .i64 s.ck, .string s.path, .string s.cto, .int .i64 s.off, .int .i64 s.cn, .string s.data, f64 s.time] 27)
    have e : (w.alloc (.cells #[.int .i64 s.kind, .int .i64 s.rep, .string s.vol, .string s.dst, .int .i64 s.n, .slice A mk ck, .int .i64 s.ck, .string s.path, .string s.cto, .int .i64 s.off, .int .i64 s.cn, .string s.data, f64 s.time] 27)).heap.size = w.heap.size + 1 := by simp
    rw [e] at h
    exact h)
  have HSH := Lib.hid (show Calls Tryd.prog 5 #[.slice (some ⟨w.heap.size + 1, 0, none⟩) 1 1] ((w.alloc (.cells #[.int .i64 s.kind, .int .i64 s.rep, .string s.vol, .string s.dst, .int .i64 s.n, .slice A mk ck, .int .i64 s.ck, .string s.path, .string s.cto, .int .i64 s.off, .int .i64 s.cn, .string s.data, f64 s.time] 27)).alloc (.cells #[.int .i64 s.kind, .int .i64 s.rep, .string s.vol, .string s.dst, .int .i64 s.n, .slice A mk ck, .int .i64 s.ck, .string s.path, .string s.cto, .int .i64 s.off, .int .i64 s.cn, .string s.data, f64 s.time] 27)) (ShC [s] ((w.alloc (.cells #[.int .i64 s.kind, .int .i64 s.rep, .string s.vol, .string s.dst, .int .i64 s.n, .slice A mk ck, .int .i64 s.ck, .string s.path, .string s.cto, .int .i64 s.off, .int .i64 s.cn, .string s.data, f64 s.time] 27)).alloc (.cells #[.int .i64 s.kind, .int .i64 s.rep, .string s.vol, .string s.dst, .int .i64 s.n, .slice A mk ck, .int .i64 s.ck, .string s.path, .string s.cto, .int .i64 s.off, .int .i64 s.cn, .string s.data, f64 s.time] 27))) from short_any (some ⟨w.heap.size + 1, 0, none⟩) 1 [s] _ (sts_one HY.out hk (hK.later HB2.out)) (show 1 ≤ 9223372036854775807 by decide))
  have HSM : Hid (∀ W, Calls Tryd.prog 9 #[.agg stepZero, .agg stepZero] W fun e w' => e = .returned (.bool true) ∧ Below W.heap.size W w') := Lib.hid fun W => same_main zeroR none none 0 0 0 W (Lib.hid (by decide)) (Lib.hid rfl) (Lib.hid (by decide)) (Lib.hid fun i hi => by simp [zeroR] at hi) (Lib.hid fun i hi => by simp [zeroR] at hi)
  have HT : Hid (Brief s → ∀ W, Glob W → IntsAt W A s.keep → Calls Tryd.prog 7 #[.agg #[.int .i64 s.kind, .int .i64 s.rep, .string s.vol, .string s.dst, .int .i64 s.n, .slice A mk ck, .int .i64 s.ck, .string s.path, .string s.cto, .int .i64 s.off, .int .i64 s.cn, .string s.data, f64 s.time]] W (LineP (textW s) W)) := Lib.hid fun hb W h1 h2 => script_text s A mk ck W hf (brief_small hb) hk (by have := hb.2.2.2.2.2; omega) h2 h1
  clear hg hf hk hK
  go_enter Tryd.func3, Tryd.ntmps3
  go_wp2_with (fail)
  refine HSH.out.mono ?_
  rintro e1 w1 ⟨b, rfl, hb1, hbr⟩
  have HBR := Lib.hid hbr
  have HXX := Lib.hid ((hb1.block w.heap.size (Array.getElem?_eq_some_iff.1 HX.out).1).trans HX.out)
  have HB3 := Lib.hid (below_tr HB2.out hb1)
  have HG1 := Lib.hid (HG.out.later HB3.out)
  clear hb1 hbr
  cases b
  · go_wp2_with (go_at_call 6; (with_reducible refine (awake_any _ HG1.out).mono ?_); rintro e9 w9 ⟨rfl, hb9⟩; have HB9 := Lib.hid (below_tr HB3.out hb9); clear hb9)
    go_ret
    exact ⟨rfl, HB9.out⟩
  by_cases hl : 2048 < (line.size : Int)
  · go_wp2_with (go_at_call 6; (with_reducible refine (awake_any _ HG1.out).mono ?_); rintro e9 w9 ⟨rfl, hb9⟩; have HB9 := Lib.hid (below_tr HB3.out hb9); clear hb9)
    go_ret
    exact ⟨rfl, HB9.out⟩
  have HBF := Lib.hid (show Brief s from (HBR.out rfl).2 0 (Nat.succ_pos _))
  have HT1 := Lib.hid (HT.out HBF.out)
  have hld := (row_load (ty := 27) HXX.out Tryd.underlying27 (by kernel_rfl)).2
  clear HT
  go_wp2_with (refine load_step 27 _ rfl rfl rfl hld ?_)
  refine (HT1.out _ HG1.out.glob (HI.out.later HB3.out)).mono ?_
  cases htx : textW s with
  | none =>
    rintro e4 w4 ⟨rfl, hb4⟩
    have HB4 := Lib.hid (below_tr HB3.out hb4)
    have HG4 := Lib.hid (HG.out.later HB4.out)
    clear hb4 hld
    simp only [lineV]
    go_wp2_with (fail)
    refine (line_any line _ HG4.out).mono ?_
    rintro e5 w5 (⟨x, v, hx, rfl, hb5, ho5⟩ | ⟨hx, rfl, hb5⟩)
    · obtain ⟨⟨hxf, hxm⟩, hxk, xs, hxt, hxj⟩ := line_ok hx
      obtain ⟨A5, m5, c5, rfl⟩ := own_sl ho5
      obtain ⟨hi5, hm5⟩ := ints_at ho5
      obtain ⟨w6, hst6, hs6⟩ := row_store (w := w5.alloc (.cells stepZero 27)) (ty := 27) (cs := stepCells x (.slice A5 m5 c5)) (heap_alloc_new w5 _) (by kernel_rfl) rfl (by simp [Value.oneCell'])
      have hb6 : Below w5.heap.size w5 w6 := ⟨hs6.os, hs6.tape, hs6.output, by rw [hs6.size]; simp, fun j hj => (hs6.rest j (by omega)).trans (Lib.alloc_old w5 _ j hj)⟩
      have HB6 := Lib.hid (below_tr (below_tr HB4.out hb5) hb6)
      have HTX : Hid (Calls Tryd.prog 7 #[.agg (stepCells x (.slice A5 m5 c5))] w6 fun e w' => e = .returned (.tuple #[.string line, .int .i64 0]) ∧ Below w6.heap.size w6 w') := Lib.hid (tell_line x A5 m5 c5 w6 line hxf hxm hm5 hxk (hi5.later hb6) (HG.out.later HB6.out).glob hxt hxj)
      have hld6 := (row_load (ty := 27) hs6.at' Tryd.underlying27 (by kernel_rfl)).2
      clear hxf hxm hxk hxt hxj hi5 hm5 hs6 hb6 hb5 ho5 hx
      go_wp2_with (first | (refine store_step 27 _ _ rfl rfl rfl rfl hst6 ?_) | (refine load_step 27 _ rfl rfl rfl hld6 ?_))
      refine HTX.out.mono ?_
      rintro e7 w7 ⟨rfl, hb7⟩
      have HB7 := Lib.hid (below_tr HB6.out hb7)
      have HG7 := Lib.hid (HG.out.later HB7.out)
      clear hb7 hst6 hld6
      go_wp2_with (go_at_call 6; (with_reducible refine (awake_any _ HG7.out).mono ?_); rintro e9 w9 ⟨rfl, hb9⟩; have HB9 := Lib.hid (below_tr HB7.out hb9); clear hb9)
      go_ret
      exact ⟨rfl, HB9.out⟩
    · obtain ⟨w6, hst6, hs6⟩ := row_store (w := w5.alloc (.cells stepZero 27)) (ty := 27) (cs := stepZero) (heap_alloc_new w5 _) (by kernel_rfl) rfl (by simp [Value.oneCell'])
      have hb6 : Below w5.heap.size w5 w6 := ⟨hs6.os, hs6.tape, hs6.output, by rw [hs6.size]; simp, fun j hj => (hs6.rest j (by omega)).trans (Lib.alloc_old w5 _ j hj)⟩
      have HB6 := Lib.hid (below_tr (below_tr HB4.out hb5) hb6)
      have hld6 := (row_load (ty := 27) hs6.at' Tryd.underlying27 (by kernel_rfl)).2
      clear hs6 hb6 hb5 hx
      go_wp2_with (first | (refine store_step 27 _ _ rfl rfl rfl rfl hst6 ?_) | (refine load_step 27 _ rfl rfl rfl hld6 ?_))
      refine (HSM.out _).mono ?_
      rintro e7 w7 ⟨rfl, hb7⟩
      have HB7 := Lib.hid (below_tr HB6.out hb7)
      have HG7 := Lib.hid (HG.out.later HB7.out)
      clear hb7 hst6 hld6
      go_wp2_with (go_at_call 6; (with_reducible refine (awake_any _ HG7.out).mono ?_); rintro e9 w9 ⟨rfl, hb9⟩; have HB9 := Lib.hid (below_tr HB7.out hb9); clear hb9)
      go_ret
      exact ⟨rfl, HB9.out⟩
  | some ws =>
    rintro e4 w4 ⟨rfl, hb4⟩
    have HB4 := Lib.hid (below_tr HB3.out hb4)
    have HG4 := Lib.hid (HG.out.later HB4.out)
    have HX4 := Lib.hid ((hb4.block w.heap.size (Array.getElem?_eq_some_iff.1 HXX.out).1).trans HXX.out)
    clear hb4 hld
    obtain ⟨t, ht⟩ : ∃ t : ByteArray, (⟨(joinW ws).toArray⟩ : ByteArray) = t := ⟨_, rfl⟩
    have htl : t.data.toList = joinW ws := by rw [← ht]
    have HBP : Hid (t.size ≤ 200 → ∃ x, lineL t.data.toList = some x ∧ x.kind = s.kind ∧ (s.kind = 1 → x.ck = s.ck)) := Lib.hid fun hle => by
      have e : t.size = (joinW ws).length := by rw [← htl, Array.length_toList]; rfl
      rw [htl]
      exact back_plain HF.out (brief_small HBF.out) htx (by omega)
    simp only [lineV]
    rw [show str (joinW ws) = Value.string t by rw [← ht]]
    clear ht htl htx HT1
    by_cases hq : (t.size : Int) ≤ 200
    · obtain ⟨x, hxl, hxk, hxc⟩ := HBP.out (by omega)
      have HXL := Lib.hid hxl
      clear hxl
      go_wp2_with (fail)
      refine (line_any t _ HG4.out).mono ?_
      rintro ea wa (⟨x2, va, hxa, rfl, hba, hoa⟩ | ⟨hxa, _, _⟩)
      · obtain rfl : x = x2 := by
          have := HXL.out.symm.trans hxa
          injection this
        obtain ⟨⟨hxf, hxm⟩, hxk2, xs, hxt, hxj⟩ := line_ok hxa
        obtain ⟨Aa, ma, ca, rfl⟩ := own_sl hoa
        obtain ⟨hia, hma⟩ := ints_at hoa
        obtain ⟨wb, hstb, hsb⟩ := row_store (w := wa.alloc (.cells stepZero 27)) (ty := 27) (cs := stepCells x (.slice Aa ma ca)) (heap_alloc_new wa _) (by kernel_rfl) rfl (by simp [Value.oneCell'])
        have hbb : Below wa.heap.size wa wb := ⟨hsb.os, hsb.tape, hsb.output, by rw [hsb.size]; simp, fun j hj => (hsb.rest j (by omega)).trans (Lib.alloc_old wa _ j hj)⟩
        have HBB := Lib.hid (below_tr (below_tr HB4.out hba) hbb)
        have hxb := (hbb.block w.heap.size (Nat.lt_of_lt_of_le (Array.getElem?_eq_some_iff.1 HX4.out).1 hba.size)).trans ((hba.block w.heap.size (Array.getElem?_eq_some_iff.1 HX4.out).1).trans HX4.out)
        have HTX : Hid (Calls Tryd.prog 7 #[.agg (stepCells x (.slice Aa ma ca))] wb fun e w' => e = .returned (.tuple #[.string t, .int .i64 0]) ∧ Below wb.heap.size wb w') := Lib.hid (tell_line x Aa ma ca wb t hxf hxm hma hxk2 (hia.later hbb) (HG.out.later HBB.out).glob hxt hxj)
        have hldb := (row_load (ty := 27) hsb.at' Tryd.underlying27 (by kernel_rfl)).2
        have HXB := Lib.hid hxb
        have HSB := Lib.hid hsb.at'
        clear hxf hxm hxk2 hxt hxj hia hma hsb hbb hba hoa hxa hxb
        go_wp2_with (first | (refine store_step 27 _ _ rfl rfl rfl rfl hstb ?_) | (refine load_step 27 _ rfl rfl rfl hldb ?_))
        refine HTX.out.mono ?_
        rintro ec wc ⟨rfl, hbc⟩
        have HBC := Lib.hid (below_tr HBB.out hbc)
        have HGC := Lib.hid (HG.out.later HBC.out)
        have hxc2 := (hbc.block w.heap.size (Array.getElem?_eq_some_iff.1 HXB.out).1).trans HXB.out
        have hsc2 := (hbc.block wa.heap.size (Array.getElem?_eq_some_iff.1 HSB.out).1).trans HSB.out
        have d0 : wc.cell? ⟨w.heap.size, 0, none⟩ = some (.int .i64 s.kind) := cell_at (i := 0) hxc2 rfl
        have d6 : wc.cell? ⟨w.heap.size, 6, none⟩ = some (.int .i64 s.ck) := cell_at (i := 6) hxc2 rfl
        have c0 : wc.cell? ⟨wa.heap.size, 0, none⟩ = some (.int .i64 x.kind) := cell_at (i := 0) hsc2 rfl
        have c6 : wc.cell? ⟨wa.heap.size, 6, none⟩ = some (.int .i64 x.ck) := cell_at (i := 6) hsc2 rfl
        rw [hxk] at c0
        have ld := leB_of_cell d0
        have lc := leB_of_cell c0
        clear hbc hstb hldb hxc2 hsc2 hxk HTX
        by_cases hk1 : s.kind = 1
        · rw [hxc hk1] at c6
          clear hxc
          go_wp2_with (fail)
          refine (line_any line _ HGC.out).mono ?_
          rintro e5 w5 (⟨x, v, hx, rfl, hb5, ho5⟩ | ⟨hx, rfl, hb5⟩)
          · obtain ⟨⟨hxf, hxm⟩, hxk, xs, hxt, hxj⟩ := line_ok hx
            obtain ⟨A5, m5, c5, rfl⟩ := own_sl ho5
            obtain ⟨hi5, hm5⟩ := ints_at ho5
            obtain ⟨w6, hst6, hs6⟩ := row_store (w := w5.alloc (.cells stepZero 27)) (ty := 27) (cs := stepCells x (.slice A5 m5 c5)) (heap_alloc_new w5 _) (by kernel_rfl) rfl (by simp [Value.oneCell'])
            have hb6 : Below w5.heap.size w5 w6 := ⟨hs6.os, hs6.tape, hs6.output, by rw [hs6.size]; simp, fun j hj => (hs6.rest j (by omega)).trans (Lib.alloc_old w5 _ j hj)⟩
            have HB6 := Lib.hid (below_tr (below_tr HBC.out hb5) hb6)
            have HTX : Hid (Calls Tryd.prog 7 #[.agg (stepCells x (.slice A5 m5 c5))] w6 fun e w' => e = .returned (.tuple #[.string line, .int .i64 0]) ∧ Below w6.heap.size w6 w') := Lib.hid (tell_line x A5 m5 c5 w6 line hxf hxm hm5 hxk (hi5.later hb6) (HG.out.later HB6.out).glob hxt hxj)
            have hld6 := (row_load (ty := 27) hs6.at' Tryd.underlying27 (by kernel_rfl)).2
            clear hxf hxm hxk hxt hxj hi5 hm5 hs6 hb6 hb5 ho5 hx
            go_wp2_with (first | (refine store_step 27 _ _ rfl rfl rfl rfl hst6 ?_) | (refine load_step 27 _ rfl rfl rfl hld6 ?_))
            refine HTX.out.mono ?_
            rintro e7 w7 ⟨rfl, hb7⟩
            have HB7 := Lib.hid (below_tr HB6.out hb7)
            have HG7 := Lib.hid (HG.out.later HB7.out)
            clear hb7 hst6 hld6
            go_wp2_with (go_at_call 6; (with_reducible refine (awake_any _ HG7.out).mono ?_); rintro e9 w9 ⟨rfl, hb9⟩; have HB9 := Lib.hid (below_tr HB7.out hb9); clear hb9)
            go_ret
            exact ⟨rfl, HB9.out⟩
          · obtain ⟨w6, hst6, hs6⟩ := row_store (w := w5.alloc (.cells stepZero 27)) (ty := 27) (cs := stepZero) (heap_alloc_new w5 _) (by kernel_rfl) rfl (by simp [Value.oneCell'])
            have hb6 : Below w5.heap.size w5 w6 := ⟨hs6.os, hs6.tape, hs6.output, by rw [hs6.size]; simp, fun j hj => (hs6.rest j (by omega)).trans (Lib.alloc_old w5 _ j hj)⟩
            have HB6 := Lib.hid (below_tr (below_tr HBC.out hb5) hb6)
            have hld6 := (row_load (ty := 27) hs6.at' Tryd.underlying27 (by kernel_rfl)).2
            clear hs6 hb6 hb5 hx
            go_wp2_with (first | (refine store_step 27 _ _ rfl rfl rfl rfl hst6 ?_) | (refine load_step 27 _ rfl rfl rfl hld6 ?_))
            refine (HSM.out _).mono ?_
            rintro e7 w7 ⟨rfl, hb7⟩
            have HB7 := Lib.hid (below_tr HB6.out hb7)
            have HG7 := Lib.hid (HG.out.later HB7.out)
            clear hb7 hst6 hld6
            go_wp2_with (go_at_call 6; (with_reducible refine (awake_any _ HG7.out).mono ?_); rintro e9 w9 ⟨rfl, hb9⟩; have HB9 := Lib.hid (below_tr HB7.out hb9); clear hb9)
            go_ret
            exact ⟨rfl, HB9.out⟩
        · have hk2 : (s.kind == 1) = false := by simpa using hk1
          clear hxc
          by_cases hcc : x.ck = s.ck
          · rw [hcc] at c6
            go_wp2_with (fail)
            refine (line_any line _ HGC.out).mono ?_
            rintro e5 w5 (⟨x, v, hx, rfl, hb5, ho5⟩ | ⟨hx, rfl, hb5⟩)
            · obtain ⟨⟨hxf, hxm⟩, hxk, xs, hxt, hxj⟩ := line_ok hx
              obtain ⟨A5, m5, c5, rfl⟩ := own_sl ho5
              obtain ⟨hi5, hm5⟩ := ints_at ho5
              obtain ⟨w6, hst6, hs6⟩ := row_store (w := w5.alloc (.cells stepZero 27)) (ty := 27) (cs := stepCells x (.slice A5 m5 c5)) (heap_alloc_new w5 _) (by kernel_rfl) rfl (by simp [Value.oneCell'])
              have hb6 : Below w5.heap.size w5 w6 := ⟨hs6.os, hs6.tape, hs6.output, by rw [hs6.size]; simp, fun j hj => (hs6.rest j (by omega)).trans (Lib.alloc_old w5 _ j hj)⟩
              have HB6 := Lib.hid (below_tr (below_tr HBC.out hb5) hb6)
              have HTX : Hid (Calls Tryd.prog 7 #[.agg (stepCells x (.slice A5 m5 c5))] w6 fun e w' => e = .returned (.tuple #[.string line, .int .i64 0]) ∧ Below w6.heap.size w6 w') := Lib.hid (tell_line x A5 m5 c5 w6 line hxf hxm hm5 hxk (hi5.later hb6) (HG.out.later HB6.out).glob hxt hxj)
              have hld6 := (row_load (ty := 27) hs6.at' Tryd.underlying27 (by kernel_rfl)).2
              clear hxf hxm hxk hxt hxj hi5 hm5 hs6 hb6 hb5 ho5 hx
              go_wp2_with (first | (refine store_step 27 _ _ rfl rfl rfl rfl hst6 ?_) | (refine load_step 27 _ rfl rfl rfl hld6 ?_))
              refine HTX.out.mono ?_
              rintro e7 w7 ⟨rfl, hb7⟩
              have HB7 := Lib.hid (below_tr HB6.out hb7)
              have HG7 := Lib.hid (HG.out.later HB7.out)
              clear hb7 hst6 hld6
              go_wp2_with (go_at_call 6; (with_reducible refine (awake_any _ HG7.out).mono ?_); rintro e9 w9 ⟨rfl, hb9⟩; have HB9 := Lib.hid (below_tr HB7.out hb9); clear hb9)
              go_ret
              exact ⟨rfl, HB9.out⟩
            · obtain ⟨w6, hst6, hs6⟩ := row_store (w := w5.alloc (.cells stepZero 27)) (ty := 27) (cs := stepZero) (heap_alloc_new w5 _) (by kernel_rfl) rfl (by simp [Value.oneCell'])
              have hb6 : Below w5.heap.size w5 w6 := ⟨hs6.os, hs6.tape, hs6.output, by rw [hs6.size]; simp, fun j hj => (hs6.rest j (by omega)).trans (Lib.alloc_old w5 _ j hj)⟩
              have HB6 := Lib.hid (below_tr (below_tr HBC.out hb5) hb6)
              have hld6 := (row_load (ty := 27) hs6.at' Tryd.underlying27 (by kernel_rfl)).2
              clear hs6 hb6 hb5 hx
              go_wp2_with (first | (refine store_step 27 _ _ rfl rfl rfl rfl hst6 ?_) | (refine load_step 27 _ rfl rfl rfl hld6 ?_))
              refine (HSM.out _).mono ?_
              rintro e7 w7 ⟨rfl, hb7⟩
              have HB7 := Lib.hid (below_tr HB6.out hb7)
              have HG7 := Lib.hid (HG.out.later HB7.out)
              clear hb7 hst6 hld6
              go_wp2_with (go_at_call 6; (with_reducible refine (awake_any _ HG7.out).mono ?_); rintro e9 w9 ⟨rfl, hb9⟩; have HB9 := Lib.hid (below_tr HB7.out hb9); clear hb9)
              go_ret
              exact ⟨rfl, HB9.out⟩
          · have hc2 : (x.ck != s.ck) = true := by simpa using hcc
            go_wp2_with (fail)
            refine (line_any line _ HGC.out).mono ?_
            rintro e5 w5 (⟨x, v, hx, rfl, hb5, ho5⟩ | ⟨hx, rfl, hb5⟩)
            · obtain ⟨⟨hxf, hxm⟩, hxk, xs, hxt, hxj⟩ := line_ok hx
              obtain ⟨A5, m5, c5, rfl⟩ := own_sl ho5
              obtain ⟨hi5, hm5⟩ := ints_at ho5
              obtain ⟨w6, hst6, hs6⟩ := row_store (w := w5.alloc (.cells stepZero 27)) (ty := 27) (cs := stepCells x (.slice A5 m5 c5)) (heap_alloc_new w5 _) (by kernel_rfl) rfl (by simp [Value.oneCell'])
              have hb6 : Below w5.heap.size w5 w6 := ⟨hs6.os, hs6.tape, hs6.output, by rw [hs6.size]; simp, fun j hj => (hs6.rest j (by omega)).trans (Lib.alloc_old w5 _ j hj)⟩
              have HB6 := Lib.hid (below_tr (below_tr HBC.out hb5) hb6)
              have HTX : Hid (Calls Tryd.prog 7 #[.agg (stepCells x (.slice A5 m5 c5))] w6 fun e w' => e = .returned (.tuple #[.string line, .int .i64 0]) ∧ Below w6.heap.size w6 w') := Lib.hid (tell_line x A5 m5 c5 w6 line hxf hxm hm5 hxk (hi5.later hb6) (HG.out.later HB6.out).glob hxt hxj)
              have hld6 := (row_load (ty := 27) hs6.at' Tryd.underlying27 (by kernel_rfl)).2
              clear hxf hxm hxk hxt hxj hi5 hm5 hs6 hb6 hb5 ho5 hx
              go_wp2_with (first | (refine store_step 27 _ _ rfl rfl rfl rfl hst6 ?_) | (refine load_step 27 _ rfl rfl rfl hld6 ?_))
              refine HTX.out.mono ?_
              rintro e7 w7 ⟨rfl, hb7⟩
              have HB7 := Lib.hid (below_tr HB6.out hb7)
              have HG7 := Lib.hid (HG.out.later HB7.out)
              clear hb7 hst6 hld6
              go_wp2_with (go_at_call 6; (with_reducible refine (awake_any _ HG7.out).mono ?_); rintro e9 w9 ⟨rfl, hb9⟩; have HB9 := Lib.hid (below_tr HB7.out hb9); clear hb9)
              go_ret
              exact ⟨rfl, HB9.out⟩
            · obtain ⟨w6, hst6, hs6⟩ := row_store (w := w5.alloc (.cells stepZero 27)) (ty := 27) (cs := stepZero) (heap_alloc_new w5 _) (by kernel_rfl) rfl (by simp [Value.oneCell'])
              have hb6 : Below w5.heap.size w5 w6 := ⟨hs6.os, hs6.tape, hs6.output, by rw [hs6.size]; simp, fun j hj => (hs6.rest j (by omega)).trans (Lib.alloc_old w5 _ j hj)⟩
              have HB6 := Lib.hid (below_tr (below_tr HBC.out hb5) hb6)
              have hld6 := (row_load (ty := 27) hs6.at' Tryd.underlying27 (by kernel_rfl)).2
              clear hs6 hb6 hb5 hx
              go_wp2_with (first | (refine store_step 27 _ _ rfl rfl rfl rfl hst6 ?_) | (refine load_step 27 _ rfl rfl rfl hld6 ?_))
              refine (HSM.out _).mono ?_
              rintro e7 w7 ⟨rfl, hb7⟩
              have HB7 := Lib.hid (below_tr HB6.out hb7)
              have HG7 := Lib.hid (HG.out.later HB7.out)
              clear hb7 hst6 hld6
              go_wp2_with (go_at_call 6; (with_reducible refine (awake_any _ HG7.out).mono ?_); rintro e9 w9 ⟨rfl, hb9⟩; have HB9 := Lib.hid (below_tr HB7.out hb9); clear hb9)
              go_ret
              exact ⟨rfl, HB9.out⟩
      · have := HXL.out.symm.trans hxa
        cases this
    · clear HBP
      go_wp2_with (fail)
      refine (line_any line _ HG4.out).mono ?_
      rintro e5 w5 (⟨x, v, hx, rfl, hb5, ho5⟩ | ⟨hx, rfl, hb5⟩)
      · obtain ⟨⟨hxf, hxm⟩, hxk, xs, hxt, hxj⟩ := line_ok hx
        obtain ⟨A5, m5, c5, rfl⟩ := own_sl ho5
        obtain ⟨hi5, hm5⟩ := ints_at ho5
        obtain ⟨w6, hst6, hs6⟩ := row_store (w := w5.alloc (.cells stepZero 27)) (ty := 27) (cs := stepCells x (.slice A5 m5 c5)) (heap_alloc_new w5 _) (by kernel_rfl) rfl (by simp [Value.oneCell'])
        have hb6 : Below w5.heap.size w5 w6 := ⟨hs6.os, hs6.tape, hs6.output, by rw [hs6.size]; simp, fun j hj => (hs6.rest j (by omega)).trans (Lib.alloc_old w5 _ j hj)⟩
        have HB6 := Lib.hid (below_tr (below_tr HB4.out hb5) hb6)
        have HTX : Hid (Calls Tryd.prog 7 #[.agg (stepCells x (.slice A5 m5 c5))] w6 fun e w' => e = .returned (.tuple #[.string line, .int .i64 0]) ∧ Below w6.heap.size w6 w') := Lib.hid (tell_line x A5 m5 c5 w6 line hxf hxm hm5 hxk (hi5.later hb6) (HG.out.later HB6.out).glob hxt hxj)
        have hld6 := (row_load (ty := 27) hs6.at' Tryd.underlying27 (by kernel_rfl)).2
        clear hxf hxm hxk hxt hxj hi5 hm5 hs6 hb6 hb5 ho5 hx
        go_wp2_with (first | (refine store_step 27 _ _ rfl rfl rfl rfl hst6 ?_) | (refine load_step 27 _ rfl rfl rfl hld6 ?_))
        refine HTX.out.mono ?_
        rintro e7 w7 ⟨rfl, hb7⟩
        have HB7 := Lib.hid (below_tr HB6.out hb7)
        have HG7 := Lib.hid (HG.out.later HB7.out)
        clear hb7 hst6 hld6
        go_wp2_with (go_at_call 6; (with_reducible refine (awake_any _ HG7.out).mono ?_); rintro e9 w9 ⟨rfl, hb9⟩; have HB9 := Lib.hid (below_tr HB7.out hb9); clear hb9)
        go_ret
        exact ⟨rfl, HB9.out⟩
      · obtain ⟨w6, hst6, hs6⟩ := row_store (w := w5.alloc (.cells stepZero 27)) (ty := 27) (cs := stepZero) (heap_alloc_new w5 _) (by kernel_rfl) rfl (by simp [Value.oneCell'])
        have hb6 : Below w5.heap.size w5 w6 := ⟨hs6.os, hs6.tape, hs6.output, by rw [hs6.size]; simp, fun j hj => (hs6.rest j (by omega)).trans (Lib.alloc_old w5 _ j hj)⟩
        have HB6 := Lib.hid (below_tr (below_tr HB4.out hb5) hb6)
        have hld6 := (row_load (ty := 27) hs6.at' Tryd.underlying27 (by kernel_rfl)).2
        clear hs6 hb6 hb5 hx
        go_wp2_with (first | (refine store_step 27 _ _ rfl rfl rfl rfl hst6 ?_) | (refine load_step 27 _ rfl rfl rfl hld6 ?_))
        refine (HSM.out _).mono ?_
        rintro e7 w7 ⟨rfl, hb7⟩
        have HB7 := Lib.hid (below_tr HB6.out hb7)
        have HG7 := Lib.hid (HG.out.later HB7.out)
        clear hb7 hst6 hld6
        go_wp2_with (go_at_call 6; (with_reducible refine (awake_any _ HG7.out).mono ?_); rintro e9 w9 ⟨rfl, hb9⟩; have HB9 := Lib.hid (below_tr HB7.out hb9); clear hb9)
        go_ret
        exact ⟨rfl, HB9.out⟩
end Go.Proofs.YtmcooenafgihkaaDoor
