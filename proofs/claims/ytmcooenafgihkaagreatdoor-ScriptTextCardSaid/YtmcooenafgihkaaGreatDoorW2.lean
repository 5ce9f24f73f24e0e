/- The law on a step as a line: it returns true. No condition. -/
import Derived.Test.YtmcooenafgihkaaGreatDoorT1
import Derived.Test.YtmcooenafgihkaaGreatDoorP19
import Derived.Test.YtmcooenafgihkaaGreatDoorQ10
set_option linter.unusedSimpArgs false
set_option linter.unusedVariables false
namespace Go.Proofs.YtmcooenafgihkaaGreatDoor
open Go.RowKit

theorem brief_small {s : StepR} (h : Brief s) : s.Small := by
  obtain ⟨h1, h2, h3, h4, h5, h6⟩ := h
  exact ⟨by omega, by omega, by omega, by omega, by omega⟩
theorem sts_one {w : World} {g : Nat} {s : StepR} {A : Option Addr} {mk ck : Nat} {t : TypeId} (h : w.heap[g]? = some (.cells (cellsOf s A mk ck) t (0, 0))) (hk : s.keep.length = mk) (hi : IntsAt w A s.keep) : StsAt w (some ⟨g, 0, none⟩) [s] := fun i hi' => by
  obtain rfl : i = 0 := by simpa using hi'
  refine ⟨g, 0, rfl, A, mk, ck, hi, hk, fun k hk => ?_⟩
  obtain ⟨v, hv⟩ : ∃ v, (cellsOf s A mk ck)[k]? = some v := ⟨_, Array.getElem?_eq_getElem (by simpa using hk)⟩
  have e : (0 : Nat) + 0 * 13 + k = k := by omega
  rw [e]
  exact (cell_at h hv).trans hv.symm
theorem line_form (R : Option (List Bs)) : ∃ t c, lineV R = .tuple #[.string t, .int .i64 c] := by
  cases R with
  | none => exact ⟨_, _, rfl⟩
  | some l => exact ⟨_, _, rfl⟩
set_option maxHeartbeats 8000000 in
set_option maxRecDepth 100000 in
theorem text_law (s : StepR) (A : Option Addr) (mk ck : Nat) (w : World) (hg : GlobM w) (hf : s.Fine) (hk : s.keep.length = mk) (hK : IntsAt w A s.keep) : Calls Tryz.prog 7 #[.agg #[.int .i64 s.kind, .int .i64 s.rep, .string s.vol, .string s.dst, .int .i64 s.n, .slice A mk ck, .int .i64 s.ck, .string s.path, .string s.cto, .int .i64 s.off, .int .i64 s.cn, .string s.data, f64 s.time]] w (fun e w' => e = .returned (.bool true) ∧ Below w.heap.size w w') := by
  have HG := Lib.hid hg
  have HF := Lib.hid hf
  have HK := Lib.hid hk
  have HI := Lib.hid hK
  have HB1 := Lib.hid (show Below w.heap.size w (w.alloc (.cells #[.int .i64 s.kind, .int .i64 s.rep, .string s.vol, .string s.dst, .int .i64 s.n, .slice A mk ck, .int .i64 s.ck, .string s.path, .string s.cto, .int .i64 s.off, .int .i64 s.cn, .string s.data, f64 s.time] 33)) from Below.alloc (Below.refl _ _) (Nat.le_refl _) _)
  have HB2 := Lib.hid (show Below w.heap.size w ((w.alloc (.cells #[.int .i64 s.kind, .int .i64 s.rep, .string s.vol, .string s.dst, .int .i64 s.n, .slice A mk ck, .int .i64 s.ck, .string s.path, .string s.cto, .int .i64 s.off, .int .i64 s.cn, .string s.data, f64 s.time] 33)).alloc (.cells #[.int .i64 s.kind, .int .i64 s.rep, .string s.vol, .string s.dst, .int .i64 s.n, .slice A mk ck, .int .i64 s.ck, .string s.path, .string s.cto, .int .i64 s.off, .int .i64 s.cn, .string s.data, f64 s.time] 33)) from Below.alloc (Below.alloc (Below.refl _ _) (Nat.le_refl _) _) (by simp) _)
  have HX := Lib.hid (show ((w.alloc (.cells #[.int .i64 s.kind, .int .i64 s.rep, .string s.vol, .string s.dst, .int .i64 s.n, .slice A mk ck, .int .i64 s.ck, .string s.path, .string s.cto, .int .i64 s.off, .int .i64 s.cn, .string s.data, f64 s.time] 33)).alloc (.cells #[.int .i64 s.kind, .int .i64 s.rep, .string s.vol, .string s.dst, .int .i64 s.n, .slice A mk ck, .int .i64 s.ck, .string s.path, .string s.cto, .int .i64 s.off, .int .i64 s.cn, .string s.data, f64 s.time] 33)).heap[w.heap.size]? = some (.cells #[.int .i64 s.kind, .int .i64 s.rep, .string s.vol, .string s.dst, .int .i64 s.n, .slice A mk ck, .int .i64 s.ck, .string s.path, .string s.cto, .int .i64 s.off, .int .i64 s.cn, .string s.data, f64 s.time] 33 (0, 0)) from (heap_alloc_old (w.alloc (.cells #[.int .i64 s.kind, .int .i64 s.rep, .string s.vol, .string s.dst, .int .i64 s.n, .slice A mk ck, .int .i64 s.ck, .string s.path, .string s.cto, .int .i64 s.off, .int .i64 s.cn, .string s.data, f64 s.time] 33)) _ (by simp)).trans (heap_alloc_new w _))
  have HY := Lib.hid (show ((w.alloc (.cells #[.int .i64 s.kind, .int .i64 s.rep, .string s.vol, .string s.dst, .int .i64 s.n, .slice A mk ck, .int .i64 s.ck, .string s.path, .string s.cto, .int .i64 s.off, .int .i64 s.cn, .string s.data, f64 s.time] 33)).alloc (.cells #[.int .i64 s.kind, .int .i64 s.rep, .string s.vol, .string s.dst, .int .i64 s.n, .slice A mk ck, .int .i64 s.ck, .string s.path, .string s.cto, .int .i64 s.off, .int .i64 s.cn, .string s.data, f64 s.time] 33)).heap[w.heap.size + 1]? = some (.cells #[.int .i64 s.kind, .int .i64 s.rep, .string s.vol, .string s.dst, .int .i64 s.n, .slice A mk ck, .int .i64 s.ck, .string s.path, .string s.cto, .int .i64 s.off, .int .i64 s.cn, .string s.data, f64 s.time] 33 (0, 0)) by
    have h := heap_alloc_new (w.alloc (.cells #[.int .i64 s.kind, .int .i64 s.rep, .string s.vol, .string s.dst, .int .i64 s.n, .slice A mk ck, .int .i64 s.ck, .string s.path, .string s.cto, .int .i64 s.off, .int .i64 s.cn, .string s.data, f64 s.time] 33)) (.cells #[.int .i64 s.kind, .int .i64 s.rep, .string s.vol, .string s.dst, .int .i64 s.n, .slice A mk ck, .int .i64 s.ck, .string s.path, .string s.cto, .int .i64 s.off, .int .i64 s.cn, .string s.data, f64 s.time] 33)
    have e : (w.alloc (.cells #[.int .i64 s.kind, .int .i64 s.rep, .string s.vol, .string s.dst, .int .i64 s.n, .slice A mk ck, .int .i64 s.ck, .string s.path, .string s.cto, .int .i64 s.off, .int .i64 s.cn, .string s.data, f64 s.time] 33)).heap.size = w.heap.size + 1 := by simp
    rw [e] at h
    exact h)
  have HSH := Lib.hid (show Calls Tryz.prog 17 #[.slice (some ⟨w.heap.size + 1, 0, none⟩) 1 1] ((w.alloc (.cells #[.int .i64 s.kind, .int .i64 s.rep, .string s.vol, .string s.dst, .int .i64 s.n, .slice A mk ck, .int .i64 s.ck, .string s.path, .string s.cto, .int .i64 s.off, .int .i64 s.cn, .string s.data, f64 s.time] 33)).alloc (.cells #[.int .i64 s.kind, .int .i64 s.rep, .string s.vol, .string s.dst, .int .i64 s.n, .slice A mk ck, .int .i64 s.ck, .string s.path, .string s.cto, .int .i64 s.off, .int .i64 s.cn, .string s.data, f64 s.time] 33)) (ShC [s] ((w.alloc (.cells #[.int .i64 s.kind, .int .i64 s.rep, .string s.vol, .string s.dst, .int .i64 s.n, .slice A mk ck, .int .i64 s.ck, .string s.path, .string s.cto, .int .i64 s.off, .int .i64 s.cn, .string s.data, f64 s.time] 33)).alloc (.cells #[.int .i64 s.kind, .int .i64 s.rep, .string s.vol, .string s.dst, .int .i64 s.n, .slice A mk ck, .int .i64 s.ck, .string s.path, .string s.cto, .int .i64 s.off, .int .i64 s.cn, .string s.data, f64 s.time] 33))) from short_any (some ⟨w.heap.size + 1, 0, none⟩) 1 [s] _ (sts_one HY.out hk (hK.later HB2.out)) (show 1 ≤ 9000000000000000000 by decide))
  obtain ⟨t, c, hl⟩ := line_form (textW s)
  have HT : Hid (Brief s → ∀ W, Glob W → IntsAt W A s.keep → Calls Tryz.prog 28 #[.agg #[.int .i64 s.kind, .int .i64 s.rep, .string s.vol, .string s.dst, .int .i64 s.n, .slice A mk ck, .int .i64 s.ck, .string s.path, .string s.cto, .int .i64 s.off, .int .i64 s.cn, .string s.data, f64 s.time]] W fun e w' => e = .returned (.tuple #[.string t, .int .i64 c]) ∧ Below W.heap.size W w') := Lib.hid fun hb W h1 h2 => by
    have h := script_text s A mk ck W hf (brief_small hb) hk (by have := hb.2.2.2.2.2; omega) h2 h1
    unfold LineP at h
    rw [hl] at h
    exact h
  have HR : Hid (Brief s → ∀ W, IntsAt W A s.keep → Calls Tryz.prog 29 #[.agg #[.int .i64 s.kind, .int .i64 s.rep, .string s.vol, .string s.dst, .int .i64 s.n, .slice A mk ck, .int .i64 s.ck, .string s.path, .string s.cto, .int .i64 s.off, .int .i64 s.cn, .string s.data, f64 s.time]] W fun e w' => e = .returned (.tuple #[.string t, .int .i64 c]) ∧ Below W.heap.size W w') := Lib.hid fun hb W h2 => by
    have h := rtext_any s A mk ck W hf (brief_small hb) hk (by have := hb.2.2.2.2.2; omega) h2
    unfold LineP at h
    rw [hl] at h
    exact h
  clear hg hf hk hK hl
  go_enter Tryz.func7, Tryz.ntmps7
  go_wp2_with (fail)
  refine HSH.out.mono ?_
  rintro e1 w1 ⟨b, rfl, hb1, hbr⟩
  have HBR := Lib.hid hbr
  have HXX := Lib.hid ((hb1.block w.heap.size (Array.getElem?_eq_some_iff.1 HX.out).1).trans HX.out)
  have HB3 := Lib.hid (below_tr HB2.out hb1)
  have HG1 := Lib.hid (HG.out.later HB3.out)
  clear hb1 hbr
  cases b
  · go_wp2_with (go_at_call 8; (with_reducible refine (awake_any _ HG1.out).mono ?_); rintro e9 w9 ⟨rfl, hb9⟩; have HB9 := Lib.hid (below_tr HB3.out hb9); clear hb9)
    go_ret
    exact ⟨rfl, HB9.out⟩
  · have HBF := Lib.hid (show Brief s from (HBR.out rfl).2 0 (Nat.succ_pos _))
    have HT1 := Lib.hid (HT.out HBF.out)
    have HR1 := Lib.hid (HR.out HBF.out)
    have hld := (row_load (ty := 33) HXX.out Tryz.underlying33 (by kernel_rfl)).2
    clear HT HR
    go_wp2_with (refine load_step 33 _ rfl rfl rfl hld ?_)
    refine (HT1.out _ HG1.out.glob (HI.out.later HB3.out)).mono ?_
    rintro e4 w4 ⟨rfl, hb4⟩
    have HX4 := Lib.hid ((hb4.block w.heap.size (Array.getElem?_eq_some_iff.1 HXX.out).1).trans HXX.out)
    have HB4 := Lib.hid (below_tr HB3.out hb4)
    have hld4 := (row_load (ty := 33) HX4.out Tryz.underlying33 (by kernel_rfl)).2
    clear hb4 hld
    go_wp2_with (refine load_step 33 _ rfl rfl rfl hld4 ?_)
    refine (HR1.out _ (HI.out.later HB4.out)).mono ?_
    rintro e5 w5 ⟨rfl, hb5⟩
    have HB5 := Lib.hid (below_tr HB4.out hb5)
    have HG5 := Lib.hid (HG.out.later HB5.out)
    clear hb5 hld4
    go_wp2_with (go_at_call 8; (with_reducible refine (awake_any _ HG5.out).mono ?_); rintro e9 w9 ⟨rfl, hb9⟩; have HB9 := Lib.hid (below_tr HB5.out hb9); clear hb9)
    go_ret
    exact ⟨rfl, HB9.out⟩
end Go.Proofs.YtmcooenafgihkaaGreatDoor
