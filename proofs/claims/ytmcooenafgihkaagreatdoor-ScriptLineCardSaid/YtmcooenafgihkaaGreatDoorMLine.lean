/- The step of any line is as the document says, for all texts. -/
import Derived.Test.YtmcooenafgihkaaGreatDoorQ23
import Derived.Test.YtmcooenafgihkaaGreatDoorQ24
import Derived.Test.YtmcooenafgihkaaGreatDoorQ26
import Derived.Test.YtmcooenafgihkaaGreatDoorT2
import Derived.Test.YtmcooenafgihkaaGreatDoorL1
set_option linter.unusedSimpArgs false
set_option linter.unusedVariables false
namespace Go.Proofs.YtmcooenafgihkaaGreatDoor
section
open Go.RowKit

theorem line_words (l : Bs) (h : ¬ 200 < l.length) : lineL l = lineW (cutC 32 l) := by
  unfold lineL
  rw [if_neg h, stepP_eq, cutC_words]
theorem call_len : ∀ j, j < 19 → (callK ((j + 1 : Nat) : Int)).2.length ≤ 10 := by decide +kernel
theorem call_let : ∀ j, j < 19 → ∀ c ∈ argsAt callF j, LetR c := by decide +kernel
theorem rline_any (s : ByteArray) (w : World) (hs : s.size ≤ 2048) : Calls Tryz.prog 21 #[.string s] w (LineC (lineL s.data.toList) w) := by
  have hz : s.data.toList.length = s.size := by rw [Array.length_toList]; rfl
  by_cases hl : 200 < (s.size : Int)
  · exact rline_long s w _ (Lib.hid (by unfold lineL; rw [if_pos (by omega)])) hl
  rw [line_words _ (by omega)]
  cases hc : cutC 32 s.data.toList with
  | nil => exact absurd hc (cutC_ne 32 _)
  | cons w0 ws =>
    cases hf : findF stepF w0 with
    | none => exact rline_bad s w _ w0 ws hl (Lib.hid hc) (Lib.hid hf) (Lib.hid (lineW_none hf))
    | some i =>
      have hi := findF_lt hf
      have hi13 : i < 13 := hi
      by_cases h0 : i = 0
      · subst h0
        by_cases h2 : 2 < ws.length
        · match ws, h2, hc with
          | r1 :: v1 :: cw :: rest, _, hc =>
            cases hcf : findF callF cw with
            | none => exact rline_call s w _ w0 _ hl (Lib.hid hc) r1 v1 cw rest (Lib.hid rfl) none (Lib.hid hcf) 0 (Lib.hid rfl) ⟨#[]⟩ ⟨#[]⟩ (Lib.hid fun W => rcall_any 0 W) (Lib.hid (by decide)) (Lib.hid (Or.inl ⟨rfl, lineW_callnone hf hcf⟩)) (Lib.hid hf)
            | some j =>
              have hj : j < 19 := findF_lt hcf
              have e2 := callArgs2 j hj
              refine rline_call s w _ w0 _ hl (Lib.hid hc) r1 v1 cw rest (Lib.hid rfl) (some j) (Lib.hid hcf) ((j : Int) + 1) (Lib.hid ?_) ⟨(callK ((j + 1 : Nat) : Int)).2.toArray⟩ ⟨(callK ((j + 1 : Nat) : Int)).1.toArray⟩ (Lib.hid fun W => ?_) (Lib.hid ?_) (Lib.hid (Or.inr ⟨by omega, 114 :: 118 :: 112 :: argsAt callF j, lineW_call hf hcf, ?_, ?_⟩)) (Lib.hid hf)
              · exact seek_end fun i hi => by injection hi with hi; subst hi; omega
              · exact rcall_any ((j + 1 : Nat) : Int) W
              · exact call_len j hj
              · rw [e2]
                exact app_bytes _ [114, 118] _ (112 :: argsAt callF j) rfl rfl
              · intro c hc
                simp only [List.mem_cons] at hc
                rcases hc with rfl | rfl | rfl | hc
                · exact Or.inl rfl
                · decide
                · decide
                · exact call_let j hj c hc
          | [], h2, _ => exact absurd h2 (by simp)
          | [_], h2, _ => exact absurd h2 (by simp)
          | [_, _], h2, _ => exact absurd h2 (by simp)
        · exact rline_short s w _ w0 ws hl (Lib.hid hc) (Lib.hid h2) (Lib.hid hf) (Lib.hid (lineW_short hf h2))
      · by_cases h9 : i = 9
        · subst h9
          exact rline_keep s w _ w0 ws hl (Lib.hid hc) (Lib.hid hf) (Lib.hid (lineW_keep hf))
        · exact rline_else s w _ w0 ws hl (Lib.hid hc) i (Lib.hid ⟨hi13, h0, h9⟩) (Lib.hid hf) (Lib.hid (lineW_else hf h0 h9))
end
section
open Go.RowKit

/-- The step that a line gives. -/
def gotR (R : Option StepR) : StepR := R.getD zeroR
def codeR (R : Option StepR) : Int := if R.isSome = true then 0 else 205
theorem line_got {R : Option StepR} {w w' : World} {e : Ending} (h : LineC R w e w') : ∃ A m c, e = .returned (.tuple #[.agg (stepCells (gotR R) (.slice A m c)), .int .i64 (codeR R)]) ∧ Below w.heap.size w w' ∧ IntsAt w' A (gotR R).keep ∧ (gotR R).keep.length = m := by
  rcases h with ⟨s, v, rfl, rfl, hb, ho⟩ | ⟨rfl, rfl, hb⟩
  · obtain ⟨A, m, c, rfl⟩ := own_sl ho
    obtain ⟨h1, h2⟩ := ints_at ho
    exact ⟨A, m, c, rfl, hb, h1, h2⟩
  · exact ⟨none, 0, 0, rfl, hb, fun i hi => by simp [gotR, zeroR] at hi, rfl⟩
theorem got_ok (l : Bs) : (gotR (lineL l)).time < 18446744073709551616 ∧ (gotR (lineL l)).keep.length ≤ 201 := by
  cases h : lineL l with
  | none => exact ⟨by decide, by decide⟩
  | some x =>
    obtain ⟨h1, h2, _⟩ := line_ok h
    exact ⟨h1.1.time, h2⟩
set_option maxHeartbeats 8000000 in
set_option maxRecDepth 100000 in
theorem line_law (line : ByteArray) (w : World) (hg : GlobM w) : Calls Tryz.prog 5 #[.string line] w (fun e w' => e = .returned (.bool true) ∧ Below w.heap.size w w') := by
  have HG := Lib.hid hg
  have HB0 := Lib.hid (Below.refl w.heap.size w)
  obtain ⟨ht, hk⟩ := got_ok line.data.toList
  have HT := Lib.hid ht
  have HKL := Lib.hid hk
  clear hg ht hk
  by_cases hl : 2048 < (line.size : Int)
  · go_enter Tryz.func5, Tryz.ntmps5
    go_wp2_with (go_at_call 8; (with_reducible refine (awake_any _ HG.out).mono ?_); rintro e9 w9 ⟨rfl, hb9⟩; have HB9 := Lib.hid (below_tr HB0.out hb9); clear hb9)
    go_ret
    exact ⟨rfl, HB9.out⟩
  have HLZ := Lib.hid (show line.size ≤ 2048 by omega)
  go_enter Tryz.func5, Tryz.ntmps5
  go_wp2_with (fail)
  refine (line_any line _ HG.out).mono ?_
  intro e1 w1 h1
  obtain ⟨A, m, c, rfl, hb1, hi1, hm1⟩ := line_got h1
  obtain ⟨w2, hst2, hs2⟩ := row_store (w := w1.alloc (.cells stepZero 33)) (ty := 33) (cs := stepCells (gotR (lineL line.data.toList)) (.slice A m c)) (heap_alloc_new w1 _) (by kernel_rfl) rfl (by simp [Value.oneCell'])
  have hb2 : Below w1.heap.size w1 w2 := ⟨hs2.os, hs2.tape, hs2.output, by rw [hs2.size]; simp, fun j hj => (hs2.rest j (by omega)).trans (Lib.alloc_old w1 _ j hj)⟩
  have HB2 := Lib.hid (below_tr hb1 hb2)
  have HI2 := Lib.hid (hi1.later hb2)
  have HX2 := Lib.hid hs2.at'
  have HG2 := Lib.hid (HG.out.later HB2.out)
  clear h1 hb1 hi1 hs2 hb2
  go_wp2_with (refine store_step 33 _ _ rfl rfl rfl rfl hst2 ?_)
  refine (rline_any line _ HLZ.out).mono ?_
  intro e3 w3 h3
  obtain ⟨A3, m3, c3, rfl, hb3, hi3, hm3⟩ := line_got h3
  obtain rfl : m = m3 := hm1.symm.trans hm3
  obtain ⟨w4, hst4, hs4⟩ := row_store (w := w3.alloc (.cells stepZero 33)) (ty := 33) (cs := stepCells (gotR (lineL line.data.toList)) (.slice A3 m c3)) (heap_alloc_new w3 _) (by kernel_rfl) rfl (by simp [Value.oneCell'])
  have hb4 : Below w3.heap.size w3 w4 := ⟨hs4.os, hs4.tape, hs4.output, by rw [hs4.size]; simp, fun j hj => (hs4.rest j (by omega)).trans (Lib.alloc_old w3 _ j hj)⟩
  have hb24 := below_tr hb3 hb4
  have HB4 := Lib.hid (below_tr HB2.out hb24)
  have HSM := Lib.hid (same_main (gotR (lineL line.data.toList)) A A3 m c c3 w4 HT (Lib.hid hm1) (Lib.hid (by have := HKL.out; omega)) (Lib.hid (HI2.out.later hb24)) (Lib.hid (hi3.later hb4)))
  have hx2 := (hb24.block w1.heap.size (Array.getElem?_eq_some_iff.1 HX2.out).1).trans HX2.out
  have hld2 := (row_load (ty := 33) hx2 Tryz.underlying33 (by kernel_rfl)).2
  have hld4 := (row_load (ty := 33) hs4.at' Tryz.underlying33 (by kernel_rfl)).2
  clear h3 hb3 hi3 hs4 hb4 hb24 hx2 hm1 hm3
  generalize gotR (lineL line.data.toList) = S at *
  generalize codeR (lineL line.data.toList) = code at *
  go_wp2_with (first | (refine store_step 33 _ _ rfl rfl rfl rfl hst4 ?_) | (refine load_step 33 _ rfl rfl rfl hld2 ?_) | (refine load_step 33 _ rfl rfl rfl hld4 ?_))
  refine HSM.out.mono ?_
  rintro e5 w5 ⟨rfl, hb5⟩
  have HB5 := Lib.hid (below_tr HB4.out hb5)
  have HG5 := Lib.hid (HG.out.later HB5.out)
  clear hb5 hst2 hst4 hld2 hld4
  go_wp2_with (go_at_call 8; (with_reducible refine (awake_any _ HG5.out).mono ?_); rintro e9 w9 ⟨rfl, hb9⟩; have HB9 := Lib.hid (below_tr HB5.out hb9); clear hb9)
  go_ret
  exact ⟨rfl, HB9.out⟩
end
section
open Go.ChangeShapes Go.WideShapes Go.ChangeAt Go.RowKit

set_option maxRecDepth 100000 in
theorem scriptLine_lifted (os : Os) (started : os.Started) (H : Type) (enc : TypeId × Value → H) :
    ReturnsInHanded {} Tryz.checked os 5 .any (fun w args => (Rows.scriptLineSpec.pre enc Tryz.prog Tryz.f5 Rows.scriptLineRow.domain false w args ∧ laidMetH Tryz.prog Rows.scriptLineRow.laid w) ∧ sizedMet enc Tryz.prog Tryz.f5 (OpenSpec.ofChange Rows.scriptLineSpec) false w args)
      (Rows.scriptLineSpec.post enc Tryz.prog Tryz.f5 false true false false) := by
  refine handed_shaped (X := fun w _ => laidMetH Tryz.prog Rows.scriptLineRow.laid w) started (by kernel_rfl) Tryz.func5 (fun _ _ _ hh h => h.of_heap hh)
    (ChangeSpec.witness_shaped (enc := enc) (C := Tryz.checked) (os := os) (X := fun w _ => laidMetH Tryz.prog Rows.scriptLineRow.laid w) false (World.laidAll Tryz.prog os Rows.scriptLineRow.laid) #[.string ⟨#[]⟩] 8 (World.laidAll_os _ _ _)
      (World.shaped_of_ZipB (by kernel_rfl) (by kernel_rfl)) (by kernel_rfl) (by kernel_rfl) (by kernel_rfl)
      (by rw [MakeChecks.laidMetH_plain _ _ _ (by kernel_rfl)]; exact laidMet_laidAll _ (by kernel_rfl) (by kernel_rfl))) ?_
  intro W base args ds gs before hsh hval0 hW hL
  have hval : ∀ (j : Nat) t v, Tryz.f5.params[j]? = some t → args[j]? = some v → Value.okWide Tryz.prog W .any base t v := hval0
  have hW' := hW
  obtain ⟨p, q, hA0, hV, rfl, hfz, hnd⟩ := hW
  have hA : DataW.TrodAll enc Tryz.prog W 0 (fun _ => true) true Tryz.f5.params.toList args.toList ds p := hA0
  rw [Tryz.params5] at hA hval
  obtain ⟨v0, vs0, d0, ds0, p0, q0, hargs, rfl, rfl, h0, r0⟩ := trodAll_cons hA
  obtain ⟨rfl, rfl, rfl⟩ := trodAll_nil r0
  obtain rfl : args = #[v0] := by cases args; simp_all
  obtain ⟨rfl, rfl⟩ := trodVars_none hV
  obtain ⟨s0, rfl, rfl, rfl, ws0⟩ := Go.ChangeMaps.open_string Tryz.underlying9 (hval 0 9 _ rfl rfl) h0
  refine (line_law s0 W (globM_of W hsh hL)).mono fun e W' ⟨he, hb⟩ => ?_
  subst he
  exact ⟨_, rfl, law_post Tryz.laidOut (by kernel_rfl) rfl rfl rfl hW' hb⟩

theorem scriptLine_row_holds : Rows.ScriptLineSaid :=
  OpenClaim.holds_of_wide 5 Tryz.f5 rfl rfl rfl rfl rfl rfl rfl ⟨rfl, rfl, rfl, rfl, rfl⟩ rfl rfl rfl rfl rfl (by kernel_rfl) Tryz.func5 (by kernel_rfl)
    (of_decide_eq_true (by kernel_rfl)) (by unfold Func.isWrapper; first | (rw [if_pos (by decide +kernel)]; kernel_rfl) | (rw [if_neg (by decide +kernel)]; exact ⟨rfl, rfl⟩))
    (fun os started H enc _ => scriptLine_lifted os started H enc)
theorem scriptLine_holds : Rows.ScriptLineCardSaid :=
  Claim7.holds_tied_plain_at .later [] [.data, .data, .data, .data, .sentinel, .sentinel, .pinned] true (true, "701e759cc4c0a408e5093dc706292dc96f588f7eee55d1e2826ea20109e6167f") true scriptLine_row_holds (fun _ h => by cases h) (by kernel_rfl) (fun _ h => by cases h) scriptLine_row_tie rfl ⟨rfl, rfl⟩ (by kernel_rfl) rfl
    (fun f fn hf hfn => by
      obtain rfl : f = 5 := Option.some.inj ((show Tryz.prog.funcNamed "crannog/crannoglaw23.ScriptLine" = some 5 by kernel_rfl).symm.trans hf) |>.symm
      obtain rfl : fn = Tryz.f5 := (Option.some.inj (Tryz.func5.symm.trans hfn)).symm
      exact ⟨by kernel_rfl, fun j t ht => by
        rw [Tryz.params5] at ht
        have hm : t ∈ [9] := by simpa using Array.mem_of_getElem? ht
        have hall : ([9].all fun u => !Tryz.prog.wantsStandIn u) = true := by kernel_rfl
        exact (show Tryz.prog.wantsStandIn t = false by simpa using List.all_eq_true.1 hall t hm)⟩)
    (by kernel_rfl)
end
end Go.Proofs.YtmcooenafgihkaaGreatDoor
