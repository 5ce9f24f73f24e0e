/- Any changes in parts are what the document says, for all changes. -/
import Derived.Test.YtelhclamoapnhaaL2
import Derived.Test.YtelhclamoapnhaaR2
import Derived.Test.YtelhclamoapnhaaGD
namespace Go.Proofs.Ytelhclamoapnhaa
open Go.ChangeShapes Go.WideShapes Go.ChangeAt Go.RowKit Go.Proofs.YtelhclamoapnhaaW.PrintWords
set_option linter.unusedSimpArgs false
set_option linter.unusedVariables false
theorem cutP_len (s : ByteArray) : (cutP s).length ≤ s.size + 1 := by
  by_cases h : s.size ≤ 512
  · rw [cutP_small h]; simp
  · rw [cutP_big h, List.length_cons]
    have ih := cutP_len (s.extract 512 s.size)
    rw [ByteArray.size_extract] at ih
    omega
termination_by s.size
decreasing_by simp only [ByteArray.size_extract]; omega
set_option maxHeartbeats 8000000 in
set_option maxRecDepth 100000 in
theorem streamCuts_calls {w : World} (A : Option Addr) (c : Nat) (l : List Ch) (hA : ChsAt w A l) (hc : l.length ≤ c) (hm : l.length ≤ maxLen) (w' : World) (e : w = w') : Calls Try.prog 3 #[.slice A l.length c] w' (Ret (.bool true) w') := by
  subst e
  obtain ⟨r, hr, hsm⟩ := small_any l
  have H9 := Lib.hid (fun W (h : ChsAt W A l) => hsm A c W h hc (by simp only [maxLen] at hm; omega))
  have HA := Lib.hid hA
  clear hsm hA
  cases r with
  | false =>
    clear hr
    generalize l.length = n at *
    go_enter Try.func3, Try.ntmps3
    go_wp2_with (first | (go_at_call 9; (with_reducible refine (H9.out _ HA.out).mono ?_); rintro e1 w1 ⟨rfl, j1, hw1⟩; have HB1 := Lib.hid (show Below w.heap.size w w1 by rw [hw1]; exact w_ext_below _ _); have HA1 := Lib.hid (HA.out.later HB1.out); clear hw1) | (go_at_call 13; (with_reducible refine (awake_any _).mono ?_); rintro e5 w5 ⟨rfl, j5, hw5⟩; have HBD := Lib.hid (show Below w.heap.size w w5 from below_tr HB1.out (by rw [hw5]; exact w_ext_below _ _)); clear hw5))
    go_ret
    exact Ret.mk rfl HBD.out
  | true =>
    obtain ⟨h1, h2⟩ := hr rfl
    have hsz : (strOfNums (putAll l)).size ≤ 2000000 := by
      rw [strOfNums_size]
      have h1 := putUp_length l l.length (Nat.le_refl _)
      rw [putUp_end, List.take_length] at h1
      omega
    have H11 := Lib.hid (fun W (h : ChsAt W A l) => cut_any A c l W h (by omega) (by omega))
    have H12 := Lib.hid (fun W (h : ChsAt W A l) => refcut_any A c l W h (by omega) (by omega))
    have H10 := Lib.hid (fun (A B : Option Addr) (c d : Nat) w (hA : StrsAt w A (cutP (strOfNums (putAll l)))) (hB : StrsAt w B (cutP (strOfNums (putAll l)))) => show Calls Try.prog 10 #[.slice A (cutP (strOfNums (putAll l))).length c, .slice B (cutP (strOfNums (putAll l))).length d] w (Ret (.bool true) w) from by
      have hl := cutP_len (strOfNums (putAll l))
      have h := eqS_any A B c d _ _ w hA hB (by omega) (by omega)
      rwa [decide_eq_true rfl] at h)
    generalize cutP (strOfNums (putAll l)) = x at *
    generalize l.length = n at *
    clear hr hsz h1 h2 hc hm
    go_enter Try.func3, Try.ntmps3
    go_wp2_with (first | (go_at_call 9; (with_reducible refine (H9.out _ HA.out).mono ?_); rintro e1 w1 ⟨rfl, j1, hw1⟩; have HB1 := Lib.hid (show Below w.heap.size w w1 by rw [hw1]; exact w_ext_below _ _); have HA1 := Lib.hid (HA.out.later HB1.out); clear hw1) | (go_at_call 11; (with_reducible refine (H11.out _ HA1.out).mono ?_); rintro e2 w2 ⟨A2, c2, rfl, HB2, HS2, _, _⟩; have HBA := Lib.hid (below_tr HB1.out HB2.out); have HA2 := Lib.hid (HA1.out.later HB2.out)) | (go_at_call 12; (with_reducible refine (H12.out _ HA2.out).mono ?_); rintro e3 w3 ⟨A3, c3, rfl, HB3, HS3, _, _⟩; have HBB := Lib.hid (below_tr HBA.out HB3.out); have HS2b := Lib.hid (HS2.out.later HB3.out)) | (go_at_call 10; (with_reducible refine (H10.out _ _ _ _ _ HS2b.out HS3.out).mono ?_); rintro e4 w4 ⟨rfl, j4, hw4⟩; have HBC := Lib.hid (show Below w.heap.size w w4 from below_tr HBB.out (by rw [hw4]; exact w_ext_below _ _)); clear hw4) | (go_at_call 13; (with_reducible refine (awake_any _).mono ?_); rintro e5 w5 ⟨rfl, j5, hw5⟩; have HBD := Lib.hid (show Below w.heap.size w w5 from below_tr HBC.out (by rw [hw5]; exact w_ext_below _ _)); clear hw5))
    go_ret
    exact Ret.mk rfl HBD.out

set_option maxRecDepth 100000 in
theorem streamCuts_lifted (os : Os) (started : os.Started) (H : Type) (enc : TypeId × Value → H) :
    ReturnsInHanded {} Try.checked os 3 .any (Rows.streamCutsSpec.pre6 enc Try.prog Try.f3 Rows.streamCutsRow.domain false) (Rows.streamCutsSpec.post enc Try.prog Try.f3 false true false false) := by
  refine returnsInHanded_of_change (C := Try.checked) Try.own started (by kernel_rfl) Try.func3
    (ChangeSpec.witness6 (enc := enc) (C := Try.checked) false ⟨#[], #[.slice none 0 0], []⟩ 8 (by kernel_rfl) (by kernel_rfl) (by kernel_rfl) (by kernel_rfl)) ?_
  intro W base args ds gs before hval0 hW hcnd _
  have hval : ∀ (j : Nat) t v, Try.f3.params[j]? = some t → args[j]? = some v → Value.okWide Try.prog W .any base t v := hval0
  have hW' := hW
  obtain ⟨p, q, hA0, hV, rfl, hfz, hnd⟩ := hW
  have hA : DataW.TrodAll enc Try.prog W 0 (fun _ => true) true Try.f3.params.toList args.toList ds p := hA0
  rw [Try.params3] at hA hval
  obtain ⟨v0, vs0, d0, ds0, p0, q0, hargs, rfl, rfl, h0, r0⟩ := trodAll_cons hA
  obtain ⟨rfl, rfl, rfl⟩ := trodAll_nil r0
  obtain rfl : args = #[v0] := by cases args; simp_all
  obtain ⟨rfl, rfl⟩ := trodVars_none hV
  obtain ⟨A0, c0, l0, rfl, C0, k0, m0⟩ := open_chs (hval 0 22 _ rfl rfl) h0
  refine (streamCuts_calls A0 c0 l0 C0 k0 m0 W rfl).mono fun e W' ⟨he, j, hj⟩ => ?_
  subst he; subst hj
  exact ⟨_, rfl, law_post Try.laidOut (by kernel_rfl) rfl rfl rfl hW' (w_ext_below _ _)⟩

theorem streamCuts_holds : Rows.StreamCutsSaid :=
  OpenClaim.holds_of_wide 3 Try.f3 rfl rfl rfl rfl rfl rfl rfl ⟨rfl, rfl, rfl, rfl, rfl⟩ rfl rfl rfl rfl rfl (by kernel_rfl) Try.func3 (by kernel_rfl)
    (of_decide_eq_true (by kernel_rfl)) (by unfold Func.isWrapper; first | (rw [if_pos (by decide +kernel)]; kernel_rfl) | (rw [if_neg (by decide +kernel)]; exact ⟨rfl, rfl⟩))
    (fun os started H enc _ => streamCuts_lifted os started H enc)
end Go.Proofs.Ytelhclamoapnhaa
