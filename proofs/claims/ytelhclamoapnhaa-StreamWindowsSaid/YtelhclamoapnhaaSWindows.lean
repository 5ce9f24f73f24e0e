/- Which parts are sent at once, from any on, of any number, is what the document says, for all two numbers. -/
import Derived.Test.YtelhclamoapnhaaL
import Derived.Test.YtelhclamoapnhaaGD
import Derived.Test.YtelhclamoapnhaaPWindowx1
namespace Go.Proofs.Ytelhclamoapnhaa
open Go.ChangeShapes Go.WideShapes Go.ChangeAt Go.RowKit Go.Proofs.YtelhclamoapnhaaW.PrintWords
set_option linter.unusedSimpArgs false
set_option linter.unusedVariables false
theorem refwin_l (f t : Int) (wf : I64 f) (wt : I64 t) (m : Nat) (hm : m ≤ 4) (hst : ∀ k : Nat, k < 4 → (k < m ↔ (f ≥ 0 ∧ f < t ∧ (k : Int) < t - f ∧ Int.tmod f 4 + (k : Int) < 4))) :
    ∀ (n k : Nat), k + n = 4 → PWindow.crannogref17_Window.l0 (n + 1) f t ((List.range (min k m)).map (fun q : Nat => f + (q : Int))) (k : Int) = some ((List.range m).map (fun q : Nat => f + (q : Int)))
  | 0, k, hk => by
    unfold PWindow.crannogref17_Window.l0
    rw [if_neg (by omega), show min k m = m by omega]
  | n + 1, k, hk => by
    obtain ⟨wf1, wf2⟩ := wf
    obtain ⟨wt1, wt2⟩ := wt
    have ih := refwin_l f t ⟨wf1, wf2⟩ ⟨wt1, wt2⟩ m hm hst n (k + 1) (by omega)
    have hw1 : wrap64 ((k : Int) + 1) = ((k + 1 : Nat) : Int) := by rw [wrap64_eq]; omega
    have hs := hst k (by omega)
    have hlen : ((List.range (min k m)).map (fun q : Nat => f + (q : Int))).length < 17592186044416 := by rw [List.length_map, List.length_range]; omega
    unfold PWindow.crannogref17_Window.l0
    rw [if_pos (by omega), hw1]
    by_cases hkm : k < m
    · obtain ⟨c1, c2, c3, c4⟩ := hs.1 hkm
      have hb := Int.tmod_nonneg 4 c1
      have hw2 : wrap64 (t - f) = t - f := by rw [wrap64_eq]; omega
      have hw3 : wrap64 (Int.tmod f 4 + (k : Int)) = Int.tmod f 4 + (k : Int) := by rw [wrap64_eq]; omega
      have hw4 : wrap64 (f + (k : Int)) = f + (k : Int) := by rw [wrap64_eq]; omega
      rw [if_pos c1, if_pos c2, hw2, if_pos c3, hw3, if_pos c4, if_pos hlen, hw4, ← ih]
      rw [show min k m = k by omega, show min (k + 1) m = k + 1 by omega, List.range_succ, List.map_append]
      rfl
    · rw [show min (k + 1) m = min k m by omega] at ih
      rw [ih]
      by_cases c1 : f ≥ 0
      · rw [if_pos c1]
        by_cases c2 : f < t
        · rw [if_pos c2]
          have hw2 : wrap64 (t - f) = t - f := by rw [wrap64_eq]; omega
          rw [hw2]
          by_cases c3 : (k : Int) < t - f
          · rw [if_pos c3]
            have hb := Int.tmod_nonneg 4 c1
            have hb2 : Int.tmod f 4 < 4 := Int.tmod_lt_of_pos f (by decide)
            have hw3 : wrap64 (Int.tmod f 4 + (k : Int)) = Int.tmod f 4 + (k : Int) := by rw [wrap64_eq]; omega
            rw [hw3, if_neg (fun c4 => hkm (hs.2 ⟨c1, c2, c3, c4⟩))]
          · rw [if_neg c3]
        · rw [if_neg c2]
      · rw [if_neg c1]
theorem refwin_eq (f t : Int) (wf : I64 f) (wt : I64 t) : PWindow.crannogref17_Window.f 5 f t = some (winR f t) := by
  obtain ⟨m, hm⟩ : ∃ m : Nat, (if 0 ≤ f ∧ f < t then min (4 - f % 4) (t - f) else 0) = (m : Int) := ⟨(if 0 ≤ f ∧ f < t then min (4 - f % 4) (t - f) else 0).toNat, by split <;> omega⟩
  have hr : winR f t = (List.range m).map (fun k : Nat => f + (k : Int)) := by
    unfold winR
    by_cases h : 0 ≤ f ∧ f < t
    · rw [if_pos h]
      rw [if_pos h] at hm
      rw [hm, Int.toNat_natCast]
    · rw [if_neg h]
      rw [if_neg h] at hm
      obtain rfl : m = 0 := by omega
      rfl
  have h := refwin_l f t wf wt m (by split at hm <;> omega) (fun k hk => by
    by_cases h0 : 0 ≤ f
    · rw [Int.tmod_eq_emod_of_nonneg h0]
      split at hm <;> omega
    · split at hm <;> omega) 4 0 rfl
  rw [hr, ← h]
  rfl
theorem refwindow_any (f t : Int) (w : World) (wf : I64 f) (wt : I64 t) : Calls Try.prog 16 #[.int .i64 f, .int .i64 t] w (IntsC (winR f t) (winR f t).length w) := by
  refine (PWindow.crannogref17_Window.calls 5 f t (winR f t) w (refwin_eq f t wf wt)).mono ?_
  rintro e w' ⟨v, rfl, hR, hb⟩
  obtain ⟨A, c, rfl, hc, hC⟩ := Kd.R_reads hR
  exact ⟨A, c, rfl, Lib.hid hb, Lib.hid (ints_of_C hC)⟩
set_option maxHeartbeats 2000000 in
set_option maxRecDepth 100000 in
theorem streamWindows_calls (f : Int) (wf : I64 f) (t : Int) (wt : I64 t) (w : World) : Calls Try.prog 4 #[.int .i64 f, .int .i64 t] w (Ret (.bool true) w) := by
  have hl := winR_len f t
  have H15 := Lib.hid (fun w => window_any f t w wf.2 wt.2)
  have H16 := Lib.hid (fun w => refwindow_any f t w wf wt)
  have H14 := Lib.hid (fun (A B : Option Addr) (c d : Nat) w (hA : IntsAt w A (winR f t)) (hB : IntsAt w B (winR f t)) => show Calls Try.prog 14 #[.slice A (winR f t).length c, .slice B (winR f t).length d] w (Ret (.bool true) w) from by
    have h := eqI_any A B c d (winR f t) (winR f t) w hA hB (by omega) (by omega)
    rwa [decide_eq_true rfl] at h)
  generalize winR f t = r at *
  go_enter Try.func4, Try.ntmps4
  go_wp2_with (first | (go_at_call 15; (with_reducible refine (H15.out _).mono ?_); rintro e1 w1 ⟨A1, c1, rfl, HB1, HI1, _, _⟩) | (go_at_call 16; (with_reducible refine (H16.out _).mono ?_); rintro e2 w2 ⟨A2, c2, rfl, HB2, HI2⟩; have HI1b := Lib.hid (HI1.out.later HB2.out); have HBB := Lib.hid (below_tr HB1.out HB2.out)) | (go_at_call 14; (with_reducible refine (H14.out _ _ _ _ _ HI1b.out HI2.out).mono ?_); rintro e3 w3 ⟨rfl, j3, hw3⟩; have HBC := Lib.hid (show Below w.heap.size w w3 from below_tr HBB.out (by rw [hw3]; exact w_ext_below _ _)); clear hw3) | (go_at_call 13; (with_reducible refine (awake_any _).mono ?_); rintro e4 w4 ⟨rfl, j4, hw4⟩; have HBD := Lib.hid (show Below w.heap.size w w4 from below_tr HBC.out (by rw [hw4]; exact w_ext_below _ _)); clear hw4))
  go_ret
  exact Ret.mk rfl HBD.out

set_option maxRecDepth 100000 in
theorem streamWindows_lifted (os : Os) (started : os.Started) (H : Type) (enc : TypeId × Value → H) :
    ReturnsInHanded {} Try.checked os 4 .any (Rows.streamWindowsSpec.pre6 enc Try.prog Try.f4 Rows.streamWindowsRow.domain false) (Rows.streamWindowsSpec.post enc Try.prog Try.f4 false true false false) := by
  refine returnsInHanded_of_change (C := Try.checked) Try.own started (by kernel_rfl) Try.func4
    (ChangeSpec.witness6 (enc := enc) (C := Try.checked) false ⟨#[], #[.int .i64 0, .int .i64 0], []⟩ 8 (by kernel_rfl) (by kernel_rfl) (by kernel_rfl) (by kernel_rfl)) ?_
  intro W base args ds gs before hval0 hW hcnd _
  have hval : ∀ (j : Nat) t v, Try.f4.params[j]? = some t → args[j]? = some v → Value.okWide Try.prog W .any base t v := hval0
  have hW' := hW
  obtain ⟨p, q, hA0, hV, rfl, hfz, hnd⟩ := hW
  have hA : DataW.TrodAll enc Try.prog W 0 (fun _ => true) true Try.f4.params.toList args.toList ds p := hA0
  rw [Try.params4] at hA hval
  obtain ⟨v0, vs0, d0, ds0, p0, q0, hargs, rfl, rfl, h0, r0⟩ := trodAll_cons hA
  obtain ⟨v1, vs1, d1, ds1, p1, q1, rfl, rfl, rfl, h1, r1⟩ := trodAll_cons r0
  obtain ⟨rfl, rfl, rfl⟩ := trodAll_nil r1
  obtain rfl : args = #[v0, v1] := by cases args; simp_all
  obtain ⟨rfl, rfl⟩ := trodVars_none hV
  obtain ⟨n0, rfl, wn0⟩ := open_i64 (hval 0 3 _ rfl rfl) h0
  obtain ⟨n1, rfl, wn1⟩ := open_i64 (hval 1 3 _ rfl rfl) h1
  refine (streamWindows_calls n0 wn0 n1 wn1 W).mono fun e W' ⟨he, j, hj⟩ => ?_
  subst he; subst hj
  exact ⟨_, rfl, law_post Try.laidOut (by kernel_rfl) rfl rfl rfl hW' (w_ext_below _ _)⟩

theorem streamWindows_holds : Rows.StreamWindowsSaid :=
  OpenClaim.holds_of_wide 4 Try.f4 rfl rfl rfl rfl rfl rfl rfl ⟨rfl, rfl, rfl, rfl, rfl⟩ rfl rfl rfl rfl rfl (by kernel_rfl) Try.func4 (by kernel_rfl)
    (of_decide_eq_true (by kernel_rfl)) (by unfold Func.isWrapper; first | (rw [if_pos (by decide +kernel)]; kernel_rfl) | (rw [if_neg (by decide +kernel)]; exact ⟨rfl, rfl⟩))
    (fun os started H enc _ => streamWindows_lifted os started H enc)
end Go.Proofs.Ytelhclamoapnhaa
