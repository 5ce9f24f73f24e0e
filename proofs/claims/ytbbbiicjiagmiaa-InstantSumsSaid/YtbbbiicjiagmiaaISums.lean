/- Sums, middles and differences of any bits are as the document says, for all two numbers of 64 bits. -/
import Derived.Test.YtbbbiicjiagmiaaL
import Derived.Test.YtbbbiicjiagmiaaI7
namespace Go.Proofs.Ytbbbiicjiagmiaa
open Go.ChangeShapes Go.WideShapes Go.ChangeAt Go.RowKit
set_option linter.unusedSimpArgs false
set_option linter.unusedVariables false

set_option maxHeartbeats 2000000 in
set_option maxRecDepth 100000 in
theorem instantSums_calls (a : Nat) (ha : a < 18446744073709551616) (b : Nat) (hb : b < 18446744073709551616) (w : World) : Calls Try.prog 10 #[u64 a, u64 b] w (Ret (.bool true) w) := by
  have C1 := Lib.hid (fun w => add_any a b ha hb w)
  have C2 := Lib.hid (fun w => radd_any a b ha hb w)
  have C3 := Lib.hid (fun w => mid_any a b ha hb w)
  have C4 := Lib.hid (fun w => rmid_any a b ha hb w)
  have C5 := Lib.hid (fun w => since_any a b ha hb w)
  have C6 := Lib.hid (fun w => rsince_any a b ha hb w)
  clear ha hb
  generalize resV (addO a b) = v1 at *
  generalize resE (addO a b) = e1 at *
  generalize resV (midO a b) = v2 at *
  generalize resE (midO a b) = e2 at *
  generalize resV (sinceO a b) = v3 at *
  generalize resE (sinceO a b) = e3 at *
  go_enter Try.func10, Try.ntmps10
  go_wp2_with (first | (go_at_call 18; (with_reducible refine (C1.out _).mono ?_); rintro e1 w1 ⟨rfl, j1, rfl⟩) | (go_at_call 27; (with_reducible refine (C2.out _).mono ?_); rintro e1 w1 ⟨rfl, j1, rfl⟩) | (go_at_call 22; (with_reducible refine (C3.out _).mono ?_); rintro e1 w1 ⟨rfl, j1, rfl⟩) | (go_at_call 28; (with_reducible refine (C4.out _).mono ?_); rintro e1 w1 ⟨rfl, j1, rfl⟩) | (go_at_call 29; (with_reducible refine (C5.out _).mono ?_); rintro e1 w1 ⟨rfl, j1, rfl⟩) | (go_at_call 30; (with_reducible refine (C6.out _).mono ?_); rintro e1 w1 ⟨rfl, j1, rfl⟩) | (go_at_call 14; (with_reducible refine (awake_any _).mono ?_); rintro e1 w1 ⟨rfl, j1, rfl⟩))
  go_ret
  exact Ret.mk rfl (by (repeat' (first | (with_reducible exact Below.refl _ _) | (with_reducible exact w_ext_below _ _) | (with_reducible refine below_ext ?_ ?_ _) | (simp; done) | (simp; omega))))

set_option maxRecDepth 100000 in
theorem instantSums_lifted (os : Os) (started : os.Started) (H : Type) (enc : TypeId × Value → H) :
    ReturnsInHanded {} Try.checked os 10 .any (Rows.instantSumsSpec.pre6 enc Try.prog Try.f10 Rows.instantSumsRow.domain false) (Rows.instantSumsSpec.post enc Try.prog Try.f10 false true false false) := by
  refine returnsInHanded_of_change (C := Try.checked) Try.own started (by kernel_rfl) Try.func10
    (ChangeSpec.witness6 (enc := enc) (C := Try.checked) false ⟨#[], #[.int .u64 0, .int .u64 0], []⟩ 8 (by kernel_rfl) (by kernel_rfl) (by kernel_rfl) (by kernel_rfl)) ?_
  intro W base args ds gs before hval0 hW hcnd _
  have hval : ∀ (j : Nat) t v, Try.f10.params[j]? = some t → args[j]? = some v → Value.okWide Try.prog W .any base t v := hval0
  have hW' := hW
  obtain ⟨p, q, hA0, hV, rfl, hfz, hnd⟩ := hW
  have hA : DataW.TrodAll enc Try.prog W 0 (fun _ => true) true Try.f10.params.toList args.toList ds p := hA0
  rw [Try.params10] at hA hval
  obtain ⟨v0, vs0, d0, ds0, p0, q0, hargs, rfl, rfl, h0, r0⟩ := trodAll_cons hA
  obtain ⟨v1, vs1, d1, ds1, p1, q1, rfl, rfl, rfl, h1, r1⟩ := trodAll_cons r0
  obtain ⟨rfl, rfl, rfl⟩ := trodAll_nil r1
  obtain rfl : args = #[v0, v1] := by cases args; simp_all
  obtain ⟨rfl, rfl⟩ := trodVars_none hV
  obtain ⟨b0, rfl, wb0⟩ := open_u64 (hval 0 23 _ rfl rfl) h0
  obtain ⟨b1, rfl, wb1⟩ := open_u64 (hval 1 23 _ rfl rfl) h1
  refine (instantSums_calls b0 wb0 b1 wb1 W).mono fun e W' ⟨he, j, hj⟩ => ?_
  subst he; subst hj
  exact ⟨_, rfl, law_post Try.laidOut (by kernel_rfl) rfl rfl rfl hW' (w_ext_below _ _)⟩

theorem instantSums_holds : Rows.InstantSumsSaid :=
  OpenClaim.holds_of_wide 10 Try.f10 rfl rfl rfl rfl rfl rfl rfl ⟨rfl, rfl, rfl, rfl, rfl⟩ rfl rfl rfl rfl rfl (by kernel_rfl) Try.func10 (by kernel_rfl)
    (of_decide_eq_true (by kernel_rfl)) (by unfold Func.isWrapper; first | (rw [if_pos (by decide +kernel)]; kernel_rfl) | (rw [if_neg (by decide +kernel)]; exact ⟨rfl, rfl⟩))
    (fun os started H enc _ => instantSums_lifted os started H enc)
end Go.Proofs.Ytbbbiicjiagmiaa
