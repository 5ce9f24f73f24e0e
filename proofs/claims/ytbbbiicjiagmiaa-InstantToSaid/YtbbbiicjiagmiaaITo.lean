/- Whether any bits are a time's, and which, is as the document says, for all numbers of 64 bits; the first time and the last one are without end. -/
import Derived.Test.YtbbbiicjiagmiaaL
import Derived.Test.YtbbbiicjiagmiaaI5
namespace Go.Proofs.Ytbbbiicjiagmiaa
open Go.ChangeShapes Go.WideShapes Go.ChangeAt Go.RowKit
set_option linter.unusedSimpArgs false
set_option linter.unusedVariables false

set_option maxHeartbeats 1000000 in
set_option maxRecDepth 100000 in
theorem to_w (k x : Nat) (e : Int) (g s : Bool) (c1 : Hid (∀ w, Calls Try.prog 15 #[u64 k] w (Ret (.tuple #[f64 x, .int .i64 e]) w))) (c2 : Hid (∀ w, Calls Try.prog 24 #[u64 k] w (Ret (.tuple #[f64 x, .int .i64 e]) w)))
    (c3 : Hid (∀ w, Calls Try.prog 17 #[u64 k] w (Ret (.bool g) w))) (c4 : Hid (∀ w, Calls Try.prog 25 #[u64 k] w (Ret (.bool g) w))) (c5 : Hid (∀ w, Calls Try.prog 16 #[f64 x] w (Ret (.bool s) w))) (hx : (FloatKind.f64.format.order x x == some .eq) = true) (w : World) :
    Calls Try.prog 9 #[u64 k] w (Ret (.bool true) w) := by
  have F10 : ∀ w, Calls Try.prog 24 #[.int .u64 4503599627370495] w (Ret (.tuple #[.float .f64 18442240474082181120, .int .i64 0]) w) := fun w => by
    have h := rto_any 4503599627370495 (by decide) w
    rw [show toV 4503599627370495 = 18442240474082181120 by decide, show toE 4503599627370495 = 0 by decide] at h
    exact h
  have F1 := Lib.hid F10
  clear F10
  have F20 : ∀ w, Calls Try.prog 24 #[.int .u64 18442240474082181120] w (Ret (.tuple #[.float .f64 9218868437227405312, .int .i64 0]) w) := fun w => by
    have h := rto_any 18442240474082181120 (by decide) w
    rw [show toV 18442240474082181120 = 9218868437227405312 by decide, show toE 18442240474082181120 = 0 by decide] at h
    exact h
  have F2 := Lib.hid F20
  clear F20
  go_enter Try.func9, Try.ntmps9
  go_wp2_with (first | (go_at_call 15; (with_reducible refine (c1.out _).mono ?_); rintro e1 w1 ⟨rfl, j1, rfl⟩) | (go_at_call 24; (with_reducible refine (c2.out _).mono ?_); rintro e1 w1 ⟨rfl, j1, rfl⟩) | (go_at_call 24; (with_reducible refine (F1.out _).mono ?_); rintro e1 w1 ⟨rfl, j1, rfl⟩) | (go_at_call 24; (with_reducible refine (F2.out _).mono ?_); rintro e1 w1 ⟨rfl, j1, rfl⟩) | (go_at_call 17; (with_reducible refine (c3.out _).mono ?_); rintro e1 w1 ⟨rfl, j1, rfl⟩) | (go_at_call 25; (with_reducible refine (c4.out _).mono ?_); rintro e1 w1 ⟨rfl, j1, rfl⟩) | (go_at_call 16; (with_reducible refine (c5.out _).mono ?_); rintro e1 w1 ⟨rfl, j1, rfl⟩) | (go_at_call 20; (with_reducible refine (last_any _).mono ?_); rintro e1 w1 ⟨rfl, j1, rfl⟩) | (go_at_call 21; (with_reducible refine (first_any _).mono ?_); rintro e1 w1 ⟨rfl, j1, rfl⟩) | (go_at_call 26; (with_reducible refine (isInf_down _).mono ?_); rintro e1 w1 ⟨rfl, j1, rfl⟩) | (go_at_call 26; (with_reducible refine (isInf_up _).mono ?_); rintro e1 w1 ⟨rfl, j1, rfl⟩) | (go_at_call 14; (with_reducible refine (awake_any _).mono ?_); rintro e1 w1 ⟨rfl, j1, rfl⟩))
  go_ret
  exact Ret.mk rfl (by (repeat' (first | (with_reducible exact Below.refl _ _) | (with_reducible exact w_ext_below _ _) | (with_reducible refine below_ext ?_ ?_ _) | (simp; done) | (simp; omega))))
theorem instantTo_calls (k : Nat) (hk : k < 18446744073709551616) (w : World) : Calls Try.prog 9 #[u64 k] w (Ret (.bool true) w) :=
  to_w k _ _ _ _ (Lib.hid (fun w => to_any k hk w)) (Lib.hid (fun w => rto_any k hk w)) (Lib.hid (fun w => good_any k hk w)) (Lib.hid (fun w => rgood_any k hk w)) (Lib.hid (fun w => signbit_any _ (toV_lt k hk) w)) (self_eq _ (toV_lt k hk) (toV_fin k hk)) w

set_option maxRecDepth 100000 in
theorem instantTo_lifted (os : Os) (started : os.Started) (H : Type) (enc : TypeId × Value → H) :
    ReturnsInHanded {} Try.checked os 9 .any (Rows.instantToSpec.pre6 enc Try.prog Try.f9 Rows.instantToRow.domain false) (Rows.instantToSpec.post enc Try.prog Try.f9 false true false false) := by
  refine returnsInHanded_of_change (C := Try.checked) Try.own started (by kernel_rfl) Try.func9
    (ChangeSpec.witness6 (enc := enc) (C := Try.checked) false ⟨#[], #[.int .u64 0], []⟩ 8 (by kernel_rfl) (by kernel_rfl) (by kernel_rfl) (by kernel_rfl)) ?_
  intro W base args ds gs before hval0 hW hcnd _
  have hval : ∀ (j : Nat) t v, Try.f9.params[j]? = some t → args[j]? = some v → Value.okWide Try.prog W .any base t v := hval0
  have hW' := hW
  obtain ⟨p, q, hA0, hV, rfl, hfz, hnd⟩ := hW
  have hA : DataW.TrodAll enc Try.prog W 0 (fun _ => true) true Try.f9.params.toList args.toList ds p := hA0
  rw [Try.params9] at hA hval
  obtain ⟨v0, vs0, d0, ds0, p0, q0, hargs, rfl, rfl, h0, r0⟩ := trodAll_cons hA
  obtain ⟨rfl, rfl, rfl⟩ := trodAll_nil r0
  obtain rfl : args = #[v0] := by cases args; simp_all
  obtain ⟨rfl, rfl⟩ := trodVars_none hV
  obtain ⟨b0, rfl, wb0⟩ := open_u64 (hval 0 23 _ rfl rfl) h0
  refine (instantTo_calls b0 wb0 W).mono fun e W' ⟨he, j, hj⟩ => ?_
  subst he; subst hj
  exact ⟨_, rfl, law_post Try.laidOut (by kernel_rfl) rfl rfl rfl hW' (w_ext_below _ _)⟩

theorem instantTo_holds : Rows.InstantToSaid :=
  OpenClaim.holds_of_wide 9 Try.f9 rfl rfl rfl rfl rfl rfl rfl ⟨rfl, rfl, rfl, rfl, rfl⟩ rfl rfl rfl rfl rfl (by kernel_rfl) Try.func9 (by kernel_rfl)
    (of_decide_eq_true (by kernel_rfl)) (by unfold Func.isWrapper; first | (rw [if_pos (by decide +kernel)]; kernel_rfl) | (rw [if_neg (by decide +kernel)]; exact ⟨rfl, rfl⟩))
    (fun os started H enc _ => instantTo_lifted os started H enc)
end Go.Proofs.Ytbbbiicjiagmiaa
