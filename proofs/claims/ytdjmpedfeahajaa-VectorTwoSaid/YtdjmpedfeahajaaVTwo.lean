/- Of any two vectors: what one or the other knows, what both do, whether one is within the other and whether one may be are as the document says, for all vectors. -/
import Derived.Test.YtdjmpedfeahajaaL
import Derived.Test.YtdjmpedfeahajaaV4
namespace Go.Proofs.Ytdjmpedfeahajaa
open Go.ChangeShapes Go.WideShapes Go.ChangeAt Go.RowKit
set_option maxHeartbeats 2000000 in
set_option maxRecDepth 100000 in
theorem vectorTwo_calls (a b c d e f g h a' b' c' d' e' f' g' h' : Int) (w : World) : Calls Try.prog 4 #[vec a b c d e f g h, vec a' b' c' d' e' f' g' h'] w (Ret (.bool true) w) := by
  have hE := eq_vec
  go_enter Try.func4, Try.ntmps4
  go_wp2_with (refine wp_region_ext (by kernel_rfl) (by kernel_rfl) ?_; (repeat (go_big_quiet_step ((first | (go_at_call 21; exact quiet_call (join_any _ _ _ _ _ _ _ _ _ _ _ _ _ _ _ _ _)) | (go_at_call 22; exact quiet_call (rjoin_any _ _ _ _ _ _ _ _ _ _ _ _ _ _ _ _ _)) | (go_at_call 23; exact quiet_call (meet_any _ _ _ _ _ _ _ _ _ _ _ _ _ _ _ _ _)) | (go_at_call 24; exact quiet_call (rmeet_any _ _ _ _ _ _ _ _ _ _ _ _ _ _ _ _ _)) | (go_at_call 25; exact quiet_call (within_any _ _ _ _ _ _ _ _ _ _ _ _ _ _ _ _ _)) | (go_at_call 26; exact quiet_call (rwithin_any _ _ _ _ _ _ _ _ _ _ _ _ _ _ _ _ _)) | (go_at_call 27; exact quiet_call (good_any _ _ _ _ _ _ _ _ _)) | (go_at_call 28; exact quiet_call (rgood_any _ _ _ _ _ _ _ _ _)) | (go_at_call 20; exact quiet_call (awake_any _)))))); refine wpQuiet_nil ?_; rintro w1 ⟨j1, rfl⟩)
  go_ret
  exact Ret.mk (by first | rfl | simp) (by (repeat' (first | (with_reducible exact Below.refl _ _) | (with_reducible assumption) | (with_reducible refine Below.alloc ?_ ?_ _) | (with_reducible refine below_ext ?_ ?_ _) | (with_reducible refine Below.drew ?_) | (with_reducible refine below_drewN ?_ _) | (with_reducible refine Below.setCell ?_ ?_ _) | go_size)))

set_option maxRecDepth 100000 in
theorem vectorTwo_lifted (os : Os) (started : os.Started) (H : Type) (enc : TypeId × Value → H) :
    ReturnsInHanded {} Try.checked os 4 .any (Rows.vectorTwoSpec.pre6 enc Try.prog Try.f4 Rows.vectorTwoRow.domain false) (Rows.vectorTwoSpec.post enc Try.prog Try.f4 false true false false) := by
  refine returnsInHanded_of_change (C := Try.checked) Try.own started (by kernel_rfl) Try.func4
    (ChangeSpec.witness6 (enc := enc) (C := Try.checked) false ⟨#[], #[.agg #[.int .i64 0, .int .i64 0, .int .i64 0, .int .i64 0, .int .i64 0, .int .i64 0, .int .i64 0, .int .i64 0], .agg #[.int .i64 0, .int .i64 0, .int .i64 0, .int .i64 0, .int .i64 0, .int .i64 0, .int .i64 0, .int .i64 0]], []⟩ 8 (by kernel_rfl) (by kernel_rfl) (by kernel_rfl) (by kernel_rfl)) ?_
  intro W base args ds gs before hval0 hW hcnd _
  have hval : ∀ (j : Nat) t v, Try.f4.params[j]? = some t → args[j]? = some v → Value.okWide Try.prog W .any base t v := hval0
  have hW' := hW
  obtain ⟨p, q, hA0, hV, rfl, hfz, hnd⟩ := hW
  have hA : DataW.TrodAll enc Try.prog W 0 (fun _ => true) true Try.f4.params.toList args.toList ds p := hA0
  rw [Try.params4] at hA hval
  obtain ⟨v0, vs0, d0, ds0, p0, q0, hargs, rfl, rfl, h0, r0⟩ := trodAll_cons hA
  obtain ⟨v1, vs1, d1, ds1, p1, q1, rfl, rfl, rfl, h1, r1⟩ := trodAll_cons r0
  obtain ⟨rfl, rfl, rfl⟩ := trodAll_nil r1
  obtain rfl : args = #[v0, v1] := by cases args; simp_all
  obtain ⟨rfl, rfl⟩ := trodVars_none hV
  obtain ⟨xa0, xb0, xc0, xd0, xe0, xf0, xg0, xh0, rfl, wxa0, wxb0, wxc0, wxd0, wxe0, wxf0, wxg0, wxh0⟩ := open_vec (hval 0 23 _ rfl rfl) h0
  obtain ⟨xa1, xb1, xc1, xd1, xe1, xf1, xg1, xh1, rfl, wxa1, wxb1, wxc1, wxd1, wxe1, wxf1, wxg1, wxh1⟩ := open_vec (hval 1 23 _ rfl rfl) h1
  refine (vectorTwo_calls xa0 xb0 xc0 xd0 xe0 xf0 xg0 xh0 xa1 xb1 xc1 xd1 xe1 xf1 xg1 xh1 W).mono fun e W' ⟨he, j, hj⟩ => ?_
  subst he; subst hj
  exact ⟨_, rfl, law_post Try.laidOut (by kernel_rfl) rfl rfl rfl hW' (w_ext_below _ _)⟩

theorem vectorTwo_holds : Rows.VectorTwoSaid :=
  OpenClaim.holds_of_wide 4 Try.f4 rfl rfl rfl rfl rfl rfl rfl ⟨rfl, rfl, rfl, rfl, rfl⟩ rfl rfl rfl rfl rfl (by kernel_rfl) Try.func4 (by kernel_rfl)
    (of_decide_eq_true (by kernel_rfl)) (by unfold Func.isWrapper; first | (rw [if_pos (by decide +kernel)]; kernel_rfl) | (rw [if_neg (by decide +kernel)]; exact ⟨rfl, rfl⟩))
    (fun os started H enc _ => vectorTwo_lifted os started H enc)
end Go.Proofs.Ytdjmpedfeahajaa
