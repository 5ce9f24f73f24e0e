/- Of any stamps: whether they are events', which stands ahead, which is later, whether any vector has one, and that vector with it, are as the document says, for all stamps and vectors. -/
import Derived.Test.YtdjmpedfeahajaaL
import Derived.Test.YtdjmpedfeahajaaV5
namespace Go.Proofs.Ytdjmpedfeahajaa
open Go.ChangeShapes Go.WideShapes Go.ChangeAt Go.RowKit
set_option maxHeartbeats 2000000 in
set_option maxRecDepth 100000 in
theorem vectorStamps_calls (t who t' who' : Int) (a b c d e f g h : Int) (w : World) : Calls Try.prog 6 #[stamp t who, stamp t' who', vec a b c d e f g h] w (Ret (.bool true) w) := by
  have hE := eq_vec
  go_enter Try.func6, Try.ntmps6
  go_wp2_with (refine wp_region_ext (by kernel_rfl) (by kernel_rfl) ?_; (repeat (go_big_quiet_step ((first | (go_at_call 29; exact quiet_call (is_any _ _ _)) | (go_at_call 30; exact quiet_call (ris_any _ _ _)) | (go_at_call 31; exact quiet_call (less_any _ _ _ _ _)) | (go_at_call 32; exact quiet_call (rless_any _ _ _ _ _)) | (go_at_call 33; exact quiet_call (later_any2 _ _ _ _ _)) | (go_at_call 34; exact quiet_call (rlater_any2 _ _ _ _ _)) | (go_at_call 35; exact quiet_call (has_any _ _ _ _ _ _ _ _ _ _ _)) | (go_at_call 36; exact quiet_call (rhas_any _ _ _ _ _ _ _ _ _ _ _)) | (go_at_call 37; exact quiet_call (with_any2 _ _ _ _ _ _ _ _ _ _ _)) | (go_at_call 38; exact quiet_call (rwith_any2 _ _ _ _ _ _ _ _ _ _ _)) | (go_at_call 20; exact quiet_call (awake_any _)))))); refine wpQuiet_nil ?_; rintro w1 ⟨j1, rfl⟩)
  go_ret
  exact Ret.mk (by first | rfl | simp) (by (repeat' (first | (with_reducible exact Below.refl _ _) | (with_reducible assumption) | (with_reducible refine Below.alloc ?_ ?_ _) | (with_reducible refine below_ext ?_ ?_ _) | (with_reducible refine Below.drew ?_) | (with_reducible refine below_drewN ?_ _) | (with_reducible refine Below.setCell ?_ ?_ _) | go_size)))

set_option maxRecDepth 100000 in
theorem vectorStamps_lifted (os : Os) (started : os.Started) (H : Type) (enc : TypeId × Value → H) :
    ReturnsInHanded {} Try.checked os 6 .any (Rows.vectorStampsSpec.pre6 enc Try.prog Try.f6 Rows.vectorStampsRow.domain false) (Rows.vectorStampsSpec.post enc Try.prog Try.f6 false true false false) := by
  refine returnsInHanded_of_change (C := Try.checked) Try.own started (by kernel_rfl) Try.func6
    (ChangeSpec.witness6 (enc := enc) (C := Try.checked) false ⟨#[], #[.agg #[.int .i64 0, .int .i64 0], .agg #[.int .i64 0, .int .i64 0], .agg #[.int .i64 0, .int .i64 0, .int .i64 0, .int .i64 0, .int .i64 0, .int .i64 0, .int .i64 0, .int .i64 0]], []⟩ 8 (by kernel_rfl) (by kernel_rfl) (by kernel_rfl) (by kernel_rfl)) ?_
  intro W base args ds gs before hval0 hW hcnd _
  have hval : ∀ (j : Nat) t v, Try.f6.params[j]? = some t → args[j]? = some v → Value.okWide Try.prog W .any base t v := hval0
  have hW' := hW
  obtain ⟨p, q, hA0, hV, rfl, hfz, hnd⟩ := hW
  have hA : DataW.TrodAll enc Try.prog W 0 (fun _ => true) true Try.f6.params.toList args.toList ds p := hA0
  rw [Try.params6] at hA hval
  obtain ⟨v0, vs0, d0, ds0, p0, q0, hargs, rfl, rfl, h0, r0⟩ := trodAll_cons hA
  obtain ⟨v1, vs1, d1, ds1, p1, q1, rfl, rfl, rfl, h1, r1⟩ := trodAll_cons r0
  obtain ⟨v2, vs2, d2, ds2, p2, q2, rfl, rfl, rfl, h2, r2⟩ := trodAll_cons r1
  obtain ⟨rfl, rfl, rfl⟩ := trodAll_nil r2
  obtain rfl : args = #[v0, v1, v2] := by cases args; simp_all
  obtain ⟨rfl, rfl⟩ := trodVars_none hV
  obtain ⟨t0, who0, rfl, wt0, ww0⟩ := open_stamp (hval 0 25 _ rfl rfl) h0
  obtain ⟨t1, who1, rfl, wt1, ww1⟩ := open_stamp (hval 1 25 _ rfl rfl) h1
  obtain ⟨xa2, xb2, xc2, xd2, xe2, xf2, xg2, xh2, rfl, wxa2, wxb2, wxc2, wxd2, wxe2, wxf2, wxg2, wxh2⟩ := open_vec (hval 2 23 _ rfl rfl) h2
  refine (vectorStamps_calls t0 who0 t1 who1 xa2 xb2 xc2 xd2 xe2 xf2 xg2 xh2 W).mono fun e W' ⟨he, j, hj⟩ => ?_
  subst he; subst hj
  exact ⟨_, rfl, law_post Try.laidOut (by kernel_rfl) rfl rfl rfl hW' (w_ext_below _ _)⟩

theorem vectorStamps_holds : Rows.VectorStampsSaid :=
  OpenClaim.holds_of_wide 6 Try.f6 rfl rfl rfl rfl rfl rfl rfl ⟨rfl, rfl, rfl, rfl, rfl⟩ rfl rfl rfl rfl rfl (by kernel_rfl) Try.func6 (by kernel_rfl)
    (of_decide_eq_true (by kernel_rfl)) (by unfold Func.isWrapper; first | (rw [if_pos (by decide +kernel)]; kernel_rfl) | (rw [if_neg (by decide +kernel)]; exact ⟨rfl, rfl⟩))
    (fun os started H enc _ => vectorStamps_lifted os started H enc)
end Go.Proofs.Ytdjmpedfeahajaa
