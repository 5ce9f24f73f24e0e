/- The next event of any replica that knows any vector is as the document says, for every vector and every replica. -/
import Derived.Test.YtdjmpedfeahajaaL
import Derived.Test.YtdjmpedfeahajaaV4
namespace Go.Proofs.Ytdjmpedfeahajaa
open Go.ChangeShapes Go.WideShapes Go.ChangeAt Go.RowKit
set_option maxHeartbeats 2000000 in
set_option maxRecDepth 100000 in
theorem vectorNext_calls (a b c d e f g h who : Int) (w : World) : Calls Try.prog 3 #[vec a b c d e f g h, .int .i64 who] w (Ret (.bool true) w) := by
  go_enter Try.func3, Try.ntmps3
  go_wp2_with (first | (go_at_call 18; (with_reducible refine (next_any2 _ _ _ _ _ _ _ _ _ _).mono ?_); rintro e1 w1 ⟨rfl, j1, rfl⟩) | (go_at_call 19; (with_reducible refine (rnext_any2 _ _ _ _ _ _ _ _ _ _).mono ?_); rintro e1 w1 ⟨rfl, j1, rfl⟩) | (go_at_call 20; (with_reducible refine (awake_any _).mono ?_); rintro e1 w1 ⟨rfl, j1, rfl⟩))
  go_ret
  exact Ret.mk (by first | rfl | simp) (by (repeat' (first | (with_reducible exact Below.refl _ _) | (with_reducible assumption) | (with_reducible refine Below.alloc ?_ ?_ _) | (with_reducible refine below_ext ?_ ?_ _) | (with_reducible refine Below.drew ?_) | (with_reducible refine below_drewN ?_ _) | (with_reducible refine Below.setCell ?_ ?_ _) | go_size)))

set_option maxRecDepth 100000 in
theorem vectorNext_lifted (os : Os) (started : os.Started) (H : Type) (enc : TypeId × Value → H) :
    ReturnsInHanded {} Try.checked os 3 .any (Rows.vectorNextSpec.pre6 enc Try.prog Try.f3 Rows.vectorNextRow.domain false) (Rows.vectorNextSpec.post enc Try.prog Try.f3 false true false false) := by
  refine returnsInHanded_of_change (C := Try.checked) Try.own started (by kernel_rfl) Try.func3
    (ChangeSpec.witness6 (enc := enc) (C := Try.checked) false ⟨#[], #[.agg #[.int .i64 0, .int .i64 0, .int .i64 0, .int .i64 0, .int .i64 0, .int .i64 0, .int .i64 0, .int .i64 0], .int .i64 0], []⟩ 8 (by kernel_rfl) (by kernel_rfl) (by kernel_rfl) (by kernel_rfl)) ?_
  intro W base args ds gs before hval0 hW hcnd _
  have hval : ∀ (j : Nat) t v, Try.f3.params[j]? = some t → args[j]? = some v → Value.okWide Try.prog W .any base t v := hval0
  have hW' := hW
  obtain ⟨p, q, hA0, hV, rfl, hfz, hnd⟩ := hW
  have hA : DataW.TrodAll enc Try.prog W 0 (fun _ => true) true Try.f3.params.toList args.toList ds p := hA0
  rw [Try.params3] at hA hval
  obtain ⟨v0, vs0, d0, ds0, p0, q0, hargs, rfl, rfl, h0, r0⟩ := trodAll_cons hA
  obtain ⟨v1, vs1, d1, ds1, p1, q1, rfl, rfl, rfl, h1, r1⟩ := trodAll_cons r0
  obtain ⟨rfl, rfl, rfl⟩ := trodAll_nil r1
  obtain rfl : args = #[v0, v1] := by cases args; simp_all
  obtain ⟨rfl, rfl⟩ := trodVars_none hV
  obtain ⟨xa0, xb0, xc0, xd0, xe0, xf0, xg0, xh0, rfl, wxa0, wxb0, wxc0, wxd0, wxe0, wxf0, wxg0, wxh0⟩ := open_vec (hval 0 23 _ rfl rfl) h0
  obtain ⟨n1, rfl, wn1⟩ := open_i64 (hval 1 3 _ rfl rfl) h1
  refine (vectorNext_calls xa0 xb0 xc0 xd0 xe0 xf0 xg0 xh0 n1 W).mono fun e W' ⟨he, j, hj⟩ => ?_
  subst he; subst hj
  exact ⟨_, rfl, law_post Try.laidOut (by kernel_rfl) rfl rfl rfl hW' (w_ext_below _ _)⟩

theorem vectorNext_holds : Rows.VectorNextSaid :=
  OpenClaim.holds_of_wide 3 Try.f3 rfl rfl rfl rfl rfl rfl rfl ⟨rfl, rfl, rfl, rfl, rfl⟩ rfl rfl rfl rfl rfl (by kernel_rfl) Try.func3 (by kernel_rfl)
    (of_decide_eq_true (by kernel_rfl)) (by unfold Func.isWrapper; first | (rw [if_pos (by decide +kernel)]; kernel_rfl) | (rw [if_neg (by decide +kernel)]; exact ⟨rfl, rfl⟩))
    (fun os started H enc _ => vectorNext_lifted os started H enc)
end Go.Proofs.Ytdjmpedfeahajaa
