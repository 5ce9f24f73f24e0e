/- A stage that no call made tells nothing, for all parts that come. -/
import Derived.Test.YtelhclamoapnhaaL2
import Derived.Test.YtelhclamoapnhaaN2
import Derived.Test.YtelhclamoapnhaaGD
namespace Go.Proofs.Ytelhclamoapnhaa
open Go.ChangeShapes Go.WideShapes Go.ChangeAt Go.RowKit Go.Proofs.YtelhclamoapnhaaW.PrintWords
set_option linter.unusedSimpArgs false
set_option linter.unusedVariables false
theorem pts_one (W : World) (n : Nat) (i : Int) (s : ByteArray) (hn : n = W.heap.size) : PtsAt (W.alloc (.cells #[.int .i64 i, .string s] 53)) (some ⟨n, 0, none⟩) [⟨i, s⟩] := fun k hk => by
  subst hn
  obtain rfl : k = 0 := by simpa using hk
  refine ⟨W.heap.size, 0, rfl, ?_, ?_⟩ <;> simp [go_sem]
set_option maxHeartbeats 8000000 in
set_option maxRecDepth 100000 in
theorem streamNobody_calls (i : Int) (s : ByteArray) (w : World) : Calls Try.prog 8 #[.agg #[.int .i64 i, .string s]] w (Ret (.bool true) w) := by
  obtain ⟨r, hr, hsm⟩ := smalls_any [⟨i, s⟩]
  have HSM : Hid (∀ (A : Option Addr) (w : World), PtsAt w A [⟨i, s⟩] → Calls Try.prog 24 #[.slice A 1 1] w (Ret (.bool r) w)) := Lib.hid fun A w h => hsm A 1 w h (Nat.le_refl _) (by simp)
  clear hsm hr
  cases r with
  | false =>
    go_enter Try.func8, Try.ntmps8
    go_wp2_with (first | (go_at_call 24; (with_reducible refine (HSM.out _ _ ?_).mono ?_); (· exact pts_one _ _ i s (by simp)); rintro e1 w1 ⟨rfl, j1, rfl⟩) | (go_at_call 13; (with_reducible refine (awake_any _).mono ?_); rintro e1 w9 ⟨rfl, j9, rfl⟩))
    go_ret
    exact Ret.mk (by first | rfl | simp) (by (repeat' (first | (with_reducible exact Below.refl _ _) | (with_reducible assumption) | (with_reducible exact below_app _ _ _ _) | (with_reducible refine below_pre ?_; (simp only [List.append_assoc, List.prefix_append, List.prefix_refl, List.prefix_append_right_inj])) | (with_reducible refine Below.alloc ?_ ?_ _) | (with_reducible refine below_ext ?_ ?_ _) | (with_reducible refine Below.drew ?_) | (with_reducible refine below_drewN ?_ _) | (with_reducible refine Below.setCell ?_ ?_ _) | go_size | (simp only [w_size_ext, List.length_append, World.alloc_size]; omega) | (simp; done) | (simp; omega))))
  | true =>
    go_enter Try.func8, Try.ntmps8
    go_wp2_with (first | (go_at_call 24; (with_reducible refine (HSM.out _ _ ?_).mono ?_); (· exact pts_one _ _ i s (by simp)); rintro e1 w1 ⟨rfl, j1, rfl⟩) | (go_at_call 13; (with_reducible refine (awake_any _).mono ?_); rintro e1 w9 ⟨rfl, j9, rfl⟩))
    refine wp_loop_rounds 3 ?_
    repeat any_goals (rw [rounds_succ]; go_wp2_with (first | (go_at_call 13; (with_reducible refine (awake_any _).mono ?_); rintro e1 w9 ⟨rfl, j9, rfl⟩) | (go_at_call 19; (with_reducible refine (add_dead _ _ _ _ ?_).mono ?_); (· first | exact Or.inl rfl | exact Or.inr ⟨_, rfl, by go_cell⟩); rintro e1 w1 ⟨rfl, hw⟩; subst hw) | (go_at_call 27; (with_reducible refine (has_dead _ _ ?_).mono ?_); (· first | exact Or.inl rfl | exact Or.inr ⟨_, rfl, by go_cell⟩); rintro e1 w1 ⟨rfl, hw⟩; subst hw) | (go_at_call 20; (with_reducible refine (changes_dead _ _ ?_).mono ?_); (· first | exact Or.inl rfl | exact Or.inr ⟨_, rfl, by go_cell⟩); rintro e1 w1 ⟨rfl, hw⟩; subst hw) | (go_at_call 22; (with_reducible refine (missing_dead _ _ ?_).mono ?_); (· first | exact Or.inl rfl | exact Or.inr ⟨_, rfl, by go_cell⟩); rintro e1 w1 ⟨rfl, hw⟩; subst hw) | (go_at_call 30; (with_reducible refine (whole_dead _ _ _ ?_).mono ?_); (· first | exact Or.inl rfl | exact Or.inr ⟨_, rfl, by go_cell⟩); rintro e1 w1 ⟨rfl, hw⟩; subst hw)))
    go_ret
    exact Ret.mk (by first | rfl | simp) (by (repeat' (first | (with_reducible exact Below.refl _ _) | (with_reducible assumption) | (with_reducible exact below_app _ _ _ _) | (with_reducible refine below_pre ?_; (simp only [List.append_assoc, List.prefix_append, List.prefix_refl, List.prefix_append_right_inj])) | (with_reducible refine Below.alloc ?_ ?_ _) | (with_reducible refine below_ext ?_ ?_ _) | (with_reducible refine Below.drew ?_) | (with_reducible refine below_drewN ?_ _) | (with_reducible refine Below.setCell ?_ ?_ _) | go_size | (simp only [w_size_ext, List.length_append, World.alloc_size]; omega) | (simp; done) | (simp; omega))))

set_option maxRecDepth 100000 in
theorem streamNobody_lifted (os : Os) (started : os.Started) (H : Type) (enc : TypeId × Value → H) :
    ReturnsInHanded {} Try.checked os 8 .any (Rows.streamNobodySpec.pre6 enc Try.prog Try.f8 Rows.streamNobodyRow.domain false) (Rows.streamNobodySpec.post enc Try.prog Try.f8 false true false false) := by
  refine returnsInHanded_of_change (C := Try.checked) Try.own started (by kernel_rfl) Try.func8
    (ChangeSpec.witness6 (enc := enc) (C := Try.checked) false ⟨#[], #[.agg #[.int .i64 0, .string ⟨#[]⟩]], []⟩ 8 (by kernel_rfl) (by kernel_rfl) (by kernel_rfl) (by kernel_rfl)) ?_
  intro W base args ds gs before hval0 hW hcnd _
  have hval : ∀ (j : Nat) t v, Try.f8.params[j]? = some t → args[j]? = some v → Value.okWide Try.prog W .any base t v := hval0
  have hW' := hW
  obtain ⟨p, q, hA0, hV, rfl, hfz, hnd⟩ := hW
  have hA : DataW.TrodAll enc Try.prog W 0 (fun _ => true) true Try.f8.params.toList args.toList ds p := hA0
  rw [Try.params8] at hA hval
  obtain ⟨v0, vs0, d0, ds0, p0, q0, hargs, rfl, rfl, h0, r0⟩ := trodAll_cons hA
  obtain ⟨rfl, rfl, rfl⟩ := trodAll_nil r0
  obtain rfl : args = #[v0] := by cases args; simp_all
  obtain ⟨rfl, rfl⟩ := trodVars_none hV
  obtain ⟨⟨a0, s0⟩, rfl⟩ := open_part (hval 0 53 _ rfl rfl) h0
  refine (streamNobody_calls a0 s0 W).mono fun e W' ⟨he, j, hj⟩ => ?_
  subst he; subst hj
  exact ⟨_, rfl, law_post Try.laidOut (by kernel_rfl) rfl rfl rfl hW' (w_ext_below _ _)⟩

theorem streamNobody_holds : Rows.StreamNobodySaid :=
  OpenClaim.holds_of_wide 8 Try.f8 rfl rfl rfl rfl rfl rfl rfl ⟨rfl, rfl, rfl, rfl, rfl⟩ rfl rfl rfl rfl rfl (by kernel_rfl) Try.func8 (by kernel_rfl)
    (of_decide_eq_true (by kernel_rfl)) (by unfold Func.isWrapper; first | (rw [if_pos (by decide +kernel)]; kernel_rfl) | (rw [if_neg (by decide +kernel)]; exact ⟨rfl, rfl⟩))
    (fun os started H enc _ => streamNobody_lifted os started H enc)
end Go.Proofs.Ytelhclamoapnhaa
