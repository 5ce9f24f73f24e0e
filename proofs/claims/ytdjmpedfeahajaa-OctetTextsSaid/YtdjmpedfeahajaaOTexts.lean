/- With how many bytes two texts begin alike, and the least text above all that begin with one, are as the document says: for all texts. -/
import Derived.Test.YtdjmpedfeahajaaL
import Derived.Test.YtdjmpedfeahajaaO6
import Derived.Test.YtdjmpedfeahajaaO7
namespace Go.Proofs.Ytdjmpedfeahajaa
open Go.ChangeShapes Go.WideShapes Go.ChangeAt Go.RowKit

set_option maxHeartbeats 2000000 in
set_option maxRecDepth 100000 in
theorem texts_long (s o : ByteArray) (w : World) (h : 8192 < s.size ∨ 8192 < o.size) (hs : s.size ≤ maxLen) (ho : o.size ≤ maxLen) : Calls Try.prog 11 #[.string s, .string o] w (Ret (.bool true) w) := by
  unfold maxLen at hs ho
  go_enter Try.func11, Try.ntmps11
  by_cases h1 : (8192 : Int) < (s.size : Int)
  · go_wp2_with (go_at_call 42; (with_reducible refine (awake01_any _).mono ?_); rintro e1 w1 ⟨rfl, j1, rfl⟩)
    go_ret
    exact Ret.mk rfl (by (repeat' (first | (with_reducible exact Below.refl _ _) | (with_reducible assumption) | (with_reducible exact below_app _ _ _ _) | (with_reducible refine Below.alloc ?_ ?_ _) | (with_reducible refine below_ext ?_ ?_ _) | (with_reducible refine Below.drew ?_) | (with_reducible refine below_drewN ?_ _) | (with_reducible refine Below.setCell ?_ ?_ _) | go_size)))
  · have h2 : (8192 : Int) < (o.size : Int) := by omega
    go_wp2_with (go_at_call 42; (with_reducible refine (awake01_any _).mono ?_); rintro e1 w1 ⟨rfl, j1, rfl⟩)
    go_ret
    exact Ret.mk rfl (by (repeat' (first | (with_reducible exact Below.refl _ _) | (with_reducible assumption) | (with_reducible exact below_app _ _ _ _) | (with_reducible refine Below.alloc ?_ ?_ _) | (with_reducible refine below_ext ?_ ?_ _) | (with_reducible refine Below.drew ?_) | (with_reducible refine below_drewN ?_ _) | (with_reducible refine Below.setCell ?_ ?_ _) | go_size)))

set_option maxHeartbeats 2000000 in
set_option maxRecDepth 100000 in
theorem texts_none (s o : ByteArray) (w : World) (h1 : ¬ (8192 : Int) < (s.size : Int)) (h2 : ¬ (8192 : Int) < (o.size : Int)) (HB : bey s s.size = none) : Calls Try.prog 11 #[.string s, .string o] w (Ret (.bool true) w) := by
  have h3 : ¬ 9223372036854775807 < s.size + 1 := by omega
  go_enter Try.func11, Try.ntmps11
  go_wp2_with (first | (go_at_call 42; (with_reducible refine (awake01_any _).mono ?_); rintro e1 w1 ⟨rfl, j1, rfl⟩) | (go_at_call 43; (with_reducible refine (after_any _ _ ?_).mono ?_); (· omega); rintro e1 w1 ⟨rfl, j1, rfl⟩) | (go_at_call 45; (with_reducible refine (beyond_any _ _ ?_).mono ?_); (· omega); rw [HB]; simp only [BeyV]; rintro e1 w1 ⟨rfl, j1, rfl⟩) | (go_at_call 51; (with_reducible refine (rbeyond_any _ _ ?_).mono ?_); (· omega); rw [HB]; simp only [BeyV]; rintro e1 w1 ⟨rfl, j1, rfl⟩) | (go_at_call 52; (with_reducible refine (shared_any _ _ _ ?_ ?_).mono ?_); (· omega); (· omega); rintro e1 w1 ⟨rfl, j1, rfl⟩) | (go_at_call 53; (with_reducible refine (rshared_any _ _ _ ?_).mono ?_); (· omega); rintro e1 w1 ⟨rfl, j1, rfl⟩))
  go_ret
  exact Ret.mk rfl (by (repeat' (first | (with_reducible exact Below.refl _ _) | (with_reducible assumption) | (with_reducible exact below_app _ _ _ _) | (with_reducible refine Below.alloc ?_ ?_ _) | (with_reducible refine below_ext ?_ ?_ _) | (with_reducible refine Below.drew ?_) | (with_reducible refine below_drewN ?_ _) | (with_reducible refine Below.setCell ?_ ?_ _) | go_size)))

set_option maxHeartbeats 2000000 in
set_option maxRecDepth 100000 in
theorem texts_some (s o E : ByteArray) (w : World) (h1 : ¬ (8192 : Int) < (s.size : Int)) (h2 : ¬ (8192 : Int) < (o.size : Int)) (HB : bey s s.size = some E) : Calls Try.prog 11 #[.string s, .string o] w (Ret (.bool true) w) := by
  have h3 : ¬ 9223372036854775807 < s.size + 1 := by omega
  go_enter Try.func11, Try.ntmps11
  go_wp2_with (first | (go_at_call 42; (with_reducible refine (awake01_any _).mono ?_); rintro e1 w1 ⟨rfl, j1, rfl⟩) | (go_at_call 43; (with_reducible refine (after_any _ _ ?_).mono ?_); (· omega); rintro e1 w1 ⟨rfl, j1, rfl⟩) | (go_at_call 45; (with_reducible refine (beyond_any _ _ ?_).mono ?_); (· omega); rw [HB]; simp only [BeyV]; rintro e1 w1 ⟨rfl, j1, rfl⟩) | (go_at_call 51; (with_reducible refine (rbeyond_any _ _ ?_).mono ?_); (· omega); rw [HB]; simp only [BeyV]; rintro e1 w1 ⟨rfl, j1, rfl⟩) | (go_at_call 52; (with_reducible refine (shared_any _ _ _ ?_ ?_).mono ?_); (· omega); (· omega); rintro e1 w1 ⟨rfl, j1, rfl⟩) | (go_at_call 53; (with_reducible refine (rshared_any _ _ _ ?_).mono ?_); (· omega); rintro e1 w1 ⟨rfl, j1, rfl⟩))
  go_ret
  exact Ret.mk rfl (by (repeat' (first | (with_reducible exact Below.refl _ _) | (with_reducible assumption) | (with_reducible exact below_app _ _ _ _) | (with_reducible refine Below.alloc ?_ ?_ _) | (with_reducible refine below_ext ?_ ?_ _) | (with_reducible refine Below.drew ?_) | (with_reducible refine below_drewN ?_ _) | (with_reducible refine Below.setCell ?_ ?_ _) | go_size)))

theorem octetTexts_calls (s : ByteArray) (hs : s.size ≤ maxLen) (o : ByteArray) (ho : o.size ≤ maxLen) (w : World) : Calls Try.prog 11 #[.string s, .string o] w (Ret (.bool true) w) := by
  by_cases hl : 8192 < s.size ∨ 8192 < o.size
  · exact texts_long s o w hl hs ho
  · cases hb : bey s s.size with
    | none => exact texts_none s o w (by omega) (by omega) hb
    | some E => exact texts_some s o E w (by omega) (by omega) hb

set_option maxRecDepth 100000 in
theorem octetTexts_lifted (os : Os) (started : os.Started) (H : Type) (enc : TypeId × Value → H) :
    ReturnsInHanded {} Try.checked os 11 .any (Rows.octetTextsSpec.pre6 enc Try.prog Try.f11 Rows.octetTextsRow.domain false) (Rows.octetTextsSpec.post enc Try.prog Try.f11 false true false false) := by
  refine returnsInHanded_of_change (C := Try.checked) Try.own started (by kernel_rfl) Try.func11
    (ChangeSpec.witness6 (enc := enc) (C := Try.checked) false ⟨#[], #[.string ⟨#[]⟩, .string ⟨#[]⟩], []⟩ 8 (by kernel_rfl) (by kernel_rfl) (by kernel_rfl) (by kernel_rfl)) ?_
  intro W base args ds gs before hval0 hW hcnd _
  have hval : ∀ (j : Nat) t v, Try.f11.params[j]? = some t → args[j]? = some v → Value.okWide Try.prog W .any base t v := hval0
  have hW' := hW
  obtain ⟨p, q, hA0, hV, rfl, hfz, hnd⟩ := hW
  have hA : DataW.TrodAll enc Try.prog W 0 (fun _ => true) true Try.f11.params.toList args.toList ds p := hA0
  rw [Try.params11] at hA hval
  obtain ⟨v0, vs0, d0, ds0, p0, q0, hargs, rfl, rfl, h0, r0⟩ := trodAll_cons hA
  obtain ⟨v1, vs1, d1, ds1, p1, q1, rfl, rfl, rfl, h1, r1⟩ := trodAll_cons r0
  obtain ⟨rfl, rfl, rfl⟩ := trodAll_nil r1
  obtain rfl : args = #[v0, v1] := by cases args; simp_all
  obtain ⟨rfl, rfl⟩ := trodVars_none hV
  obtain ⟨s0, rfl, rfl, rfl, ws0⟩ := Go.ChangeMaps.open_string Try.underlying9 (hval 0 9 _ rfl rfl) h0
  obtain ⟨s1, rfl, rfl, rfl, ws1⟩ := Go.ChangeMaps.open_string Try.underlying9 (hval 1 9 _ rfl rfl) h1
  refine (octetTexts_calls s0 ws0 s1 ws1 W).mono fun e W' ⟨he, j, hj⟩ => ?_
  subst he; subst hj
  exact ⟨_, rfl, law_post Try.laidOut (by kernel_rfl) rfl rfl rfl hW' (w_ext_below _ _)⟩

theorem octetTexts_holds : Rows.OctetTextsSaid :=
  OpenClaim.holds_of_wide 11 Try.f11 rfl rfl rfl rfl rfl rfl rfl ⟨rfl, rfl, rfl, rfl, rfl⟩ rfl rfl rfl rfl rfl (by kernel_rfl) Try.func11 (by kernel_rfl)
    (of_decide_eq_true (by kernel_rfl)) (by unfold Func.isWrapper; first | (rw [if_pos (by decide +kernel)]; kernel_rfl) | (rw [if_neg (by decide +kernel)]; exact ⟨rfl, rfl⟩))
    (fun os started H enc _ => octetTexts_lifted os started H enc)
end Go.Proofs.Ytdjmpedfeahajaa
