/- No text stands between one and its next one, and what begins with a text stands below the least one beyond: for all texts. -/
import Derived.Test.YtdjmpedfeahajaaL
import Derived.Test.YtdjmpedfeahajaaQ2
namespace Go.Proofs.Ytdjmpedfeahajaa
open Go.ChangeShapes Go.WideShapes Go.ChangeAt Go.RowKit

theorem bey_size {s t : ByteArray} (h : bey s s.size = some t) (hs : s.size < 9223372036854775807) : t.size < 9223372036854775807 := by
  rcases bey_spec s s.size (Nat.le_refl _) with ⟨h1, _⟩ | ⟨p, c, q, e, h1, h2, h3, h4, h5⟩
  · rw [h] at h1; exact absurd h1 (by simp)
  · rw [h] at h4
    obtain rfl : t = e := by simpa using h4
    have a := congrArg List.length h1
    have b := congrArg List.length h5
    simp only [List.length_append, List.length_cons, List.length_nil, List.length_take, Array.length_toList] at a b
    have : t.size = t.data.size := rfl
    have : s.size = s.data.size := rfl
    omega

set_option maxHeartbeats 2000000 in
set_option maxRecDepth 100000 in
theorem least_long (s o : ByteArray) (w : World) (h : 8192 < s.size ∨ 8192 < o.size) (hs : s.size ≤ maxLen) (ho : o.size ≤ maxLen) : Calls Try.prog 9 #[.string s, .string o] w (Ret (.bool true) w) := by
  unfold maxLen at hs ho
  go_enter Try.func9, Try.ntmps9
  by_cases h1 : (8192 : Int) < (s.size : Int)
  · go_wp2_with (go_at_call 42; (with_reducible refine (awake01_any _).mono ?_); rintro e1 w1 ⟨rfl, j1, rfl⟩)
    go_ret
    exact Ret.mk rfl (by (repeat' (first | (with_reducible exact Below.refl _ _) | (with_reducible assumption) | (with_reducible exact below_app _ _ _ _) | (with_reducible refine Below.alloc ?_ ?_ _) | (with_reducible refine below_ext ?_ ?_ _) | (with_reducible refine Below.drew ?_) | (with_reducible refine below_drewN ?_ _) | (with_reducible refine Below.setCell ?_ ?_ _) | go_size)))
  · have h2 : (8192 : Int) < (o.size : Int) := by omega
    go_wp2_with (go_at_call 42; (with_reducible refine (awake01_any _).mono ?_); rintro e1 w1 ⟨rfl, j1, rfl⟩)
    go_ret
    exact Ret.mk rfl (by (repeat' (first | (with_reducible exact Below.refl _ _) | (with_reducible assumption) | (with_reducible exact below_app _ _ _ _) | (with_reducible refine Below.alloc ?_ ?_ _) | (with_reducible refine below_ext ?_ ?_ _) | (with_reducible refine Below.drew ?_) | (with_reducible refine below_drewN ?_ _) | (with_reducible refine Below.setCell ?_ ?_ _) | go_size)))

set_option maxHeartbeats 2000000 in
set_option maxRecDepth 100000 in
theorem least_none (s o A : ByteArray) (b1 b2 b4 : Bool) (w : World) (h1 : ¬ (8192 : Int) < (s.size : Int)) (h2 : ¬ (8192 : Int) < (o.size : Int)) (HA : s ++ (⟨#[0]⟩ : ByteArray) = A) (hA : A.size < 9223372036854775807)
    (H1 : ltL s.data.toList o.data.toList = b1) (H2 : ltL o.data.toList A.data.toList = b2) (H3 : ltL s.data.toList A.data.toList = true) (H4 : ltL o.data.toList s.data.toList = b4) (hb : (b1 && b2) = false)
    (HB : bey s s.size = none) (HP : preL s.data.toList o.data.toList = !b4) : Calls Try.prog 9 #[.string s, .string o] w (Ret (.bool true) w) := by
  have H5 := H4
  cases b1 <;> cases b4 <;> (try cases b2) <;> simp at hb <;>
  · go_enter Try.func9, Try.ntmps9
    go_wp2_with (first | (go_at_call 42; (with_reducible refine (awake01_any _).mono ?_); rintro e1 w1 ⟨rfl, j1, rfl⟩) | (go_at_call 43; (with_reducible refine (after_any _ _ ?_).mono ?_); (· omega); rw [HA]; rintro e1 w1 ⟨rfl, j1, rfl⟩) | (go_at_call 44; (with_reducible refine (lessR_any _ _ _ ?_).mono ?_); (· omega); (first | rw [H1] | rw [H2] | rw [H3] | rw [H4] | rw [H5]); rintro e1 w1 ⟨rfl, j1, rfl⟩) | (go_at_call 45; (with_reducible refine (beyond_any _ _ ?_).mono ?_); (· omega); rw [HB]; simp only [BeyV]; rintro e1 w1 ⟨rfl, j1, rfl⟩) | (go_at_call 46; (with_reducible refine (beginsR_any _ _ _).mono ?_); rw [HP]; rintro e1 w1 ⟨rfl, j1, rfl⟩))
    go_ret
    exact Ret.mk rfl (by (repeat' (first | (with_reducible exact Below.refl _ _) | (with_reducible assumption) | (with_reducible exact below_app _ _ _ _) | (with_reducible refine Below.alloc ?_ ?_ _) | (with_reducible refine below_ext ?_ ?_ _) | (with_reducible refine Below.drew ?_) | (with_reducible refine below_drewN ?_ _) | (with_reducible refine Below.setCell ?_ ?_ _) | go_size)))

set_option maxHeartbeats 2000000 in
set_option maxRecDepth 100000 in
theorem least_some (s o A E : ByteArray) (b1 b2 b4 b5 : Bool) (w : World) (h1 : ¬ (8192 : Int) < (s.size : Int)) (h2 : ¬ (8192 : Int) < (o.size : Int)) (HA : s ++ (⟨#[0]⟩ : ByteArray) = A) (hA : A.size < 9223372036854775807)
    (hE : E.size < 9223372036854775807)
    (H1 : ltL s.data.toList o.data.toList = b1) (H2 : ltL o.data.toList A.data.toList = b2) (H3 : ltL s.data.toList A.data.toList = true) (H4 : ltL o.data.toList s.data.toList = b4) (hb : (b1 && b2) = false)
    (H5 : ltL o.data.toList E.data.toList = b5)
    (HB : bey s s.size = some E) (HP : preL s.data.toList o.data.toList = (!b4 && b5)) : Calls Try.prog 9 #[.string s, .string o] w (Ret (.bool true) w) := by
  cases b1 <;> cases b4 <;> cases b5 <;> (try cases b2) <;> simp at hb HP <;>
  · go_enter Try.func9, Try.ntmps9
    go_wp2_with (first | (go_at_call 42; (with_reducible refine (awake01_any _).mono ?_); rintro e1 w1 ⟨rfl, j1, rfl⟩) | (go_at_call 43; (with_reducible refine (after_any _ _ ?_).mono ?_); (· omega); rw [HA]; rintro e1 w1 ⟨rfl, j1, rfl⟩) | (go_at_call 44; (with_reducible refine (lessR_any _ _ _ ?_).mono ?_); (· omega); (first | rw [H1] | rw [H2] | rw [H3] | rw [H4] | rw [H5]); rintro e1 w1 ⟨rfl, j1, rfl⟩) | (go_at_call 45; (with_reducible refine (beyond_any _ _ ?_).mono ?_); (· omega); rw [HB]; simp only [BeyV]; rintro e1 w1 ⟨rfl, j1, rfl⟩) | (go_at_call 46; (with_reducible refine (beginsR_any _ _ _).mono ?_); rw [HP]; rintro e1 w1 ⟨rfl, j1, rfl⟩))
    go_ret
    exact Ret.mk rfl (by (repeat' (first | (with_reducible exact Below.refl _ _) | (with_reducible assumption) | (with_reducible exact below_app _ _ _ _) | (with_reducible refine Below.alloc ?_ ?_ _) | (with_reducible refine below_ext ?_ ?_ _) | (with_reducible refine Below.drew ?_) | (with_reducible refine below_drewN ?_ _) | (with_reducible refine Below.setCell ?_ ?_ _) | go_size)))

theorem octetLeast_calls (s : ByteArray) (hs : s.size ≤ maxLen) (o : ByteArray) (ho : o.size ≤ maxLen) (w : World) : Calls Try.prog 9 #[.string s, .string o] w (Ret (.bool true) w) := by
  by_cases hl : 8192 < s.size ∨ 8192 < o.size
  · exact least_long s o w hl hs ho
  · have hA : (s ++ (⟨#[0]⟩ : ByteArray)).size = s.size + 1 := by rw [ByteArray.size_append]; rfl
    have g2 : (ltL s.data.toList o.data.toList && ltL o.data.toList (s ++ (⟨#[0]⟩ : ByteArray)).data.toList) = false := by
      rw [after_list]
      cases h : ltL s.data.toList o.data.toList
      · rfl
      · exact ltL_between _ _ h
    have g3 : ltL s.data.toList (s ++ (⟨#[0]⟩ : ByteArray)).data.toList = true := by rw [after_list]; exact ltL_after _
    cases hb : bey s s.size with
    | none => exact least_none s o _ _ _ _ w (by omega) (by omega) rfl (by omega) rfl rfl g3 rfl g2 hb (bey_law_none hb _)
    | some E => exact least_some s o _ E _ _ _ _ w (by omega) (by omega) rfl (by omega) (bey_size hb (by omega)) rfl rfl g3 rfl g2 rfl hb (bey_law_some hb _)

set_option maxRecDepth 100000 in
theorem octetLeast_lifted (os : Os) (started : os.Started) (H : Type) (enc : TypeId × Value → H) :
    ReturnsInHanded {} Try.checked os 9 .any (Rows.octetLeastSpec.pre6 enc Try.prog Try.f9 Rows.octetLeastRow.domain false) (Rows.octetLeastSpec.post enc Try.prog Try.f9 false true false false) := by
  refine returnsInHanded_of_change (C := Try.checked) Try.own started (by kernel_rfl) Try.func9
    (ChangeSpec.witness6 (enc := enc) (C := Try.checked) false ⟨#[], #[.string ⟨#[]⟩, .string ⟨#[]⟩], []⟩ 8 (by kernel_rfl) (by kernel_rfl) (by kernel_rfl) (by kernel_rfl)) ?_
  intro W base args ds gs before hval0 hW hcnd _
  have hval : ∀ (j : Nat) t v, Try.f9.params[j]? = some t → args[j]? = some v → Value.okWide Try.prog W .any base t v := hval0
  have hW' := hW
  obtain ⟨p, q, hA0, hV, rfl, hfz, hnd⟩ := hW
  have hA : DataW.TrodAll enc Try.prog W 0 (fun _ => true) true Try.f9.params.toList args.toList ds p := hA0
  rw [Try.params9] at hA hval
  obtain ⟨v0, vs0, d0, ds0, p0, q0, hargs, rfl, rfl, h0, r0⟩ := trodAll_cons hA
  obtain ⟨v1, vs1, d1, ds1, p1, q1, rfl, rfl, rfl, h1, r1⟩ := trodAll_cons r0
  obtain ⟨rfl, rfl, rfl⟩ := trodAll_nil r1
  obtain rfl : args = #[v0, v1] := by cases args; simp_all
  obtain ⟨rfl, rfl⟩ := trodVars_none hV
  obtain ⟨s0, rfl, rfl, rfl, ws0⟩ := Go.ChangeMaps.open_string Try.underlying9 (hval 0 9 _ rfl rfl) h0
  obtain ⟨s1, rfl, rfl, rfl, ws1⟩ := Go.ChangeMaps.open_string Try.underlying9 (hval 1 9 _ rfl rfl) h1
  refine (octetLeast_calls s0 ws0 s1 ws1 W).mono fun e W' ⟨he, j, hj⟩ => ?_
  subst he; subst hj
  exact ⟨_, rfl, law_post Try.laidOut (by kernel_rfl) rfl rfl rfl hW' (w_ext_below _ _)⟩

theorem octetLeast_holds : Rows.OctetLeastSaid :=
  OpenClaim.holds_of_wide 9 Try.f9 rfl rfl rfl rfl rfl rfl rfl ⟨rfl, rfl, rfl, rfl, rfl⟩ rfl rfl rfl rfl rfl (by kernel_rfl) Try.func9 (by kernel_rfl)
    (of_decide_eq_true (by kernel_rfl)) (by unfold Func.isWrapper; first | (rw [if_pos (by decide +kernel)]; kernel_rfl) | (rw [if_neg (by decide +kernel)]; exact ⟨rfl, rfl⟩))
    (fun os started H enc _ => octetLeast_lifted os started H enc)
end Go.Proofs.Ytdjmpedfeahajaa
