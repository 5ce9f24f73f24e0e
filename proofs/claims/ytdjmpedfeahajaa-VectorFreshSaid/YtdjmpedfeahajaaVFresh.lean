/- The next event is known by no vector within the one that it was asked of, stands behind all events that it has, and with it a vector is as it was but for that: for all vectors, replicas and stamps. -/
import Derived.Test.YtdjmpedfeahajaaL
import Derived.Lib.Hide
import Derived.Test.YtdjmpedfeahajaaV5
set_option linter.unusedVariables false
namespace Go.Proofs.Ytdjmpedfeahajaa
open Go.ChangeShapes Go.WideShapes Go.ChangeAt Go.RowKit
def sel (i who n x : Int) : Int := if who = i then n else x
theorem sel_other (i who n x : Int) (hX : ¬ who = i) : sel i who n x = x := by simp only [sel, if_neg hX]
theorem next_ok (a b c d e f g h who n : Int) (w : World) (h0 : 0 ≤ who) (h8 : who < 8) (hg : goodB a b c d e f g h = true) (ht : top8 a b c d e f g h < 1099511627776) (hn : n = top8 a b c d e f g h + 1) :
    Calls Try.prog 18 #[vec a b c d e f g h, .int .i64 who] w (Ret (.tuple #[stamp n who, .int .i64 0]) w) := by
  have hX := next_any a b c d e f g h who w
  rwa [show nextV a b c d e f g h who = .tuple #[stamp n who, .int .i64 0] from by
    simp only [nextV]; rw [if_neg (by rw [hg]; simp; omega), if_neg (by omega), hn]] at hX
set_option maxRecDepth 100000 in
theorem next_no (a b c d e f g h who : Int) (hb : ¬ (0 ≤ who ∧ who < 8 ∧ goodB a b c d e f g h = true ∧ top8 a b c d e f g h < 1099511627776)) :
    ∃ er : Int, (er = 22 ∨ er = 75) ∧ ∀ w, Calls Try.prog 18 #[vec a b c d e f g h, .int .i64 who] w (Ret (.tuple #[stamp 0 0, .int .i64 er]) w) := by
  by_cases h1 : who < 0 ∨ 8 ≤ who ∨ goodB a b c d e f g h = false
  · have hv : nextV a b c d e f g h who = .tuple #[stamp 0 0, .int .i64 22] := by simp only [nextV]; rw [if_pos h1]
    refine ⟨22, Or.inl rfl, ?_⟩
    intro w
    have hX := next_any a b c d e f g h who w
    rw [hv] at hX
    exact hX
  · by_cases h2 : 1099511627776 ≤ top8 a b c d e f g h
    · have hv : nextV a b c d e f g h who = .tuple #[stamp 0 0, .int .i64 75] := by simp only [nextV]; rw [if_neg h1, if_pos h2]
      refine ⟨75, Or.inr rfl, ?_⟩
      intro w
      have hX := next_any a b c d e f g h who w
      rw [hv] at hX
      exact hX
    · exfalso; apply hb
      refine ⟨by omega, by omega, ?_, by omega⟩
      cases hg : goodB a b c d e f g h
      · exact absurd (Or.inr (Or.inr hg)) h1
      · rfl
theorem with_ok (a b c d e f g h n who : Int) (w : World) (hi : isB n who = true) (hl : get8 who a b c d e f g h ≤ n) : Calls Try.prog 37 #[vec a b c d e f g h, stamp n who] w (Ret (vec (sel 0 who n a) (sel 1 who n b) (sel 2 who n c) (sel 3 who n d) (sel 4 who n e) (sel 5 who n f) (sel 6 who n g) (sel 7 who n h)) w) := by
  have hX := with_any a b c d e f g h n who w
  rwa [show withV a b c d e f g h n who = vec (sel 0 who n a) (sel 1 who n b) (sel 2 who n c) (sel 3 who n d) (sel 4 who n e) (sel 5 who n f) (sel 6 who n g) (sel 7 who n h) from by
    simp only [withV, hi, if_true, set8, sel]; rw [Int.max_eq_right hl]] at hX
set_option maxHeartbeats 2000000 in
set_option maxRecDepth 100000 in
theorem fresh_no (a b c d e f g h a' b' c' d' e' f' g' h' who t who' : Int) (w : World) (hb : ¬ (0 ≤ who ∧ who < 8 ∧ goodB a b c d e f g h = true ∧ top8 a b c d e f g h < 1099511627776)) :
    Calls Try.prog 7 #[vec a b c d e f g h, vec a' b' c' d' e' f' g' h', .int .i64 who, stamp t who'] w (Ret (.bool true) w) := by
  obtain ⟨er, he, hc⟩ := next_no a b c d e f g h who hb
  clear hb
  have HC := Lib.hid hc; clear hc
  rcases he with rfl | rfl
  all_goals
    go_enter Try.func7, Try.ntmps7
    go_wp2_with (first | (go_at_call 18; (with_reducible refine (HC.out _).mono ?_); rintro e1 w1 ⟨rfl, j1, rfl⟩) | (go_at_call 20; (with_reducible refine (awake_any _).mono ?_); rintro e1 w1 ⟨rfl, j1, rfl⟩))
    go_ret
    exact Ret.mk (by first | rfl | simp) (by (repeat' (first | (with_reducible exact Below.refl _ _) | (with_reducible assumption) | (with_reducible refine Below.alloc ?_ ?_ _) | (with_reducible refine below_ext ?_ ?_ _) | (with_reducible refine Below.drew ?_) | (with_reducible refine below_drewN ?_ _) | (with_reducible refine Below.setCell ?_ ?_ _) | go_size)))
set_option maxHeartbeats 2000000 in
set_option maxRecDepth 100000 in
theorem fresh_yes (a b c d e f g h a' b' c' d' e' f' g' h' who t who' n : Int) (w : World) (h0 : 0 ≤ who) (h8 : who < 8) (hn : ∀ w, Calls Try.prog 18 #[vec a b c d e f g h, .int .i64 who] w (Ret (.tuple #[stamp n who, .int .i64 0]) w))
    (hw : ∀ w, Calls Try.prog 37 #[vec a b c d e f g h, stamp n who] w (Ret (vec (sel 0 who n a) (sel 1 who n b) (sel 2 who n c) (sel 3 who n d) (sel 4 who n e) (sel 5 who n f) (sel 6 who n g) (sel 7 who n h)) w)) (h1 : isB n who = true) (h2 : hasB a b c d e f g h n who = false) (h6 : hasB (sel 0 who n a) (sel 1 who n b) (sel 2 who n c) (sel 3 who n d) (sel 4 who n e) (sel 5 who n f) (sel 6 who n g) (sel 7 who n h) n who = true) (h7 : withinB a b c d e f g h (sel 0 who n a) (sel 1 who n b) (sel 2 who n c) (sel 3 who n d) (sel 4 who n e) (sel 5 who n f) (sel 6 who n g) (sel 7 who n h) = true)
    (B C : Bool) (h3 : withinB a' b' c' d' e' f' g' h' a b c d e f g h = B) (h4 : B = true → hasB a' b' c' d' e' f' g' h' n who = false) (h5 : hasB a b c d e f g h t who' = C) (h9 : C = true → lessB t who' n who = true) :
    Calls Try.prog 7 #[vec a b c d e f g h, vec a' b' c' d' e' f' g' h', .int .i64 who, stamp t who'] w (Ret (.bool true) w) := by
  have hE := eq_vec
  have HN := Lib.hid hn; clear hn
  have HW := Lib.hid hw; clear hw
  have hwho : who = 0 ∨ who = 1 ∨ who = 2 ∨ who = 3 ∨ who = 4 ∨ who = 5 ∨ who = 6 ∨ who = 7 := by omega
  have HO := Lib.hid hwho; clear hwho
  cases B <;> cases C

  all_goals
    (try have h4 := h4 rfl)
    (try have h9 := h9 rfl)
    go_enter Try.func7, Try.ntmps7
    go_wp2_with (first | (go_at_call 18; (with_reducible refine (HN.out _).mono ?_); rintro e1 w1 ⟨rfl, j1, rfl⟩) | (go_at_call 37; (with_reducible refine (HW.out _).mono ?_); rintro e1 w1 ⟨rfl, j1, rfl⟩) | (go_at_call 29; (with_reducible refine (is_any _ _ _).mono ?_); rintro e1 w1 ⟨rfl, j1, rfl⟩) | (go_at_call 35; (with_reducible refine (has_any _ _ _ _ _ _ _ _ _ _ _).mono ?_); rintro e1 w1 ⟨rfl, j1, rfl⟩) | (go_at_call 25; (with_reducible refine (within_any _ _ _ _ _ _ _ _ _ _ _ _ _ _ _ _ _).mono ?_); rintro e1 w1 ⟨rfl, j1, rfl⟩) | (go_at_call 31; (with_reducible refine (less_any _ _ _ _ _).mono ?_); rintro e1 w1 ⟨rfl, j1, rfl⟩) | (go_at_call 20; (with_reducible refine (awake_any _).mono ?_); rintro e1 w1 ⟨rfl, j1, rfl⟩))
    rcases HO.out with rfl | rfl | rfl | rfl | rfl | rfl | rfl | rfl
    all_goals
      have hs := sel_other
      go_region
      go_wp2_with (go_at_call 20; (with_reducible refine (awake_any _).mono ?_); rintro e1 w1 ⟨rfl, j1, rfl⟩)
      go_ret
      exact Ret.mk (by first | rfl | simp) (by (repeat' (first | (with_reducible exact Below.refl _ _) | (with_reducible assumption) | (with_reducible refine Below.alloc ?_ ?_ _) | (with_reducible refine below_ext ?_ ?_ _) | (with_reducible refine Below.drew ?_) | (with_reducible refine below_drewN ?_ _) | (with_reducible refine Below.setCell ?_ ?_ _) | go_size)))
theorem get8_le_top (i : Int) (a b c d e f g h : Int) : get8 i a b c d e f g h ≤ top8 a b c d e f g h := by
  simp only [get8, top8]
  repeat' split
  all_goals omega
theorem get8_mono (i : Int) (a b c d e f g h a' b' c' d' e' f' g' h' : Int) (hX : withinB a b c d e f g h a' b' c' d' e' f' g' h' = true) : get8 i a b c d e f g h ≤ get8 i a' b' c' d' e' f' g' h' := by
  simp only [withinB, Bool.and_eq_true, decide_eq_true_eq] at hX
  simp only [get8]
  repeat' split
  all_goals omega
theorem le_sel {i who n x m : Int} (h0 : x ≤ m) (h1 : m < n) : x ≤ sel i who n x := by
  simp only [sel]; split <;> omega
theorem get8_sel (who n : Int) (a b c d e f g h : Int) (h0 : 0 ≤ who) (h8 : who < 8) : get8 who (sel 0 who n a) (sel 1 who n b) (sel 2 who n c) (sel 3 who n d) (sel 4 who n e) (sel 5 who n f) (sel 6 who n g) (sel 7 who n h) = n := by
  have : who = 0 ∨ who = 1 ∨ who = 2 ∨ who = 3 ∨ who = 4 ∨ who = 5 ∨ who = 6 ∨ who = 7 := by omega
  rcases this with rfl | rfl | rfl | rfl | rfl | rfl | rfl | rfl <;> simp [get8, sel]
theorem top8_ge (a b c d e f g h : Int) : 0 ≤ top8 a b c d e f g h ∧ a ≤ top8 a b c d e f g h ∧ b ≤ top8 a b c d e f g h ∧ c ≤ top8 a b c d e f g h ∧ d ≤ top8 a b c d e f g h ∧ e ≤ top8 a b c d e f g h ∧ f ≤ top8 a b c d e f g h ∧ g ≤ top8 a b c d e f g h ∧ h ≤ top8 a b c d e f g h := by
  simp only [top8]; omega
theorem vectorFresh_calls (a b c d e f g h a' b' c' d' e' f' g' h' who t who' : Int) (w : World) : Calls Try.prog 7 #[vec a b c d e f g h, vec a' b' c' d' e' f' g' h', .int .i64 who, stamp t who'] w (Ret (.bool true) w) := by
  by_cases hb : 0 ≤ who ∧ who < 8 ∧ goodB a b c d e f g h = true ∧ top8 a b c d e f g h < 1099511627776
  · obtain ⟨h0, h8, hg, ht⟩ := hb
    obtain ⟨n, hn⟩ : ∃ n, n = top8 a b c d e f g h + 1 := ⟨_, rfl⟩
    obtain ⟨tz, ta, tb, tc, td, te, tf, tg, th⟩ := top8_ge a b c d e f g h
    have hgt : ∀ i, get8 i a b c d e f g h < n := fun i => by have := get8_le_top i a b c d e f g h; omega
    have h1 : isB n who = true := by simp only [isB, Bool.and_eq_true, decide_eq_true_eq]; omega
    refine fresh_yes a b c d e f g h a' b' c' d' e' f' g' h' who t who' n w h0 h8 (fun w => next_ok a b c d e f g h who n w h0 h8 hg ht hn) (fun w => with_ok a b c d e f g h n who w h1 (by have := hgt who; omega)) h1 ?_ ?_ ?_ _ _ rfl ?_ rfl ?_
    · have := hgt who
      simp only [hasB, h1, Bool.true_and, decide_eq_false_iff_not]; omega
    · simp only [hasB, h1, Bool.true_and, decide_eq_true_eq]; rw [get8_sel _ _ _ _ _ _ _ _ _ _ h0 h8]; omega
    · simp only [withinB, Bool.and_eq_true, decide_eq_true_eq]
      exact ⟨⟨⟨⟨⟨⟨⟨le_sel ta (by omega), le_sel tb (by omega)⟩, le_sel tc (by omega)⟩, le_sel td (by omega)⟩, le_sel te (by omega)⟩, le_sel tf (by omega)⟩, le_sel tg (by omega)⟩, le_sel th (by omega)⟩
    · intro hB
      have hX := get8_mono who _ _ _ _ _ _ _ _ _ _ _ _ _ _ _ _ hB
      have := hgt who
      simp only [hasB, h1, Bool.true_and, decide_eq_false_iff_not]; omega
    · intro hC
      simp only [hasB, Bool.and_eq_true, decide_eq_true_eq] at hC
      have := hgt who'
      simp only [lessB, Bool.or_eq_true, decide_eq_true_eq]; left; omega
  · exact fresh_no a b c d e f g h a' b' c' d' e' f' g' h' who t who' w hb

set_option maxRecDepth 100000 in
theorem vectorFresh_lifted (os : Os) (started : os.Started) (H : Type) (enc : TypeId × Value → H) :
    ReturnsInHanded {} Try.checked os 7 .any (Rows.vectorFreshSpec.pre6 enc Try.prog Try.f7 Rows.vectorFreshRow.domain false) (Rows.vectorFreshSpec.post enc Try.prog Try.f7 false true false false) := by
  refine returnsInHanded_of_change (C := Try.checked) Try.own started (by kernel_rfl) Try.func7
    (ChangeSpec.witness6 (enc := enc) (C := Try.checked) false ⟨#[], #[.agg #[.int .i64 0, .int .i64 0, .int .i64 0, .int .i64 0, .int .i64 0, .int .i64 0, .int .i64 0, .int .i64 0], .agg #[.int .i64 0, .int .i64 0, .int .i64 0, .int .i64 0, .int .i64 0, .int .i64 0, .int .i64 0, .int .i64 0], .int .i64 0, .agg #[.int .i64 0, .int .i64 0]], []⟩ 8 (by kernel_rfl) (by kernel_rfl) (by kernel_rfl) (by kernel_rfl)) ?_
  intro W base args ds gs before hval0 hW hcnd _
  have hval : ∀ (j : Nat) t v, Try.f7.params[j]? = some t → args[j]? = some v → Value.okWide Try.prog W .any base t v := hval0
  have hW' := hW
  obtain ⟨p, q, hA0, hV, rfl, hfz, hnd⟩ := hW
  have hA : DataW.TrodAll enc Try.prog W 0 (fun _ => true) true Try.f7.params.toList args.toList ds p := hA0
  rw [Try.params7] at hA hval
  obtain ⟨v0, vs0, d0, ds0, p0, q0, hargs, rfl, rfl, h0, r0⟩ := trodAll_cons hA
  obtain ⟨v1, vs1, d1, ds1, p1, q1, rfl, rfl, rfl, h1, r1⟩ := trodAll_cons r0
  obtain ⟨v2, vs2, d2, ds2, p2, q2, rfl, rfl, rfl, h2, r2⟩ := trodAll_cons r1
  obtain ⟨v3, vs3, d3, ds3, p3, q3, rfl, rfl, rfl, h3, r3⟩ := trodAll_cons r2
  obtain ⟨rfl, rfl, rfl⟩ := trodAll_nil r3
  obtain rfl : args = #[v0, v1, v2, v3] := by cases args; simp_all
  obtain ⟨rfl, rfl⟩ := trodVars_none hV
  obtain ⟨xa0, xb0, xc0, xd0, xe0, xf0, xg0, xh0, rfl, wxa0, wxb0, wxc0, wxd0, wxe0, wxf0, wxg0, wxh0⟩ := open_vec (hval 0 23 _ rfl rfl) h0
  obtain ⟨xa1, xb1, xc1, xd1, xe1, xf1, xg1, xh1, rfl, wxa1, wxb1, wxc1, wxd1, wxe1, wxf1, wxg1, wxh1⟩ := open_vec (hval 1 23 _ rfl rfl) h1
  obtain ⟨n2, rfl, wn2⟩ := open_i64 (hval 2 3 _ rfl rfl) h2
  obtain ⟨t3, who3, rfl, wt3, ww3⟩ := open_stamp (hval 3 25 _ rfl rfl) h3
  refine (vectorFresh_calls xa0 xb0 xc0 xd0 xe0 xf0 xg0 xh0 xa1 xb1 xc1 xd1 xe1 xf1 xg1 xh1 n2 t3 who3 W).mono fun e W' ⟨he, j, hj⟩ => ?_
  subst he; subst hj
  exact ⟨_, rfl, law_post Try.laidOut (by kernel_rfl) rfl rfl rfl hW' (w_ext_below _ _)⟩

theorem vectorFresh_holds : Rows.VectorFreshSaid :=
  OpenClaim.holds_of_wide 7 Try.f7 rfl rfl rfl rfl rfl rfl rfl ⟨rfl, rfl, rfl, rfl, rfl⟩ rfl rfl rfl rfl rfl (by kernel_rfl) Try.func7 (by kernel_rfl)
    (of_decide_eq_true (by kernel_rfl)) (by unfold Func.isWrapper; first | (rw [if_pos (by decide +kernel)]; kernel_rfl) | (rw [if_neg (by decide +kernel)]; exact ⟨rfl, rfl⟩))
    (fun os started H enc _ => vectorFresh_lifted os started H enc)
end Go.Proofs.Ytdjmpedfeahajaa
