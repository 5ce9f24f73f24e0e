/- Helper lemmas: the law on what was joined and split: its walk. No condition. -/
import Derived.Test.YtaingleopdnkiaaDoorF1
set_option linter.unusedSimpArgs false
set_option linter.unusedVariables false
namespace Go.Proofs.YtaingleopdnkiaaDoor
open Go.RowKit

theorem tell_len (s : ByteArray) (h : ¬ (splitR s).2 = 0) : (splitR s).1.length = 0 := by rw [split_none s h]; rfl
set_option maxHeartbeats 2000000 in
set_option maxRecDepth 100000 in
theorem back_law (A : Option Addr) (c : Nat) (l : List ByteArray) (s : ByteArray) (mx : Int) (w : World) (hm : w.cell? ⟨0, 0, none⟩ = some (.int .i64 mx)) (hA : StrsAt w A l) (hc : l.length ≤ c) (hcm : c ≤ maxLen) (h0 : A = none → c = 0) : Calls Tryd.prog 8 #[.slice A l.length c, .string s] w (Ret (.bool true) w) := by
  have hl0 := leB_of_cell hm
  have hlm : l.length ≤ maxLen := Nat.le_trans hc hcm
  have HSH := Lib.hid (short_tells A c l w hA hlm)
  have HA := Lib.hid hA
  have HJ := Lib.hid (fun ht => join_any A c l mx w hA hc hcm ht hm)
  have HEQ := Lib.hid (fun A2 w' h1 h2 h3 => eq_any A2 A l.length c l l w' h1 h2 h3)
  rw [decide_eq_true rfl] at HEQ
  have hjs := join_split l
  have HS1 := Lib.hid (fun w' h => split_any (joinR l).1 mx w' h)
  have HS2 := Lib.hid (fun w' h => split_any s mx w' h)
  have hsl := split_len s
  have hno2 := Lib.hid (tell_len s)
  have hok2 := Lib.hid (show (splitR s).2 = 0 → (∀ A2 w', StrsAt w' A2 (splitR s).1 → w'.cell? ⟨0, 0, none⟩ = some (.int .i64 mx) → Calls Tryd.prog 26 #[.slice A2 (splitR s).1.length (splitR s).1.length] w' (Ret (.tuple #[.string s, .int .i64 0]) w')) ∧ True from fun h => ⟨fun A2 w' h1 h2 => by
    have := join_any A2 (splitR s).1.length (splitR s).1 mx w' h1 (Nat.le_refl _) (by simp only [maxLen]; omega) (split_tot s) h2
    rw [split_join s (splitR s).1 (Prod.ext rfl h)] at this
    exact this, trivial⟩)
  generalize joinR l = r at *
  obtain ⟨p, x⟩ := r
  simp only at HJ HS1 hjs
  have hjs2 : x = 0 → Hid (∀ w', w'.cell? ⟨0, 0, none⟩ = some (.int .i64 mx) → Calls Tryd.prog 19 #[.string p] w' (TellP (l, 0) w')) := fun h => Lib.hid (by
    have h1 := HS1.out
    rw [hjs h] at h1
    exact h1)
  clear HS1 hjs
  generalize splitR s = r2 at *
  obtain ⟨k2, x2⟩ := r2
  simp only at hsl hno2 hok2
  obtain ⟨n, hn⟩ : ∃ n, l.length = n := ⟨_, rfl⟩
  have HM := Lib.hid hm
  rw [hn] at HSH HJ HEQ ⊢
  have HN := Lib.hid hn
  have HJS := Lib.hid hjs2
  have HW := Lib.hid (Below.refl w.heap.size w)
  clear hA hc hcm h0 hlm hn hjs2
  by_cases hbig : 4096 < (s.size : Int)
  · go_enter Tryd.func8, Tryd.ntmps8
    go_wp2_with (first
      | (go_at_call 10; (with_reducible refine (awake_m mx _ ?_).mono ?_); (· simp [go_sem, hl0, hm]); rintro e1 w9 ⟨rfl, j9, rfl⟩)
      | (go_at_call 17; (with_reducible refine HSH.out.mono ?_); rintro e1 w1 ⟨b1, rfl, rfl, hsb⟩; clear hsb; cases b1))
    all_goals
      go_ret
      exact Ret.mk (by first | rfl | simp) (by (repeat' (first | (with_reducible exact Below.refl _ _) | (with_reducible assumption) | (with_reducible exact below_app _ _ _ _) | (with_reducible refine below_pre ?_; (simp only [List.append_assoc, List.prefix_append, List.prefix_refl, List.prefix_append_right_inj])) | (with_reducible refine Below.alloc ?_ ?_ _) | (with_reducible refine below_ext ?_ ?_ _) | (with_reducible refine Below.drew ?_) | (with_reducible refine below_drewN ?_ _) | (with_reducible refine Below.setCell ?_ ?_ _) | go_size | (simp only [w_size_ext, List.length_append, World.alloc_size]; omega) | (simp; done) | (simp; omega))))
  go_enter Tryd.func8, Tryd.ntmps8
  by_cases hx1 : x = 0
  · subst hx1
    have HP := HJS.out rfl
    clear HJS
    by_cases hx : x2 = 0
    · subst hx
      obtain ⟨HJ2, _⟩ := hok2.out rfl
      replace HJ2 := Lib.hid HJ2
      clear hno2 hok2
      go_wp2_with (first | (go_at_call 10; (with_reducible refine (awake_m mx _ ?_).mono ?_); (· simp [go_sem, hl7, hm7]); rintro e1 w9 ⟨rfl, j9, rfl⟩) | (go_at_call 10; (with_reducible refine (awake_m mx _ ?_).mono ?_); (· simp [go_sem, hl0, hm]); rintro e1 w9 ⟨rfl, j9, rfl⟩) | (go_at_call 17; (with_reducible refine HSH.out.mono ?_); rintro e1 w1 ⟨b1, rfl, rfl, hsb⟩; replace hsb := Lib.hid hsb; cases b1) | (go_at_call 26; (with_reducible refine (HJ2.out A6 _ HT6.out (cell_kept HB6.out HM.out)).mono ?_); rintro e1 w7 ⟨rfl, j7, hw7⟩; have HB7 := Lib.hid (below_tr HB6.out (show Below w6.heap.size w6 w7 by rw [hw7]; exact w_ext_below _ _)); clear hw7; have hm7 := cell_kept HB7.out HM.out; have hl7 := leB_of_cell hm7) | (go_at_call 26; (with_reducible refine (HJ.out (by have := (hsb.out (by simp)).2; omega)).mono ?_); rintro e1 w3 ⟨rfl, j3, hw3⟩; have HB3 := Lib.hid (below_tr HW.out (show Below _ _ w3 by rw [hw3]; exact w_ext_below _ _)); clear hw3 hm hl0) | (go_at_call 24; (with_reducible refine (HEQ.out _ _ HT4.out (HA.out.later HB4.out) (by have := (hsb.out (by simp)).1; have := HN.out; simp only [maxLen]; omega)).mono ?_); rintro e1 w5 ⟨rfl, j5, hw5⟩; have HB5 := Lib.hid (below_tr HB4.out (show Below _ _ w5 by rw [hw5]; exact w_ext_below _ _)); clear hw5) | (go_at_call 19; (with_reducible refine (HP.out _ (cell_kept HB3.out HM.out)).mono ?_); rintro e1 w4 ⟨A4, j4, rfl, hw4, HT4, HA4⟩; simp only [HN.out]; have HB4 := Lib.hid (below_tr HB3.out (show Below _ _ w4 by rw [hw4]; exact w_ext_below _ _)); clear hw4) | (go_at_call 19; (with_reducible refine (HS2.out _ (cell_kept HB5.out HM.out)).mono ?_); rintro e1 w6 ⟨A6, j6, rfl, hw6, HT6, HA6⟩; have HB6 := Lib.hid (below_tr HB5.out (show Below _ _ w6 by rw [hw6]; exact w_ext_below _ _)); clear hw6))
      · go_ret
        exact Ret.mk (by first | rfl | simp) (by (repeat' (first | (with_reducible exact Below.refl _ _) | (with_reducible assumption) | (with_reducible exact below_app _ _ _ _) | (with_reducible refine below_pre ?_; (simp only [List.append_assoc, List.prefix_append, List.prefix_refl, List.prefix_append_right_inj])) | (with_reducible refine Below.alloc ?_ ?_ _) | (with_reducible refine below_ext ?_ ?_ _) | (with_reducible refine Below.drew ?_) | (with_reducible refine below_drewN ?_ _) | (with_reducible refine Below.setCell ?_ ?_ _) | go_size | (simp only [w_size_ext, List.length_append, World.alloc_size]; omega) | (simp; done) | (simp; omega))))
      go_ret
      exact Ret.mk (by first | rfl | simp) (below_two HB7.out _)
    · have hx3 : (x2 != 0) = true := by simpa using hx
      have hk0 := Lib.hid (hno2.out hx)
      clear hno2 hok2
      go_wp2_with (first | (go_at_call 10; (with_reducible refine (awake_m mx _ ?_).mono ?_); (· simp [go_sem, hl7, hm7]); rintro e1 w9 ⟨rfl, j9, rfl⟩) | (go_at_call 10; (with_reducible refine (awake_m mx _ ?_).mono ?_); (· simp [go_sem, hl0, hm]); rintro e1 w9 ⟨rfl, j9, rfl⟩) | (go_at_call 17; (with_reducible refine HSH.out.mono ?_); rintro e1 w1 ⟨b1, rfl, rfl, hsb⟩; replace hsb := Lib.hid hsb; cases b1) | (go_at_call 26; (with_reducible refine (HJ.out (by have := (hsb.out (by simp)).2; omega)).mono ?_); rintro e1 w3 ⟨rfl, j3, hw3⟩; have HB3 := Lib.hid (below_tr HW.out (show Below _ _ w3 by rw [hw3]; exact w_ext_below _ _)); clear hw3 hm hl0) | (go_at_call 24; (with_reducible refine (HEQ.out _ _ HT4.out (HA.out.later HB4.out) (by have := (hsb.out (by simp)).1; have := HN.out; simp only [maxLen]; omega)).mono ?_); rintro e1 w5 ⟨rfl, j5, hw5⟩; have HB5 := Lib.hid (below_tr HB4.out (show Below _ _ w5 by rw [hw5]; exact w_ext_below _ _)); clear hw5) | (go_at_call 19; (with_reducible refine (HP.out _ (cell_kept HB3.out HM.out)).mono ?_); rintro e1 w4 ⟨A4, j4, rfl, hw4, HT4, HA4⟩; simp only [HN.out]; have HB4 := Lib.hid (below_tr HB3.out (show Below _ _ w4 by rw [hw4]; exact w_ext_below _ _)); clear hw4) | (go_at_call 19; (with_reducible refine (HS2.out _ (cell_kept HB5.out HM.out)).mono ?_); rintro e1 w6 ⟨A6, j6, rfl, hw6, HT6, HA6⟩; simp only [hk0.out]; have HB7 := Lib.hid (below_tr HB5.out (show Below _ _ w6 by rw [hw6]; exact w_ext_below _ _)); clear hw6; have hm7 := cell_kept HB7.out HM.out; have hl7 := leB_of_cell hm7))
      · go_ret
        exact Ret.mk (by first | rfl | simp) (by (repeat' (first | (with_reducible exact Below.refl _ _) | (with_reducible assumption) | (with_reducible exact below_app _ _ _ _) | (with_reducible refine below_pre ?_; (simp only [List.append_assoc, List.prefix_append, List.prefix_refl, List.prefix_append_right_inj])) | (with_reducible refine Below.alloc ?_ ?_ _) | (with_reducible refine below_ext ?_ ?_ _) | (with_reducible refine Below.drew ?_) | (with_reducible refine below_drewN ?_ _) | (with_reducible refine Below.setCell ?_ ?_ _) | go_size | (simp only [w_size_ext, List.length_append, World.alloc_size]; omega) | (simp; done) | (simp; omega))))
      go_ret
      exact Ret.mk (by first | rfl | simp) (below_two HB7.out _)
  · have hx4 : (x == 0) = false := by simpa using hx1
    clear HJS
    by_cases hx : x2 = 0
    · subst hx
      obtain ⟨HJ2, _⟩ := hok2.out rfl
      replace HJ2 := Lib.hid HJ2
      clear hno2 hok2
      go_wp2_with (first | (go_at_call 10; (with_reducible refine (awake_m mx _ ?_).mono ?_); (· simp [go_sem, hl7, hm7]); rintro e1 w9 ⟨rfl, j9, rfl⟩) | (go_at_call 10; (with_reducible refine (awake_m mx _ ?_).mono ?_); (· simp [go_sem, hl0, hm]); rintro e1 w9 ⟨rfl, j9, rfl⟩) | (go_at_call 17; (with_reducible refine HSH.out.mono ?_); rintro e1 w1 ⟨b1, rfl, rfl, hsb⟩; replace hsb := Lib.hid hsb; cases b1) | (go_at_call 26; (with_reducible refine (HJ2.out A6 _ HT6.out (cell_kept HB6.out HM.out)).mono ?_); rintro e1 w7 ⟨rfl, j7, hw7⟩; have HB7 := Lib.hid (below_tr HB6.out (show Below w6.heap.size w6 w7 by rw [hw7]; exact w_ext_below _ _)); clear hw7; have hm7 := cell_kept HB7.out HM.out; have hl7 := leB_of_cell hm7) | (go_at_call 26; (with_reducible refine (HJ.out (by have := (hsb.out (by simp)).2; omega)).mono ?_); rintro e1 w3 ⟨rfl, j3, hw3⟩; have HB5 := Lib.hid (below_tr HW.out (show Below _ _ w3 by rw [hw3]; exact w_ext_below _ _)); clear hw3 hm hl0) | (go_at_call 19; (with_reducible refine (HS2.out _ (cell_kept HB5.out HM.out)).mono ?_); rintro e1 w6 ⟨A6, j6, rfl, hw6, HT6, HA6⟩; have HB6 := Lib.hid (below_tr HB5.out (show Below _ _ w6 by rw [hw6]; exact w_ext_below _ _)); clear hw6))
      · go_ret
        exact Ret.mk (by first | rfl | simp) (by (repeat' (first | (with_reducible exact Below.refl _ _) | (with_reducible assumption) | (with_reducible exact below_app _ _ _ _) | (with_reducible refine below_pre ?_; (simp only [List.append_assoc, List.prefix_append, List.prefix_refl, List.prefix_append_right_inj])) | (with_reducible refine Below.alloc ?_ ?_ _) | (with_reducible refine below_ext ?_ ?_ _) | (with_reducible refine Below.drew ?_) | (with_reducible refine below_drewN ?_ _) | (with_reducible refine Below.setCell ?_ ?_ _) | go_size | (simp only [w_size_ext, List.length_append, World.alloc_size]; omega) | (simp; done) | (simp; omega))))
      go_ret
      exact Ret.mk (by first | rfl | simp) (below_two HB7.out _)
    · have hx3 : (x2 != 0) = true := by simpa using hx
      have hk0 := Lib.hid (hno2.out hx)
      clear hno2 hok2
      go_wp2_with (first | (go_at_call 10; (with_reducible refine (awake_m mx _ ?_).mono ?_); (· simp [go_sem, hl7, hm7]); rintro e1 w9 ⟨rfl, j9, rfl⟩) | (go_at_call 10; (with_reducible refine (awake_m mx _ ?_).mono ?_); (· simp [go_sem, hl0, hm]); rintro e1 w9 ⟨rfl, j9, rfl⟩) | (go_at_call 17; (with_reducible refine HSH.out.mono ?_); rintro e1 w1 ⟨b1, rfl, rfl, hsb⟩; replace hsb := Lib.hid hsb; cases b1) | (go_at_call 26; (with_reducible refine (HJ.out (by have := (hsb.out (by simp)).2; omega)).mono ?_); rintro e1 w3 ⟨rfl, j3, hw3⟩; have HB5 := Lib.hid (below_tr HW.out (show Below _ _ w3 by rw [hw3]; exact w_ext_below _ _)); clear hw3 hm hl0) | (go_at_call 19; (with_reducible refine (HS2.out _ (cell_kept HB5.out HM.out)).mono ?_); rintro e1 w6 ⟨A6, j6, rfl, hw6, HT6, HA6⟩; simp only [hk0.out]; have HB7 := Lib.hid (below_tr HB5.out (show Below _ _ w6 by rw [hw6]; exact w_ext_below _ _)); clear hw6; have hm7 := cell_kept HB7.out HM.out; have hl7 := leB_of_cell hm7))
      · go_ret
        exact Ret.mk (by first | rfl | simp) (by (repeat' (first | (with_reducible exact Below.refl _ _) | (with_reducible assumption) | (with_reducible exact below_app _ _ _ _) | (with_reducible refine below_pre ?_; (simp only [List.append_assoc, List.prefix_append, List.prefix_refl, List.prefix_append_right_inj])) | (with_reducible refine Below.alloc ?_ ?_ _) | (with_reducible refine below_ext ?_ ?_ _) | (with_reducible refine Below.drew ?_) | (with_reducible refine below_drewN ?_ _) | (with_reducible refine Below.setCell ?_ ?_ _) | go_size | (simp only [w_size_ext, List.length_append, World.alloc_size]; omega) | (simp; done) | (simp; omega))))
      go_ret
      exact Ret.mk (by first | rfl | simp) (below_two HB7.out _)
end Go.Proofs.YtaingleopdnkiaaDoor
