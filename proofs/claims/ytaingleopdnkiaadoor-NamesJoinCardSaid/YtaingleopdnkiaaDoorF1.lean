/- Helper lemmas: the laws on joins: their walks. No condition. -/
import Derived.Test.YtaingleopdnkiaaDoorE3
set_option linter.unusedSimpArgs false
set_option linter.unusedVariables false
namespace Go.Proofs.YtaingleopdnkiaaDoor
open Go.RowKit

theorem tail_cuts : ∀ l : List UInt8, Lib.joinTail [47] (cuts l) = 47 :: l
  | [] => by simp [cuts, Lib.joinTail]
  | b :: l => by
    have ih := tail_cuts l
    rw [cuts]
    by_cases hb : (b == 47) = true
    · rw [if_pos hb]
      have e : b = 47 := by simpa using hb
      have e2 : Lib.joinTail [47] ([] :: cuts l) = [47] ++ Lib.joinTail [47] (cuts l) := by simp [Lib.joinTail]
      rw [e2, ih, e]
      rfl
    · rw [if_neg hb]
      cases hc : cuts l with
      | nil => exact absurd hc (cuts_ne l)
      | cons x r =>
        rw [hc] at ih
        simp [Lib.joinTail] at ih ⊢
        exact ih
theorem pathT_cutL (t : ByteArray) : pathT (cutL t) = bsL (47 :: t.data.toList) := by
  unfold pathT
  rw [cutL_cuts, tail_cuts]
/-- What was split is joined as it was. -/
theorem split_join (s : ByteArray) (k : List ByteArray) (h : splitR s = (k, 0)) : joinR k = (s, 0) := by
  have h0 := h
  unfold splitR at h
  split at h
  · simp at h
  rename_i h120
  split at h
  · simp at h
  rename_i hne
  split at h
  · simp at h
  rename_i h47
  split at h
  · rename_i hroot
    injection h with h1 h2
    subst h1
    unfold joinR
    rw [if_neg (by simp), if_pos rfl]
    have : s = ⟨#[47]⟩ := by
      apply ByteArray.ext
      apply Array.toList_inj.1
      rw [← ByteArray.toList_eq, hroot]
    rw [this]
  rename_i hroot
  split at h
  · simp at h
  rename_i h8
  split at h
  · rename_i hb
    injection h with h1 h2
    have hpos : 0 < s.data.toList.length := by
      rw [ByteArray.toList_eq] at hne
      cases hs : s.data.toList with
      | nil => exact absurd hs hne
      | cons _ _ => simp
    have hp : pathT k = s := by
      rw [← h1, pathT_cutL, seg_data]
      apply ByteArray.ext
      apply Array.toList_inj.1
      show (47 :: _ : List UInt8).toArray.toList = _
      have hlen : s.data.toList.length = s.size := by rw [Array.length_toList]; rfl
      have hh : s.data[0]?.getD 0 = s.data.toList[0]'hpos := by
        rw [← Array.getElem?_toList, List.getElem?_eq_getElem hpos]; rfl
      rw [hh] at h47
      have h47b : s.data.toList[0]'hpos = 47 := by
        apply UInt8.toNat_inj.1
        have : ((s.data.toList[0]'hpos).toNat : Int) = 47 := by omega
        show _ = 47
        omega
      generalize s.data.toList = L at *
      cases L with
      | nil => simp at hpos
      | cons a L =>
        simp at h47b hlen
        rw [h47b, List.drop_one, List.tail_cons, List.take_of_length_le (by omega)]
    have hk8 : ¬ ((k.length : Int) > 8) := by rw [← h1]; exact h8
    have hkn : k ≠ [] := by
      intro e
      have := cut_len (s.extract 1 s.size)
      rw [h1, e] at this
      simp at this
    unfold joinR
    rw [if_neg hk8, if_neg hkn, hp, h0]
    simp
  · rename_i hb
    injection h with h1 h2
    exact absurd h2 hb
theorem split_none (s : ByteArray) (h : ¬ (splitR s).2 = 0) : (splitR s).1 = [] := by
  unfold splitR at h ⊢
  (repeat' split) <;> first | rfl | (simp_all; done)
theorem join_split (l : List ByteArray) (h : (joinR l).2 = 0) : splitR (joinR l).1 = (l, 0) := by
  unfold joinR at h ⊢
  by_cases h8 : (l.length : Int) > 8
  · rw [if_pos h8] at h; simp at h
  rw [if_neg h8] at h ⊢
  by_cases hn : l = []
  · rw [if_pos hn, hn]; decide +kernel
  rw [if_neg hn] at h ⊢
  by_cases h2 : (splitR (pathT l)).2 = 0
  · rw [if_pos h2] at h ⊢
    by_cases h1 : (splitR (pathT l)).1 = l
    · rw [if_pos h1]
      exact Prod.ext h1 h2
    · rw [if_neg h1] at h; simp at h
  · rw [if_neg h2] at h
    exact absurd h h2
theorem split_tot (s : ByteArray) : totL (splitR s).1 ≤ 5000 := by
  by_cases h2 : (splitR s).2 = 0
  · have hj := split_join s (splitR s).1 (Prod.ext rfl h2)
    by_cases hn : (splitR s).1 = []
    · rw [hn]; simp [totL]
    have h120 : (s.size : Int) ≤ 120 := by
      unfold splitR at h2
      split at h2
      · simp at h2
      · omega
    have hp : pathT (splitR s).1 = s := by
      unfold joinR at hj
      by_cases h8 : ((splitR s).1.length : Int) > 8
      · rw [if_pos h8] at hj; simp at hj
      rw [if_neg h8, if_neg hn] at hj
      by_cases h3 : (splitR (pathT (splitR s).1)).2 = 0
      · rw [if_pos h3] at hj
        by_cases h1 : (splitR (pathT (splitR s).1)).1 = (splitR s).1
        · rw [if_pos h1] at hj
          injection hj
        · rw [if_neg h1] at hj; simp at hj
      · rw [if_neg h3] at hj
        injection hj with _ hj
        exact absurd hj h3
    have hs := pathT_size (splitR s).1
    rw [hp] at hs
    omega
  · rw [split_none s h2]; simp [totL]
set_option maxHeartbeats 2000000 in
set_option maxRecDepth 100000 in
theorem joins_law (A : Option Addr) (c : Nat) (l : List ByteArray) (mx : Int) (w : World) (hm : w.cell? ⟨0, 0, none⟩ = some (.int .i64 mx)) (hA : StrsAt w A l) (hc : l.length ≤ c) (hcm : c ≤ maxLen) (h0 : A = none → c = 0) : Calls Tryd.prog 9 #[.slice A l.length c] w (Ret (.bool true) w) := by
  have hl0 := leB_of_cell hm
  have hlm : l.length ≤ maxLen := Nat.le_trans hc hcm
  have HSH := Lib.hid (short_tells A c l w hA hlm)
  have h0n : A = none → l.length = 0 := fun h => by have := h0 h; omega
  have HA := Lib.hid hA
  have HCL := Lib.hid (fun w' h hl => clone_new A c l w' h h0n hl)
  have HRJ := Lib.hid (fun w' h ht => refjoin_any A c l w' h ht)
  have HJ := Lib.hid (fun A2 c2 w' h1 h2 h3 h4 h5 => join_any A2 c2 l mx w' h1 h2 h3 h4 h5)
  have HEQ := Lib.hid (fun A2 c2 w' h1 h2 h3 => eq_any A2 A c2 c l l w' h1 h2 h3)
  rw [decide_eq_true rfl] at HEQ
  generalize joinR l = r at *
  obtain ⟨p, x⟩ := r
  simp only at HJ HRJ
  obtain ⟨n, hn⟩ : ∃ n, l.length = n := ⟨_, rfl⟩
  have HM := Lib.hid hm
  rw [hn] at HSH HCL HRJ HJ HEQ ⊢
  have HN := Lib.hid hn
  clear hA hc hcm h0 h0n hlm hn
  go_enter Tryd.func9, Tryd.ntmps9
  go_wp2_with (first
    | (go_at_call 10; (with_reducible refine (awake_m mx _ ?_).mono ?_); (· simp [go_sem, hl0, hm]); rintro e1 w9 ⟨rfl, j9, rfl⟩)
    | (go_at_call 17; (with_reducible refine HSH.out.mono ?_); rintro e1 w1 ⟨b1, rfl, rfl, hsb⟩; replace hsb := Lib.hid hsb; cases b1))
  · go_ret
    exact Ret.mk (by first | rfl | simp) (by (repeat' (first | (with_reducible exact Below.refl _ _) | (with_reducible assumption) | (with_reducible exact below_app _ _ _ _) | (with_reducible refine below_pre ?_; (simp only [List.append_assoc, List.prefix_append, List.prefix_refl, List.prefix_append_right_inj])) | (with_reducible refine Below.alloc ?_ ?_ _) | (with_reducible refine below_ext ?_ ?_ _) | (with_reducible refine Below.drew ?_) | (with_reducible refine below_drewN ?_ _) | (with_reducible refine Below.setCell ?_ ?_ _) | go_size | (simp only [w_size_ext, List.length_append, World.alloc_size]; omega) | (simp; done) | (simp; omega))))
  have h40 := Lib.hid (hsb.out (by simp)).1
  have h4k := Lib.hid (hsb.out (by simp)).2
  clear hm hl0
  go_wp2_with (first
    | (go_at_call 25; (with_reducible refine (HCL.out _ HA.out (by have := h40.out; have := HN.out; omega)).mono ?_); rintro e1 w2 ⟨A2, c2, rfl, HB2, HS2, HC2, HM2, _⟩; simp only [HN.out]; have HM3 := Lib.hid (cell_kept HB2.out HM.out))
    | (go_at_call 26; (with_reducible refine (HJ.out _ _ _ HS2.out (by have := HC2.out; have := HN.out; omega) HM2.out (by have := h4k.out; omega) HM3.out).mono ?_); rintro e1 w3 ⟨rfl, j3, hw3⟩; have HB3 := Lib.hid (below_tr HB2.out (show Below w2.heap.size w2 w3 by rw [hw3]; exact w_ext_below _ _)); have HS3 := Lib.hid (HS2.out.later (show Below w2.heap.size w2 w3 by rw [hw3]; exact w_ext_below _ _)); clear hw3)
    | (go_at_call 27; (with_reducible refine (HRJ.out _ (HA.out.later HB3.out) (by have := h4k.out; omega)).mono ?_); rintro e1 w4 ⟨rfl, j4, hw4⟩; have HB4 := Lib.hid (below_tr HB3.out (show Below w3.heap.size w3 w4 by rw [hw4]; exact w_ext_below _ _)); have HS4 := Lib.hid (HS3.out.later (show Below w3.heap.size w3 w4 by rw [hw4]; exact w_ext_below _ _)); clear hw4)
    | (go_at_call 24; (with_reducible refine (HEQ.out _ _ _ HS4.out (HA.out.later HB4.out) (by have := h40.out; have := HN.out; simp only [maxLen]; omega)).mono ?_); rintro e1 w5 ⟨rfl, j5, hw5⟩; have HB5 := Lib.hid (below_tr HB4.out (show Below w4.heap.size w4 w5 by rw [hw5]; exact w_ext_below _ _)); clear hw5; have hm5 := cell_kept HB5.out HM.out; have hl5 := leB_of_cell hm5)
    | (go_at_call 10; (with_reducible refine (awake_m mx _ ?_).mono ?_); (· simp [go_sem, hl5, hm5]); rintro e1 w9 ⟨rfl, j9, rfl⟩))
  go_ret
  exact Ret.mk (by first | rfl | simp) (below_two HB5.out _)
end Go.Proofs.YtaingleopdnkiaaDoor
