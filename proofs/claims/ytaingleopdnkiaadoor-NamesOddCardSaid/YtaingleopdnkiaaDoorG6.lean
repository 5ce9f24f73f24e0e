/- Helper lemmas: the reference's Of at every text. No condition. -/
import Derived.Test.YtaingleopdnkiaaDoorG5
set_option linter.unusedSimpArgs false
set_option linter.unusedVariables false
namespace Go.Proofs.YtaingleopdnkiaaDoor
open Go.RowKit

/-- What a sign is; 99: none. -/
def rdI (c : UInt8) : Int := if dgOk c = true then (dgV c : Int) else 99
theorem rdI_a (c : UInt8) : 48 ≤ (c.toNat : Int) → (c.toNat : Int) ≤ 57 → rdI c = (c.toNat : Int) - 48 :=
  u8_all (P := fun c => 48 ≤ (c.toNat : Int) → (c.toNat : Int) ≤ 57 → rdI c = (c.toNat : Int) - 48) (by decide +kernel) c
theorem rdI_b (c : UInt8) : 97 ≤ (c.toNat : Int) → (c.toNat : Int) ≤ 102 → rdI c = (c.toNat : Int) - 97 + 10 :=
  u8_all (P := fun c => 97 ≤ (c.toNat : Int) → (c.toNat : Int) ≤ 102 → rdI c = (c.toNat : Int) - 97 + 10) (by decide +kernel) c
theorem rdI_c (c : UInt8) : ¬ (48 ≤ (c.toNat : Int) ∧ (c.toNat : Int) ≤ 57) → ¬ (97 ≤ (c.toNat : Int) ∧ (c.toNat : Int) ≤ 102) → rdI c = 99 :=
  u8_all (P := fun c => ¬ (48 ≤ (c.toNat : Int) ∧ (c.toNat : Int) ≤ 57) → ¬ (97 ≤ (c.toNat : Int) ∧ (c.toNat : Int) ≤ 102) → rdI c = 99) (by decide +kernel) c
set_option maxHeartbeats 2000000 in
set_option maxRecDepth 100000 in
theorem refdigit_b (c : UInt8) (w : World) : Calls Tryd.prog 29 #[.int .u8 (c.toNat : Int)] w (Ret (.int .i64 (rdI c)) w) := by
  have h0 : (0 : Int) ≤ (c.toNat : Int) := by omega
  have h255 : (c.toNat : Int) ≤ 255 := by have := c.toNat_lt; omega
  have ha := rdI_a c
  have hb := rdI_b c
  have hc := rdI_c c
  generalize rdI c = r at *
  generalize (c.toNat : Int) = x at *
  by_cases h1 : 48 ≤ x ∧ x ≤ 57
  · obtain ⟨h1, h2⟩ := h1
    have HE := Lib.hid (ha h1 h2)
    clear ha hb hc
    go_enter Tryd.func29, Tryd.ntmps29
    go_wp2
    go_ret
    exact Ret.mk (by rw [HE.out]; rfl) (Below.refl _ _)
  · by_cases h2 : 97 ≤ x ∧ x ≤ 102
    · have h1' : ¬ x ≤ 57 := by omega
      have h1b : 48 ≤ x := by omega
      obtain ⟨h2, h3⟩ := h2
      have HE := Lib.hid (hb h2 h3)
      clear ha hb hc h1
      go_enter Tryd.func29, Tryd.ntmps29
      go_wp2
      go_ret
      exact Ret.mk (by rw [HE.out]; rfl) (Below.refl _ _)
    · have HE := Lib.hid (hc h1 h2)
      clear ha hb hc
      have h3 : x < 48 ∨ (48 ≤ x ∧ ¬ x ≤ 57 ∧ x < 97) ∨ (48 ≤ x ∧ ¬ x ≤ 57 ∧ 97 ≤ x ∧ ¬ x ≤ 102) := by omega
      clear h1 h2
      rcases h3 with h3 | ⟨h3, h4, h5⟩ | ⟨h3, h4, h5, h6⟩
      all_goals
        go_enter Tryd.func29, Tryd.ntmps29
        go_wp2
        go_ret
        exact Ret.mk (by rw [HE.out]; rfl) (Below.refl _ _)
/-- A text of four bytes and more, by its parts. -/
theorem parts (s : ByteArray) (h : 4 ≤ s.size) : s.data.toList = s.data.toList.getD 0 0 :: (midS s ++ [s.data.toList.getD (s.size - 2) 0, lastB s]) := by
  have hl : s.data.toList.length = s.size := rfl
  unfold midS lastB
  rw [← hl] at h ⊢
  generalize s.data.toList = L at *
  rcases L with _ | ⟨a, L⟩
  · simp at h
  rw [List.length_cons] at h ⊢
  obtain ⟨m, x, rfl⟩ : ∃ m x, L = m ++ [x] := ⟨L.dropLast, L.getLast (by intro e; rw [e] at h; simp at h), (List.dropLast_concat_getLast _).symm⟩
  rw [List.length_append] at h ⊢
  obtain ⟨m, y, rfl⟩ : ∃ m' y, m = m' ++ [y] := ⟨m.dropLast, m.getLast (by intro e; rw [e] at h; simp at h), (List.dropLast_concat_getLast _).symm⟩
  rw [List.length_append] at h ⊢
  simp
theorem mid_len (s : ByteArray) (h : 4 ≤ s.size) : (midS s).length = s.size - 3 := by
  have hl : s.data.toList.length = s.size := rfl
  unfold midS
  rw [List.length_take, List.length_drop]
  omega
theorem ofR_name (s : ByteArray) (h : 4 ≤ s.size) (h16 : s.size ≤ 16) : ofR s = if nameOk (s.data.toList.getD 0 0) (midS s) (s.data.toList.getD (s.size - 2) 0) (lastB s) = true then ((valD (midS s), dgV (lastB s)), true) else ((0, 0), false) := by
  unfold ofR
  rw [if_neg (by omega)]
  have h1 := name_iff (s.data.toList.getD 0 0) (midS s) (s.data.toList.getD (s.size - 2) 0) (lastB s) (by rw [mid_len s h]; omega)
  rw [← parts s h] at h1
  by_cases h2 : oddL (valD (midS s)) (dgV (lastB s)) = s.data.toList
  · rw [if_pos h2, if_pos (h1.1 h2)]
  · rw [if_neg h2, if_neg (fun e => h2 (h1.2 e))]
set_option maxHeartbeats 2000000 in
set_option maxRecDepth 100000 in
theorem refof_short (s : ByteArray) (w : World) (h : s.size < 4 ∨ 15 < s.size) : Calls Tryd.prog 12 #[.string s] w (Ret (evV ((0, 0), false)) w) := by
  rcases h with h | h
  · have h' : (s.size : Int) < 4 := by omega
    go_enter Tryd.func12, Tryd.ntmps12
    go_wp2
    refine bodyPost_ret (by simp [results, Tryd.results12, go_sem]; try rfl) rfl ?_
    exact Ret.mk rfl (by (repeat' (first | (with_reducible exact Below.refl _ _) | (with_reducible assumption) | (with_reducible exact below_app _ _ _ _) | (with_reducible refine below_pre ?_; (simp only [List.append_assoc, List.prefix_append, List.prefix_refl, List.prefix_append_right_inj])) | (with_reducible refine Below.alloc ?_ ?_ _) | (with_reducible refine below_ext ?_ ?_ _) | (with_reducible refine Below.drew ?_) | (with_reducible refine below_drewN ?_ _) | (with_reducible refine Below.setCell ?_ ?_ _) | go_size | (simp only [w_size_ext, List.length_append, World.alloc_size]; omega) | (simp; done) | (simp; omega))))
  · have h' : ¬ (s.size : Int) < 4 := by omega
    have h2' : (15 : Int) < (s.size : Int) := by omega
    go_enter Tryd.func12, Tryd.ntmps12
    go_wp2
    refine bodyPost_ret (by simp [results, Tryd.results12, go_sem]; try rfl) rfl ?_
    exact Ret.mk rfl (by (repeat' (first | (with_reducible exact Below.refl _ _) | (with_reducible assumption) | (with_reducible exact below_app _ _ _ _) | (with_reducible refine below_pre ?_; (simp only [List.append_assoc, List.prefix_append, List.prefix_refl, List.prefix_append_right_inj])) | (with_reducible refine Below.alloc ?_ ?_ _) | (with_reducible refine below_ext ?_ ?_ _) | (with_reducible refine Below.drew ?_) | (with_reducible refine below_drewN ?_ _) | (with_reducible refine Below.setCell ?_ ?_ _) | go_size | (simp only [w_size_ext, List.length_append, World.alloc_size]; omega) | (simp; done) | (simp; omega))))
set_option maxHeartbeats 2000000 in
set_option maxRecDepth 100000 in
theorem refof_long (s : ByteArray) (w : World) (h4 : 4 ≤ s.size) (h15 : s.size ≤ 15) : Calls Tryd.prog 12 #[.string s] w (Ret (evV (ofR s)) w) := by
  have hr := ofR_name s h4 (by omega)
  have h4' : ¬ (s.size : Int) < 4 := by omega
  have h15' : ¬ (15 : Int) < (s.size : Int) := by omega
  have hz0 : 0 < s.size := by omega
  have hz2 : s.size - 2 < s.size := by omega
  have hz1 : s.size - 1 < s.size := by omega
  have hb0 := byte_at s 0 hz0
  have hb2 := byte_at s (s.size - 2) hz2
  have hb1 := byte_at s (s.size - 1) hz1
  have hi0 : (0 : Int) ≤ (s.size : Int) - 1 := by omega
  have hi1 : (s.size : Int) - 1 < (s.size : Int) := by omega
  have hit : ((s.size : Int) - 1).toNat = s.size - 1 := by omega
  have hj0 : (0 : Int) ≤ (s.size : Int) - 2 := by omega
  have hj1 : (s.size : Int) - 2 < (s.size : Int) := by omega
  have hjt : ((s.size : Int) - 2).toNat = s.size - 2 := by omega
  have hp0 : (0 : Int) < (s.size : Int) := by omega
  rw [show s.data.toList.getD (s.size - 1) 0 = lastB s from rfl] at hb1
  have HML := Lib.hid (mid_len s h4)
  have HMS := Lib.hid (show midS s = (s.data.toList.drop 1).take (s.size - 3) from rfl)
  have HBY := Lib.hid (fun k (h : k + 1 < s.size) => byte_at s (k + 1) h)
  have HSTEP := Lib.hid (fun k (h : k + 1 < s.size) => mid_step s k h)
  have HBY2 := Lib.hid (show ∀ k, k < s.size - 3 → ∀ (h : k + 1 < s.size), s[k + 1]'h = (midS s).getD k 0 from fun k hk h => by
    rw [HBY.out k h, HMS.out]
    rw [List.getD_eq_getElem?_getD, List.getD_eq_getElem?_getD, List.getElem?_take_of_lt hk, List.getElem?_drop, Nat.add_comm])
  have HST2 := Lib.hid (show ∀ k, k < s.size - 3 → (midS s).take (k + 1) = (midS s).take k ++ [(midS s).getD k 0] from fun k hk => by
    have hkl : k < (midS s).length := by rw [HML.out]; exact hk
    rw [List.take_succ_eq_append_getElem hkl, List.getD_eq_getElem?_getD, List.getElem?_eq_getElem hkl]
    rfl)
  clear HBY HSTEP HMS
  have HBY := HBY2
  have HSTEP := HST2
  generalize midS s = M at *
  generalize s.data.toList.getD 0 0 = c0 at *
  generalize s.data.toList.getD (s.size - 2) 0 = x at *
  generalize lastB s = y at *
  by_cases hc : c0 = 99
  case neg =>
    have HR := Lib.hid (show ofR s = ((0, 0), false) by rw [hr, if_neg (by simp [nameOk, hc])])
    have hcn : ¬ (c0.toNat : Int) = 99 := fun e => hc (by apply UInt8.toNat_inj.1; show c0.toNat = 99; omega)
    clear hr hc
    go_enter Tryd.func12, Tryd.ntmps12
    go_wp2
    refine bodyPost_ret (by simp [results, Tryd.results12, go_sem]; try rfl) rfl ?_
    exact Ret.mk (by rw [HR.out]; rfl) (by (repeat' (first | (with_reducible exact Below.refl _ _) | (with_reducible assumption) | (with_reducible exact below_app _ _ _ _) | (with_reducible refine below_pre ?_; (simp only [List.append_assoc, List.prefix_append, List.prefix_refl, List.prefix_append_right_inj])) | (with_reducible refine Below.alloc ?_ ?_ _) | (with_reducible refine below_ext ?_ ?_ _) | (with_reducible refine Below.drew ?_) | (with_reducible refine below_drewN ?_ _) | (with_reducible refine Below.setCell ?_ ?_ _) | go_size | (simp only [w_size_ext, List.length_append, World.alloc_size]; omega) | (simp; done) | (simp; omega))))
  subst hc
  by_cases hx : x = 45
  case neg =>
    have HR := Lib.hid (show ofR s = ((0, 0), false) by rw [hr, if_neg (by simp [nameOk, hx])])
    have hxn : ¬ (x.toNat : Int) = 45 := fun e => hx (by apply UInt8.toNat_inj.1; show x.toNat = 45; omega)
    clear hr hx
    go_enter Tryd.func12, Tryd.ntmps12
    go_wp2
    refine bodyPost_ret (by simp [results, Tryd.results12, go_sem]; try rfl) rfl ?_
    exact Ret.mk (by rw [HR.out]; rfl) (by (repeat' (first | (with_reducible exact Below.refl _ _) | (with_reducible assumption) | (with_reducible exact below_app _ _ _ _) | (with_reducible refine below_pre ?_; (simp only [List.append_assoc, List.prefix_append, List.prefix_refl, List.prefix_append_right_inj])) | (with_reducible refine Below.alloc ?_ ?_ _) | (with_reducible refine below_ext ?_ ?_ _) | (with_reducible refine Below.drew ?_) | (with_reducible refine below_drewN ?_ _) | (with_reducible refine Below.setCell ?_ ?_ _) | go_size | (simp only [w_size_ext, List.length_append, World.alloc_size]; omega) | (simp; done) | (simp; omega))))
  subst hx
  cases hy : dgOk y with
  | false =>
    have HR := Lib.hid (show ofR s = ((0, 0), false) by rw [hr, if_neg (by simp [nameOk, hy])])
    have hyn : rdI y = 99 := by unfold rdI; rw [hy]; rfl
    clear hr hy
    go_enter Tryd.func12, Tryd.ntmps12
    go_wp2_with (go_at_call 29; (with_reducible refine (refdigit_b _ _).mono ?_); rintro e1 w1 ⟨rfl, j1, rfl⟩)
    refine bodyPost_ret (by simp [results, Tryd.results12, go_sem]; try rfl) rfl ?_
    exact Ret.mk (by rw [HR.out]; rfl) (by (repeat' (first | (with_reducible exact Below.refl _ _) | (with_reducible assumption) | (with_reducible exact below_app _ _ _ _) | (with_reducible refine below_pre ?_; (simp only [List.append_assoc, List.prefix_append, List.prefix_refl, List.prefix_append_right_inj])) | (with_reducible refine Below.alloc ?_ ?_ _) | (with_reducible refine below_ext ?_ ?_ _) | (with_reducible refine Below.drew ?_) | (with_reducible refine below_drewN ?_ _) | (with_reducible refine Below.setCell ?_ ?_ _) | go_size | (simp only [w_size_ext, List.length_append, World.alloc_size]; omega) | (simp; done) | (simp; omega))))
  | true =>
  have hr2 : ofR s = if midOk M = true then ((valD M, dgV y), true) else ((0, 0), false) := by
    rw [hr]
    simp [nameOk, hy]
  have HR := Lib.hid hr2
  have hyi : rdI y = (dgV y : Int) := by unfold rdI; rw [hy]; rfl
  have hyn : ¬ (dgV y : Int) = 99 := by have := dgV_lt y; omega
  have hyb : ((dgV y : Int) == 99) = false := beq_eq_false_iff_ne.2 hyn
  clear hr hr2 hy
  go_enter Tryd.func12, Tryd.ntmps12
  go_wp2_with (go_at_call 29; (with_reducible refine (refdigit_b _ _).mono ?_); rintro e1 w1 ⟨rfl, j1, rfl⟩)
  have HB1 := Lib.hid hb1
  clear hb0 hb1 hb2 hi0 hi1 hit hj0 hj1 hjt hp0 h4'
  go_loopw [4, 5] (fun v4 v5 wr => ∃ (k n : Nat) (j : Junk), k + 3 ≤ s.size ∧ v5 = .int .i64 ((k + 1 : Nat) : Int) ∧ v4 = .int .i64 (n : Int) ∧ wr = wext (w.alloc (.cells #[.int .i64 0, .int .i64 0] 23)) j ∧ Hid (n = valD (M.take k)) ∧ Hid ((∀ c ∈ M.take k, dgOk c = true) ∧ (1 ≤ k → 4 < s.size → dgV (M.headD 0) ≠ 0))) (fun _ i _ => (20 - intOf i).toNat)
  case atStart => exact ⟨0, 0, _, by omega, rfl, rfl, by first | rfl | exact wext_same _, Lib.hid rfl, Lib.hid ⟨fun c hc => by simp at hc, fun h => by omega⟩⟩
  case round =>
    obtain ⟨k, n, j, hk, rfl, rfl, rfl, HN, HA⟩ := hrel
    have hn16 : n < 16 ^ k := by
      rw [HN.out]
      exact valD_lt k _ (by rw [List.length_take, HML.out]; omega)
    have hn : n < 281474976710656 := Nat.lt_of_lt_of_le hn16 (Nat.le_trans (Nat.pow_le_pow_right (by omega) (show k ≤ 12 by omega)) (by decide))
    clear hn16
    by_cases hlt : k + 3 < s.size
    · have hlt' : ((k + 1 : Nat) : Int) < (s.size : Int) - 2 := by omega
      have hlt2 : ((k + 1 : Nat) : Int) < (s.size : Int) := by omega
      have hge : (0 : Int) ≤ ((k + 1 : Nat) : Int) := by omega
      have hnl : ¬ ((k + 1 : Nat) : Int) < 0 := by omega
      have hwr : wrap64 (((k + 1 : Nat) : Int) + 1) = ((k + 1 + 1 : Nat) : Int) := by rw [wrap64_eq]; omega
      have hks : k + 1 < s.size := by omega
      have hcc := HBY.out k (by omega) hks
      have HST := Lib.hid (HSTEP.out k (by omega))
      have hh0 : k = 0 → M.headD 0 = M.getD k 0 := fun e => by
        subst e
        cases M <;> rfl
      generalize M.getD k 0 = c at *
      have hin : c ∈ M := List.mem_of_mem_take (i := k + 1) (by rw [HST.out]; simp)
      cases hok : dgOk c with
      | false =>
        have HF := Lib.hid (show ofR s = ((0, 0), false) by
          rw [HR.out, if_neg (fun e => by
            simp only [midOk, Bool.and_eq_true, List.all_eq_true] at e
            rw [e.1.2 c hin] at hok
            cases hok)])
        have hci : rdI c = 99 := by unfold rdI; rw [hok]; rfl
        clear hok hh0 hn
        go_wp2_with (go_at_call 29; (with_reducible refine (refdigit_b c _).mono ?_); rintro e1 w1 ⟨rfl, j2, rfl⟩)
        refine bodyPost_ret (by simp [results, Tryd.results12, go_sem]; try rfl) rfl ?_
        exact Ret.mk (by rw [HF.out]; rfl) (by (repeat' (first | (with_reducible exact Below.refl _ _) | (with_reducible assumption) | (with_reducible exact below_app _ _ _ _) | (with_reducible refine below_pre ?_; (simp only [List.append_assoc, List.prefix_append, List.prefix_refl, List.prefix_append_right_inj])) | (with_reducible refine Below.alloc ?_ ?_ _) | (with_reducible refine below_ext ?_ ?_ _) | (with_reducible refine Below.drew ?_) | (with_reducible refine below_drewN ?_ _) | (with_reducible refine Below.setCell ?_ ?_ _) | go_size | (simp only [w_size_ext, List.length_append, World.alloc_size]; omega) | (simp; done) | (simp; omega))))
      | true =>
        have hci : rdI c = (dgV c : Int) := by unfold rdI; rw [hok]; rfl
        have hc16 := dgV_lt c
        have hc99 : ¬ (dgV c : Int) = 99 := by omega
        by_cases hz : k = 0 ∧ dgV c = 0 ∧ 4 < s.size
        · obtain ⟨rfl, hz1, hz2⟩ := hz
          have HF := Lib.hid (show ofR s = ((0, 0), false) by
            rw [HR.out, if_neg (fun e => by
              simp only [midOk, Bool.and_eq_true, Bool.or_eq_true, decide_eq_true_eq] at e
              rw [HML.out, hh0 rfl] at e
              rcases e.2 with e | e
              · omega
              · exact e hz1)])
          have hcz : (dgV c : Int) = 0 := by omega
          have hz2' : (4 : Int) < (s.size : Int) := by omega
          clear hok hh0 hn hz1 hc99
          go_wp2_with (go_at_call 29; (with_reducible refine (refdigit_b c _).mono ?_); rintro e1 w1 ⟨rfl, j2, rfl⟩)
          refine bodyPost_ret (by simp [results, Tryd.results12, go_sem]; try rfl) rfl ?_
          exact Ret.mk (by rw [HF.out]; rfl) (by (repeat' (first | (with_reducible exact Below.refl _ _) | (with_reducible assumption) | (with_reducible exact below_app _ _ _ _) | (with_reducible refine below_pre ?_; (simp only [List.append_assoc, List.prefix_append, List.prefix_refl, List.prefix_append_right_inj])) | (with_reducible refine Below.alloc ?_ ?_ _) | (with_reducible refine below_ext ?_ ?_ _) | (with_reducible refine Below.drew ?_) | (with_reducible refine below_drewN ?_ _) | (with_reducible refine Below.setCell ?_ ?_ _) | go_size | (simp only [w_size_ext, List.length_append, World.alloc_size]; omega) | (simp; done) | (simp; omega))))
        · have HA2 := Lib.hid (show (∀ c ∈ M.take (k + 1), dgOk c = true) ∧ (1 ≤ k + 1 → 4 < s.size → dgV (M.headD 0) ≠ 0) from ⟨fun b hb => by
            rw [HST.out, List.mem_append] at hb
            rcases hb with hb | hb
            · exact HA.out.1 b hb
            · rw [List.mem_singleton] at hb; rw [hb]; exact hok, fun _ h5 => by
            by_cases hk0 : k = 0
            · rw [hh0 hk0]; exact fun e => hz ⟨hk0, e, h5⟩
            · exact HA.out.2 (by omega) h5⟩)
          have HN2 := Lib.hid (show 16 * n + dgV c = valD (M.take (k + 1)) by rw [HST.out, valD_snoc, HN.out])
          have HW1 : Hid (wrap64 ((n : Int) * 16 + (dgV c : Int)) = ((16 * n + dgV c : Nat) : Int)) := Lib.hid (by rw [wrap64_eq]; omega)
          have HW2 : Hid (wrap64 ((n : Int) * 16) = (n : Int) * 16) := Lib.hid (by rw [wrap64_eq]; omega)
          have HWR := Lib.hid hwr
          have hz' : ¬ (k = 0 ∧ dgV c = 0 ∧ 4 < s.size) := hz
          clear hok hh0 hn hwr hz
          have hcs : (¬ ((k + 1 : Nat) : Int) = 1) ∨ (k = 0 ∧ ¬ (dgV c : Int) = 0) ∨ (k = 0 ∧ (dgV c : Int) = 0 ∧ ¬ (4 : Int) < (s.size : Int)) := by omega
          clear hz'
          have HH : Hid (wrap64 (wrap64 ((n : Int) * 16) + (dgV c : Int)) = ((16 * n + dgV c : Nat) : Int)) := Lib.hid (by rw [HW2.out, HW1.out])
          have hwr := HWR.out
          rcases hcs with hq | ⟨rfl, hq⟩ | ⟨rfl, hq, hq2⟩
          all_goals
            go_wp2_with (go_at_call 29; (with_reducible refine (refdigit_b c _).mono ?_); rintro e1 w1 ⟨rfl, j2, rfl⟩)
            go_roundw
            case rel => exact ⟨_, _, _, by omega, by first | rfl | rw [hwr], by first | rfl | (rw [HH.out]; done) | (rw [HW1.out]; done) | (rw [HW2.out, HW2.out]; congr 1; omega), by first | rfl | exact w_ext_ext _ _ _, HN2, HA2⟩
            case measure => first | (simp [intOf]; omega) | (rw [intOf_lit, intOf_lit, hwr]; omega) | decide
    · have hge : ¬ ((k + 1 : Nat) : Int) < (s.size : Int) - 2 := by omega
      have hi0 : (0 : Int) ≤ (s.size : Int) - 1 := by omega
      have hi1 : (s.size : Int) - 1 < (s.size : Int) := by omega
      have hit : ((s.size : Int) - 1).toNat = s.size - 1 := by omega
      have hb1 := HB1.out
      have e1 : M.take k = M := List.take_of_length_le (by rw [HML.out]; omega)
      rw [e1] at HN HA
      have HF := Lib.hid (show ofR s = ((n, dgV y), true) by
        rw [HR.out, if_pos, HN.out]
        simp only [midOk, Bool.and_eq_true, Bool.or_eq_true, decide_eq_true_eq, List.all_eq_true]
        refine ⟨⟨by rw [HML.out]; omega, HA.out.1⟩, ?_⟩
        by_cases h5 : 4 < s.size
        · exact Or.inr (HA.out.2 (by omega) h5)
        · exact Or.inl (by rw [HML.out]; omega))
      clear hn hlt e1
      go_wp2_with (go_at_call 29; (with_reducible refine (refdigit_b y _).mono ?_); rintro e1 w1 ⟨rfl, j2, rfl⟩)
      refine bodyPost_ret (by simp [results, Tryd.results12, go_sem]; try rfl) rfl ?_
      exact Ret.mk (by rw [HF.out]; rfl) (by (repeat' (first | (with_reducible exact Below.refl _ _) | (with_reducible assumption) | (with_reducible exact below_app _ _ _ _) | (with_reducible refine below_pre ?_; (simp only [List.append_assoc, List.prefix_append, List.prefix_refl, List.prefix_append_right_inj])) | (with_reducible refine Below.alloc ?_ ?_ _) | (with_reducible refine below_ext ?_ ?_ _) | (with_reducible refine Below.drew ?_) | (with_reducible refine below_drewN ?_ _) | (with_reducible refine Below.setCell ?_ ?_ _) | go_size | (simp only [w_size_ext, List.length_append, World.alloc_size]; omega) | (simp; done) | (simp; omega))))
theorem refof_any (s : ByteArray) (w : World) : Calls Tryd.prog 12 #[.string s] w (Ret (evV (ofR s)) w) := by
  by_cases h : s.size < 4 ∨ 15 < s.size
  · have e : ofR s = ((0, 0), false) := by
      by_cases h2 : s.size < 4 ∨ 16 < s.size
      · unfold ofR; rw [if_pos h2]
      · rw [ofR_name s (by omega) (by omega), if_neg]
        intro e
        simp only [nameOk, midOk, Bool.and_eq_true, decide_eq_true_eq] at e
        have := mid_len s (by omega)
        have := e.1.1.2.1.1
        omega
    rw [e]
    exact refof_short s w h
  · exact refof_long s w (by omega) (by omega)
end Go.Proofs.YtaingleopdnkiaaDoor
