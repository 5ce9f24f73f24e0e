/- Helper lemmas: names.Of at every text. No condition. -/
import Derived.Test.YtaingleopdnkiaaDoorG4
set_option linter.unusedSimpArgs false
set_option linter.unusedVariables false
namespace Go.Proofs.YtaingleopdnkiaaDoor
open Go.RowKit

theorem digit_b (c : UInt8) (w : World) : Calls Tryd.prog 28 #[.int .u8 (c.toNat : Int)] w (Ret (.int .i64 (dgI c)) w) := by
  have h := digit_any (c.toNat : Int) w
  rw [Int.toNat_natCast, show c.toNat.toUInt8 = c from UInt8.ofNat_toNat] at h
  exact h
theorem or_16 (n d : Nat) (h : n < 4503599627370496) (hd : d < 16) : bits .or .i64 (wrap64 ((n : Int) * 16)) (d : Int) = ((16 * n + d : Nat) : Int) := by
  have hw : wrap64 ((n : Int) * 16) = ((16 * n : Nat) : Int) := by rw [wrap64_eq]; omega
  rw [hw]
  have b1 : ((16 * n : Nat) : Int) < 9223372036854775808 := by omega
  have b2 : (d : Int) < 16 := by omega
  have b3 : (d : Int) < 9223372036854775808 := by omega
  rw [bits_join .i64 63 (by decide) (fun n h0 h1 => by
    have h2 : n < 9223372036854775808 := h1
    rw [wrapE, wrap64_eq]; omega) 4 _ _ (by omega) (by show ((16 * n : Nat) : Int) % 16 = 0; omega) b1 (by omega) b2 b3]
  omega
/-- What lies between. -/
def midS (s : ByteArray) : List UInt8 := (s.data.toList.drop 1).take (s.size - 3)
/-- The last sign. -/
def lastB (s : ByteArray) : UInt8 := s.data.toList.getD (s.size - 1) 0
/-- The event of a name. -/
def ofR (s : ByteArray) : (Nat × Nat) × Bool := if s.size < 4 ∨ 16 < s.size then ((0, 0), false) else if oddL (valD (midS s)) (dgV (lastB s)) = s.data.toList then ((valD (midS s), dgV (lastB s)), true) else ((0, 0), false)
/-- An event and whether there is one, as they are returned. -/
def evV (r : (Nat × Nat) × Bool) : Value := .tuple #[.agg #[.int .i64 (r.1.1 : Int), .int .i64 (r.1.2 : Int)], .bool r.2]
theorem byte_at (s : ByteArray) (i : Nat) (h : i < s.size) : s[i]'h = s.data.toList.getD i 0 := by
  rw [List.getD_eq_getElem?_getD, List.getElem?_eq_getElem (show i < s.data.toList.length from h)]; rfl
theorem mid_step (s : ByteArray) (k : Nat) (h : k + 1 < s.size) : (s.data.toList.drop 1).take (k + 1) = (s.data.toList.drop 1).take k ++ [s.data.toList.getD (k + 1) 0] := by
  have hk : k < (s.data.toList.drop 1).length := by
    rw [List.length_drop]
    have : s.data.toList.length = s.size := rfl
    omega
  rw [List.take_succ_eq_append_getElem hk, List.getElem_drop, List.getD_eq_getElem?_getD, List.getElem?_eq_getElem (show k + 1 < s.data.toList.length from h)]
  simp [Nat.add_comm]
theorem max_dg (c : UInt8) : max (0 : Int) (dgI c) = (dgV c : Int) := by
  have := dgI_ge c
  unfold dgV
  omega
set_option maxHeartbeats 2000000 in
set_option maxRecDepth 100000 in
theorem of_short (s : ByteArray) (w : World) (h : s.size < 4 ∨ 16 < s.size) : Calls Tryd.prog 11 #[.string s] w (Ret (evV ((0, 0), false)) w) := by
  rcases h with h | h
  · have h' : (s.size : Int) < 4 := by omega
    go_enter Tryd.func11, Tryd.ntmps11
    go_wp2
    refine bodyPost_ret (by simp [results, Tryd.results11, go_sem]; try rfl) rfl ?_
    exact Ret.mk rfl (by (repeat' (first | (with_reducible exact Below.refl _ _) | (with_reducible assumption) | (with_reducible exact below_app _ _ _ _) | (with_reducible refine below_pre ?_; (simp only [List.append_assoc, List.prefix_append, List.prefix_refl, List.prefix_append_right_inj])) | (with_reducible refine Below.alloc ?_ ?_ _) | (with_reducible refine below_ext ?_ ?_ _) | (with_reducible refine Below.drew ?_) | (with_reducible refine below_drewN ?_ _) | (with_reducible refine Below.setCell ?_ ?_ _) | go_size | (simp only [w_size_ext, List.length_append, World.alloc_size]; omega) | (simp; done) | (simp; omega))))
  · have h' : ¬ (s.size : Int) < 4 := by omega
    have h2' : (16 : Int) < (s.size : Int) := by omega
    go_enter Tryd.func11, Tryd.ntmps11
    go_wp2
    refine bodyPost_ret (by simp [results, Tryd.results11, go_sem]; try rfl) rfl ?_
    exact Ret.mk rfl (by (repeat' (first | (with_reducible exact Below.refl _ _) | (with_reducible assumption) | (with_reducible exact below_app _ _ _ _) | (with_reducible refine below_pre ?_; (simp only [List.append_assoc, List.prefix_append, List.prefix_refl, List.prefix_append_right_inj])) | (with_reducible refine Below.alloc ?_ ?_ _) | (with_reducible refine below_ext ?_ ?_ _) | (with_reducible refine Below.drew ?_) | (with_reducible refine below_drewN ?_ _) | (with_reducible refine Below.setCell ?_ ?_ _) | go_size | (simp only [w_size_ext, List.length_append, World.alloc_size]; omega) | (simp; done) | (simp; omega))))
set_option maxHeartbeats 2000000 in
set_option maxRecDepth 100000 in
theorem of_long (s : ByteArray) (w : World) (h4 : 4 ≤ s.size) (h16 : s.size ≤ 16) : Calls Tryd.prog 11 #[.string s] w (Ret (evV (ofR s)) w) := by
  have hr : ofR s = if oddL (valD (midS s)) (dgV (lastB s)) = s.data.toList then ((valD (midS s), dgV (lastB s)), true) else ((0, 0), false) := by
    unfold ofR
    rw [if_neg (by omega)]
  have h4' : ¬ (s.size : Int) < 4 := by omega
  have h16' : ¬ (16 : Int) < (s.size : Int) := by omega
  have HR := Lib.hid hr
  clear hr
  have hz : (s.size : Int) - 2 ≤ 9223372036854775807 := by omega
  go_enter Tryd.func11, Tryd.ntmps11
  go_wp2
  go_loopw [4, 5] (fun v4 v5 wr => ∃ (k n : Nat) (j : Junk), k + 3 ≤ s.size ∧ v5 = .int .i64 ((k + 1 : Nat) : Int) ∧ v4 = .int .i64 (n : Int) ∧ wr = wext (w.alloc (.cells #[.int .i64 0, .int .i64 0] 23)) j ∧ Hid (n = valD ((s.data.toList.drop 1).take k))) (fun _ i _ => (20 - intOf i).toNat)
  case atStart => exact ⟨0, 0, _, by omega, rfl, rfl, by first | rfl | exact wext_same _, Lib.hid rfl⟩
  case round =>
    obtain ⟨k, n, j, hk, rfl, rfl, rfl, HN⟩ := hrel
    have hn16 : n < 16 ^ k := by
      rw [HN.out]
      refine valD_lt k _ ?_
      have : s.data.toList.length = s.size := rfl
      rw [List.length_take, List.length_drop]; omega
    have hn : n < 4503599627370496 := Nat.lt_of_lt_of_le hn16 (Nat.le_trans (Nat.pow_le_pow_right (by omega) (show k ≤ 13 by omega)) (by decide))
    by_cases hlt : k + 3 < s.size
    · have hlt' : ((k + 1 : Nat) : Int) < (s.size : Int) - 2 := by omega
      have hlt2 : ((k + 1 : Nat) : Int) < (s.size : Int) := by omega
      have hge : (0 : Int) ≤ ((k + 1 : Nat) : Int) := by omega
      have hnl : ¬ ((k + 1 : Nat) : Int) < 0 := by omega
      have hwr : wrap64 (((k + 1 : Nat) : Int) + 1) = ((k + 1 + 1 : Nat) : Int) := by rw [wrap64_eq]; omega
      have HB := Lib.hid (byte_at s (k + 1) (by omega))
      have HST := Lib.hid (mid_step s k (by omega))
      have hks : k + 1 < s.size := by omega
      have HOR := Lib.hid (fun c : UInt8 => or_16 n (dgV c) hn (dgV_lt c))
      clear hn hn16
      have hcc := HB.out
      generalize s.data.toList.getD (k + 1) 0 = c at *
      have hmx := max_dg c
      have hor := HOR.out c
      have HN2 := Lib.hid (show 16 * n + dgV c = valD ((s.data.toList.drop 1).take (k + 1)) by rw [HST.out, valD_snoc, HN.out])
      go_wp2_with (go_at_call 28; (with_reducible refine (digit_b c _).mono ?_); rintro e1 w1 ⟨rfl, j1, rfl⟩)
      go_roundw
      case rel => exact ⟨k + 1, _, _, by omega, by first | rfl | rw [hwr], by first | rfl | rw [hor], by first | rfl | exact w_ext_ext _ _ _, HN2⟩
      case measure => first | (simp [intOf]; omega) | (rw [intOf_lit, intOf_lit, hwr]; omega)
    · have hsz : s.size = k + 3 := by omega
      have hge : ¬ ((k + 1 : Nat) : Int) < (s.size : Int) - 2 := by omega
      have hi0 : (0 : Int) ≤ (s.size : Int) - 1 := by omega
      have hi1 : (s.size : Int) - 1 < (s.size : Int) := by omega
      have hit : ((s.size : Int) - 1).toNat = s.size - 1 := by omega
      have hz1 : s.size - 1 < s.size := by omega
      have HB := Lib.hid (byte_at s (s.size - 1) hz1)
      have hls : s.data.toList.getD (s.size - 1) 0 = lastB s := rfl
      rw [hls] at HB
      have hms : (s.data.toList.drop 1).take k = midS s := by unfold midS; rw [show s.size - 3 = k by omega]
      rw [hms] at HN
      have HO := Lib.hid (fun w' => odd_any (n : Int) (dgV (lastB s) : Int) w')
      have HT : Hid (oddT (n : Int) (dgV (lastB s) : Int) = bsG (oddL (valD (midS s)) (dgV (lastB s)))) := Lib.hid (by
        unfold oddT
        rw [tN_nat n (by omega), wN_nat _ (dgV_lt _), HN.out])
      rw [← HN.out] at HR HT
      clear hsz hn hn16 hlt hls hms
      have hcc := HB.out
      generalize lastB s = c at *
      have hmx := max_dg c
      by_cases ho : oddL n (dgV c) = s.data.toList
      · have e1 : oddT (n : Int) (dgV c : Int) = s := by
          rw [HT.out, ho]; rfl
        rw [e1] at HO
        have HR2 := Lib.hid (HR.out.trans (if_pos ho))
        clear ho e1 HR
        go_wp2_with (first | (go_at_call 28; (with_reducible refine (digit_b c _).mono ?_); rintro e1 w1 ⟨rfl, j1, rfl⟩) | (go_at_call 13; (with_reducible refine (HO.out _).mono ?_); rintro e1 w1 ⟨rfl, j1, rfl⟩))
        refine bodyPost_ret (by simp [results, Tryd.results11, go_sem]; try rfl) rfl ?_
        exact Ret.mk (by rw [HR2.out]; rfl) (by (repeat' (first | (with_reducible exact Below.refl _ _) | (with_reducible assumption) | (with_reducible exact below_app _ _ _ _) | (with_reducible refine below_pre ?_; (simp only [List.append_assoc, List.prefix_append, List.prefix_refl, List.prefix_append_right_inj])) | (with_reducible refine Below.alloc ?_ ?_ _) | (with_reducible refine below_ext ?_ ?_ _) | (with_reducible refine Below.drew ?_) | (with_reducible refine below_drewN ?_ _) | (with_reducible refine Below.setCell ?_ ?_ _) | go_size | (simp only [w_size_ext, List.length_append, World.alloc_size]; omega) | (simp; done) | (simp; omega))))
      · have e1 : ¬ oddT (n : Int) (dgV c : Int) = s := fun e => ho (by
          rw [← e, HT.out]; rfl)
        have HR2 := Lib.hid (HR.out.trans (if_neg ho))
        generalize oddT (n : Int) (dgV c : Int) = q at *
        have hq2 := toList_ne e1
        have hq3 : (q.toList != s.toList) = true := by simpa using hq2
        have hq4 : (q.toList == s.toList) = false := by simpa using hq2
        clear ho e1 HR HT
        go_wp2_with (first | (go_at_call 28; (with_reducible refine (digit_b c _).mono ?_); rintro e1 w1 ⟨rfl, j1, rfl⟩) | (go_at_call 13; (with_reducible refine (HO.out _).mono ?_); rintro e1 w1 ⟨rfl, j1, rfl⟩))
        refine bodyPost_ret (by simp [results, Tryd.results11, go_sem]; try rfl) rfl ?_
        exact Ret.mk (by rw [HR2.out]; rfl) (by (repeat' (first | (with_reducible exact Below.refl _ _) | (with_reducible assumption) | (with_reducible exact below_app _ _ _ _) | (with_reducible refine below_pre ?_; (simp only [List.append_assoc, List.prefix_append, List.prefix_refl, List.prefix_append_right_inj])) | (with_reducible refine Below.alloc ?_ ?_ _) | (with_reducible refine below_ext ?_ ?_ _) | (with_reducible refine Below.drew ?_) | (with_reducible refine below_drewN ?_ _) | (with_reducible refine Below.setCell ?_ ?_ _) | go_size | (simp only [w_size_ext, List.length_append, World.alloc_size]; omega) | (simp; done) | (simp; omega))))
theorem of_any (s : ByteArray) (w : World) : Calls Tryd.prog 11 #[.string s] w (Ret (evV (ofR s)) w) := by
  by_cases h : s.size < 4 ∨ 16 < s.size
  · have e : ofR s = ((0, 0), false) := by unfold ofR; rw [if_pos h]
    rw [e]
    exact of_short s w h
  · exact of_long s w (by omega) (by omega)
end Go.Proofs.YtaingleopdnkiaaDoor
