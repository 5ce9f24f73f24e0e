/- Helper lemmas: the law that unlike events have unlike names among conflicts: its walk. No condition. -/
import Derived.Test.YtaingleopdnkiaaDoorH1
import Derived.Test.YtaingleopdnkiaaDoorC1
set_option linter.unusedSimpArgs false
set_option linter.unusedVariables false
namespace Go.Proofs.YtaingleopdnkiaaDoor
open Go.RowKit

/-- Is this an event of the bounds? -/
def inB (t x : Int) : Bool := decide (0 ≤ t) && decide (t < 281474976710656) && decide (0 ≤ x) && decide (x < 16)
set_option maxHeartbeats 2000000 in
set_option maxRecDepth 100000 in
theorem in_any (t x : Int) (w : World) : Calls Tryd.prog 15 #[.agg #[.int .i64 t, .int .i64 x]] w (Ret (.bool (inB t x)) w) := by
  have HE := Lib.hid (show inB t x = (decide (0 ≤ t) && decide (t < 281474976710656) && decide (0 ≤ x) && decide (x < 16)) from rfl)
  generalize inB t x = b at *
  by_cases h1 : 0 ≤ t
  case neg =>
    have HB := Lib.hid (show b = false by rw [HE.out, decide_eq_false h1]; rfl)
    go_enter Tryd.func15, Tryd.ntmps15
    go_wp2
    go_ret
    exact Ret.mk (by rw [HB.out]; rfl) (by (repeat' (first | (with_reducible exact Below.refl _ _) | (with_reducible assumption) | (with_reducible exact below_app _ _ _ _) | (with_reducible refine below_pre ?_; (simp only [List.append_assoc, List.prefix_append, List.prefix_refl, List.prefix_append_right_inj])) | (with_reducible refine Below.alloc ?_ ?_ _) | (with_reducible refine below_ext ?_ ?_ _) | (with_reducible refine Below.drew ?_) | (with_reducible refine below_drewN ?_ _) | (with_reducible refine Below.setCell ?_ ?_ _) | go_size | (simp only [w_size_ext, List.length_append, World.alloc_size]; omega) | (simp; done) | (simp; omega))))
  by_cases h2 : t < 281474976710656
  case neg =>
    have HB := Lib.hid (show b = false by rw [HE.out, decide_eq_true h1, decide_eq_false h2]; rfl)
    have h2' : (t < 281474976710656) = False := eq_false h2
    clear h2
    go_enter Tryd.func15, Tryd.ntmps15
    go_wp2
    go_ret
    exact Ret.mk (by rw [HB.out]; rfl) (by (repeat' (first | (with_reducible exact Below.refl _ _) | (with_reducible assumption) | (with_reducible exact below_app _ _ _ _) | (with_reducible refine below_pre ?_; (simp only [List.append_assoc, List.prefix_append, List.prefix_refl, List.prefix_append_right_inj])) | (with_reducible refine Below.alloc ?_ ?_ _) | (with_reducible refine below_ext ?_ ?_ _) | (with_reducible refine Below.drew ?_) | (with_reducible refine below_drewN ?_ _) | (with_reducible refine Below.setCell ?_ ?_ _) | go_size | (simp only [w_size_ext, List.length_append, World.alloc_size]; omega) | (simp; done) | (simp; omega))))
  by_cases h3 : 0 ≤ x
  case neg =>
    have HB := Lib.hid (show b = false by rw [HE.out, decide_eq_true h1, decide_eq_true h2, decide_eq_false h3]; rfl)
    go_enter Tryd.func15, Tryd.ntmps15
    go_wp2
    go_ret
    exact Ret.mk (by rw [HB.out]; rfl) (by (repeat' (first | (with_reducible exact Below.refl _ _) | (with_reducible assumption) | (with_reducible exact below_app _ _ _ _) | (with_reducible refine below_pre ?_; (simp only [List.append_assoc, List.prefix_append, List.prefix_refl, List.prefix_append_right_inj])) | (with_reducible refine Below.alloc ?_ ?_ _) | (with_reducible refine below_ext ?_ ?_ _) | (with_reducible refine Below.drew ?_) | (with_reducible refine below_drewN ?_ _) | (with_reducible refine Below.setCell ?_ ?_ _) | go_size | (simp only [w_size_ext, List.length_append, World.alloc_size]; omega) | (simp; done) | (simp; omega))))
  have HB := Lib.hid (show b = decide (x < 16) by rw [HE.out, decide_eq_true h1, decide_eq_true h2, decide_eq_true h3]; rfl)
  go_enter Tryd.func15, Tryd.ntmps15
  go_wp2
  go_ret
  exact Ret.mk (by rw [HB.out]; rfl) (by (repeat' (first | (with_reducible exact Below.refl _ _) | (with_reducible assumption) | (with_reducible exact below_app _ _ _ _) | (with_reducible refine below_pre ?_; (simp only [List.append_assoc, List.prefix_append, List.prefix_refl, List.prefix_append_right_inj])) | (with_reducible refine Below.alloc ?_ ?_ _) | (with_reducible refine below_ext ?_ ?_ _) | (with_reducible refine Below.drew ?_) | (with_reducible refine below_drewN ?_ _) | (with_reducible refine Below.setCell ?_ ?_ _) | go_size | (simp only [w_size_ext, List.length_append, World.alloc_size]; omega) | (simp; done) | (simp; omega))))
theorem oddT_data (n d : Nat) (h : n < 281474976710656) (hd : d < 16) : (oddT (n : Int) (d : Int)).data.toList = 99 :: (padD (lenD n) n ++ [45, dig d]) := by
  have h12 : lenD n ≤ 12 := lenD_le 12 n (by omega) (by omega)
  unfold oddT
  rw [tN_nat n (by omega), wN_nat d hd]
  show oddL n d = _
  rw [oddL, Nat.min_eq_left h12]
  simp
theorem of_odd (n d : Nat) (h : n < 281474976710656) (hd : d < 16) : ofR (oddT (n : Int) (d : Int)) = ((n, d), true) := by
  have h12 : lenD n ≤ 12 := lenD_le 12 n (by omega) (by omega)
  have h1 := lenD_pos n
  have hD := oddT_data n d h hd
  have hS : oddL n d = (oddT (n : Int) (d : Int)).data.toList := by
    rw [hD, oddL, Nat.min_eq_left h12]; simp
  generalize oddT (n : Int) (d : Int) = s at *
  have hz : s.size = lenD n + 3 := by
    have := congrArg List.length hD
    rw [show s.data.toList.length = s.size from rfl] at this
    simp [padD_len] at this
    omega
  have hm : midS s = padD (lenD n) n := by
    unfold midS
    rw [hD, hz, List.drop_one, List.tail_cons, show lenD n + 3 - 3 = (padD (lenD n) n).length by rw [padD_len]; omega, List.take_left]
  have hl : lastB s = dig d := by
    unfold lastB
    rw [hD, hz, show lenD n + 3 - 1 = ((padD (lenD n) n).length + 1) + 1 by rw [padD_len]; omega]
    rw [List.getD_cons_succ, List.getD_eq_getElem?_getD, List.getElem?_append_right (by omega)]
    simp
  unfold ofR
  rw [if_neg (by omega), hm, hl, val_pad _ _ (lenD_lt n), dg_dig d hd, if_pos hS]
theorem good_odd (n d : Nat) (h : n < 281474976710656) (hd : d < 16) : goodE (oddT (n : Int) (d : Int)) = 0 := by
  have h12 : lenD n ≤ 12 := lenD_le 12 n (by omega) (by omega)
  have hD := oddT_data n d h hd
  generalize oddT (n : Int) (d : Int) = s at *
  have hz : s.size = lenD n + 3 := by
    have := congrArg List.length hD
    rw [show s.data.toList.length = s.size from rfl] at this
    simp [padD_len] at this
    omega
  have hbd : ∀ c, dgOk c = true → (c == 47 || c == 0) = false := u8_all (P := fun c => dgOk c = true → (c == 47 || c == 0) = false) (by decide +kernel)
  have hbs : badSign s.data.toList = false := by
    rw [hD]
    unfold badSign
    simp only [List.any_cons, List.any_append, List.any_nil, Bool.or_false]
    have h1 : (padD (lenD n) n).any (fun c => c == 47 || c == 0) = false := by
      rw [List.any_eq_false]
      intro c hc
      rw [hbd c (pad_ok _ _ c hc)]
      simp
    have h2 := hbd (dig d) (ok_dig d hd)
    rw [h1, h2]
    rfl
  rw [goodE_eq, hbs, ByteArray.toList_eq, hD, if_neg (by simp), if_neg (by simp), if_neg (by simp), if_neg (by simp), if_neg (by omega)]
theorem odd_inj (n d n2 d2 : Nat) (h : n < 281474976710656) (hd : d < 16) (h2 : n2 < 281474976710656) (hd2 : d2 < 16) (e : oddT (n : Int) (d : Int) = oddT (n2 : Int) (d2 : Int)) : n = n2 ∧ d = d2 := by
  have h3 := of_odd n d h hd
  rw [e, of_odd n2 d2 h2 hd2] at h3
  injection h3 with h3 _
  injection h3 with h3 h4
  exact ⟨h3.symm, h4.symm⟩
theorem inB_nat (t x : Int) (h : inB t x = true) : ∃ n d : Nat, t = (n : Int) ∧ x = (d : Int) ∧ n < 281474976710656 ∧ d < 16 := by
  simp only [inB, Bool.and_eq_true, decide_eq_true_eq] at h
  obtain ⟨⟨⟨h1, h2⟩, h3⟩, h4⟩ := h
  exact ⟨t.toNat, x.toNat, by omega, by omega, by omega, by omega⟩
end Go.Proofs.YtaingleopdnkiaaDoor
