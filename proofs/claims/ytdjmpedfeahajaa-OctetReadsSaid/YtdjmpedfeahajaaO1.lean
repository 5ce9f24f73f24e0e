/- Helper lemmas: what an eye's methods do, asked of an eye that a call of Read made. No condition. -/
import Derived.Test.YtdjmpedfeahajaaK2
import Derived.Test.YtdjmpedfeahajaaPB
namespace Go.Proofs.Ytdjmpedfeahajaa
open Go.RowKit

abbrev eyeP (b : Nat) : Value := .pointer (some ⟨b, 0, none⟩)
def fault (c : Int) : PanicEntry := { v := .iface 95 (.agg #[.int .i64 c]), recovered := false }
/-- The call throws the fault c, and leaves all that lay before as it was. -/
def Throws (c : Int) (w : World) (e : Ending) (w' : World) : Prop := e = .panicked [fault c] ∧ ∃ j, w' = wext w j

/-- A block that is there is told apart from what comes later. -/
theorem leB_of_cell {w : World} {b o : Nat} {v : Value} (h : w.cell? ⟨b, o, none⟩ = some v) : leB (b + 1) w.heap.size = true := by
  have := World.block_lt_of_cell? w _ h
  simp only [leB, decide_eq_true_eq]; exact this
set_option maxHeartbeats 400000 in
theorem dead_on (b : Nat) (w : World) (ho : w.cell? ⟨b, 1, none⟩ = some (.bool true)) : Calls Try.prog 90 #[eyeP b] w (Ret (.bool false) w) := by
  go_enter Try.func90, Try.ntmps90
  go_wp2
  go_ret
  exact Ret.mk rfl (Below.refl _ _)
set_option maxHeartbeats 400000 in
theorem dead_off (b : Nat) (w : World) (ho : w.cell? ⟨b, 1, none⟩ = some (.bool false)) : Calls Try.prog 90 #[eyeP b] w (Ret (.bool true) w) := by
  go_enter Try.func90, Try.ntmps90
  go_wp2
  go_ret
  exact Ret.mk rfl (Below.refl _ _)
set_option maxHeartbeats 400000 in
theorem dead_nil (w : World) : Calls Try.prog 90 #[.pointer none] w (Ret (.bool true) w) := by
  go_enter Try.func90, Try.ntmps90
  go_wp2
  go_ret
  exact Ret.mk rfl (Below.refl _ _)

theorem Throws.mk {c : Int} {w w' : World} {e : Ending} (he : e = .panicked [fault c]) (hb : Below w.heap.size w w') : Throws c w e w' := ⟨he, w_ext_of_below hb⟩
set_option maxHeartbeats 400000 in
theorem fail_on (b : Nat) (c : Int) (w : World) (ho : w.cell? ⟨b, 1, none⟩ = some (.bool true)) : Calls Try.prog 89 #[eyeP b, .int .i64 c] w (Throws c w) := by
  go_enter Try.func89, Try.ntmps89
  go_wp2_with (go_at_call 90; refine (dead_on _ _ (by go_cell)).mono ?_; rintro e1 w1 ⟨rfl, j1, rfl⟩)
  exact ⟨rfl, Throws.mk rfl (by (repeat' (first | (with_reducible exact Below.refl _ _) | (with_reducible assumption) | (with_reducible refine Below.alloc ?_ ?_ _) | (with_reducible refine below_ext ?_ ?_ _) | (with_reducible refine Below.drew ?_) | (with_reducible refine below_drewN ?_ _) | (with_reducible refine Below.setCell ?_ ?_ _) | go_size)))⟩
set_option maxHeartbeats 400000 in
theorem wide_yes (n : Int) (w : World) (h0 : 1 ≤ n) (h8 : n ≤ 8) : Calls Try.prog 87 #[.int .i64 n] w (Ret (.bool true) w) := by
  go_enter Try.func87, Try.ntmps87
  go_wp2
  go_ret
  exact Ret.mk rfl (Below.refl _ _)
set_option maxHeartbeats 400000 in
theorem wide_no (n : Int) (w : World) (h0 : ¬ (1 ≤ n ∧ n ≤ 8)) : Calls Try.prog 87 #[.int .i64 n] w (Ret (.bool false) w) := by
  by_cases h1 : 1 ≤ n
  all_goals
    go_enter Try.func87, Try.ntmps87
    go_wp2
    go_ret
    exact Ret.mk (by first | rfl | (simp; omega)) (Below.refl _ _)

/-- A world that has grown out of another one. -/
theorem w_grown {w w' : World} (h : Below w.heap.size w w') : ∃ j, w' = wext w j := w_ext_of_below h
/-- The world in which the eye at b has s left. -/
abbrev eyeSet (w : World) (b : Nat) (s : ByteArray) : World := w.setCell ⟨b, 0, none⟩ (.string s)
set_option maxHeartbeats 1000000 in
theorem raw_no (b : Nat) (s : ByteArray) (n : Int) (w : World) (hr : w.cell? ⟨b, 0, none⟩ = some (.string s)) (ho : w.cell? ⟨b, 1, none⟩ = some (.bool true)) (hn : n < 0 ∨ (s.size : Int) < n) :
    Calls Try.prog 60 #[eyeP b, .int .i64 n] w (Throws 201 w) := by
  by_cases h0 : n < 0
  · clear hn
    have hlt := leB_of_cell ho
    go_enter Try.func60, Try.ntmps60
    go_wp2_with (first | (go_at_call 90; refine (dead_on _ _ (by go_cell)).mono ?_; rintro e1 w1 ⟨rfl, j1, rfl⟩) | (go_at_call 89; refine (fail_on _ _ _ (by go_cell)).mono ?_; rintro e1 w1 ⟨rfl, j1, rfl⟩))
    exact ⟨rfl, Throws.mk rfl (by (repeat' (first | (with_reducible exact Below.refl _ _) | (with_reducible assumption) | (with_reducible refine Below.alloc ?_ ?_ _) | (with_reducible refine below_ext ?_ ?_ _) | (with_reducible refine Below.drew ?_) | (with_reducible refine below_drewN ?_ _) | (with_reducible refine Below.setCell ?_ ?_ _) | go_size)))⟩
  · have hs : (s.size : Int) < n := by omega
    clear hn
    have hlt := leB_of_cell ho
    go_enter Try.func60, Try.ntmps60
    go_wp2_with (first | (go_at_call 90; refine (dead_on _ _ (by go_cell)).mono ?_; rintro e1 w1 ⟨rfl, j1, rfl⟩) | (go_at_call 89; refine (fail_on _ _ _ (by go_cell)).mono ?_; rintro e1 w1 ⟨rfl, j1, rfl⟩))
    exact ⟨rfl, Throws.mk rfl (by (repeat' (first | (with_reducible exact Below.refl _ _) | (with_reducible assumption) | (with_reducible refine Below.alloc ?_ ?_ _) | (with_reducible refine below_ext ?_ ?_ _) | (with_reducible refine Below.drew ?_) | (with_reducible refine below_drewN ?_ _) | (with_reducible refine Below.setCell ?_ ?_ _) | go_size)))⟩
set_option maxHeartbeats 1000000 in
theorem raw_yes (b : Nat) (s : ByteArray) (n : Nat) (w : World) (hr : w.cell? ⟨b, 0, none⟩ = some (.string s)) (ho : w.cell? ⟨b, 1, none⟩ = some (.bool true)) (hf : w.frozen? ⟨b, 0, none⟩ = false) (hn : n ≤ s.size) :
    Calls Try.prog 60 #[eyeP b, .int .i64 n] w fun e w' => e = .returned (.string (s.extract 0 n)) ∧ ∃ j, w' = wext (eyeSet w b (s.extract n s.size)) j := by
  have h0 : (0 : Int) ≤ (n : Int) := by omega
  have hs : (n : Int) ≤ (s.size : Int) := by omega
  have hlt := leB_of_cell ho
  go_enter Try.func60, Try.ntmps60
  go_wp2_with (first | (go_at_call 90; refine (dead_on _ _ (by go_cell)).mono ?_; rintro e1 w1 ⟨rfl, j1, rfl⟩) | (go_at_call 89; refine (fail_on _ _ _ (by go_cell)).mono ?_; rintro e1 w1 ⟨rfl, j1, rfl⟩))
  go_ret
  exact ⟨rfl, _, rfl⟩


/-- The number that the next bytes of s are. -/
def numOf (s : ByteArray) (n : Nat) : Nat := beNat (s.extract 0 n).data.toList
theorem wrap64_small (m : Nat) (h : m < 9223372036854775808) : wrap64 (m : Int) = m := by rw [wrap64_eq]; omega
theorem wrap64_neg (m : Nat) (h : ¬ m < 9223372036854775808) (h2 : m < 18446744073709551616) : wrap64 (m : Int) < 0 := by rw [wrap64_eq]; omega
set_option maxHeartbeats 1000000 in
theorem num_yes (b : Nat) (s : ByteArray) (n : Nat) (w : World) (hr : w.cell? ⟨b, 0, none⟩ = some (.string s)) (ho : w.cell? ⟨b, 1, none⟩ = some (.bool true)) (hf : w.frozen? ⟨b, 0, none⟩ = false) (h1 : 1 ≤ n) (h8 : n ≤ 8) (hn : n ≤ s.size) (hv : numOf s n < 9223372036854775808) :
    Calls Try.prog 50 #[eyeP b, .int .i64 n] w fun e w' => e = .returned (.int .i64 (numOf s n)) ∧ ∃ j, w' = wext (eyeSet w b (s.extract n s.size)) j := by
  have hlt := leB_of_cell ho
  have hv' : numOf s n = beNat (s.extract 0 n).data.toList := rfl
  have HV := Lib.hid hv'; clear hv'
  have HB := Lib.hid hv; clear hv
  go_enter Try.func50, Try.ntmps50
  go_wp2_with (first | (go_at_call 90; refine (dead_on _ _ (by go_cell)).mono ?_; rintro e1 w1 ⟨rfl, j1, rfl⟩) | (go_at_call 60; refine (raw_yes _ s _ _ (by go_cell) (by go_cell) (by simp [go_sem, hlt, hf]) (by omega)).mono ?_; rintro e1 w1 ⟨rfl, j1, rfl⟩) | (go_at_call 87; refine (wide_yes _ _ (by omega) (by omega)).mono ?_; rintro e1 w1 ⟨rfl, j1, rfl⟩) | (refine wpList_sbytes rfl 9 43 5 _ rfl Try.underlying9 Try.underlying43 Try.underlying5 _ rfl ?_; intro c R lo hi hRs hlo hR; have HR := Lib.hid hR; clear hR))
  go_loop [5, 20] (fun acc i => ∃ k : Nat, k ≤ n ∧ i = .int .i64 k ∧ acc = .int .i64 (wrap64 (beNat ((s.extract 0 n).data.toList.take k)))) (fun _ i => n - (intOf i).toNat)
  case atStart => exact ⟨0, by omega, rfl, by rw [List.take_zero, beNat_nil, wrap64_small 0 (by omega)]; rfl⟩
  case round =>
    obtain ⟨k, hk, rfl, rfl⟩ := hrel
    obtain ⟨m, hm⟩ : ∃ m, m = beNat ((s.extract 0 n).data.toList.take k) := ⟨_, rfl⟩
    rw [← hm]
    have HM := Lib.hid hm; clear hm
    by_cases hlt' : k < n
    · have hkk : k < (s.extract 0 n).data.size := by simp; omega
      have hRk : R[k]? = some (.int .u8 ((s.extract 0 n).data[k]'hkk).toNat) := HR.out k hkk
      have hnext : beNat ((s.extract 0 n).data.toList.take (k + 1)) = m * 256 + ((s.extract 0 n).data[k]'hkk).toNat := by
        rw [List.take_succ_eq_append_getElem (by simpa using hkk), beNat_snoc, HM.out]; rfl
      obtain ⟨c, hc⟩ : ∃ c, c = (s.extract 0 n).data[k]'hkk := ⟨_, rfl⟩
      rw [← hc] at hRk hnext
      have HN := Lib.hid hnext; clear hnext
      clear hc
      go_wp2
      go_round
      case rel => exact ⟨k + 1, by omega, by go_num, by rw [HN.out, ← or_byte _ _ c.toNat_lt]⟩
      case measure => simp [intOf]; omega
    · obtain rfl : k = n := by omega
      have hfin : m = beNat (s.extract 0 k).data.toList := by rw [HM.out, List.take_of_length_le (by simp; omega)]
      have hw : wrap64 (m : Int) = m := wrap64_small m (by rw [hfin, ← HV.out]; exact HB.out)
      rw [hw]
      have hm0 : (0 : Int) ≤ (m : Int) := by omega
      have HF := Lib.hid hfin; clear hfin hw
      go_wp2
      go_ret
      exact ⟨by rw [HV.out, ← HF.out]; rfl, w_grown (by (repeat' (first | (with_reducible exact Below.refl _ _) | (with_reducible assumption) | (with_reducible refine Below.alloc ?_ ?_ _) | (with_reducible refine below_ext ?_ ?_ _) | (with_reducible refine Below.drew ?_) | (with_reducible refine below_drewN ?_ _) | (with_reducible refine Below.setCell ?_ ?_ _) | go_size)))⟩
set_option maxHeartbeats 1000000 in
theorem num_neg (b : Nat) (s : ByteArray) (n : Nat) (w : World) (hr : w.cell? ⟨b, 0, none⟩ = some (.string s)) (ho : w.cell? ⟨b, 1, none⟩ = some (.bool true)) (hf : w.frozen? ⟨b, 0, none⟩ = false) (h1 : 1 ≤ n) (h8 : n ≤ 8) (hn : n ≤ s.size) (hv : ¬ numOf s n < 9223372036854775808) :
    Calls Try.prog 50 #[eyeP b, .int .i64 n] w fun e w' => e = .panicked [fault 201] ∧ ∃ s' j, w' = wext (eyeSet w b s') j := by
  have hlt := leB_of_cell ho
  have hv' : numOf s n = beNat (s.extract 0 n).data.toList := rfl
  have HV := Lib.hid hv'; clear hv'
  have HB := Lib.hid hv; clear hv
  go_enter Try.func50, Try.ntmps50
  go_wp2_with (first | (go_at_call 90; refine (dead_on _ _ (by go_cell)).mono ?_; rintro e1 w1 ⟨rfl, j1, rfl⟩) | (go_at_call 60; refine (raw_yes _ s _ _ (by go_cell) (by go_cell) (by simp [go_sem, hlt, hf]) (by omega)).mono ?_; rintro e1 w1 ⟨rfl, j1, rfl⟩) | (go_at_call 87; refine (wide_yes _ _ (by omega) (by omega)).mono ?_; rintro e1 w1 ⟨rfl, j1, rfl⟩) | (refine wpList_sbytes rfl 9 43 5 _ rfl Try.underlying9 Try.underlying43 Try.underlying5 _ rfl ?_; intro c R lo hi hRs hlo hR; have HR := Lib.hid hR; clear hR))
  go_loop [5, 20] (fun acc i => ∃ k : Nat, k ≤ n ∧ i = .int .i64 k ∧ acc = .int .i64 (wrap64 (beNat ((s.extract 0 n).data.toList.take k)))) (fun _ i => n - (intOf i).toNat)
  case atStart => exact ⟨0, by omega, rfl, by rw [List.take_zero, beNat_nil, wrap64_small 0 (by omega)]; rfl⟩
  case round =>
    obtain ⟨k, hk, rfl, rfl⟩ := hrel
    obtain ⟨m, hm⟩ : ∃ m, m = beNat ((s.extract 0 n).data.toList.take k) := ⟨_, rfl⟩
    rw [← hm]
    have HM := Lib.hid hm; clear hm
    by_cases hlt' : k < n
    · have hkk : k < (s.extract 0 n).data.size := by simp; omega
      have hRk : R[k]? = some (.int .u8 ((s.extract 0 n).data[k]'hkk).toNat) := HR.out k hkk
      have hnext : beNat ((s.extract 0 n).data.toList.take (k + 1)) = m * 256 + ((s.extract 0 n).data[k]'hkk).toNat := by
        rw [List.take_succ_eq_append_getElem (by simpa using hkk), beNat_snoc, HM.out]; rfl
      obtain ⟨c, hc⟩ : ∃ c, c = (s.extract 0 n).data[k]'hkk := ⟨_, rfl⟩
      rw [← hc] at hRk hnext
      have HN := Lib.hid hnext; clear hnext
      clear hc
      go_wp2
      go_round
      case rel => exact ⟨k + 1, by omega, by go_num, by rw [HN.out, ← or_byte _ _ c.toNat_lt]⟩
      case measure => simp [intOf]; omega
    · obtain rfl : k = n := by omega
      have hfin : m = beNat (s.extract 0 k).data.toList := by rw [HM.out, List.take_of_length_le (by simp; omega)]
      have h2 : m < 18446744073709551616 := by
        have := beNat_lt (s.extract 0 k).data.toList
        have hl : (s.extract 0 k).data.toList.length = k := by simp; omega
        rw [hl, ← hfin] at this
        calc m < 256 ^ k := this
          _ ≤ 256 ^ 8 := Nat.pow_le_pow_right (by omega) h8
          _ = 18446744073709551616 := by decide
      have hw : wrap64 (m : Int) < 0 := wrap64_neg m (by rw [hfin, ← HV.out]; exact HB.out) h2
      clear h2
      obtain ⟨z, hz⟩ : ∃ z, z = wrap64 (m : Int) := ⟨_, rfl⟩
      rw [← hz] at hw ⊢
      have HZ := Lib.hid hz; clear hz
      have HF := Lib.hid hfin; clear hfin
      go_wp2_with (first | (go_at_call 89; refine (fail_on _ _ _ (by go_cell)).mono ?_; rintro e1 w1 ⟨rfl, j1, rfl⟩))
      exact ⟨rfl, rfl, s.extract k s.size, w_grown (by (repeat' (first | (with_reducible exact Below.refl _ _) | (with_reducible assumption) | (with_reducible refine Below.alloc ?_ ?_ _) | (with_reducible refine below_ext ?_ ?_ _) | (with_reducible refine Below.drew ?_) | (with_reducible refine below_drewN ?_ _) | (with_reducible refine Below.setCell ?_ ?_ _) | go_size)))⟩
set_option maxHeartbeats 1000000 in
theorem num_short (b : Nat) (s : ByteArray) (n : Int) (w : World) (hr : w.cell? ⟨b, 0, none⟩ = some (.string s)) (ho : w.cell? ⟨b, 1, none⟩ = some (.bool true)) (h1 : 1 ≤ n) (h8 : n ≤ 8) (hn : (s.size : Int) < n) :
    Calls Try.prog 50 #[eyeP b, .int .i64 n] w (Throws 201 w) := by
  have hlt := leB_of_cell ho
  go_enter Try.func50, Try.ntmps50
  go_wp2_with (first | (go_at_call 90; refine (dead_on _ _ (by go_cell)).mono ?_; rintro e1 w1 ⟨rfl, j1, rfl⟩) | (go_at_call 60; refine (raw_no _ s _ _ (by go_cell) (by go_cell) (by omega)).mono ?_; rintro e1 w1 ⟨rfl, j1, rfl⟩) | (go_at_call 87; refine (wide_yes _ _ (by omega) (by omega)).mono ?_; rintro e1 w1 ⟨rfl, j1, rfl⟩))
  exact ⟨rfl, Throws.mk rfl (by (repeat' (first | (with_reducible exact Below.refl _ _) | (with_reducible assumption) | (with_reducible refine Below.alloc ?_ ?_ _) | (with_reducible refine below_ext ?_ ?_ _) | (with_reducible refine Below.drew ?_) | (with_reducible refine below_drewN ?_ _) | (with_reducible refine Below.setCell ?_ ?_ _) | go_size)))⟩
set_option maxHeartbeats 1000000 in
theorem num_wide (b : Nat) (n : Int) (w : World) (ho : w.cell? ⟨b, 1, none⟩ = some (.bool true)) (hw : ¬ (1 ≤ n ∧ n ≤ 8)) :
    Calls Try.prog 50 #[eyeP b, .int .i64 n] w (Throws 22 w) := by
  have hlt := leB_of_cell ho
  go_enter Try.func50, Try.ntmps50
  go_wp2_with (first | (go_at_call 90; refine (dead_on _ _ (by go_cell)).mono ?_; rintro e1 w1 ⟨rfl, j1, rfl⟩) | (go_at_call 89; refine (fail_on _ _ _ (by go_cell)).mono ?_; rintro e1 w1 ⟨rfl, j1, rfl⟩) | (go_at_call 87; refine (wide_no _ _ hw).mono ?_; rintro e1 w1 ⟨rfl, j1, rfl⟩))
  exact ⟨rfl, Throws.mk rfl (by (repeat' (first | (with_reducible exact Below.refl _ _) | (with_reducible assumption) | (with_reducible refine Below.alloc ?_ ?_ _) | (with_reducible refine below_ext ?_ ?_ _) | (with_reducible refine Below.drew ?_) | (with_reducible refine below_drewN ?_ _) | (with_reducible refine Below.setCell ?_ ?_ _) | go_size)))⟩
end Go.Proofs.Ytdjmpedfeahajaa
