/- Helper lemmas: times as words, by the program. No condition. -/
import Derived.Test.YtmcooenafgihkaaGreatDoorP5
set_option linter.unusedSimpArgs false
set_option linter.unusedVariables false
namespace Go.Proofs.YtmcooenafgihkaaGreatDoor
open Go.RowKit

theorem whole_of_trunc (x : Nat) (h : x % 9223372036854775808 ≤ 4845873199050653696) (hx : x < 18446744073709551616) : (Ieee.double.order (floatOfInt .f64 (truncV x)) x != some .eq) = wt x := by
  have hq := (w_bounds x h).1
  obtain ⟨v, l⟩ := R_whole (wq x) hq
  have hz : ∃ s' : Bool, floatOfInt .f64 (truncV x) = Ieee.double.nearest s' (wq x) 0 ∧ sg s' (R (wq x) 0) = sg (ng x) (R (wq x) 0) := by
    unfold truncV
    cases hs : ng x
    · refine ⟨false, ?_, rfl⟩
      show Ieee.double.nearest (decide ((wq x : Int) < 0)) (Int.natAbs (wq x : Int)) 0 = _
      rw [decide_eq_false (by omega), Int.natAbs_natCast]
    · rcases Nat.eq_zero_or_pos (wq x) with h0 | h0
      · refine ⟨false, ?_, ?_⟩
        · show Ieee.double.nearest (decide (-(wq x : Int) < 0)) (Int.natAbs (-(wq x : Int))) 0 = _
          rw [decide_eq_false (by omega), Int.natAbs_neg, Int.natAbs_natCast]
        · rw [h0]; rfl
      · refine ⟨true, ?_, rfl⟩
        show Ieee.double.nearest (decide (-(wq x : Int) < 0)) (Int.natAbs (-(wq x : Int))) 0 = _
        rw [decide_eq_true (by omega), Int.natAbs_neg, Int.natAbs_natCast]
  obtain ⟨s', ez, es⟩ := hz
  obtain ⟨_, k, n, b⟩ := whole_back s' (wq x) hq
  rw [ez, order_key _ x b hx n (by unfold isN; omega), k, es, key_sg x hx]
  have hv : R (wq x) 0 < x % 9223372036854775808 ↔ wt x = true := by
    rw [← V_iff, v]
    unfold wq wt
    have e := Nat.div_add_mod (V (x % 9223372036854775808)) LU
    rw [bne_iff_ne, Nat.mul_comm] 
    omega
  have hv2 : ¬ x % 9223372036854775808 < R (wq x) 0 := by
    rw [← V_iff, v]
    unfold wq
    have e := Nat.div_add_mod (V (x % 9223372036854775808)) LU
    rw [Nat.mul_comm] at e
    omega
  generalize R (wq x) 0 = r at *
  generalize x % 9223372036854775808 = u at *
  clear ez es k n b v l
  cases ng x
  · show (some (compare (r : Int) (u : Int)) != some .eq) = wt x
    cases ht : wt x
    · have : ¬ r < u := fun c => by rw [hv.1 c] at ht; cases ht
      rw [show (r : Int) = u by omega, c_eq]; rfl
    · have := hv.2 ht
      rw [c_lt (by omega)]; rfl
  · show (some (compare (-(r : Int)) (-(u : Int))) != some .eq) = wt x
    cases ht : wt x
    · have : ¬ r < u := fun c => by rw [hv.1 c] at ht; cases ht
      rw [show (r : Int) = u by omega, c_eq]; rfl
    · have := hv.2 ht
      rw [c_gt (by omega)]; rfl
theorem in_range (x : Nat) (hx : x < 18446744073709551616) (n : isN x) (h1 : (FloatKind.f64.format.order x 14069245235905429504 == some .lt) = false) (h2 : (FloatKind.f64.format.order x 4845873199050653696 == some .gt) = false) : x % 9223372036854775808 ≤ 4845873199050653696 := by
  have a := order_key x 14069245235905429504 hx (by decide) n (by unfold isN; decide)
  have b := order_key x 4845873199050653696 hx (by decide) n (by unfold isN; decide)
  rw [show FloatKind.f64.format = Ieee.double from rfl, a] at h1
  rw [show FloatKind.f64.format = Ieee.double from rfl, b] at h2
  have k1 : key 14069245235905429504 = -4845873199050653696 := by decide
  have k2 : key 4845873199050653696 = 4845873199050653696 := by decide
  rw [k1] at h1
  rw [k2] at h2
  have c1 : ¬ key x < -4845873199050653696 := fun c => by rw [c_lt c] at h1; cases h1
  have c2 : ¬ 4845873199050653696 < key x := fun c => by rw [c_gt c] at h2; cases h2
  unfold key at c1 c2
  split at c1
  · rw [if_pos (by assumption)] at c2; omega
  · rw [if_neg (by assumption)] at c2; omega
/-- Further than a line says. -/
def far (x : Nat) : Bool := (FloatKind.f64.format.order x 14069245235905429504 == some .lt) || (FloatKind.f64.format.order x 4845873199050653696 == some .gt)
/-- A time as a word. -/
def timeL (b : Nat) : Option (List UInt8) := if b % 9223372036854775808 > 9218868437227405312 then some [110, 111, 110, 101] else if b = 9218868437227405312 then some [110, 101, 118, 101, 114] else if b = 18442240474082181120 then some [101, 118, 101, 114] else if b = 9223372036854775808 then some [45, 48] else if (far b || wt b) = true then none else some (Lib.itoa (truncV b))
def TimeV (R : Option (List UInt8)) : Value := .tuple #[.string ⟨(R.getD []).toArray⟩, .bool R.isSome]
set_option maxHeartbeats 8000000 in
set_option maxRecDepth 100000 in
theorem time_nan (b : Nat) (w : World) (HN : Hid (∀ W, Calls Tryz.prog 44 #[f64 b] W (Tells (.bool true) W))) : Calls Tryz.prog 24 #[f64 b] w (Tells (TimeV (some [110, 111, 110, 101])) w) := by
  go_enter Tryz.func24, Tryz.ntmps24
  go_wp2_with (go_at_call 44; (with_reducible refine (HN.out _).mono ?_); rintro e1 w1 ⟨rfl, hw⟩; replace hw := hw.symm; subst hw)
  go_ret2
  exact ⟨rfl, rfl⟩
set_option maxHeartbeats 8000000 in
set_option maxRecDepth 100000 in
theorem time_up (b : Nat) (w : World) (HN : Hid (∀ W, Calls Tryz.prog 44 #[f64 b] W (Tells (.bool false) W))) (HU : Hid (∀ W, Calls Tryz.prog 45 #[f64 b, .int .i64 1] W (Tells (.bool true) W))) : Calls Tryz.prog 24 #[f64 b] w (Tells (TimeV (some [110, 101, 118, 101, 114])) w) := by
  go_enter Tryz.func24, Tryz.ntmps24
  go_wp2_with (first | (go_at_call 44; (with_reducible refine (HN.out _).mono ?_); rintro e1 w1 ⟨rfl, hw⟩; replace hw := hw.symm; subst hw) | (go_at_call 45; (with_reducible refine (HU.out _).mono ?_); rintro e3 w3 ⟨rfl, hw⟩; replace hw := hw.symm; subst hw))
  go_ret2
  exact ⟨rfl, rfl⟩
set_option maxHeartbeats 8000000 in
set_option maxRecDepth 100000 in
theorem time_down (b : Nat) (w : World) (HN : Hid (∀ W, Calls Tryz.prog 44 #[f64 b] W (Tells (.bool false) W))) (HU : Hid (∀ W, Calls Tryz.prog 45 #[f64 b, .int .i64 1] W (Tells (.bool false) W))) (HD : Hid (∀ W, Calls Tryz.prog 45 #[f64 b, .int .i64 (-1)] W (Tells (.bool true) W))) : Calls Tryz.prog 24 #[f64 b] w (Tells (TimeV (some [101, 118, 101, 114])) w) := by
  go_enter Tryz.func24, Tryz.ntmps24
  go_wp2_with (first | (go_at_call 44; (with_reducible refine (HN.out _).mono ?_); rintro e1 w1 ⟨rfl, hw⟩; replace hw := hw.symm; subst hw) | (go_at_call 45; (with_reducible refine (HU.out _).mono ?_); rintro e3 w3 ⟨rfl, hw⟩; replace hw := hw.symm; subst hw) | (go_at_call 45; (with_reducible refine (HD.out _).mono ?_); rintro e4 w4 ⟨rfl, hw⟩; replace hw := hw.symm; subst hw))
  go_ret2
  exact ⟨rfl, rfl⟩
set_option maxHeartbeats 8000000 in
set_option maxRecDepth 100000 in
theorem time_mz (b : Nat) (w : World) (HN : Hid (∀ W, Calls Tryz.prog 44 #[f64 b] W (Tells (.bool false) W))) (HU : Hid (∀ W, Calls Tryz.prog 45 #[f64 b, .int .i64 1] W (Tells (.bool false) W))) (HD : Hid (∀ W, Calls Tryz.prog 45 #[f64 b, .int .i64 (-1)] W (Tells (.bool false) W))) (HS : Hid (∀ W, Calls Tryz.prog 30 #[f64 b] W (Tells (.bool true) W))) (hz : (FloatKind.f64.format.order b 0 == some .eq) = true) : Calls Tryz.prog 24 #[f64 b] w (Tells (TimeV (some [45, 48])) w) := by
  go_enter Tryz.func24, Tryz.ntmps24
  go_wp2_with (first | (go_at_call 44; (with_reducible refine (HN.out _).mono ?_); rintro e1 w1 ⟨rfl, hw⟩; replace hw := hw.symm; subst hw) | (go_at_call 45; (with_reducible refine (HU.out _).mono ?_); rintro e3 w3 ⟨rfl, hw⟩; replace hw := hw.symm; subst hw) | (go_at_call 45; (with_reducible refine (HD.out _).mono ?_); rintro e4 w4 ⟨rfl, hw⟩; replace hw := hw.symm; subst hw) | (go_at_call 30; (with_reducible refine (HS.out _).mono ?_); rintro e5 w5 ⟨rfl, hw⟩; replace hw := hw.symm; subst hw))
  go_ret2
  exact ⟨rfl, rfl⟩
set_option maxHeartbeats 8000000 in
set_option maxRecDepth 100000 in
theorem time_lon (b : Nat) (w : World) (HN : Hid (∀ W, Calls Tryz.prog 44 #[f64 b] W (Tells (.bool false) W))) (HU : Hid (∀ W, Calls Tryz.prog 45 #[f64 b, .int .i64 1] W (Tells (.bool false) W))) (HD : Hid (∀ W, Calls Tryz.prog 45 #[f64 b, .int .i64 (-1)] W (Tells (.bool false) W))) (hz : (FloatKind.f64.format.order b 0 == some .eq) = false) (hlo : (FloatKind.f64.format.order b 14069245235905429504 == some .lt) = true) : Calls Tryz.prog 24 #[f64 b] w (Tells (TimeV none) w) := by
  go_enter Tryz.func24, Tryz.ntmps24
  go_wp2_with (first | (go_at_call 44; (with_reducible refine (HN.out _).mono ?_); rintro e1 w1 ⟨rfl, hw⟩; replace hw := hw.symm; subst hw) | (go_at_call 45; (with_reducible refine (HU.out _).mono ?_); rintro e3 w3 ⟨rfl, hw⟩; replace hw := hw.symm; subst hw) | (go_at_call 45; (with_reducible refine (HD.out _).mono ?_); rintro e4 w4 ⟨rfl, hw⟩; replace hw := hw.symm; subst hw))
  go_ret2
  exact ⟨rfl, rfl⟩
set_option maxHeartbeats 8000000 in
set_option maxRecDepth 100000 in
theorem time_hin (b : Nat) (w : World) (HN : Hid (∀ W, Calls Tryz.prog 44 #[f64 b] W (Tells (.bool false) W))) (HU : Hid (∀ W, Calls Tryz.prog 45 #[f64 b, .int .i64 1] W (Tells (.bool false) W))) (HD : Hid (∀ W, Calls Tryz.prog 45 #[f64 b, .int .i64 (-1)] W (Tells (.bool false) W))) (hz : (FloatKind.f64.format.order b 0 == some .eq) = false) (hlo : (FloatKind.f64.format.order b 14069245235905429504 == some .lt) = false) (hhi : (FloatKind.f64.format.order b 4845873199050653696 == some .gt) = true) : Calls Tryz.prog 24 #[f64 b] w (Tells (TimeV none) w) := by
  go_enter Tryz.func24, Tryz.ntmps24
  go_wp2_with (first | (go_at_call 44; (with_reducible refine (HN.out _).mono ?_); rintro e1 w1 ⟨rfl, hw⟩; replace hw := hw.symm; subst hw) | (go_at_call 45; (with_reducible refine (HU.out _).mono ?_); rintro e3 w3 ⟨rfl, hw⟩; replace hw := hw.symm; subst hw) | (go_at_call 45; (with_reducible refine (HD.out _).mono ?_); rintro e4 w4 ⟨rfl, hw⟩; replace hw := hw.symm; subst hw))
  go_ret2
  exact ⟨rfl, rfl⟩
set_option maxHeartbeats 8000000 in
set_option maxRecDepth 100000 in
theorem time_partn (b : Nat) (w : World) (HN : Hid (∀ W, Calls Tryz.prog 44 #[f64 b] W (Tells (.bool false) W))) (HU : Hid (∀ W, Calls Tryz.prog 45 #[f64 b, .int .i64 1] W (Tells (.bool false) W))) (HD : Hid (∀ W, Calls Tryz.prog 45 #[f64 b, .int .i64 (-1)] W (Tells (.bool false) W))) (hz : (FloatKind.f64.format.order b 0 == some .eq) = false) (hlo : (FloatKind.f64.format.order b 14069245235905429504 == some .lt) = false) (hhi : (FloatKind.f64.format.order b 4845873199050653696 == some .gt) = false) (t : Int) (cv1 : ∀ W, (convert 29 3 (.float .f64 b)).run Tryz.prog W = .ok (.int .i64 t) W) (z : Nat) (cv2 : ∀ W, (convert 3 29 (.int .i64 t)).run Tryz.prog W = .ok (.float .f64 z) W) (hw : (FloatKind.f64.format.order z b != some .eq) = true) : Calls Tryz.prog 24 #[f64 b] w (Tells (TimeV none) w) := by
  go_enter Tryz.func24, Tryz.ntmps24
  go_wp2_with (first | (go_at_call 44; (with_reducible refine (HN.out _).mono ?_); rintro e1 w1 ⟨rfl, hw⟩; replace hw := hw.symm; subst hw) | (go_at_call 45; (with_reducible refine (HU.out _).mono ?_); rintro e3 w3 ⟨rfl, hw⟩; replace hw := hw.symm; subst hw) | (go_at_call 45; (with_reducible refine (HD.out _).mono ?_); rintro e4 w4 ⟨rfl, hw⟩; replace hw := hw.symm; subst hw))
  go_ret2
  exact ⟨rfl, rfl⟩
set_option maxHeartbeats 8000000 in
set_option maxRecDepth 100000 in
theorem time_loz (b : Nat) (w : World) (HN : Hid (∀ W, Calls Tryz.prog 44 #[f64 b] W (Tells (.bool false) W))) (HU : Hid (∀ W, Calls Tryz.prog 45 #[f64 b, .int .i64 1] W (Tells (.bool false) W))) (HD : Hid (∀ W, Calls Tryz.prog 45 #[f64 b, .int .i64 (-1)] W (Tells (.bool false) W))) (HS : Hid (∀ W, Calls Tryz.prog 30 #[f64 b] W (Tells (.bool false) W))) (hz : (FloatKind.f64.format.order b 0 == some .eq) = true) (hlo : (FloatKind.f64.format.order b 14069245235905429504 == some .lt) = true) : Calls Tryz.prog 24 #[f64 b] w (Tells (TimeV none) w) := by
  go_enter Tryz.func24, Tryz.ntmps24
  go_wp2_with (first | (go_at_call 44; (with_reducible refine (HN.out _).mono ?_); rintro e1 w1 ⟨rfl, hw⟩; replace hw := hw.symm; subst hw) | (go_at_call 45; (with_reducible refine (HU.out _).mono ?_); rintro e3 w3 ⟨rfl, hw⟩; replace hw := hw.symm; subst hw) | (go_at_call 45; (with_reducible refine (HD.out _).mono ?_); rintro e4 w4 ⟨rfl, hw⟩; replace hw := hw.symm; subst hw) | (go_at_call 30; (with_reducible refine (HS.out _).mono ?_); rintro e5 w5 ⟨rfl, hw⟩; replace hw := hw.symm; subst hw))
  go_ret2
  exact ⟨rfl, rfl⟩
set_option maxHeartbeats 8000000 in
set_option maxRecDepth 100000 in
theorem time_hiz (b : Nat) (w : World) (HN : Hid (∀ W, Calls Tryz.prog 44 #[f64 b] W (Tells (.bool false) W))) (HU : Hid (∀ W, Calls Tryz.prog 45 #[f64 b, .int .i64 1] W (Tells (.bool false) W))) (HD : Hid (∀ W, Calls Tryz.prog 45 #[f64 b, .int .i64 (-1)] W (Tells (.bool false) W))) (HS : Hid (∀ W, Calls Tryz.prog 30 #[f64 b] W (Tells (.bool false) W))) (hz : (FloatKind.f64.format.order b 0 == some .eq) = true) (hlo : (FloatKind.f64.format.order b 14069245235905429504 == some .lt) = false) (hhi : (FloatKind.f64.format.order b 4845873199050653696 == some .gt) = true) : Calls Tryz.prog 24 #[f64 b] w (Tells (TimeV none) w) := by
  go_enter Tryz.func24, Tryz.ntmps24
  go_wp2_with (first | (go_at_call 44; (with_reducible refine (HN.out _).mono ?_); rintro e1 w1 ⟨rfl, hw⟩; replace hw := hw.symm; subst hw) | (go_at_call 45; (with_reducible refine (HU.out _).mono ?_); rintro e3 w3 ⟨rfl, hw⟩; replace hw := hw.symm; subst hw) | (go_at_call 45; (with_reducible refine (HD.out _).mono ?_); rintro e4 w4 ⟨rfl, hw⟩; replace hw := hw.symm; subst hw) | (go_at_call 30; (with_reducible refine (HS.out _).mono ?_); rintro e5 w5 ⟨rfl, hw⟩; replace hw := hw.symm; subst hw))
  go_ret2
  exact ⟨rfl, rfl⟩
set_option maxHeartbeats 8000000 in
set_option maxRecDepth 100000 in
theorem time_partz (b : Nat) (w : World) (HN : Hid (∀ W, Calls Tryz.prog 44 #[f64 b] W (Tells (.bool false) W))) (HU : Hid (∀ W, Calls Tryz.prog 45 #[f64 b, .int .i64 1] W (Tells (.bool false) W))) (HD : Hid (∀ W, Calls Tryz.prog 45 #[f64 b, .int .i64 (-1)] W (Tells (.bool false) W))) (HS : Hid (∀ W, Calls Tryz.prog 30 #[f64 b] W (Tells (.bool false) W))) (hz : (FloatKind.f64.format.order b 0 == some .eq) = true) (hlo : (FloatKind.f64.format.order b 14069245235905429504 == some .lt) = false) (hhi : (FloatKind.f64.format.order b 4845873199050653696 == some .gt) = false) (t : Int) (cv1 : ∀ W, (convert 29 3 (.float .f64 b)).run Tryz.prog W = .ok (.int .i64 t) W) (z : Nat) (cv2 : ∀ W, (convert 3 29 (.int .i64 t)).run Tryz.prog W = .ok (.float .f64 z) W) (hw : (FloatKind.f64.format.order z b != some .eq) = true) : Calls Tryz.prog 24 #[f64 b] w (Tells (TimeV none) w) := by
  go_enter Tryz.func24, Tryz.ntmps24
  go_wp2_with (first | (go_at_call 44; (with_reducible refine (HN.out _).mono ?_); rintro e1 w1 ⟨rfl, hw⟩; replace hw := hw.symm; subst hw) | (go_at_call 45; (with_reducible refine (HU.out _).mono ?_); rintro e3 w3 ⟨rfl, hw⟩; replace hw := hw.symm; subst hw) | (go_at_call 45; (with_reducible refine (HD.out _).mono ?_); rintro e4 w4 ⟨rfl, hw⟩; replace hw := hw.symm; subst hw) | (go_at_call 30; (with_reducible refine (HS.out _).mono ?_); rintro e5 w5 ⟨rfl, hw⟩; replace hw := hw.symm; subst hw))
  go_ret2
  exact ⟨rfl, rfl⟩
set_option maxHeartbeats 8000000 in
set_option maxRecDepth 100000 in
theorem time_wholen (b : Nat) (w : World) (HN : Hid (∀ W, Calls Tryz.prog 44 #[f64 b] W (Tells (.bool false) W))) (HU : Hid (∀ W, Calls Tryz.prog 45 #[f64 b, .int .i64 1] W (Tells (.bool false) W))) (HD : Hid (∀ W, Calls Tryz.prog 45 #[f64 b, .int .i64 (-1)] W (Tells (.bool false) W))) (hz : (FloatKind.f64.format.order b 0 == some .eq) = false) (hlo : (FloatKind.f64.format.order b 14069245235905429504 == some .lt) = false) (hhi : (FloatKind.f64.format.order b 4845873199050653696 == some .gt) = false) (t : Int) (cv1 : ∀ W, (convert 29 3 (.float .f64 b)).run Tryz.prog W = .ok (.int .i64 t) W) (z : Nat) (cv2 : ∀ W, (convert 3 29 (.int .i64 t)).run Tryz.prog W = .ok (.float .f64 z) W) (hw : (FloatKind.f64.format.order z b != some .eq) = false) (HT : Hid (I64 t)) (HG : Hid (Glob w)) : Calls Tryz.prog 24 #[f64 b] w (fun e w' => e = .returned (TimeV (some (Lib.itoa t))) ∧ Below w.heap.size w w') := by
  go_enter Tryz.func24, Tryz.ntmps24
  go_wp2_with (first | (go_at_call 44; (with_reducible refine (HN.out _).mono ?_); rintro e1 w1 ⟨rfl, hw⟩; replace hw := hw.symm; subst hw) | (go_at_call 45; (with_reducible refine (HU.out _).mono ?_); rintro e3 w3 ⟨rfl, hw⟩; replace hw := hw.symm; subst hw) | (go_at_call 45; (with_reducible refine (HD.out _).mono ?_); rintro e4 w4 ⟨rfl, hw⟩; replace hw := hw.symm; subst hw) | (go_at_call 42; (with_reducible refine (itoa_any t _ HT.out HG.out).mono ?_); rintro e2 w2 ⟨rfl, hb2⟩; have HB2 := Lib.hid hb2; clear hb2))
  go_ret2
  exact ⟨rfl, HB2.out⟩
set_option maxHeartbeats 8000000 in
set_option maxRecDepth 100000 in
theorem time_wholez (b : Nat) (w : World) (HN : Hid (∀ W, Calls Tryz.prog 44 #[f64 b] W (Tells (.bool false) W))) (HU : Hid (∀ W, Calls Tryz.prog 45 #[f64 b, .int .i64 1] W (Tells (.bool false) W))) (HD : Hid (∀ W, Calls Tryz.prog 45 #[f64 b, .int .i64 (-1)] W (Tells (.bool false) W))) (HS : Hid (∀ W, Calls Tryz.prog 30 #[f64 b] W (Tells (.bool false) W))) (hz : (FloatKind.f64.format.order b 0 == some .eq) = true) (hlo : (FloatKind.f64.format.order b 14069245235905429504 == some .lt) = false) (hhi : (FloatKind.f64.format.order b 4845873199050653696 == some .gt) = false) (t : Int) (cv1 : ∀ W, (convert 29 3 (.float .f64 b)).run Tryz.prog W = .ok (.int .i64 t) W) (z : Nat) (cv2 : ∀ W, (convert 3 29 (.int .i64 t)).run Tryz.prog W = .ok (.float .f64 z) W) (hw : (FloatKind.f64.format.order z b != some .eq) = false) (HT : Hid (I64 t)) (HG : Hid (Glob w)) : Calls Tryz.prog 24 #[f64 b] w (fun e w' => e = .returned (TimeV (some (Lib.itoa t))) ∧ Below w.heap.size w w') := by
  go_enter Tryz.func24, Tryz.ntmps24
  go_wp2_with (first | (go_at_call 44; (with_reducible refine (HN.out _).mono ?_); rintro e1 w1 ⟨rfl, hw⟩; replace hw := hw.symm; subst hw) | (go_at_call 45; (with_reducible refine (HU.out _).mono ?_); rintro e3 w3 ⟨rfl, hw⟩; replace hw := hw.symm; subst hw) | (go_at_call 45; (with_reducible refine (HD.out _).mono ?_); rintro e4 w4 ⟨rfl, hw⟩; replace hw := hw.symm; subst hw) | (go_at_call 30; (with_reducible refine (HS.out _).mono ?_); rintro e5 w5 ⟨rfl, hw⟩; replace hw := hw.symm; subst hw) | (go_at_call 42; (with_reducible refine (itoa_any t _ HT.out HG.out).mono ?_); rintro e2 w2 ⟨rfl, hb2⟩; have HB2 := Lib.hid hb2; clear hb2))
  go_ret2
  exact ⟨rfl, HB2.out⟩
theorem i64_of_far {t : Int} (h1 : -9007199254740992 ≤ t) (h2 : t ≤ 9007199254740992) : I64 t := by unfold I64; omega
theorem tell {f : Nat} {a : Array Value} {v : Value} {w : World} (h : Calls Tryz.prog f a w (Tells v w)) : Calls Tryz.prog f a w (fun e w' => e = .returned v ∧ Below w.heap.size w w') := by
  refine h.mono ?_
  rintro e w' ⟨rfl, rfl⟩
  exact ⟨rfl, Below.refl _ _⟩
theorem time_rest (b : Nat) (hb : b < 18446744073709551616) (w : World) (hg : Glob w) (h1 : ¬ b % 9223372036854775808 > 9218868437227405312) (h2 : ¬ b = 9218868437227405312) (h3 : ¬ b = 18442240474082181120) (h4 : ¬ b = 9223372036854775808) (HN : Hid (∀ W, Calls Tryz.prog 44 #[f64 b] W (Tells (.bool false) W))) (HU : Hid (∀ W, Calls Tryz.prog 45 #[f64 b, .int .i64 1] W (Tells (.bool false) W))) (HD : Hid (∀ W, Calls Tryz.prog 45 #[f64 b, .int .i64 (-1)] W (Tells (.bool false) W))) (HS : Hid (∀ W, Calls Tryz.prog 30 #[f64 b] W (Tells (.bool (decide (9223372036854775808 ≤ b))) W))) (hz : (FloatKind.f64.format.order b 0 == some .eq) = decide (b % 9223372036854775808 = 0)) : Calls Tryz.prog 24 #[f64 b] w (fun e w' => e = .returned (TimeV (timeL b)) ∧ Below w.heap.size w w') := by
  by_cases h0 : b % 9223372036854775808 = 0
  · rw [decide_eq_true h0] at hz
    rw [decide_eq_false (show ¬ 9223372036854775808 ≤ b by omega)] at HS
    · cases hlo : (FloatKind.f64.format.order b 14069245235905429504 == some .lt) with
      | true =>
        have e : timeL b = none := by unfold timeL far; rw [if_neg h1, if_neg h2, if_neg h3, if_neg h4, hlo]; rfl
        rw [e]; exact tell (time_loz b w HN HU HD HS hz hlo)
      | false =>
        cases hhi : (FloatKind.f64.format.order b 4845873199050653696 == some .gt) with
        | true =>
          have e : timeL b = none := by unfold timeL far; rw [if_neg h1, if_neg h2, if_neg h3, if_neg h4, hlo, hhi]; rfl
          rw [e]; exact tell (time_hiz b w HN HU HD HS hz hlo hhi)
        | false =>
          have hr := in_range b hb (by unfold isN; omega) hlo hhi
          have t1 := trunc_is b hr
          have t2 : (FloatKind.f64.format.order (floatOfInt .f64 (truncV b)) b != some .eq) = wt b := whole_of_trunc b hr hb
          obtain ⟨_, _, r1, r2⟩ := sg_range (ng b) (wq b) (w_bounds b hr).1
          have HT : Hid (I64 (truncV b)) := Lib.hid (i64_of_far r1 r2)
          have cv1 : ∀ w, (convert 29 3 (.float .f64 b)).run Tryz.prog w = .ok (.int .i64 (truncV b)) w := fun w => run_convert_float_int w 29 3 .f64 .i64 _ _ (by kernel_rfl) Tryz.underlying3 t1
          have cv2 : ∀ w, (convert 3 29 (.int .i64 (truncV b))).run Tryz.prog w = .ok (.float .f64 (floatOfInt .f64 (truncV b))) w := fun w => run_convert_int_float w 3 29 .i64 .f64 _ (by kernel_rfl) Tryz.underlying29
          cases hw : wt b with
          | true =>
            have e : timeL b = none := by unfold timeL far; rw [if_neg h1, if_neg h2, if_neg h3, if_neg h4, hlo, hhi, hw]; rfl
            rw [e]; exact tell (time_partz b w HN HU HD HS hz hlo hhi _ cv1 _ cv2 (t2.trans hw))
          | false =>
            have e : timeL b = some (Lib.itoa (truncV b)) := by unfold timeL far; rw [if_neg h1, if_neg h2, if_neg h3, if_neg h4, hlo, hhi, hw]; rfl
            rw [e]; exact time_wholez b w HN HU HD HS hz hlo hhi _ cv1 _ cv2 (t2.trans hw) HT (Lib.hid hg)

  · rw [decide_eq_false h0] at hz
    · cases hlo : (FloatKind.f64.format.order b 14069245235905429504 == some .lt) with
      | true =>
        have e : timeL b = none := by unfold timeL far; rw [if_neg h1, if_neg h2, if_neg h3, if_neg h4, hlo]; rfl
        rw [e]; exact tell (time_lon b w HN HU HD hz hlo)
      | false =>
        cases hhi : (FloatKind.f64.format.order b 4845873199050653696 == some .gt) with
        | true =>
          have e : timeL b = none := by unfold timeL far; rw [if_neg h1, if_neg h2, if_neg h3, if_neg h4, hlo, hhi]; rfl
          rw [e]; exact tell (time_hin b w HN HU HD hz hlo hhi)
        | false =>
          have hr := in_range b hb (by unfold isN; omega) hlo hhi
          have t1 := trunc_is b hr
          have t2 : (FloatKind.f64.format.order (floatOfInt .f64 (truncV b)) b != some .eq) = wt b := whole_of_trunc b hr hb
          obtain ⟨_, _, r1, r2⟩ := sg_range (ng b) (wq b) (w_bounds b hr).1
          have HT : Hid (I64 (truncV b)) := Lib.hid (i64_of_far r1 r2)
          have cv1 : ∀ w, (convert 29 3 (.float .f64 b)).run Tryz.prog w = .ok (.int .i64 (truncV b)) w := fun w => run_convert_float_int w 29 3 .f64 .i64 _ _ (by kernel_rfl) Tryz.underlying3 t1
          have cv2 : ∀ w, (convert 3 29 (.int .i64 (truncV b))).run Tryz.prog w = .ok (.float .f64 (floatOfInt .f64 (truncV b))) w := fun w => run_convert_int_float w 3 29 .i64 .f64 _ (by kernel_rfl) Tryz.underlying29
          cases hw : wt b with
          | true =>
            have e : timeL b = none := by unfold timeL far; rw [if_neg h1, if_neg h2, if_neg h3, if_neg h4, hlo, hhi, hw]; rfl
            rw [e]; exact tell (time_partn b w HN HU HD hz hlo hhi _ cv1 _ cv2 (t2.trans hw))
          | false =>
            have e : timeL b = some (Lib.itoa (truncV b)) := by unfold timeL far; rw [if_neg h1, if_neg h2, if_neg h3, if_neg h4, hlo, hhi, hw]; rfl
            rw [e]; exact time_wholen b w HN HU HD hz hlo hhi _ cv1 _ cv2 (t2.trans hw) HT (Lib.hid hg)

theorem time_any (b : Nat) (hb : b < 18446744073709551616) (w : World) (hg : Glob w) : Calls Tryz.prog 24 #[f64 b] w (fun e w' => e = .returned (TimeV (timeL b)) ∧ Below w.heap.size w w') := by
  have HN := Lib.hid (fun W => isNaN_any b hb W)
  by_cases h1 : b % 9223372036854775808 > 9218868437227405312
  · rw [decide_eq_true h1] at HN
    have e : timeL b = some [110, 111, 110, 101] := by unfold timeL; rw [if_pos h1]
    rw [e]; exact tell (time_nan b w HN)
  · rw [decide_eq_false h1] at HN
    have hn : b % 9223372036854775808 ≤ 9218868437227405312 := by omega
    have HU := Lib.hid (fun W => isInf_up b hb hn W)
    by_cases h2 : b = 9218868437227405312
    · rw [decide_eq_true h2] at HU
      have e : timeL b = some [110, 101, 118, 101, 114] := by unfold timeL; rw [if_neg h1, if_pos h2]
      rw [e]; exact tell (time_up b w HN HU)
    · rw [decide_eq_false h2] at HU
      have HD := Lib.hid (fun W => isInf_down b hb hn W)
      by_cases h3 : b = 18442240474082181120
      · rw [decide_eq_true h3] at HD
        have e : timeL b = some [101, 118, 101, 114] := by unfold timeL; rw [if_neg h1, if_neg h2, if_pos h3]
        rw [e]; exact tell (time_down b w HN HU HD)
      · rw [decide_eq_false h3] at HD
        have HS := Lib.hid (fun W => signbit_any b hb W)
        have hz := eq_zero b hb hn
        by_cases h4 : b = 9223372036854775808
        · rw [decide_eq_true (show 9223372036854775808 ≤ b by omega)] at HS
          rw [decide_eq_true (show b % 9223372036854775808 = 0 by omega)] at hz
          have e : timeL b = some [45, 48] := by unfold timeL; rw [if_neg h1, if_neg h2, if_neg h3, if_pos h4]
          rw [e]; exact tell (time_mz b w HN HU HD HS hz)
        · exact time_rest b hb w hg h1 h2 h3 h4 HN HU HD HS hz
end Go.Proofs.YtmcooenafgihkaaGreatDoor
