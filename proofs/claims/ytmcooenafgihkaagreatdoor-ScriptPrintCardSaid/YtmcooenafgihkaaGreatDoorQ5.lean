/- Helper lemmas: times as words, by the reference. No condition. -/
import Derived.Test.YtmcooenafgihkaaGreatDoorQ4
import Derived.Test.YtmcooenafgihkaaGreatDoorP6
import Derived.Test.YtmcooenafgihkaaGreatDoorS4
set_option linter.unusedSimpArgs false
set_option linter.unusedVariables false
namespace Go.Proofs.YtmcooenafgihkaaGreatDoor
open Go.RowKit

theorem callFloor (x y : Nat) (hx : Fin64 x) (hy : Ieee.double.write ((Ieee.double.read x).integral .down) = y) (w : World) : (callFunc 68 #[.float .f64 x]).run Tryz.prog w = .ok (.value (.float .f64 y)) w := by
  rw [run_callFunc_extern Tryz.func68 (by kernel_rfl) (by kernel_rfl) (by kernel_rfl) (e := Extern.MathFloor.toIntegral "math.archFloor" .down) (by kernel_rfl)]
  obtain ⟨m, i, e, _⟩ := read_fin x hx
  have e' : FloatKind.f64.decode x = .number (ng x) m i := e
  rw [e] at hy
  have hy' : FloatKind.f64.encode ((Ieee.Datum.number (ng x) m i).integral .down) = y := hy
  have h : Extern.MathFloor.toIntegral "math.archFloor" .down #[.float .f64 x] = pure (.float .f64 y) := by
    conv => lhs; whnf
    rw [e']
    exact congrArg (fun z => pure (Value.float .f64 z)) hy'
  rw [h]
  rfl
set_option maxHeartbeats 2000000 in
set_option maxRecDepth 100000 in
theorem floor_any (x y : Nat) (hx : Fin64 x) (hy : Ieee.double.write ((Ieee.double.read x).integral .down) = y) (w : World) : Calls Tryz.prog 46 #[f64 x] w (Tells (f64 y) w) := by
  have c := fun w => callFloor x y hx hy w
  clear hx hy
  go_enter Tryz.func46, Tryz.ntmps46
  go_wp2
  go_ret
  exact ⟨rfl, rfl⟩
theorem write_down (x : Nat) (h : x % 9223372036854775808 ≤ 4845873199050653696) : Ieee.double.write ((Ieee.double.read x).integral .down) = Ieee.double.nearest (ng x) (wf x) 0 := by
  rw [integral_down x (fin_of x h)]
  rfl
theorem whole_of_floor (x : Nat) (h : x % 9223372036854775808 ≤ 4845873199050653696) (hx : x < 18446744073709551616) : (Ieee.double.order (Ieee.double.nearest (ng x) (wf x) 0) x != some .eq) = wt x := by
  have hq := (w_bounds x h).2
  obtain ⟨v, l⟩ := R_whole (wf x) hq
  obtain ⟨_, k, n, b⟩ := whole_back (ng x) (wf x) hq
  rw [order_key _ x b hx n (by unfold isN; omega), k, key_sg x hx]
  have e := Nat.div_add_mod (V (x % 9223372036854775808)) LU
  have hm := Nat.mod_lt (V (x % 9223372036854775808)) LU_pos
  have hp := LU_pos
  have hwt : wt x = true ↔ ¬ V (x % 9223372036854775808) % LU = 0 := by unfold wt; rw [bne_iff_ne]
  have hvr : V (R (wf x) 0) = LU * wf x := by rw [v, Nat.mul_comm]
  have hlt : R (wf x) 0 < x % 9223372036854775808 ↔ V (R (wf x) 0) < V (x % 9223372036854775808) := V_iff.symm
  have hgt : x % 9223372036854775808 < R (wf x) 0 ↔ V (x % 9223372036854775808) < V (R (wf x) 0) := V_iff.symm
  rw [hvr] at hlt hgt
  have hw : wf x = wq x + (ng x && wt x).toNat := rfl
  have hqd : wq x = V (x % 9223372036854775808) / LU := rfl
  rw [← hqd] at e
  generalize R (wf x) 0 = r at *
  generalize V (x % 9223372036854775808) = vx at *
  generalize x % 9223372036854775808 = u at *
  clear v l k n b hvr
  cases hs : ng x
  · rw [hs] at hw
    have hw2 : wf x = wq x := by rw [hw]; simp
    rw [hw2] at hlt hgt
    show (some (compare (r : Int) (u : Int)) != some .eq) = wt x
    cases ht : wt x
    · have h0 : vx % LU = 0 := by
        rcases Nat.eq_zero_or_pos (vx % LU) with h | h
        · exact h
        · rw [hwt.2 (by omega)] at ht; cases ht
      have : r = u := by
        have a1 : ¬ r < u := fun c => by have := hlt.1 c; omega
        have a2 : ¬ u < r := fun c => by have := hgt.1 c; omega
        omega
      rw [this, c_eq]; rfl
    · have h0 := hwt.1 ht
      have := hlt.2 (by omega)
      rw [c_lt (by omega)]; rfl
  · rw [hs] at hw
    show (some (compare (-(r : Int)) (-(u : Int))) != some .eq) = wt x
    cases ht : wt x
    · have hw2 : wf x = wq x := by rw [hw, ht]; simp
      rw [hw2] at hlt hgt
      have h0 : vx % LU = 0 := by
        rcases Nat.eq_zero_or_pos (vx % LU) with h | h
        · exact h
        · rw [hwt.2 (by omega)] at ht; cases ht
      have : r = u := by
        have a1 : ¬ r < u := fun c => by have := hlt.1 c; omega
        have a2 : ¬ u < r := fun c => by have := hgt.1 c; omega
        omega
      rw [this, c_eq]; rfl
    · have hw2 : wf x = wq x + 1 := by rw [hw, ht]; rfl
      rw [hw2] at hgt
      have : u < r := hgt.2 (by rw [Nat.mul_add]; omega)
      rw [c_lt (by omega)]; rfl
set_option maxHeartbeats 8000000 in
set_option maxRecDepth 100000 in
theorem rtime_nan (b : Nat) (w : World) (hn : (FloatKind.f64.format.order b b != some .eq) = true) : Calls Tryz.prog 25 #[f64 b] w (fun e w' => e = .returned (TimeV (some [110, 111, 110, 101])) ∧ Below w.heap.size w w') := by
  go_enter Tryz.func25, Tryz.ntmps25
  go_wp2
  go_ret2
  exact ⟨rfl, Below.refl _ _⟩
set_option maxHeartbeats 8000000 in
set_option maxRecDepth 100000 in
theorem rtime_up (b : Nat) (w : World) (hn : (FloatKind.f64.format.order b b != some .eq) = false) (hg : (FloatKind.f64.format.order b 9218868437227405311 == some .gt) = true) : Calls Tryz.prog 25 #[f64 b] w (fun e w' => e = .returned (TimeV (some [110, 101, 118, 101, 114])) ∧ Below w.heap.size w w') := by
  go_enter Tryz.func25, Tryz.ntmps25
  go_wp2
  go_ret2
  exact ⟨rfl, Below.refl _ _⟩
set_option maxHeartbeats 8000000 in
set_option maxRecDepth 100000 in
theorem rtime_down (b : Nat) (w : World) (hn : (FloatKind.f64.format.order b b != some .eq) = false) (hg : (FloatKind.f64.format.order b 9218868437227405311 == some .gt) = false) (hl : (FloatKind.f64.format.order b 18442240474082181119 == some .lt) = true) : Calls Tryz.prog 25 #[f64 b] w (fun e w' => e = .returned (TimeV (some [101, 118, 101, 114])) ∧ Below w.heap.size w w') := by
  go_enter Tryz.func25, Tryz.ntmps25
  go_wp2
  go_ret2
  exact ⟨rfl, Below.refl _ _⟩
set_option maxHeartbeats 8000000 in
set_option maxRecDepth 100000 in
theorem rtime_mz (b : Nat) (w : World) (hn : (FloatKind.f64.format.order b b != some .eq) = false) (hg : (FloatKind.f64.format.order b 9218868437227405311 == some .gt) = false) (hl : (FloatKind.f64.format.order b 18442240474082181119 == some .lt) = false) (hz : (FloatKind.f64.format.order b 0 == some .eq) = true) (HS : Hid (∀ W, Calls Tryz.prog 30 #[f64 b] W (Tells (.bool true) W))) : Calls Tryz.prog 25 #[f64 b] w (fun e w' => e = .returned (TimeV (some [45, 48])) ∧ Below w.heap.size w w') := by
  go_enter Tryz.func25, Tryz.ntmps25
  go_wp2_with (go_at_call 30; (with_reducible refine (HS.out _).mono ?_); rintro e5 w5 ⟨rfl, hw⟩; replace hw := hw.symm; subst hw)
  go_ret2
  exact ⟨rfl, Below.refl _ _⟩
set_option maxHeartbeats 8000000 in
set_option maxRecDepth 100000 in
theorem rtime_lon (b : Nat) (w : World) (hn : (FloatKind.f64.format.order b b != some .eq) = false) (hg : (FloatKind.f64.format.order b 9218868437227405311 == some .gt) = false) (hl : (FloatKind.f64.format.order b 18442240474082181119 == some .lt) = false) (hz : (FloatKind.f64.format.order b 0 == some .eq) = false) (hlo : (FloatKind.f64.format.order b 14069245235905429504 == some .lt) = true) : Calls Tryz.prog 25 #[f64 b] w (fun e w' => e = .returned (TimeV none) ∧ Below w.heap.size w w') := by
  go_enter Tryz.func25, Tryz.ntmps25
  go_wp2
  go_ret2
  exact ⟨rfl, Below.refl _ _⟩
set_option maxHeartbeats 8000000 in
set_option maxRecDepth 100000 in
theorem rtime_hin (b : Nat) (w : World) (hn : (FloatKind.f64.format.order b b != some .eq) = false) (hg : (FloatKind.f64.format.order b 9218868437227405311 == some .gt) = false) (hl : (FloatKind.f64.format.order b 18442240474082181119 == some .lt) = false) (hz : (FloatKind.f64.format.order b 0 == some .eq) = false) (hlo : (FloatKind.f64.format.order b 14069245235905429504 == some .lt) = false) (hhi : (FloatKind.f64.format.order b 4845873199050653696 == some .gt) = true) : Calls Tryz.prog 25 #[f64 b] w (fun e w' => e = .returned (TimeV none) ∧ Below w.heap.size w w') := by
  go_enter Tryz.func25, Tryz.ntmps25
  go_wp2
  go_ret2
  exact ⟨rfl, Below.refl _ _⟩
set_option maxHeartbeats 8000000 in
set_option maxRecDepth 100000 in
theorem rtime_partn (b : Nat) (w : World) (hn : (FloatKind.f64.format.order b b != some .eq) = false) (hg : (FloatKind.f64.format.order b 9218868437227405311 == some .gt) = false) (hl : (FloatKind.f64.format.order b 18442240474082181119 == some .lt) = false) (hz : (FloatKind.f64.format.order b 0 == some .eq) = false) (hlo : (FloatKind.f64.format.order b 14069245235905429504 == some .lt) = false) (hhi : (FloatKind.f64.format.order b 4845873199050653696 == some .gt) = false) (f : Nat) (HF : Hid (∀ W, Calls Tryz.prog 46 #[f64 b] W (Tells (f64 f) W))) (hf : (FloatKind.f64.format.order f b != some .eq) = true) : Calls Tryz.prog 25 #[f64 b] w (fun e w' => e = .returned (TimeV none) ∧ Below w.heap.size w w') := by
  go_enter Tryz.func25, Tryz.ntmps25
  go_wp2_with (go_at_call 46; (with_reducible refine (HF.out _).mono ?_); rintro e6 w6 ⟨rfl, hw⟩; replace hw := hw.symm; subst hw)
  go_ret2
  exact ⟨rfl, Below.refl _ _⟩
set_option maxHeartbeats 8000000 in
set_option maxRecDepth 100000 in
theorem rtime_wholen (b : Nat) (w : World) (hn : (FloatKind.f64.format.order b b != some .eq) = false) (hg : (FloatKind.f64.format.order b 9218868437227405311 == some .gt) = false) (hl : (FloatKind.f64.format.order b 18442240474082181119 == some .lt) = false) (hz : (FloatKind.f64.format.order b 0 == some .eq) = false) (hlo : (FloatKind.f64.format.order b 14069245235905429504 == some .lt) = false) (hhi : (FloatKind.f64.format.order b 4845873199050653696 == some .gt) = false) (f : Nat) (HF : Hid (∀ W, Calls Tryz.prog 46 #[f64 b] W (Tells (f64 f) W))) (hf : (FloatKind.f64.format.order f b != some .eq) = false) (t : Int) (cv1 : ∀ W, (convert 29 3 (.float .f64 b)).run Tryz.prog W = .ok (.int .i64 t) W) (HT : Hid (I64 t)) : Calls Tryz.prog 25 #[f64 b] w (fun e w' => e = .returned (TimeV (some (Lib.itoa t))) ∧ Below w.heap.size w w') := by
  go_enter Tryz.func25, Tryz.ntmps25
  go_wp2_with (first | (go_at_call 46; (with_reducible refine (HF.out _).mono ?_); rintro e6 w6 ⟨rfl, hw⟩; replace hw := hw.symm; subst hw) | (go_at_call 43; (with_reducible refine (digits_any t HT.out _).mono ?_); rintro e7 w7 ⟨rfl, hb7⟩; have HB7 := Lib.hid hb7; clear hb7))
  go_ret2
  exact ⟨rfl, HB7.out⟩
set_option maxHeartbeats 8000000 in
set_option maxRecDepth 100000 in
theorem rtime_loz (b : Nat) (w : World) (hn : (FloatKind.f64.format.order b b != some .eq) = false) (hg : (FloatKind.f64.format.order b 9218868437227405311 == some .gt) = false) (hl : (FloatKind.f64.format.order b 18442240474082181119 == some .lt) = false) (hz : (FloatKind.f64.format.order b 0 == some .eq) = true) (HS : Hid (∀ W, Calls Tryz.prog 30 #[f64 b] W (Tells (.bool false) W))) (hlo : (FloatKind.f64.format.order b 14069245235905429504 == some .lt) = true) : Calls Tryz.prog 25 #[f64 b] w (fun e w' => e = .returned (TimeV none) ∧ Below w.heap.size w w') := by
  go_enter Tryz.func25, Tryz.ntmps25
  go_wp2_with (go_at_call 30; (with_reducible refine (HS.out _).mono ?_); rintro e5 w5 ⟨rfl, hw⟩; replace hw := hw.symm; subst hw)
  go_ret2
  exact ⟨rfl, Below.refl _ _⟩
set_option maxHeartbeats 8000000 in
set_option maxRecDepth 100000 in
theorem rtime_hiz (b : Nat) (w : World) (hn : (FloatKind.f64.format.order b b != some .eq) = false) (hg : (FloatKind.f64.format.order b 9218868437227405311 == some .gt) = false) (hl : (FloatKind.f64.format.order b 18442240474082181119 == some .lt) = false) (hz : (FloatKind.f64.format.order b 0 == some .eq) = true) (HS : Hid (∀ W, Calls Tryz.prog 30 #[f64 b] W (Tells (.bool false) W))) (hlo : (FloatKind.f64.format.order b 14069245235905429504 == some .lt) = false) (hhi : (FloatKind.f64.format.order b 4845873199050653696 == some .gt) = true) : Calls Tryz.prog 25 #[f64 b] w (fun e w' => e = .returned (TimeV none) ∧ Below w.heap.size w w') := by
  go_enter Tryz.func25, Tryz.ntmps25
  go_wp2_with (go_at_call 30; (with_reducible refine (HS.out _).mono ?_); rintro e5 w5 ⟨rfl, hw⟩; replace hw := hw.symm; subst hw)
  go_ret2
  exact ⟨rfl, Below.refl _ _⟩
set_option maxHeartbeats 8000000 in
set_option maxRecDepth 100000 in
theorem rtime_partz (b : Nat) (w : World) (hn : (FloatKind.f64.format.order b b != some .eq) = false) (hg : (FloatKind.f64.format.order b 9218868437227405311 == some .gt) = false) (hl : (FloatKind.f64.format.order b 18442240474082181119 == some .lt) = false) (hz : (FloatKind.f64.format.order b 0 == some .eq) = true) (HS : Hid (∀ W, Calls Tryz.prog 30 #[f64 b] W (Tells (.bool false) W))) (hlo : (FloatKind.f64.format.order b 14069245235905429504 == some .lt) = false) (hhi : (FloatKind.f64.format.order b 4845873199050653696 == some .gt) = false) (f : Nat) (HF : Hid (∀ W, Calls Tryz.prog 46 #[f64 b] W (Tells (f64 f) W))) (hf : (FloatKind.f64.format.order f b != some .eq) = true) : Calls Tryz.prog 25 #[f64 b] w (fun e w' => e = .returned (TimeV none) ∧ Below w.heap.size w w') := by
  go_enter Tryz.func25, Tryz.ntmps25
  go_wp2_with (first | (go_at_call 30; (with_reducible refine (HS.out _).mono ?_); rintro e5 w5 ⟨rfl, hw⟩; replace hw := hw.symm; subst hw) | (go_at_call 46; (with_reducible refine (HF.out _).mono ?_); rintro e6 w6 ⟨rfl, hw⟩; replace hw := hw.symm; subst hw))
  go_ret2
  exact ⟨rfl, Below.refl _ _⟩
set_option maxHeartbeats 8000000 in
set_option maxRecDepth 100000 in
theorem rtime_wholez (b : Nat) (w : World) (hn : (FloatKind.f64.format.order b b != some .eq) = false) (hg : (FloatKind.f64.format.order b 9218868437227405311 == some .gt) = false) (hl : (FloatKind.f64.format.order b 18442240474082181119 == some .lt) = false) (hz : (FloatKind.f64.format.order b 0 == some .eq) = true) (HS : Hid (∀ W, Calls Tryz.prog 30 #[f64 b] W (Tells (.bool false) W))) (hlo : (FloatKind.f64.format.order b 14069245235905429504 == some .lt) = false) (hhi : (FloatKind.f64.format.order b 4845873199050653696 == some .gt) = false) (f : Nat) (HF : Hid (∀ W, Calls Tryz.prog 46 #[f64 b] W (Tells (f64 f) W))) (hf : (FloatKind.f64.format.order f b != some .eq) = false) (t : Int) (cv1 : ∀ W, (convert 29 3 (.float .f64 b)).run Tryz.prog W = .ok (.int .i64 t) W) (HT : Hid (I64 t)) : Calls Tryz.prog 25 #[f64 b] w (fun e w' => e = .returned (TimeV (some (Lib.itoa t))) ∧ Below w.heap.size w w') := by
  go_enter Tryz.func25, Tryz.ntmps25
  go_wp2_with (first | (go_at_call 30; (with_reducible refine (HS.out _).mono ?_); rintro e5 w5 ⟨rfl, hw⟩; replace hw := hw.symm; subst hw) | (go_at_call 46; (with_reducible refine (HF.out _).mono ?_); rintro e6 w6 ⟨rfl, hw⟩; replace hw := hw.symm; subst hw) | (go_at_call 43; (with_reducible refine (digits_any t HT.out _).mono ?_); rintro e7 w7 ⟨rfl, hb7⟩; have HB7 := Lib.hid hb7; clear hb7))
  go_ret2
  exact ⟨rfl, HB7.out⟩
theorem rtime_any (b : Nat) (hb : b < 18446744073709551616) (w : World) : Calls Tryz.prog 25 #[f64 b] w (fun e w' => e = .returned (TimeV (timeL b)) ∧ Below w.heap.size w w') := by
  have hn := nan_fact b hb
  by_cases h1 : b % 9223372036854775808 > 9218868437227405312
  · rw [decide_eq_true h1] at hn
    have e : timeL b = some [110, 111, 110, 101] := by unfold timeL; rw [if_pos h1]
    rw [e]; exact rtime_nan b w hn
  · rw [decide_eq_false h1] at hn
    have hnn : b % 9223372036854775808 ≤ 9218868437227405312 := by omega
    have hg := gt_max b hb hnn
    by_cases h2 : b = 9218868437227405312
    · rw [decide_eq_true h2] at hg
      have e : timeL b = some [110, 101, 118, 101, 114] := by unfold timeL; rw [if_neg h1, if_pos h2]
      rw [e]; exact rtime_up b w hn hg
    · rw [decide_eq_false h2] at hg
      have hl := lt_min b hb hnn
      by_cases h3 : b = 18442240474082181120
      · rw [decide_eq_true h3] at hl
        have e : timeL b = some [101, 118, 101, 114] := by unfold timeL; rw [if_neg h1, if_neg h2, if_pos h3]
        rw [e]; exact rtime_down b w hn hg hl
      · rw [decide_eq_false h3] at hl
        have HS := Lib.hid (fun W => signbit_any b hb W)
        have hz := eq_zero b hb hnn
        by_cases h4 : b = 9223372036854775808
        · rw [decide_eq_true (show 9223372036854775808 ≤ b by omega)] at HS
          rw [decide_eq_true (show b % 9223372036854775808 = 0 by omega)] at hz
          have e : timeL b = some [45, 48] := by unfold timeL; rw [if_neg h1, if_neg h2, if_neg h3, if_pos h4]
          rw [e]; exact rtime_mz b w hn hg hl hz HS
        · by_cases h0 : b % 9223372036854775808 = 0
          · rw [decide_eq_true h0] at hz
            rw [decide_eq_false (show ¬ 9223372036854775808 ≤ b by omega)] at HS
            cases hlo : (FloatKind.f64.format.order b 14069245235905429504 == some .lt) with
            | true =>
              have e : timeL b = none := by unfold timeL far; rw [if_neg h1, if_neg h2, if_neg h3, if_neg h4, hlo]; rfl
              rw [e]; exact rtime_loz b w hn hg hl hz HS hlo
            | false =>
              cases hhi : (FloatKind.f64.format.order b 4845873199050653696 == some .gt) with
              | true =>
                have e : timeL b = none := by unfold timeL far; rw [if_neg h1, if_neg h2, if_neg h3, if_neg h4, hlo, hhi]; rfl
                rw [e]; exact rtime_hiz b w hn hg hl hz HS hlo hhi
              | false =>
                have hr := in_range b hb (by unfold isN; omega) hlo hhi
                have t1 := trunc_is b hr
                have hf := whole_of_floor b hr hb
                have HF := Lib.hid (fun W => floor_any b _ (fin_of b hr) (write_down b hr) W)
                obtain ⟨_, _, r1, r2⟩ := sg_range (ng b) (wq b) (w_bounds b hr).1
                have HT : Hid (I64 (truncV b)) := Lib.hid (i64_of_far r1 r2)
                have cv1 : ∀ w, (convert 29 3 (.float .f64 b)).run Tryz.prog w = .ok (.int .i64 (truncV b)) w := fun w => run_convert_float_int w 29 3 .f64 .i64 _ _ (by kernel_rfl) Tryz.underlying3 t1
                cases hw : wt b with
                | true =>
                  have e : timeL b = none := by unfold timeL far; rw [if_neg h1, if_neg h2, if_neg h3, if_neg h4, hlo, hhi, hw]; rfl
                  rw [e]; exact rtime_partz b w hn hg hl hz HS hlo hhi _ HF (hf.trans hw)
                | false =>
                  have e : timeL b = some (Lib.itoa (truncV b)) := by unfold timeL far; rw [if_neg h1, if_neg h2, if_neg h3, if_neg h4, hlo, hhi, hw]; rfl
                  rw [e]; exact rtime_wholez b w hn hg hl hz HS hlo hhi _ HF (hf.trans hw) _ cv1 HT
          · rw [decide_eq_false h0] at hz
            cases hlo : (FloatKind.f64.format.order b 14069245235905429504 == some .lt) with
            | true =>
              have e : timeL b = none := by unfold timeL far; rw [if_neg h1, if_neg h2, if_neg h3, if_neg h4, hlo]; rfl
              rw [e]; exact rtime_lon b w hn hg hl hz hlo
            | false =>
              cases hhi : (FloatKind.f64.format.order b 4845873199050653696 == some .gt) with
              | true =>
                have e : timeL b = none := by unfold timeL far; rw [if_neg h1, if_neg h2, if_neg h3, if_neg h4, hlo, hhi]; rfl
                rw [e]; exact rtime_hin b w hn hg hl hz hlo hhi
              | false =>
                have hr := in_range b hb (by unfold isN; omega) hlo hhi
                have t1 := trunc_is b hr
                have hf := whole_of_floor b hr hb
                have HF := Lib.hid (fun W => floor_any b _ (fin_of b hr) (write_down b hr) W)
                obtain ⟨_, _, r1, r2⟩ := sg_range (ng b) (wq b) (w_bounds b hr).1
                have HT : Hid (I64 (truncV b)) := Lib.hid (i64_of_far r1 r2)
                have cv1 : ∀ w, (convert 29 3 (.float .f64 b)).run Tryz.prog w = .ok (.int .i64 (truncV b)) w := fun w => run_convert_float_int w 29 3 .f64 .i64 _ _ (by kernel_rfl) Tryz.underlying3 t1
                cases hw : wt b with
                | true =>
                  have e : timeL b = none := by unfold timeL far; rw [if_neg h1, if_neg h2, if_neg h3, if_neg h4, hlo, hhi, hw]; rfl
                  rw [e]; exact rtime_partn b w hn hg hl hz hlo hhi _ HF (hf.trans hw)
                | false =>
                  have e : timeL b = some (Lib.itoa (truncV b)) := by unfold timeL far; rw [if_neg h1, if_neg h2, if_neg h3, if_neg h4, hlo, hhi, hw]; rfl
                  rw [e]; exact rtime_wholen b w hn hg hl hz hlo hhi _ HF (hf.trans hw) _ cv1 HT
end Go.Proofs.YtmcooenafgihkaaGreatDoor
