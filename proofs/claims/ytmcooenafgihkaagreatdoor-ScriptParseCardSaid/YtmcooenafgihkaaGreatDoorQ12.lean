/- Helper lemmas: the time of a word, by the reference. No condition. -/
import Derived.Test.YtmcooenafgihkaaGreatDoorP11
import Derived.Test.YtmcooenafgihkaaGreatDoorQ4
set_option linter.unusedSimpArgs false
set_option linter.unusedVariables false
namespace Go.Proofs.YtmcooenafgihkaaGreatDoor
open Go.RowKit

/-- The call tells the time of a word, and whether it is one. -/
def RTimeC (R : Option Nat) (w : World) (e : Ending) (w' : World) : Prop := ∃ b : Nat, e = .returned (.tuple #[f64 b, .bool R.isSome]) ∧ (∀ u, R = some u → b = u) ∧ Below w.heap.size w w'
set_option maxHeartbeats 8000000 in
set_option maxRecDepth 100000 in
theorem rtime_none (w : World) : Calls Tryz.prog 63 #[.string ⟨#[110, 111, 110, 101]⟩] w (RTimeC (some 9221120237041090561) w) := by
  go_enter Tryz.func63, Tryz.ntmps63
  go_wp2_with ((go_at_call 81; (with_reducible refine (nan_any _).mono ?_); rintro e1 w1 ⟨rfl, hw⟩; replace hw := hw.symm; subst hw))
  go_ret2
  exact ⟨_, rfl, fun u h => (by injection h), Below.refl _ _⟩
set_option maxHeartbeats 8000000 in
set_option maxRecDepth 100000 in
theorem rtime_never (w : World) : Calls Tryz.prog 63 #[.string ⟨#[110, 101, 118, 101, 114]⟩] w (RTimeC (some 9218868437227405312) w) := by
  go_enter Tryz.func63, Tryz.ntmps63
  go_wp2_with ((go_at_call 82; (with_reducible refine (inf_up _).mono ?_); rintro e1 w1 ⟨rfl, hw⟩; replace hw := hw.symm; subst hw))
  go_ret2
  exact ⟨_, rfl, fun u h => (by injection h), Below.refl _ _⟩
set_option maxHeartbeats 8000000 in
set_option maxRecDepth 100000 in
theorem rtime_ever (w : World) : Calls Tryz.prog 63 #[.string ⟨#[101, 118, 101, 114]⟩] w (RTimeC (some 18442240474082181120) w) := by
  go_enter Tryz.func63, Tryz.ntmps63
  go_wp2_with ((go_at_call 82; (with_reducible refine (inf_down _).mono ?_); rintro e1 w1 ⟨rfl, hw⟩; replace hw := hw.symm; subst hw))
  go_ret2
  exact ⟨_, rfl, fun u h => (by injection h), Below.refl _ _⟩
set_option maxHeartbeats 8000000 in
set_option maxRecDepth 100000 in
theorem rtime_mzero (w : World) : Calls Tryz.prog 63 #[.string ⟨#[45, 48]⟩] w (RTimeC (some 9223372036854775808) w) := by
  go_enter Tryz.func63, Tryz.ntmps63
  go_wp2_with ((go_at_call 83; (with_reducible refine (copysign_mz _).mono ?_); rintro e1 w1 ⟨rfl, hw⟩; replace hw := hw.symm; subst hw))
  go_ret2
  exact ⟨_, rfl, fun u h => (by injection h), Below.refl _ _⟩
set_option maxHeartbeats 8000000 in
set_option maxRecDepth 100000 in
theorem rtime_num (s : ByteArray) (w : World) (n1 : (s.toList == [110, 111, 110, 101]) = false) (n2 : (s.toList == [110, 101, 118, 101, 114]) = false) (n3 : (s.toList == [101, 118, 101, 114]) = false) (n4 : (s.toList == [45, 48]) = false) (N : Option Int) (HNU : Hid (∀ W, Calls Tryz.prog 23 #[.string s] W fun e w' => e = .returned (numV N) ∧ Below W.heap.size W w')) :
    Calls Tryz.prog 63 #[.string s] w (RTimeC (N.bind fun n => if -9007199254740992 ≤ n ∧ n ≤ 9007199254740992 then some (floatOfInt .f64 n) else none) w) := by
  cases N with
  | none =>
    have cv : ∀ W, (convert 3 29 (.int .i64 0)).run Tryz.prog W = .ok (.float .f64 (floatOfInt .f64 0)) W := fun W => run_convert_int_float W 3 29 .i64 .f64 _ (by kernel_rfl) Tryz.underlying29
    have HNS : Hid (∀ W, Calls Tryz.prog 23 #[.string s] W fun e w' => e = .returned (.tuple #[.int .i64 0, .bool false]) ∧ Below W.heap.size W w') := HNU
    generalize floatOfInt .f64 0 = z at *
    go_enter Tryz.func63, Tryz.ntmps63
    go_wp2_with (go_at_call 23; (with_reducible refine (HNS.out _).mono ?_); rintro e1 w1 ⟨rfl, hb1⟩; have HB1 := Lib.hid hb1; clear hb1)
    go_ret2
    exact ⟨_, rfl, fun u h => (by cases h), HB1.out⟩
  | some n =>
    have HNS : Hid (∀ W, Calls Tryz.prog 23 #[.string s] W fun e w' => e = .returned (.tuple #[.int .i64 n, .bool true]) ∧ Below W.heap.size W w') := HNU
    have cv : ∀ W, (convert 3 29 (.int .i64 n)).run Tryz.prog W = .ok (.float .f64 (floatOfInt .f64 n)) W := fun W => run_convert_int_float W 3 29 .i64 .f64 _ (by kernel_rfl) Tryz.underlying29
    by_cases hr : -9007199254740992 ≤ n ∧ n ≤ 9007199254740992
    · have HR := Lib.hid (show ((some n).bind fun n => if -9007199254740992 ≤ n ∧ n ≤ 9007199254740992 then some (floatOfInt .f64 n) else none) = some (floatOfInt .f64 n) by simp only [Option.bind_some]; rw [if_pos hr])
      rw [HR.out]
      have d1 : decide (-9007199254740992 ≤ n) = true := decide_eq_true hr.1
      have d2 : decide (n ≤ 9007199254740992) = true := decide_eq_true hr.2
      generalize floatOfInt .f64 n = z at *
      clear hr HR
      go_enter Tryz.func63, Tryz.ntmps63
      go_wp2_with (go_at_call 23; (with_reducible refine (HNS.out _).mono ?_); rintro e1 w1 ⟨rfl, hb1⟩; have HB1 := Lib.hid hb1; clear hb1)
      go_ret2
      exact ⟨_, rfl, fun u h => (by injection h), HB1.out⟩
    · have HR := Lib.hid (show ((some n).bind fun n => if -9007199254740992 ≤ n ∧ n ≤ 9007199254740992 then some (floatOfInt .f64 n) else none) = none by simp only [Option.bind_some]; rw [if_neg hr])
      rw [HR.out]
      clear HR
      generalize floatOfInt .f64 n = z at *
      by_cases h1 : -9007199254740992 ≤ n
      · have d1 : decide (-9007199254740992 ≤ n) = true := decide_eq_true h1
        have d2 : decide (n ≤ 9007199254740992) = false := decide_eq_false fun h => hr ⟨h1, h⟩
        clear hr h1
        go_enter Tryz.func63, Tryz.ntmps63
        go_wp2_with (go_at_call 23; (with_reducible refine (HNS.out _).mono ?_); rintro e1 w1 ⟨rfl, hb1⟩; have HB1 := Lib.hid hb1; clear hb1)
        go_ret2
        exact ⟨_, rfl, fun u h => (by cases h), HB1.out⟩
      · have d1 : decide (-9007199254740992 ≤ n) = false := decide_eq_false h1
        clear hr h1
        go_enter Tryz.func63, Tryz.ntmps63
        go_wp2_with (go_at_call 23; (with_reducible refine (HNS.out _).mono ?_); rintro e1 w1 ⟨rfl, hb1⟩; have HB1 := Lib.hid hb1; clear hb1)
        go_ret2
        exact ⟨_, rfl, fun u h => (by cases h), HB1.out⟩
theorem rtimew_any (s : ByteArray) (w : World) : Calls Tryz.prog 63 #[.string s] w (RTimeC (timeU s.data.toList) w) := by
  unfold timeU
  by_cases h1 : s.data.toList = [110, 111, 110, 101]
  · rw [if_pos h1]
    obtain rfl := of_bytes h1
    exact rtime_none w
  rw [if_neg h1]
  by_cases h2 : s.data.toList = [110, 101, 118, 101, 114]
  · rw [if_pos h2]
    obtain rfl := of_bytes h2
    exact rtime_never w
  rw [if_neg h2]
  by_cases h3 : s.data.toList = [101, 118, 101, 114]
  · rw [if_pos h3]
    obtain rfl := of_bytes h3
    exact rtime_ever w
  rw [if_neg h3]
  by_cases h4 : s.data.toList = [45, 48]
  · rw [if_pos h4]
    obtain rfl := of_bytes h4
    exact rtime_mzero w
  rw [if_neg h4]
  exact rtime_num s w (ne_bytes h1) (ne_bytes h2) (ne_bytes h3) (ne_bytes h4) _ (Lib.hid fun W => rnumber_any s W)
end Go.Proofs.YtmcooenafgihkaaGreatDoor
