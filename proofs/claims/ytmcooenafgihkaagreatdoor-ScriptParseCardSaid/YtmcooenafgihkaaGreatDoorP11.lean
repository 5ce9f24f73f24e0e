/- Helper lemmas: the time of a word, by the program. No condition. -/
import Derived.Test.YtmcooenafgihkaaGreatDoorP7
import Derived.Test.YtmcooenafgihkaaGreatDoorS3
set_option linter.unusedSimpArgs false
set_option linter.unusedVariables false
namespace Go.Proofs.YtmcooenafgihkaaGreatDoor
open Go.RowKit

set_option maxHeartbeats 2000000 in
set_option maxRecDepth 100000 in
theorem nan_any (w : World) : Calls Tryz.prog 81 #[] w (Tells (f64 9221120237041090561) w) := by
  have hf : ∀ w, (callFunc 90 #[.int .u64 9221120237041090561]).run Tryz.prog w = .ok (.value (.float .f64 9221120237041090561)) w := callFrom 9221120237041090561
  go_enter Tryz.func81, Tryz.ntmps81
  go_wp2
  go_ret
  exact ⟨rfl, rfl⟩
set_option maxHeartbeats 2000000 in
set_option maxRecDepth 100000 in
theorem inf_up (w : World) : Calls Tryz.prog 82 #[.int .i64 1] w (Tells (f64 9218868437227405312) w) := by
  have hf : ∀ w, (callFunc 90 #[.int .u64 9218868437227405312]).run Tryz.prog w = .ok (.value (.float .f64 9218868437227405312)) w := callFrom 9218868437227405312
  go_enter Tryz.func82, Tryz.ntmps82
  go_wp2
  go_ret
  exact ⟨rfl, rfl⟩
set_option maxHeartbeats 2000000 in
set_option maxRecDepth 100000 in
theorem inf_down (w : World) : Calls Tryz.prog 82 #[.int .i64 (-1)] w (Tells (f64 18442240474082181120) w) := by
  have hf : ∀ w, (callFunc 90 #[.int .u64 18442240474082181120]).run Tryz.prog w = .ok (.value (.float .f64 18442240474082181120)) w := callFrom 18442240474082181120
  go_enter Tryz.func82, Tryz.ntmps82
  go_wp2
  go_ret
  exact ⟨rfl, rfl⟩
set_option maxHeartbeats 2000000 in
set_option maxRecDepth 100000 in
theorem copysign_mz (w : World) : Calls Tryz.prog 83 #[f64 0, f64 13830554455654793216] w (Tells (f64 9223372036854775808) w) := by
  have hf : ∀ w, (callFunc 90 #[.int .u64 9223372036854775808]).run Tryz.prog w = .ok (.value (.float .f64 9223372036854775808)) w := callFrom 9223372036854775808
  have hb1 : ∀ w, (callFunc 53 #[.float .f64 0]).run Tryz.prog w = .ok (.value (.int .u64 0)) w := callBits 0
  have hb2 : ∀ w, (callFunc 53 #[.float .f64 13830554455654793216]).run Tryz.prog w = .ok (.value (.int .u64 13830554455654793216)) w := callBits 13830554455654793216
  have a1 : Go.bits .andNot .u64 0 9223372036854775808 = 0 := by decide +kernel
  have a2 : Go.bits .and .u64 13830554455654793216 9223372036854775808 = 9223372036854775808 := by decide +kernel
  have a3 : Go.bits .or .u64 0 9223372036854775808 = 9223372036854775808 := by decide +kernel
  go_enter Tryz.func83, Tryz.ntmps83
  go_wp2
  go_ret
  exact ⟨rfl, rfl⟩
/-- The call tells a time, or throws. -/
def TimeC (R : Option Nat) (w : World) (e : Ending) (w' : World) : Prop := (∃ b, R = some b ∧ e = .returned (f64 b) ∧ Below w.heap.size w w') ∨ (R = none ∧ e = .panicked [refusal] ∧ Below w.heap.size w w')
set_option maxHeartbeats 8000000 in
set_option maxRecDepth 100000 in
theorem time_none (w : World) : Calls Tryz.prog 79 #[.string ⟨#[110, 111, 110, 101]⟩] w (TimeC (some 9221120237041090561) w) := by
  go_enter Tryz.func79, Tryz.ntmps79
  go_wp2_with ((go_at_call 81; (with_reducible refine (nan_any _).mono ?_); rintro e1 w1 ⟨rfl, hw⟩; replace hw := hw.symm; subst hw))
  go_ret
  exact Or.inl ⟨_, rfl, rfl, Below.refl _ _⟩
set_option maxHeartbeats 8000000 in
set_option maxRecDepth 100000 in
theorem time_never (w : World) : Calls Tryz.prog 79 #[.string ⟨#[110, 101, 118, 101, 114]⟩] w (TimeC (some 9218868437227405312) w) := by
  go_enter Tryz.func79, Tryz.ntmps79
  go_wp2_with ((go_at_call 82; (with_reducible refine (inf_up _).mono ?_); rintro e1 w1 ⟨rfl, hw⟩; replace hw := hw.symm; subst hw))
  go_ret
  exact Or.inl ⟨_, rfl, rfl, Below.refl _ _⟩
set_option maxHeartbeats 8000000 in
set_option maxRecDepth 100000 in
theorem time_ever (w : World) : Calls Tryz.prog 79 #[.string ⟨#[101, 118, 101, 114]⟩] w (TimeC (some 18442240474082181120) w) := by
  go_enter Tryz.func79, Tryz.ntmps79
  go_wp2_with ((go_at_call 82; (with_reducible refine (inf_down _).mono ?_); rintro e1 w1 ⟨rfl, hw⟩; replace hw := hw.symm; subst hw))
  go_ret
  exact Or.inl ⟨_, rfl, rfl, Below.refl _ _⟩
set_option maxHeartbeats 8000000 in
set_option maxRecDepth 100000 in
theorem time_mzero (w : World) : Calls Tryz.prog 79 #[.string ⟨#[45, 48]⟩] w (TimeC (some 9223372036854775808) w) := by
  go_enter Tryz.func79, Tryz.ntmps79
  go_wp2_with ((go_at_call 83; (with_reducible refine (copysign_mz _).mono ?_); rintro e1 w1 ⟨rfl, hw⟩; replace hw := hw.symm; subst hw))
  go_ret
  exact Or.inl ⟨_, rfl, rfl, Below.refl _ _⟩
set_option maxHeartbeats 8000000 in
set_option maxRecDepth 100000 in
theorem time_num (s : ByteArray) (w : World) (n1 : (s.toList == [110, 111, 110, 101]) = false) (n2 : (s.toList == [110, 101, 118, 101, 114]) = false) (n3 : (s.toList == [101, 118, 101, 114]) = false) (n4 : (s.toList == [45, 48]) = false) (N : Option Int) (HNU : Hid (∀ W, Glob W → Calls Tryz.prog 58 #[.string s] W (IntC N W))) (HG : Hid (Glob w)) :
    Calls Tryz.prog 79 #[.string s] w (TimeC (N.bind fun n => if -9007199254740992 ≤ n ∧ n ≤ 9007199254740992 then some (floatOfInt .f64 n) else none) w) := by
  cases N with
  | none =>
    have HNS : Hid (∀ W, Glob W → Calls Tryz.prog 58 #[.string s] W fun e w' => e = .panicked [refusal] ∧ Below W.heap.size W w') := Lib.hid fun W h => (HNU.out W h).mono (by
      rintro e w' (⟨m, h1, h2, h3⟩ | ⟨_, h2, h3⟩)
      · cases h1
      · exact ⟨h2, h3⟩)
    go_enter Tryz.func79, Tryz.ntmps79
    go_wp2_with (go_at_call 58; (with_reducible refine (HNS.out _ HG.out).mono ?_); rintro e1 w1 ⟨rfl, hb1⟩; have HB1 := Lib.hid hb1; clear hb1)
    exact ⟨rfl, Or.inr ⟨rfl, rfl, HB1.out⟩⟩
  | some n =>
    have HNS : Hid (∀ W, Glob W → Calls Tryz.prog 58 #[.string s] W fun e w' => e = .returned (.int .i64 n) ∧ Below W.heap.size W w') := Lib.hid fun W h => (HNU.out W h).mono (by
      rintro e w' (⟨m, h1, h2, h3⟩ | ⟨h1, _⟩)
      · injection h1 with h1
        subst h1; exact ⟨h2, h3⟩
      · cases h1)
    have cv : ∀ W, (convert 3 29 (.int .i64 n)).run Tryz.prog W = .ok (.float .f64 (floatOfInt .f64 n)) W := fun W => run_convert_int_float W 3 29 .i64 .f64 _ (by kernel_rfl) Tryz.underlying29
    by_cases hr : -9007199254740992 ≤ n ∧ n ≤ 9007199254740992
    · have HR := Lib.hid (show ((some n).bind fun n => if -9007199254740992 ≤ n ∧ n ≤ 9007199254740992 then some (floatOfInt .f64 n) else none) = some (floatOfInt .f64 n) by simp only [Option.bind_some]; rw [if_pos hr])
      rw [HR.out]
      have d1 : decide (-9007199254740992 ≤ n) = true := decide_eq_true hr.1
      have d2 : decide (n ≤ 9007199254740992) = true := decide_eq_true hr.2
      generalize floatOfInt .f64 n = z at *
      clear hr HR
      go_enter Tryz.func79, Tryz.ntmps79
      go_wp2_with (first | (go_at_call 58; (with_reducible refine (HNS.out _ HG.out).mono ?_); rintro e1 w1 ⟨rfl, hb1⟩; have HB1 := Lib.hid hb1; clear hb1) | (go_at_call 61; (with_reducible refine (need_yes _).mono ?_); rintro e2 w2 ⟨rfl, hw⟩; replace hw := hw.symm; subst hw))
      go_ret
      exact Or.inl ⟨z, rfl, rfl, HB1.out⟩
    · have HR := Lib.hid (show ((some n).bind fun n => if -9007199254740992 ≤ n ∧ n ≤ 9007199254740992 then some (floatOfInt .f64 n) else none) = none by simp only [Option.bind_some]; rw [if_neg hr])
      rw [HR.out]
      clear cv HR
      by_cases h1 : -9007199254740992 ≤ n
      · have d1 : decide (-9007199254740992 ≤ n) = true := decide_eq_true h1
        have d2 : decide (n ≤ 9007199254740992) = false := decide_eq_false fun h => hr ⟨h1, h⟩
        clear hr h1
        go_enter Tryz.func79, Tryz.ntmps79
        go_wp2_with (first | (go_at_call 58; (with_reducible refine (HNS.out _ HG.out).mono ?_); rintro e1 w1 ⟨rfl, hb1⟩; have HB1 := Lib.hid hb1; clear hb1) | (go_at_call 61; (with_reducible refine (need_no _).mono ?_); rintro e2 w2 ⟨rfl, j9, hw9⟩; have HB9 := Lib.hid (show Below _ _ w2 by rw [hw9]; exact w_ext_below _ _); clear hw9))
        exact ⟨rfl, Or.inr ⟨rfl, rfl, below_tr HB1.out HB9.out⟩⟩
      · have d1 : decide (-9007199254740992 ≤ n) = false := decide_eq_false h1
        clear hr h1
        go_enter Tryz.func79, Tryz.ntmps79
        go_wp2_with (first | (go_at_call 58; (with_reducible refine (HNS.out _ HG.out).mono ?_); rintro e1 w1 ⟨rfl, hb1⟩; have HB1 := Lib.hid hb1; clear hb1) | (go_at_call 61; (with_reducible refine (need_no _).mono ?_); rintro e2 w2 ⟨rfl, j9, hw9⟩; have HB9 := Lib.hid (show Below _ _ w2 by rw [hw9]; exact w_ext_below _ _); clear hw9))
        exact ⟨rfl, Or.inr ⟨rfl, rfl, below_tr HB1.out HB9.out⟩⟩
theorem ne_bytes {s : ByteArray} {l : List UInt8} (h : ¬ s.data.toList = l) : (s.toList == l) = false := beq_eq_false_iff_ne.2 fun e => h (by rw [← ByteArray.toList_eq]; exact e)
theorem of_bytes {s : ByteArray} {l : List UInt8} (h : s.data.toList = l) : s = ⟨l.toArray⟩ := by
  apply ByteArray.ext
  apply Array.toList_inj.1
  rw [h]
theorem timeu_any (s : ByteArray) (w : World) (hs : s.size ≤ 30000000) (hg : Glob w) : Calls Tryz.prog 79 #[.string s] w (TimeC (timeU s.data.toList) w) := by
  unfold timeU
  by_cases h1 : s.data.toList = [110, 111, 110, 101]
  · rw [if_pos h1]
    obtain rfl := of_bytes h1
    exact time_none w
  rw [if_neg h1]
  by_cases h2 : s.data.toList = [110, 101, 118, 101, 114]
  · rw [if_pos h2]
    obtain rfl := of_bytes h2
    exact time_never w
  rw [if_neg h2]
  by_cases h3 : s.data.toList = [101, 118, 101, 114]
  · rw [if_pos h3]
    obtain rfl := of_bytes h3
    exact time_ever w
  rw [if_neg h3]
  by_cases h4 : s.data.toList = [45, 48]
  · rw [if_pos h4]
    obtain rfl := of_bytes h4
    exact time_mzero w
  rw [if_neg h4]
  exact time_num s w (ne_bytes h1) (ne_bytes h2) (ne_bytes h3) (ne_bytes h4) _ (Lib.hid fun W h => number_any s W hs h) (Lib.hid hg)
end Go.Proofs.YtmcooenafgihkaaGreatDoor
