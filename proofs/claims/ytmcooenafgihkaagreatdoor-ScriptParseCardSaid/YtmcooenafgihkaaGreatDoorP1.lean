/- Helper lemmas: which bytes stand for themselves; what is thrown where a line can't be; a text as a word. No condition. -/
import Derived.Test.YtmcooenafgihkaaGreatDoorB1
import Derived.Test.YtmcooenafgihkaaGreatDoorS0
set_option linter.unusedSimpArgs false
set_option linter.unusedVariables false
namespace Go.Proofs.YtmcooenafgihkaaGreatDoor
open Go.RowKit

/-- Where a byte stands among the others that stand for themselves. -/
theorem more_index (c : UInt8) : decide (0 ≤ Lib.indexByte (ByteArray.data ⟨#[47, 46, 95, 45, 42, 63, 43, 58, 44]⟩).toList c) = moreL.contains c := by
  have h : ∀ n : Fin 256, decide (0 ≤ Lib.indexByte (ByteArray.data ⟨#[47, 46, 95, 45, 42, 63, 43, 58, 44]⟩).toList (UInt8.ofNat n.val)) = moreL.contains (UInt8.ofNat n.val) := by decide +kernel
  have h2 := h ⟨c.toNat, c.toNat_lt⟩
  simpa using h2
theorem plainB_eq (c : UInt8) (x : Int) (hx : (c.toNat : Int) = x) : plainB c = ((decide (97 ≤ x) && decide (x ≤ 122)) || (decide (65 ≤ x) && decide (x ≤ 90)) || (decide (48 ≤ x) && decide (x ≤ 57)) || moreL.contains c) := by
  unfold plainB
  subst hx
  congr 1
  congr 1
  · congr 1
    · congr 1 <;> exact decide_eq_decide.2 (by omega)
    · congr 1 <;> exact decide_eq_decide.2 (by omega)
  · congr 1 <;> exact decide_eq_decide.2 (by omega)
set_option maxHeartbeats 2000000 in
set_option maxRecDepth 100000 in
theorem plain_int (c : UInt8) (x k : Int) (w : World) (hx : (c.toNat : Int) = x) (hk : decide (0 ≤ k) = moreL.contains c) (HI : Hid (∀ W, Calls Tryz.prog 70 #[.string ⟨#[47, 46, 95, 45, 42, 63, 43, 58, 44]⟩, .int .u8 x] W (Tells (.int .i64 k) W))) : Calls Tryz.prog 47 #[.int .u8 x] w (Tells (.bool (plainB c)) w) := by
  have h0 : 0 ≤ x := by omega
  have h1 : x ≤ 255 := by have := c.toNat_lt; omega
  by_cases hc : x ≤ (47 : Int)
  · have fa : ¬ (97 : Int) ≤ x := by omega
    have fc : ¬ (65 : Int) ≤ x := by omega
    have fe : ¬ (48 : Int) ≤ x := by omega
    have fb : x ≤ (122 : Int) := by omega
    have fd : x ≤ (90 : Int) := by omega
    have fg : x ≤ (57 : Int) := by omega
    have HF := Lib.hid (show plainB c = moreL.contains c by rw [plainB_eq c x hx, decide_eq_false fa, decide_eq_false fc, decide_eq_false fe, decide_eq_true fb, decide_eq_true fd, decide_eq_true fg]; simp)
    clear hc h0 h1
    cases hm : moreL.contains c with
    | true =>
      rw [hm] at hk HF
      have hk2 : (0 : Int) ≤ k := of_decide_eq_true hk
      clear hm hk
      go_enter Tryz.func47, Tryz.ntmps47
      go_wp2_with (go_at_call 70; (with_reducible refine (HI.out _).mono ?_); rintro e1 w1 ⟨rfl, hw⟩; replace hw := hw.symm; subst hw)
      go_ret
      exact ⟨by rw [HF.out]; rfl, rfl⟩
    | false =>
      rw [hm] at hk HF
      have HKD := Lib.hid hk
      have hk2 : ¬ (0 : Int) ≤ k := of_decide_eq_false hk
      clear hm hk
      go_enter Tryz.func47, Tryz.ntmps47
      go_wp2_with (go_at_call 70; (with_reducible refine (HI.out _).mono ?_); rintro e1 w1 ⟨rfl, hw⟩; replace hw := hw.symm; subst hw)
      go_ret
      exact ⟨by rw [HF.out, ← HKD.out]; rfl, rfl⟩
  by_cases hc : (48 : Int) ≤ x ∧ x ≤ (57 : Int)
  · have fa : ¬ (97 : Int) ≤ x := by omega
    have fc : ¬ (65 : Int) ≤ x := by omega
    have fe : (48 : Int) ≤ x := by omega
    have fb : x ≤ (122 : Int) := by omega
    have fd : x ≤ (90 : Int) := by omega
    have fg : x ≤ (57 : Int) := by omega
    have HF := Lib.hid (show plainB c = true by rw [plainB_eq c x hx, decide_eq_false fa, decide_eq_false fc, decide_eq_true fe, decide_eq_true fb, decide_eq_true fd, decide_eq_true fg]; simp)
    clear hc h0 h1
    go_enter Tryz.func47, Tryz.ntmps47
    go_wp2
    go_ret
    exact ⟨by rw [HF.out]; rfl, rfl⟩
  by_cases hc : (58 : Int) ≤ x ∧ x ≤ (64 : Int)
  · have fa : ¬ (97 : Int) ≤ x := by omega
    have fc : ¬ (65 : Int) ≤ x := by omega
    have fe : (48 : Int) ≤ x := by omega
    have fb : x ≤ (122 : Int) := by omega
    have fd : x ≤ (90 : Int) := by omega
    have fg : ¬ x ≤ (57 : Int) := by omega
    have HF := Lib.hid (show plainB c = moreL.contains c by rw [plainB_eq c x hx, decide_eq_false fa, decide_eq_false fc, decide_eq_true fe, decide_eq_true fb, decide_eq_true fd, decide_eq_false fg]; simp)
    clear hc h0 h1
    cases hm : moreL.contains c with
    | true =>
      rw [hm] at hk HF
      have hk2 : (0 : Int) ≤ k := of_decide_eq_true hk
      clear hm hk
      go_enter Tryz.func47, Tryz.ntmps47
      go_wp2_with (go_at_call 70; (with_reducible refine (HI.out _).mono ?_); rintro e1 w1 ⟨rfl, hw⟩; replace hw := hw.symm; subst hw)
      go_ret
      exact ⟨by rw [HF.out]; rfl, rfl⟩
    | false =>
      rw [hm] at hk HF
      have HKD := Lib.hid hk
      have hk2 : ¬ (0 : Int) ≤ k := of_decide_eq_false hk
      clear hm hk
      go_enter Tryz.func47, Tryz.ntmps47
      go_wp2_with (go_at_call 70; (with_reducible refine (HI.out _).mono ?_); rintro e1 w1 ⟨rfl, hw⟩; replace hw := hw.symm; subst hw)
      go_ret
      exact ⟨by rw [HF.out, ← HKD.out]; rfl, rfl⟩
  by_cases hc : (65 : Int) ≤ x ∧ x ≤ (90 : Int)
  · have fa : ¬ (97 : Int) ≤ x := by omega
    have fc : (65 : Int) ≤ x := by omega
    have fe : (48 : Int) ≤ x := by omega
    have fb : x ≤ (122 : Int) := by omega
    have fd : x ≤ (90 : Int) := by omega
    have fg : ¬ x ≤ (57 : Int) := by omega
    have HF := Lib.hid (show plainB c = true by rw [plainB_eq c x hx, decide_eq_false fa, decide_eq_true fc, decide_eq_true fe, decide_eq_true fb, decide_eq_true fd, decide_eq_false fg]; simp)
    clear hc h0 h1
    go_enter Tryz.func47, Tryz.ntmps47
    go_wp2
    go_ret
    exact ⟨by rw [HF.out]; rfl, rfl⟩
  by_cases hc : (91 : Int) ≤ x ∧ x ≤ (96 : Int)
  · have fa : ¬ (97 : Int) ≤ x := by omega
    have fc : (65 : Int) ≤ x := by omega
    have fe : (48 : Int) ≤ x := by omega
    have fb : x ≤ (122 : Int) := by omega
    have fd : ¬ x ≤ (90 : Int) := by omega
    have fg : ¬ x ≤ (57 : Int) := by omega
    have HF := Lib.hid (show plainB c = moreL.contains c by rw [plainB_eq c x hx, decide_eq_false fa, decide_eq_true fc, decide_eq_true fe, decide_eq_true fb, decide_eq_false fd, decide_eq_false fg]; simp)
    clear hc h0 h1
    cases hm : moreL.contains c with
    | true =>
      rw [hm] at hk HF
      have hk2 : (0 : Int) ≤ k := of_decide_eq_true hk
      clear hm hk
      go_enter Tryz.func47, Tryz.ntmps47
      go_wp2_with (go_at_call 70; (with_reducible refine (HI.out _).mono ?_); rintro e1 w1 ⟨rfl, hw⟩; replace hw := hw.symm; subst hw)
      go_ret
      exact ⟨by rw [HF.out]; rfl, rfl⟩
    | false =>
      rw [hm] at hk HF
      have HKD := Lib.hid hk
      have hk2 : ¬ (0 : Int) ≤ k := of_decide_eq_false hk
      clear hm hk
      go_enter Tryz.func47, Tryz.ntmps47
      go_wp2_with (go_at_call 70; (with_reducible refine (HI.out _).mono ?_); rintro e1 w1 ⟨rfl, hw⟩; replace hw := hw.symm; subst hw)
      go_ret
      exact ⟨by rw [HF.out, ← HKD.out]; rfl, rfl⟩
  by_cases hc : (97 : Int) ≤ x ∧ x ≤ (122 : Int)
  · have fa : (97 : Int) ≤ x := by omega
    have fc : (65 : Int) ≤ x := by omega
    have fe : (48 : Int) ≤ x := by omega
    have fb : x ≤ (122 : Int) := by omega
    have fd : ¬ x ≤ (90 : Int) := by omega
    have fg : ¬ x ≤ (57 : Int) := by omega
    have HF := Lib.hid (show plainB c = true by rw [plainB_eq c x hx, decide_eq_true fa, decide_eq_true fc, decide_eq_true fe, decide_eq_true fb, decide_eq_false fd, decide_eq_false fg]; simp)
    clear hc h0 h1
    go_enter Tryz.func47, Tryz.ntmps47
    go_wp2
    go_ret
    exact ⟨by rw [HF.out]; rfl, rfl⟩
  by_cases hc : (123 : Int) ≤ x
  · have fa : (97 : Int) ≤ x := by omega
    have fc : (65 : Int) ≤ x := by omega
    have fe : (48 : Int) ≤ x := by omega
    have fb : ¬ x ≤ (122 : Int) := by omega
    have fd : ¬ x ≤ (90 : Int) := by omega
    have fg : ¬ x ≤ (57 : Int) := by omega
    have HF := Lib.hid (show plainB c = moreL.contains c by rw [plainB_eq c x hx, decide_eq_true fa, decide_eq_true fc, decide_eq_true fe, decide_eq_false fb, decide_eq_false fd, decide_eq_false fg]; simp)
    clear hc h0 h1
    cases hm : moreL.contains c with
    | true =>
      rw [hm] at hk HF
      have hk2 : (0 : Int) ≤ k := of_decide_eq_true hk
      clear hm hk
      go_enter Tryz.func47, Tryz.ntmps47
      go_wp2_with (go_at_call 70; (with_reducible refine (HI.out _).mono ?_); rintro e1 w1 ⟨rfl, hw⟩; replace hw := hw.symm; subst hw)
      go_ret
      exact ⟨by rw [HF.out]; rfl, rfl⟩
    | false =>
      rw [hm] at hk HF
      have HKD := Lib.hid hk
      have hk2 : ¬ (0 : Int) ≤ k := of_decide_eq_false hk
      clear hm hk
      go_enter Tryz.func47, Tryz.ntmps47
      go_wp2_with (go_at_call 70; (with_reducible refine (HI.out _).mono ?_); rintro e1 w1 ⟨rfl, hw⟩; replace hw := hw.symm; subst hw)
      go_ret
      exact ⟨by rw [HF.out, ← HKD.out]; rfl, rfl⟩
  omega
theorem plain_any (c : UInt8) (w : World) : Calls Tryz.prog 47 #[.int .u8 (c.toNat : Int)] w (Tells (.bool (plainB c)) w) := by
  refine plain_int c (c.toNat : Int) (Lib.indexByte (ByteArray.data ⟨#[47, 46, 95, 45, 42, 63, 43, 58, 44]⟩).toList c) w rfl (more_index c) (Lib.hid fun W => ?_)
  have h := Tryz.strings_IndexByte ⟨#[47, 46, 95, 45, 42, 63, 43, 58, 44]⟩ (c.toNat : Int) W
  have e : ((c.toNat : Int).toNat).toUInt8 = c := by simp
  rw [e] at h
  exact h
/-- What is thrown where a line can't be. -/
def refusal : PanicEntry := { v := .iface 69 (.agg #[]), recovered := false }
/-- The call throws it, and leaves all that lay before as it was. -/
def Refuses (w : World) (e : Ending) (w' : World) : Prop := e = .panicked [refusal] ∧ ∃ j, w' = wext w j
set_option maxHeartbeats 2000000 in
set_option maxRecDepth 100000 in
theorem need_yes (w : World) : Calls Tryz.prog 61 #[.bool true] w (Tells (.tuple #[]) w) := by
  go_enter Tryz.func61, Tryz.ntmps61
  go_wp2
  go_end0
  exact ⟨rfl, rfl⟩
set_option maxHeartbeats 2000000 in
set_option maxRecDepth 100000 in
theorem need_no (w : World) : Calls Tryz.prog 61 #[.bool false] w (Refuses w) := by
  go_enter Tryz.func61, Tryz.ntmps61
  go_wp2
  exact ⟨rfl, rfl, w_ext_of_below (Below.refl _ _)⟩
end Go.Proofs.YtmcooenafgihkaaGreatDoor
