/- Helper lemmas: the example, and the first and the last time. No condition. -/
import Derived.Test.YtbbbiicjiagmiaaI3
set_option linter.unusedSimpArgs false
set_option linter.unusedVariables false
namespace Go.Proofs.Ytbbbiicjiagmiaa
open Go.RowKit

set_option maxHeartbeats 4000000 in
set_option maxRecDepth 100000 in
theorem awake_any (w : World) : Calls Try.prog 14 #[] w (Ret (.bool true) w) := by
  have A0 : ∀ w, Calls Try.prog 12 #[.float .f64 0] w (Ret (.tuple #[.int .u64 9223372036854775808, .int .i64 0]) w) := fun w => by
    have h := of_any 0 (by decide) w
    rw [show ofV 0 = 9223372036854775808 by decide, show ofE 0 = 0 by decide] at h
    exact h
  have A := Lib.hid A0
  clear A0
  have B0 : ∀ w, Calls Try.prog 12 #[.float .f64 9223372036854775808] w (Ret (.tuple #[.int .u64 9223372036854775808, .int .i64 0]) w) := fun w => by
    have h := of_any 9223372036854775808 (by decide) w
    rw [show ofV 9223372036854775808 = 9223372036854775808 by decide, show ofE 9223372036854775808 = 0 by decide] at h
    exact h
  have B := Lib.hid B0
  clear B0
  have C0 : ∀ w, Calls Try.prog 12 #[.float .f64 13826050856027422720] w (Ret (.tuple #[.int .u64 4620693217682128895, .int .i64 0]) w) := fun w => by
    have h := of_any 13826050856027422720 (by decide) w
    rw [show ofV 13826050856027422720 = 4620693217682128895 by decide, show ofE 13826050856027422720 = 0 by decide] at h
    exact h
  have C := Lib.hid C0
  clear C0
  have D0 : ∀ w, Calls Try.prog 12 #[.float .f64 9221120237041090561] w (Ret (.tuple #[.int .u64 0, .int .i64 202]) w) := fun w => by
    have h := of_any 9221120237041090561 (by decide) w
    rw [show ofV 9221120237041090561 = 0 by decide, show ofE 9221120237041090561 = 202 by decide] at h
    exact h
  have D := Lib.hid D0
  clear D0
  have F0 : ∀ w, Calls Try.prog 12 #[.float .f64 1] w (Ret (.tuple #[.int .u64 9223372036854775809, .int .i64 0]) w) := fun w => by
    have h := of_any 1 (by decide) w
    rw [show ofV 1 = 9223372036854775809 by decide, show ofE 1 = 0 by decide] at h
    exact h
  have F := Lib.hid F0
  clear F0
  have N0 : ∀ w, Calls Try.prog 19 #[.int .u64 9223372036854775808] w (Ret (.tuple #[.int .u64 9223372036854775809, .int .i64 0]) w) := fun w => by
    have h := next_any 9223372036854775808 (by decide) w
    rw [show nextV 9223372036854775808 = 9223372036854775809 by decide, show toE 9223372036854775808 = 0 by decide] at h
    exact h
  have N := Lib.hid N0
  clear N0
  have T0 : ∀ w, Calls Try.prog 15 #[.int .u64 0] w (Ret (.tuple #[.float .f64 0, .int .i64 202]) w) := fun w => by
    have h := to_any 0 (by decide) w
    rw [show toV 0 = 0 by decide, show toE 0 = 202 by decide] at h
    exact h
  have T := Lib.hid T0
  clear T0
  go_enter Try.func14, Try.ntmps14
  go_wp2_with (first | (go_at_call 12; (with_reducible refine (A.out _).mono ?_); rintro e1 w1 ⟨rfl, j1, rfl⟩) | (go_at_call 12; (with_reducible refine (B.out _).mono ?_); rintro e1 w1 ⟨rfl, j1, rfl⟩) | (go_at_call 12; (with_reducible refine (C.out _).mono ?_); rintro e1 w1 ⟨rfl, j1, rfl⟩) | (go_at_call 12; (with_reducible refine (D.out _).mono ?_); rintro e1 w1 ⟨rfl, j1, rfl⟩) | (go_at_call 12; (with_reducible refine (F.out _).mono ?_); rintro e1 w1 ⟨rfl, j1, rfl⟩) | (go_at_call 19; (with_reducible refine (N.out _).mono ?_); rintro e1 w1 ⟨rfl, j1, rfl⟩) | (go_at_call 15; (with_reducible refine (T.out _).mono ?_); rintro e1 w1 ⟨rfl, j1, rfl⟩) | (go_at_call 36; (with_reducible refine (copysign_awake _).mono ?_); rintro e1 w1 ⟨rfl, j1, rfl⟩) | (go_at_call 37; (with_reducible refine (nan_any _).mono ?_); rintro e1 w1 ⟨rfl, j1, rfl⟩) | (go_at_call 32; (with_reducible refine (whole_awake _).mono ?_); rintro e1 w1 ⟨rfl, j1, rfl⟩))
  go_ret
  exact Ret.mk rfl (by (repeat' (first | (with_reducible exact Below.refl _ _) | (with_reducible exact w_ext_below _ _) | (with_reducible refine below_ext ?_ ?_ _) | (simp; done) | (simp; omega))))

set_option maxHeartbeats 1000000 in
set_option maxRecDepth 100000 in
theorem inf_first (w : World) : Calls Try.prog 40 #[.int .i64 (-1)] w (Ret (.float .f64 18442240474082181120) w) := by
  have b2 : ∀ w, (callFunc 41 #[.int .u64 18442240474082181120]).run Try.prog w = .ok (.value (.float .f64 18442240474082181120)) w := fun w => call41 18442240474082181120 w
  go_enter Try.func40, Try.ntmps40
  go_wp2
  go_ret
  exact Ret.mk rfl (by (repeat' (first | (with_reducible exact Below.refl _ _) | (with_reducible exact w_ext_below _ _) | (with_reducible refine below_ext ?_ ?_ _) | (simp; done) | (simp; omega))))

set_option maxHeartbeats 1000000 in
set_option maxRecDepth 100000 in
theorem first_any (w : World) : Calls Try.prog 21 #[] w (Ret (.int .u64 4503599627370495) w) := by
  have A0 : ∀ w, Calls Try.prog 12 #[.float .f64 18442240474082181120] w (Ret (.tuple #[.int .u64 4503599627370495, .int .i64 0]) w) := fun w => by
    have h := of_any 18442240474082181120 (by decide) w
    rw [show ofV 18442240474082181120 = 4503599627370495 by decide, show ofE 18442240474082181120 = 0 by decide] at h
    exact h
  have A := Lib.hid A0
  clear A0
  go_enter Try.func21, Try.ntmps21
  go_wp2_with (first | (go_at_call 40; (with_reducible refine (inf_first _).mono ?_); rintro e1 w1 ⟨rfl, j1, rfl⟩) | (go_at_call 12; (with_reducible refine (A.out _).mono ?_); rintro e1 w1 ⟨rfl, j1, rfl⟩))
  go_ret
  exact Ret.mk rfl (by (repeat' (first | (with_reducible exact Below.refl _ _) | (with_reducible exact w_ext_below _ _) | (with_reducible refine below_ext ?_ ?_ _) | (simp; done) | (simp; omega))))

set_option maxHeartbeats 1000000 in
set_option maxRecDepth 100000 in
theorem inf_last (w : World) : Calls Try.prog 40 #[.int .i64 (1)] w (Ret (.float .f64 9218868437227405312) w) := by
  have b2 : ∀ w, (callFunc 41 #[.int .u64 9218868437227405312]).run Try.prog w = .ok (.value (.float .f64 9218868437227405312)) w := fun w => call41 9218868437227405312 w
  go_enter Try.func40, Try.ntmps40
  go_wp2
  go_ret
  exact Ret.mk rfl (by (repeat' (first | (with_reducible exact Below.refl _ _) | (with_reducible exact w_ext_below _ _) | (with_reducible refine below_ext ?_ ?_ _) | (simp; done) | (simp; omega))))

set_option maxHeartbeats 1000000 in
set_option maxRecDepth 100000 in
theorem last_any (w : World) : Calls Try.prog 20 #[] w (Ret (.int .u64 18442240474082181120) w) := by
  have A0 : ∀ w, Calls Try.prog 12 #[.float .f64 9218868437227405312] w (Ret (.tuple #[.int .u64 18442240474082181120, .int .i64 0]) w) := fun w => by
    have h := of_any 9218868437227405312 (by decide) w
    rw [show ofV 9218868437227405312 = 18442240474082181120 by decide, show ofE 9218868437227405312 = 0 by decide] at h
    exact h
  have A := Lib.hid A0
  clear A0
  go_enter Try.func20, Try.ntmps20
  go_wp2_with (first | (go_at_call 40; (with_reducible refine (inf_last _).mono ?_); rintro e1 w1 ⟨rfl, j1, rfl⟩) | (go_at_call 12; (with_reducible refine (A.out _).mono ?_); rintro e1 w1 ⟨rfl, j1, rfl⟩))
  go_ret
  exact Ret.mk rfl (by (repeat' (first | (with_reducible exact Below.refl _ _) | (with_reducible exact w_ext_below _ _) | (with_reducible refine below_ext ?_ ?_ _) | (simp; done) | (simp; omega))))

end Go.Proofs.Ytbbbiicjiagmiaa
