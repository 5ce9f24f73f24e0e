/- Helper lemmas: whether a float is below zero, whether it is without end; a float and itself. No condition. -/
import Derived.Test.YtbbbiicjiagmiaaI4
set_option linter.unusedSimpArgs false
set_option linter.unusedVariables false
namespace Go.Proofs.Ytbbbiicjiagmiaa
open Go.RowKit

theorem wrap_sign (b : Nat) (hb : b < 18446744073709551616) : decide (IntKind.i64.wrap (b : Int) < 0) = decide (9223372036854775808 ≤ b) := by
  rw [IntKind.wrap_i64, Bool.eq_iff_iff, decide_eq_true_eq, decide_eq_true_eq]
  omega
set_option maxHeartbeats 1000000 in
set_option maxRecDepth 100000 in
theorem signbit_any (b : Nat) (hb : b < 18446744073709551616) (w : World) : Calls Try.prog 16 #[f64 b] w (Ret (.bool (decide (9223372036854775808 ≤ b))) w) := by
  have h := wrap_sign b hb
  generalize decide (9223372036854775808 ≤ b) = d at *
  obtain ⟨c, hc⟩ : ∃ c : Int, IntKind.i64.wrap (b : Int) = c := ⟨_, rfl⟩
  rw [hc] at h
  go_enter Try.func16, Try.ntmps16
  go_wp2
  go_ret
  exact Ret.mk rfl (by (repeat' (first | (with_reducible exact Below.refl _ _) | (with_reducible exact w_ext_below _ _) | (with_reducible refine below_ext ?_ ?_ _) | (simp; done) | (simp; omega))))

theorem self_eq (b : Nat) (hb : b < 18446744073709551616) (h : b % 9223372036854775808 ≤ 9218868437227405312) : (FloatKind.f64.format.order b b == some .eq) = true := by
  have := order_key b b hb hb h h
  rw [show FloatKind.f64.format = Ieee.double from rfl, this, c_eq]
  rfl
set_option maxHeartbeats 1000000 in
set_option maxRecDepth 100000 in
theorem isInf_down (w : World) : Calls Try.prog 26 #[.float .f64 18442240474082181120, .int .i64 (-1)] w (Ret (.bool true) w) := by
  have h : (FloatKind.f64.format.order 9218868437227405312 9218868437227405311 == some .gt) = true := by decide +kernel
  have nq : Op.unary .neg (.float .f64 18442240474082181120) = pure (.float .f64 9218868437227405312) := by kernel_rfl
  go_enter Try.func26, Try.ntmps26
  go_wp2
  go_ret
  exact Ret.mk rfl (by (repeat' (first | (with_reducible exact Below.refl _ _) | (with_reducible exact w_ext_below _ _) | (with_reducible refine below_ext ?_ ?_ _) | (simp; done) | (simp; omega))))

set_option maxHeartbeats 1000000 in
set_option maxRecDepth 100000 in
theorem isInf_up (w : World) : Calls Try.prog 26 #[.float .f64 9218868437227405312, .int .i64 1] w (Ret (.bool true) w) := by
  have h : (FloatKind.f64.format.order 9218868437227405312 9218868437227405311 == some .gt) = true := by decide +kernel
  go_enter Try.func26, Try.ntmps26
  go_wp2
  go_ret
  exact Ret.mk rfl (by (repeat' (first | (with_reducible exact Below.refl _ _) | (with_reducible exact w_ext_below _ _) | (with_reducible refine below_ext ?_ ?_ _) | (simp; done) | (simp; omega))))

end Go.Proofs.Ytbbbiicjiagmiaa
