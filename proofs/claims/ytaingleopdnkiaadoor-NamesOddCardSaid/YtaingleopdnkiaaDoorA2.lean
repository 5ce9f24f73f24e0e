/- Helper lemmas: the law's example. No condition. -/
import Derived.Test.YtaingleopdnkiaaDoorA1
set_option linter.unusedSimpArgs false
set_option linter.unusedVariables false
namespace Go.Proofs.YtaingleopdnkiaaDoor
open Go.RowKit

theorem digit_49 (w : World) : Calls Tryd.prog 28 #[.int .u8 49] w (Ret (.int .i64 1) w) := by
  have h := digit_any 49 w
  rw [show Lib.indexByte (ByteArray.data ⟨#[48, 49, 50, 51, 52, 53, 54, 55, 56, 57, 97, 98, 99, 100, 101, 102]⟩).toList (49 : Int).toNat.toUInt8 = 1 by kernel_rfl] at h
  exact h
theorem digit_97 (w : World) : Calls Tryd.prog 28 #[.int .u8 97] w (Ret (.int .i64 10) w) := by
  have h := digit_any 97 w
  rw [show Lib.indexByte (ByteArray.data ⟨#[48, 49, 50, 51, 52, 53, 54, 55, 56, 57, 97, 98, 99, 100, 101, 102]⟩).toList (97 : Int).toNat.toUInt8 = 10 by kernel_rfl] at h
  exact h
theorem digit_51 (w : World) : Calls Tryd.prog 28 #[.int .u8 51] w (Ret (.int .i64 3) w) := by
  have h := digit_any 51 w
  rw [show Lib.indexByte (ByteArray.data ⟨#[48, 49, 50, 51, 52, 53, 54, 55, 56, 57, 97, 98, 99, 100, 101, 102]⟩).toList (51 : Int).toNat.toUInt8 = 3 by kernel_rfl] at h
  exact h
set_option maxHeartbeats 2000000 in
set_option maxRecDepth 100000 in
theorem of_c1a3 (w : World) : Calls Tryd.prog 11 #[.string (⟨#[99, 49, 97, 45, 51]⟩ : ByteArray)] w (Ret (.tuple #[.agg #[.int .i64 26, .int .i64 3], .bool true]) w) := by
  have x1 : ∀ h, ((⟨#[99, 49, 97, 45, 51]⟩ : ByteArray)[1]'h).toNat = 49 := fun _ => rfl
  have x2 : ∀ h, ((⟨#[99, 49, 97, 45, 51]⟩ : ByteArray)[2]'h).toNat = 97 := fun _ => rfl
  have x4 : ∀ h, ((⟨#[99, 49, 97, 45, 51]⟩ : ByteArray)[4]'h).toNat = 51 := fun _ => rfl
  have v26 : bits .or .i64 (wrap64 (bits .or .i64 0 (max 0 1) * 16)) (max 0 10) = 26 := by kernel_rfl
  have m3 : max (0 : Int) 3 = 3 := by decide
  go_enter Tryd.func11, Tryd.ntmps11
  go_wp2
  refine wp_loop_rounds 3 ?_
  repeat any_goals (rw [rounds_succ]; go_wp2_with (first | (go_at_call 28; (with_reducible refine (digit_49 _).mono ?_); rintro e1 w1 ⟨rfl, j1, rfl⟩) | (go_at_call 28; (with_reducible refine (digit_97 _).mono ?_); rintro e1 w1 ⟨rfl, j1, rfl⟩) | (go_at_call 28; (with_reducible refine (digit_51 _).mono ?_); rintro e1 w1 ⟨rfl, j1, rfl⟩) | (go_at_call 13; (with_reducible refine (odd_26 _).mono ?_); rintro e1 w1 ⟨rfl, j1, rfl⟩)))
  refine bodyPost_ret (by simp [results, Tryd.results11, go_sem]; try rfl) rfl ?_
  exact Ret.mk rfl (by (repeat' (first | (with_reducible exact Below.refl _ _) | (with_reducible assumption) | (with_reducible exact below_app _ _ _ _) | (with_reducible refine below_pre ?_; (simp only [List.append_assoc, List.prefix_append, List.prefix_refl, List.prefix_append_right_inj])) | (with_reducible refine Below.alloc ?_ ?_ _) | (with_reducible refine below_ext ?_ ?_ _) | (with_reducible refine Below.drew ?_) | (with_reducible refine below_drewN ?_ _) | (with_reducible refine Below.setCell ?_ ?_ _) | go_size | (simp only [w_size_ext, List.length_append, World.alloc_size]; omega) | (simp; done) | (simp; omega))))
set_option maxHeartbeats 2000000 in
set_option maxRecDepth 100000 in
theorem awake_m (m : Int) (w : World) (hm : w.cell? ⟨0, 0, none⟩ = some (.int .i64 m)) : Calls Tryd.prog 10 #[] w (Ret (.bool true) w) := by
  have HM := Lib.hid hm
  have hq : ∀ W, (binOp .eql 23 (.agg #[.int .i64 26, .int .i64 3]) (.agg #[.int .i64 26, .int .i64 3])).run Tryd.prog W = .ok (.bool true) W := fun _ => by kernel_rfl
  clear hm
  go_enter Tryd.func10, Tryd.ntmps10
  go_wp2_with (first | (go_at_call 19; (with_reducible refine (split_ab m _ HM.out).mono ?_); rintro e1 w1 ⟨rfl, j1, rfl⟩) | (go_at_call 11; (with_reducible refine (of_c1a3 _).mono ?_); rintro e1 w1 ⟨rfl, j1, rfl⟩) | (go_at_call 13; (with_reducible refine (odd_26 _).mono ?_); rintro e1 w1 ⟨rfl, j1, rfl⟩) | (go_at_call 24; refine (Tryd.slices_Equal_string _ 0 2 2 _ 0 2 2 [⟨#[97]⟩, ⟨#[98]⟩] [⟨#[97]⟩, ⟨#[98]⟩] _ (by decide) (by decide) (by decide) (by decide) ?_ ?_).mono ?_; (· intro j hj; have hj2 : j = 0 ∨ j = 1 := (by simp at hj; omega); rcases hj2 with rfl | rfl <;> simp [go_sem]); (· intro j hj; have hj2 : j = 0 ∨ j = 1 := (by simp at hj; omega); rcases hj2 with rfl | rfl <;> simp [go_sem]); rintro e1 w1 ⟨he, q1, rfl⟩; obtain rfl : e1 = .returned (.bool true) := he.trans (by simp); clear he) | (go_at_call 16; (with_reducible refine (good_ab _).mono ?_); rintro e1 w1 ⟨rfl, j1, rfl⟩))
  go_ret
  exact Ret.mk (by first | rfl | simp) (by (repeat' (first | (with_reducible exact Below.refl _ _) | (with_reducible assumption) | (with_reducible exact below_app _ _ _ _) | (with_reducible refine below_pre ?_; (simp only [List.append_assoc, List.prefix_append, List.prefix_refl, List.prefix_append_right_inj])) | (with_reducible refine Below.alloc ?_ ?_ _) | (with_reducible refine below_ext ?_ ?_ _) | (with_reducible refine Below.drew ?_) | (with_reducible refine below_drewN ?_ _) | (with_reducible refine Below.setCell ?_ ?_ _) | go_size | (simp only [w_size_ext, List.length_append, World.alloc_size]; omega) | (simp; done) | (simp; omega))))
end Go.Proofs.YtaingleopdnkiaaDoor
