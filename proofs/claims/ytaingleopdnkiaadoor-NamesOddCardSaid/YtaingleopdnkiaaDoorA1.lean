/- Helper lemmas: the law's example. No condition. -/
import Derived.Test.YtaingleopdnkiaaDoorK
import Derived.Test.YtaingleopdnkiaaDoorShelf
import Derived.Test.YtaingleopdnkiaaDoorM
import Derived.Lib.Hide
set_option linter.unusedSimpArgs false
set_option linter.unusedVariables false
namespace Go.Proofs.YtaingleopdnkiaaDoor
open Go.RowKit

theorem below_app (w : World) (j : Junk) (l : List Obj) (m : Nat) : Below (wext w j).heap.size (wext w j) (wext w ⟨j.l ++ l, m⟩) := by
  have h := w_ext_below (wext w j) ⟨l, m⟩
  rw [w_ext_ext] at h
  exact h
theorem below_pre {w : World} {a b : List Obj} {m m' : Nat} (h : a <+: b) : Below (wext w ⟨a, m⟩).heap.size (wext w ⟨a, m⟩) (wext w ⟨b, m'⟩) := by
  obtain ⟨t, rfl⟩ := h
  exact below_app w ⟨a, m⟩ t m'
theorem w_grown {w w' : World} (h : Below w.heap.size w w') : ∃ j, w' = wext w j := w_ext_of_below h
set_option maxHeartbeats 2000000 in
set_option maxRecDepth 100000 in
theorem good_a (w : World) : Calls Tryd.prog 16 #[.string ⟨#[97]⟩] w (Ret (.int .i64 0) w) := by
  have c1 : decide (0 ≤ Lib.indexByte (ByteArray.data ⟨#[97]⟩).toList 47) = false := by kernel_rfl
  have c2 : decide (0 ≤ Lib.indexByte (ByteArray.data ⟨#[97]⟩).toList 0) = false := by kernel_rfl
  go_enter Tryd.func16, Tryd.ntmps16
  go_wp2_with (first | (go_at_call 30; (with_reducible refine (Tryd.strings_Contains_one ⟨#[97]⟩ 47 _).mono ?_); rw [c1]; rintro e1 w1 ⟨rfl, rfl⟩) | (go_at_call 30; (with_reducible refine (Tryd.strings_Contains_one ⟨#[97]⟩ 0 _).mono ?_); rw [c2]; rintro e1 w1 ⟨rfl, rfl⟩))
  go_ret
  exact Ret.mk rfl (Below.refl _ _)
set_option maxHeartbeats 2000000 in
set_option maxRecDepth 100000 in
theorem good_b (w : World) : Calls Tryd.prog 16 #[.string ⟨#[98]⟩] w (Ret (.int .i64 0) w) := by
  have c1 : decide (0 ≤ Lib.indexByte (ByteArray.data ⟨#[98]⟩).toList 47) = false := by kernel_rfl
  have c2 : decide (0 ≤ Lib.indexByte (ByteArray.data ⟨#[98]⟩).toList 0) = false := by kernel_rfl
  go_enter Tryd.func16, Tryd.ntmps16
  go_wp2_with (first | (go_at_call 30; (with_reducible refine (Tryd.strings_Contains_one ⟨#[98]⟩ 47 _).mono ?_); rw [c1]; rintro e1 w1 ⟨rfl, rfl⟩) | (go_at_call 30; (with_reducible refine (Tryd.strings_Contains_one ⟨#[98]⟩ 0 _).mono ?_); rw [c2]; rintro e1 w1 ⟨rfl, rfl⟩))
  go_ret
  exact Ret.mk rfl (Below.refl _ _)
set_option maxHeartbeats 2000000 in
set_option maxRecDepth 100000 in
theorem good_ab (w : World) : Calls Tryd.prog 16 #[.string ⟨#[97, 47, 98]⟩] w (Ret (.int .i64 22) w) := by
  have c1 : decide (0 ≤ Lib.indexByte (ByteArray.data ⟨#[97, 47, 98]⟩).toList 47) = true := by kernel_rfl
  have c2 : decide (0 ≤ Lib.indexByte (ByteArray.data ⟨#[97, 47, 98]⟩).toList 0) = false := by kernel_rfl
  go_enter Tryd.func16, Tryd.ntmps16
  go_wp2_with (first | (go_at_call 30; (with_reducible refine (Tryd.strings_Contains_one ⟨#[97, 47, 98]⟩ 47 _).mono ?_); rw [c1]; rintro e1 w1 ⟨rfl, rfl⟩) | (go_at_call 30; (with_reducible refine (Tryd.strings_Contains_one ⟨#[97, 47, 98]⟩ 0 _).mono ?_); rw [c2]; rintro e1 w1 ⟨rfl, rfl⟩))
  go_ret
  exact Ret.mk rfl (Below.refl _ _)
set_option maxHeartbeats 2000000 in
set_option maxRecDepth 100000 in
theorem split_ab (m : Int) (w : World) (hm : w.cell? ⟨0, 0, none⟩ = some (.int .i64 m)) : Calls Tryd.prog 19 #[.string ⟨#[47, 97, 47, 98]⟩] w fun e w' => e = .returned (.tuple #[.slice (some ⟨w.heap.size, 0, none⟩) 2 2, .int .i64 0]) ∧ ∃ j, w' = wext (w.alloc (.cells #[.string ⟨#[97]⟩, .string ⟨#[98]⟩] 9)) j := by
  have hs : (⟨#[97, 47, 98]⟩ : ByteArray).size < 4294967281 := by decide
  have h1 : 1 ≤ (⟨#[47]⟩ : ByteArray).size := by decide
  have e1 : Lib.countB ⟨#[97, 47, 98]⟩ ⟨#[47]⟩ = 1 := by kernel_rfl
  have e2 : ((Lib.splitB ⟨#[47]⟩ 0 1 ⟨#[97, 47, 98]⟩).map Value.string).toArray = #[.string ⟨#[97]⟩, .string ⟨#[98]⟩] := by kernel_rfl
  have HS := Tryd.strings_Split ⟨#[97, 47, 98]⟩ ⟨#[47]⟩ m w hs hm h1
  rw [e1, e2] at HS
  have x1 : (⟨#[47, 97, 47, 98]⟩ : ByteArray).extract 1 4 = ⟨#[97, 47, 98]⟩ := by decide +kernel
  have x2 : ∀ h, ((⟨#[47, 97, 47, 98]⟩ : ByteArray)[0]'h).toNat = 47 := fun _ => rfl
  go_enter Tryd.func19, Tryd.ntmps19
  go_wp2_with (go_at_call 31; (with_reducible refine HS.mono ?_); rintro e1 w1 ⟨rfl, rfl⟩)
  refine wp_loop_rounds 3 ?_
  repeat any_goals (rw [rounds_succ]; go_wp2_with (first | (go_at_call 16; (with_reducible refine (good_a _).mono ?_); rintro e1 w1 ⟨rfl, j1, rfl⟩) | (go_at_call 16; (with_reducible refine (good_b _).mono ?_); rintro e1 w1 ⟨rfl, j1, rfl⟩)))
  go_ret2
  exact ⟨rfl, w_grown (by (repeat' (first | (with_reducible exact Below.refl _ _) | (with_reducible assumption) | (with_reducible exact below_app _ _ _ _) | (with_reducible refine below_pre ?_; (simp only [List.append_assoc, List.prefix_append, List.prefix_refl, List.prefix_append_right_inj])) | (with_reducible refine Below.alloc ?_ ?_ _) | (with_reducible refine below_ext ?_ ?_ _) | (with_reducible refine Below.drew ?_) | (with_reducible refine below_drewN ?_ _) | (with_reducible refine Below.setCell ?_ ?_ _) | go_size | (simp only [w_size_ext, List.length_append, World.alloc_size]; omega) | (simp; done) | (simp; omega))))⟩
set_option maxHeartbeats 2000000 in
set_option maxRecDepth 100000 in
theorem digit_any (c : Int) (w : World) : Calls Tryd.prog 28 #[.int .u8 c] w (Ret (.int .i64 (Lib.indexByte (ByteArray.data ⟨#[48, 49, 50, 51, 52, 53, 54, 55, 56, 57, 97, 98, 99, 100, 101, 102]⟩).toList c.toNat.toUInt8)) w) := by
  go_enter Tryd.func28, Tryd.ntmps28
  go_wp2_with (go_at_call 33; (with_reducible refine (Tryd.strings_IndexByte _ c _).mono ?_); rintro e1 w1 ⟨rfl, rfl⟩)
  go_ret
  exact Ret.mk rfl (Below.refl _ _)
theorem conv_one (c : UInt8) (W : World) (g : Nat) (n : Int) (hn : n = (c.toNat : Int)) (hW : W.cell? ⟨g, 0, none⟩ = some (.int .u8 n)) : (convert 49 9 (.slice (some ⟨g, 0, none⟩) 1 1)).run Tryd.prog W = .ok (.string ⟨#[c]⟩) W :=
  run_convert_bytes_back W 49 9 5 ⟨g, 0, none⟩ 1 [c] Tryd.underlying49 Tryd.underlying5 Tryd.underlying9 (fun j hj => by
    obtain rfl : j = 0 := by simpa using hj
    rw [hn] at hW
    exact hW)
set_option maxHeartbeats 2000000 in
set_option maxRecDepth 100000 in
theorem odd_26 (w : World) : Calls Tryd.prog 13 #[.agg #[.int .i64 26, .int .i64 3]] w (Ret (.string ⟨#[99, 49, 97, 45, 51]⟩) w) := by
  have h1 := fun W g hW => conv_one 97 W g 97 rfl hW
  have h2 := fun W g hW => conv_one 49 W g 49 rfl hW
  have h3 := fun W g hW => conv_one 51 W g 51 rfl hW
  have e1 : ∀ h, ((⟨#[48, 49, 50, 51, 52, 53, 54, 55, 56, 57, 97, 98, 99, 100, 101, 102]⟩ : ByteArray)[(bits .and .u64 26 15).toNat]'h).toNat = 97 := fun _ => by kernel_rfl
  have e2 : ∀ h, ((⟨#[48, 49, 50, 51, 52, 53, 54, 55, 56, 57, 97, 98, 99, 100, 101, 102]⟩ : ByteArray)[(bits .and .u64 1 15).toNat]'h).toNat = 49 := fun _ => by kernel_rfl
  have e4 : bits .and .i64 3 15 = 3 := by kernel_rfl
  have e3 : ∀ h, ((⟨#[48, 49, 50, 51, 52, 53, 54, 55, 56, 57, 97, 98, 99, 100, 101, 102]⟩ : ByteArray)[3]'h).toNat = 51 := fun _ => rfl
  go_enter Tryd.func13, Tryd.ntmps13
  go_wp2
  have c1 : (⟨#[97]⟩ ++ ⟨#[]⟩ : ByteArray) = ⟨#[97]⟩ := by decide +kernel
  have c2 : (⟨#[49]⟩ ++ ⟨#[97]⟩ : ByteArray) = ⟨#[49, 97]⟩ := by decide +kernel
  have c3 : (⟨#[99]⟩ ++ ⟨#[49, 97]⟩ : ByteArray) = ⟨#[99, 49, 97]⟩ := by decide +kernel
  have c4 : (⟨#[99, 49, 97]⟩ ++ ⟨#[45]⟩ : ByteArray) = ⟨#[99, 49, 97, 45]⟩ := by decide +kernel
  have c5 : (⟨#[99, 49, 97, 45]⟩ ++ ⟨#[51]⟩ : ByteArray) = ⟨#[99, 49, 97, 45, 51]⟩ := by decide +kernel
  have c6 : (⟨#[49, 97]⟩ : ByteArray).extract 0 2 = ⟨#[49, 97]⟩ := by decide +kernel
  have m1 : max (0 : Int) (IntKind.i64.wrap (-10)) = 0 := by decide +kernel
  have l1 : (⟨#[97]⟩ : ByteArray).toList = [97] := by decide +kernel
  have l2 : (⟨#[49, 97]⟩ : ByteArray).toList = [49, 97] := by decide +kernel
  refine wp_loop_rounds 3 ?_
  repeat any_goals (rw [rounds_succ]; go_wp2)
  refine wp_region_mix [(0, true), (1, true), (2, true), (3, true), (4, true), (5, true), (6, true), (7, true), (8, true), (9, true), (10, true), (11, true), (12, false), (13, false), (14, true), (15, true)] (by kernel_rfl) (by kernel_rfl) rfl (by kernel_rfl) (by intro _ _ d _ _ h; cases d <;> exact h) ?_; intro j1; (repeat (first | (refine wpMix_skip rfl rfl ?_; simp only [Act.put, List.setIfInBounds_toArray, List.set_cons_zero, List.set_cons_succ]) | (refine wpMix_light rfl rfl ?_; intro K hK; go_simp; refine hK _ ?_; clear hK K) | (refine wpMix_heavy rfl rfl ?_; intro K hK; go_wp2_with (fail); refine ⟨w_ext_of_below (by (repeat' (first | (with_reducible exact Below.refl _ _) | (with_reducible assumption) | (with_reducible exact below_app _ _ _ _) | (with_reducible refine below_pre ?_; (simp only [List.append_assoc, List.prefix_append, List.prefix_refl, List.prefix_append_right_inj])) | (with_reducible refine Below.alloc ?_ ?_ _) | (with_reducible refine below_ext ?_ ?_ _) | (with_reducible refine Below.drew ?_) | (with_reducible refine below_drewN ?_ _) | (with_reducible refine Below.setCell ?_ ?_ _) | go_size | (simp only [w_size_ext, List.length_append, World.alloc_size]; omega) | (simp; done) | (simp; omega)))), ?_⟩))); refine wpMix_nil ?_
  go_wp2
  go_ret
  exact Ret.mk (by rfl) (by (repeat' (first | (with_reducible exact Below.refl _ _) | (with_reducible assumption) | (with_reducible exact below_app _ _ _ _) | (with_reducible refine below_pre ?_; (simp only [List.append_assoc, List.prefix_append, List.prefix_refl, List.prefix_append_right_inj])) | (with_reducible refine Below.alloc ?_ ?_ _) | (with_reducible refine below_ext ?_ ?_ _) | (with_reducible refine Below.drew ?_) | (with_reducible refine below_drewN ?_ _) | (with_reducible refine Below.setCell ?_ ?_ _) | go_size | (simp only [w_size_ext, List.length_append, World.alloc_size]; omega) | (simp; done) | (simp; omega))))
end Go.Proofs.YtaingleopdnkiaaDoor
