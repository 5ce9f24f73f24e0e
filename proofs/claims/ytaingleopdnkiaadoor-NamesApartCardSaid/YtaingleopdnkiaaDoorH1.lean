/- Helper lemmas: the law on names among conflicts: its walk. No condition. -/
import Derived.Test.YtaingleopdnkiaaDoorG6
import Derived.Test.YtaingleopdnkiaaDoorG3
import Derived.Test.YtaingleopdnkiaaDoorA6
set_option linter.unusedSimpArgs false
set_option linter.unusedVariables false
namespace Go.Proofs.YtaingleopdnkiaaDoor
open Go.RowKit

theorem eql_ev (a b c d : Int) (W : World) : (binOp .eql 23 (.agg #[.int .i64 a, .int .i64 b]) (.agg #[.int .i64 c, .int .i64 d])).run Tryd.prog W = .ok (.bool (a == c && b == d)) W := by
  have h : ∀ w, (Op.equalIn 10000 23 (.agg #[.int .i64 a, .int .i64 b]) (.agg #[.int .i64 c, .int .i64 d])).run Tryd.prog w = .ok (a == c && b == d) w := fun w => by
    rw [Op.equalIn.eq_def]
    simp only [go_sem]
    simp [go_sem, List.range', List.forIn_cons, List.forIn_nil]
    repeat' split
    all_goals simp_all
  simp only [binOp]
  simp [Op.equal, Op.maxDepth, h]
set_option maxHeartbeats 2000000 in
set_option maxRecDepth 100000 in
theorem odds_law (t x : Int) (s : ByteArray) (mx : Int) (w : World) (hm : w.cell? ⟨0, 0, none⟩ = some (.int .i64 mx)) : Calls Tryd.prog 3 #[.agg #[.int .i64 t, .int .i64 x], .string s] w (Ret (.bool true) w) := by
  have hl0 := leB_of_cell hm
  by_cases hbig : 4096 < (s.size : Int)
  · go_enter Tryd.func3, Tryd.ntmps3
    go_wp2_with (go_at_call 10; (with_reducible refine (awake_m mx _ ?_).mono ?_); (· simp [go_sem, hl0, hm]); rintro e1 w9 ⟨rfl, j9, rfl⟩)
    go_ret
    exact Ret.mk (by first | rfl | simp) (by (repeat' (first | (with_reducible exact Below.refl _ _) | (with_reducible assumption) | (with_reducible exact below_app _ _ _ _) | (with_reducible refine below_pre ?_; (simp only [List.append_assoc, List.prefix_append, List.prefix_refl, List.prefix_append_right_inj])) | (with_reducible refine Below.alloc ?_ ?_ _) | (with_reducible refine below_ext ?_ ?_ _) | (with_reducible refine Below.drew ?_) | (with_reducible refine below_drewN ?_ _) | (with_reducible refine Below.setCell ?_ ?_ _) | go_size | (simp only [w_size_ext, List.length_append, World.alloc_size]; omega) | (simp; done) | (simp; omega))))
  have H11 := Lib.hid (fun w' => of_any s w')
  have H12 := Lib.hid (fun w' => refof_any s w')
  have H13 := Lib.hid (fun w' => odd_any t x w')
  have H14 := Lib.hid (fun w' => refodd_any t x w')
  generalize oddT t x = q at *
  generalize ofR s = r at *
  obtain ⟨⟨n, d⟩, b⟩ := r
  have hq : ∀ W, (binOp .eql 23 (.agg #[.int .i64 (n : Int), .int .i64 (d : Int)]) (.agg #[.int .i64 (n : Int), .int .i64 (d : Int)])).run Tryd.prog W = .ok (.bool true) W := fun W => by rw [eql_ev]; simp
  simp only [evV] at H11 H12
  go_enter Tryd.func3, Tryd.ntmps3
  go_wp2_with (first | (go_at_call 11; (with_reducible refine (H11.out _).mono ?_); rintro e1 w1 ⟨rfl, j2, rfl⟩) | (go_at_call 12; (with_reducible refine (H12.out _).mono ?_); rintro e1 w1 ⟨rfl, j3, rfl⟩))
  refine wp_region_mix [(0, true), (2, true), (1, false), (3, false), (4, true), (5, true), (6, true), (7, true), (8, true), (9, true), (10, true), (11, true), (12, true), (13, true), (14, true), (15, true), (16, false), (17, true), (18, true)] (by kernel_rfl) (by kernel_rfl) rfl (by kernel_rfl) (by intro _ _ d _ _ h; cases d <;> exact h) ?_; intro j1; (repeat (first | (refine wpMix_skipK rfl rfl ?_; intro K hK; go_simp; refine hK _ ?_; clear hK K) | (refine wpMix_light rfl rfl ?_; intro K hK; go_simp; refine hK _ ?_; clear hK K) | (refine wpMix_heavy rfl rfl ?_; intro K hK; go_wp2_with ((first | (go_at_call 13; (with_reducible refine (H13.out _).mono ?_); rintro e1 w1 ⟨rfl, j2, rfl⟩) | (go_at_call 14; (with_reducible refine (H14.out _).mono ?_); rintro e1 w1 ⟨rfl, j3, rfl⟩) | (go_at_call 10; (with_reducible refine (awake_m mx _ ?_).mono ?_); (· simp [go_sem, hl0, hm]); rintro e1 w9 ⟨rfl, j9, rfl⟩))); refine ⟨w_ext_of_below (by (repeat' (first | (with_reducible exact Below.refl _ _) | (with_reducible assumption) | (with_reducible exact below_app _ _ _ _) | (with_reducible refine below_pre ?_; (simp only [List.append_assoc, List.prefix_append, List.prefix_refl, List.prefix_append_right_inj])) | (with_reducible refine Below.alloc ?_ ?_ _) | (with_reducible refine below_ext ?_ ?_ _) | (with_reducible refine Below.drew ?_) | (with_reducible refine below_drewN ?_ _) | (with_reducible refine Below.setCell ?_ ?_ _) | go_size | (simp only [w_size_ext, List.length_append, World.alloc_size]; omega) | (simp; done) | (simp; omega)))), ?_⟩))); refine wpMix_nil ?_
  go_wp2
  go_ret
  exact Ret.mk (by first | rfl | simp) (by (repeat' (first | (with_reducible exact Below.refl _ _) | (with_reducible assumption) | (with_reducible exact below_app _ _ _ _) | (with_reducible refine below_pre ?_; (simp only [List.append_assoc, List.prefix_append, List.prefix_refl, List.prefix_append_right_inj])) | (with_reducible refine Below.alloc ?_ ?_ _) | (with_reducible refine below_ext ?_ ?_ _) | (with_reducible refine Below.drew ?_) | (with_reducible refine below_drewN ?_ _) | (with_reducible refine Below.setCell ?_ ?_ _) | go_size | (simp only [w_size_ext, List.length_append, World.alloc_size]; omega) | (simp; done) | (simp; omega))))
end Go.Proofs.YtaingleopdnkiaaDoor
