/- Helper lemmas: the law that unlike events have unlike names among conflicts: its walk. No condition. -/
import Derived.Test.YtaingleopdnkiaaDoorH2
set_option linter.unusedSimpArgs false
set_option linter.unusedVariables false
namespace Go.Proofs.YtaingleopdnkiaaDoor
open Go.RowKit

set_option maxHeartbeats 2000000 in
set_option maxRecDepth 100000 in
theorem apart_law (t x t2 x2 : Int) (mx : Int) (w : World) (hm : w.cell? ⟨0, 0, none⟩ = some (.int .i64 mx)) : Calls Tryd.prog 4 #[.agg #[.int .i64 t, .int .i64 x], .agg #[.int .i64 t2, .int .i64 x2]] w (Ret (.bool true) w) := by
  have hl0 := leB_of_cell hm
  have HI := Lib.hid (fun w' => in_any t x w')
  have HI2 := Lib.hid (fun w' => in_any t2 x2 w')
  cases hb : inB t x with
  | false =>
    rw [hb] at HI
    clear hb
    go_enter Tryd.func4, Tryd.ntmps4
    go_wp2_with (first | (go_at_call 15; (with_reducible refine (HI.out _).mono ?_); rintro e1 w1 ⟨rfl, j2, rfl⟩) | (go_at_call 10; (with_reducible refine (awake_m mx _ ?_).mono ?_); (· simp [go_sem, hl0, hm]); rintro e1 w9 ⟨rfl, j9, rfl⟩))
    go_ret
    exact Ret.mk (by first | rfl | simp) (by (repeat' (first | (with_reducible exact Below.refl _ _) | (with_reducible assumption) | (with_reducible exact below_app _ _ _ _) | (with_reducible refine below_pre ?_; (simp only [List.append_assoc, List.prefix_append, List.prefix_refl, List.prefix_append_right_inj])) | (with_reducible refine Below.alloc ?_ ?_ _) | (with_reducible refine below_ext ?_ ?_ _) | (with_reducible refine Below.drew ?_) | (with_reducible refine below_drewN ?_ _) | (with_reducible refine Below.setCell ?_ ?_ _) | go_size | (simp only [w_size_ext, List.length_append, World.alloc_size]; omega) | (simp; done) | (simp; omega))))
  | true =>
  cases hb2 : inB t2 x2 with
  | false =>
    rw [hb] at HI
    rw [hb2] at HI2
    clear hb hb2
    go_enter Tryd.func4, Tryd.ntmps4
    go_wp2_with (first | (go_at_call 15; (with_reducible refine (HI.out _).mono ?_); rintro e1 w1 ⟨rfl, j2, rfl⟩) | (go_at_call 15; (with_reducible refine (HI2.out _).mono ?_); rintro e1 w1 ⟨rfl, j3, rfl⟩) | (go_at_call 10; (with_reducible refine (awake_m mx _ ?_).mono ?_); (· simp [go_sem, hl0, hm]); rintro e1 w9 ⟨rfl, j9, rfl⟩))
    go_ret
    exact Ret.mk (by first | rfl | simp) (by (repeat' (first | (with_reducible exact Below.refl _ _) | (with_reducible assumption) | (with_reducible exact below_app _ _ _ _) | (with_reducible refine below_pre ?_; (simp only [List.append_assoc, List.prefix_append, List.prefix_refl, List.prefix_append_right_inj])) | (with_reducible refine Below.alloc ?_ ?_ _) | (with_reducible refine below_ext ?_ ?_ _) | (with_reducible refine Below.drew ?_) | (with_reducible refine below_drewN ?_ _) | (with_reducible refine Below.setCell ?_ ?_ _) | go_size | (simp only [w_size_ext, List.length_append, World.alloc_size]; omega) | (simp; done) | (simp; omega))))
  | true =>
  rw [hb] at HI
  rw [hb2] at HI2
  obtain ⟨n, d, rfl, rfl, hn, hd⟩ := inB_nat t x hb
  obtain ⟨n2, d2, rfl, rfl, hn2, hd2⟩ := inB_nat t2 x2 hb2
  have HOF := Lib.hid (fun w' => of_any (oddT (n : Int) (d : Int)) w')
  rw [of_odd n d hn hd] at HOF
  have H16 := Lib.hid (fun w' => good_any (oddT (n : Int) (d : Int)) w')
  rw [good_odd n d hn hd] at H16
  have H13 := Lib.hid (fun w' => odd_any (n : Int) (d : Int) w')
  have hq : ∀ W, (binOp .eql 23 (.agg #[.int .i64 (n : Int), .int .i64 (d : Int)]) (.agg #[.int .i64 (n : Int), .int .i64 (d : Int)])).run Tryd.prog W = .ok (.bool true) W := fun W => by rw [eql_ev]; simp
  simp only [evV] at HOF
  have HODD := Lib.hid (odd_inj n d n2 d2 hn hd hn2 hd2)
  clear hb hb2 hn hd hn2 hd2
  by_cases hsame : n = n2 ∧ d = d2
  · obtain ⟨rfl, rfl⟩ := hsame
    have H13b := H13
    clear HODD HI2
    have HI2 := HI
    generalize oddT (n : Int) (d : Int) = q at *
    go_enter Tryd.func4, Tryd.ntmps4
    go_wp2_with (first | (go_at_call 15; (with_reducible refine (HI.out _).mono ?_); rintro e1 w1 ⟨rfl, j2, rfl⟩) | (go_at_call 13; (with_reducible refine (H13.out _).mono ?_); rintro e1 w1 ⟨rfl, j2, rfl⟩) | (go_at_call 11; (with_reducible refine (HOF.out _).mono ?_); rintro e1 w1 ⟨rfl, j2, rfl⟩) | (go_at_call 10; (with_reducible refine (awake_m mx _ ?_).mono ?_); (· simp [go_sem, hl0, hm]); rintro e1 w9 ⟨rfl, j9, rfl⟩))
    refine wp_region_mix [(0, true), (1, true), (2, true), (3, true), (4, true), (5, true), (6, true), (7, true), (9, true), (12, true), (13, true), (14, true), (8, false), (10, false), (11, true), (15, true), (16, true), (17, true), (18, true), (19, false), (20, false), (21, true), (22, true), (23, true), (24, false), (25, true), (26, true)] (by kernel_rfl) (by kernel_rfl) rfl (by kernel_rfl) (by intro _ _ d _ _ h; cases d <;> exact h) ?_; intro j1; (repeat (first | (refine wpMix_skipK rfl rfl ?_; intro K hK; go_simp; refine hK _ ?_; clear hK K) | (refine wpMix_light rfl rfl ?_; intro K hK; go_simp; refine hK _ ?_; clear hK K) | (refine wpMix_heavy rfl rfl ?_; intro K hK; go_wp2_with ((first | (go_at_call 13; (with_reducible refine (H13.out _).mono ?_); rintro e1 w1 ⟨rfl, j2, rfl⟩) | (go_at_call 13; (with_reducible refine (H13b.out _).mono ?_); rintro e1 w1 ⟨rfl, j2, rfl⟩) | (go_at_call 16; (with_reducible refine (H16.out _).mono ?_); rintro e1 w1 ⟨rfl, j3, rfl⟩) | (go_at_call 10; (with_reducible refine (awake_m mx _ ?_).mono ?_); (· simp [go_sem, hl0, hm]); rintro e1 w9 ⟨rfl, j9, rfl⟩))); refine ⟨w_ext_of_below (by (repeat' (first | (with_reducible exact Below.refl _ _) | (with_reducible assumption) | (with_reducible exact below_app _ _ _ _) | (with_reducible refine below_pre ?_; (simp only [List.append_assoc, List.prefix_append, List.prefix_refl, List.prefix_append_right_inj])) | (with_reducible refine Below.alloc ?_ ?_ _) | (with_reducible refine below_ext ?_ ?_ _) | (with_reducible refine Below.drew ?_) | (with_reducible refine below_drewN ?_ _) | (with_reducible refine Below.setCell ?_ ?_ _) | go_size | (simp only [w_size_ext, List.length_append, World.alloc_size]; omega) | (simp; done) | (simp; omega)))), ?_⟩))); refine wpMix_nil ?_
    go_wp2
    go_ret
    exact Ret.mk (by first | rfl | simp) (by (repeat' (first | (with_reducible exact Below.refl _ _) | (with_reducible assumption) | (with_reducible exact below_app _ _ _ _) | (with_reducible refine below_pre ?_; (simp only [List.append_assoc, List.prefix_append, List.prefix_refl, List.prefix_append_right_inj])) | (with_reducible refine Below.alloc ?_ ?_ _) | (with_reducible refine below_ext ?_ ?_ _) | (with_reducible refine Below.drew ?_) | (with_reducible refine below_drewN ?_ _) | (with_reducible refine Below.setCell ?_ ?_ _) | go_size | (simp only [w_size_ext, List.length_append, World.alloc_size]; omega) | (simp; done) | (simp; omega))))
  · have H13b := Lib.hid (fun w' => odd_any (n2 : Int) (d2 : Int) w')
    have hne : ¬ oddT (n : Int) (d : Int) = oddT (n2 : Int) (d2 : Int) := fun e => hsame (HODD.out e)
    have hqn : ((n : Int) == (n2 : Int) && (d : Int) == (d2 : Int)) = false := by
      rw [Bool.and_eq_false_iff, beq_eq_false_iff_ne, beq_eq_false_iff_ne]
      by_cases h1 : n = n2
      · right; intro h2; exact hsame ⟨h1, by omega⟩
      · left; omega
    have hq2 : ∀ W, (binOp .eql 23 (.agg #[.int .i64 (n : Int), .int .i64 (d : Int)]) (.agg #[.int .i64 (n2 : Int), .int .i64 (d2 : Int)])).run Tryd.prog W = .ok (.bool false) W := fun W => by rw [eql_ev, hqn]
    clear HODD hqn hsame
    generalize oddT (n : Int) (d : Int) = q at *
    generalize oddT (n2 : Int) (d2 : Int) = q' at *
    have hne2 := toList_ne hne
    have hq3 : (q.toList != q'.toList) = true := by simpa using hne2
    have hq4 : (q.toList == q'.toList) = false := by simpa using hne2
    clear hne
    go_enter Tryd.func4, Tryd.ntmps4
    go_wp2_with (first | (go_at_call 15; (with_reducible refine (HI.out _).mono ?_); rintro e1 w1 ⟨rfl, j2, rfl⟩) | (go_at_call 15; (with_reducible refine (HI2.out _).mono ?_); rintro e1 w1 ⟨rfl, j3, rfl⟩) | (go_at_call 13; (with_reducible refine (H13.out _).mono ?_); rintro e1 w1 ⟨rfl, j2, rfl⟩) | (go_at_call 11; (with_reducible refine (HOF.out _).mono ?_); rintro e1 w1 ⟨rfl, j2, rfl⟩) | (go_at_call 10; (with_reducible refine (awake_m mx _ ?_).mono ?_); (· simp [go_sem, hl0, hm]); rintro e1 w9 ⟨rfl, j9, rfl⟩))
    refine wp_region_mix [(0, true), (1, true), (2, true), (3, true), (4, true), (5, true), (6, true), (7, true), (9, true), (12, true), (13, true), (14, true), (8, false), (10, false), (11, true), (15, true), (16, true), (17, true), (18, true), (19, false), (20, false), (21, true), (22, true), (23, true), (24, false), (25, true), (26, true)] (by kernel_rfl) (by kernel_rfl) rfl (by kernel_rfl) (by intro _ _ d _ _ h; cases d <;> exact h) ?_; intro j1; (repeat (first | (refine wpMix_skipK rfl rfl ?_; intro K hK; go_simp; refine hK _ ?_; clear hK K) | (refine wpMix_light rfl rfl ?_; intro K hK; go_simp; refine hK _ ?_; clear hK K) | (refine wpMix_heavy rfl rfl ?_; intro K hK; go_wp2_with ((first | (go_at_call 13; (with_reducible refine (H13.out _).mono ?_); rintro e1 w1 ⟨rfl, j2, rfl⟩) | (go_at_call 13; (with_reducible refine (H13b.out _).mono ?_); rintro e1 w1 ⟨rfl, j2, rfl⟩) | (go_at_call 16; (with_reducible refine (H16.out _).mono ?_); rintro e1 w1 ⟨rfl, j3, rfl⟩) | (go_at_call 10; (with_reducible refine (awake_m mx _ ?_).mono ?_); (· simp [go_sem, hl0, hm]); rintro e1 w9 ⟨rfl, j9, rfl⟩))); refine ⟨w_ext_of_below (by (repeat' (first | (with_reducible exact Below.refl _ _) | (with_reducible assumption) | (with_reducible exact below_app _ _ _ _) | (with_reducible refine below_pre ?_; (simp only [List.append_assoc, List.prefix_append, List.prefix_refl, List.prefix_append_right_inj])) | (with_reducible refine Below.alloc ?_ ?_ _) | (with_reducible refine below_ext ?_ ?_ _) | (with_reducible refine Below.drew ?_) | (with_reducible refine below_drewN ?_ _) | (with_reducible refine Below.setCell ?_ ?_ _) | go_size | (simp only [w_size_ext, List.length_append, World.alloc_size]; omega) | (simp; done) | (simp; omega)))), ?_⟩))); refine wpMix_nil ?_
    go_wp2
    go_ret
    exact Ret.mk (by first | rfl | simp) (by (repeat' (first | (with_reducible exact Below.refl _ _) | (with_reducible assumption) | (with_reducible exact below_app _ _ _ _) | (with_reducible refine below_pre ?_; (simp only [List.append_assoc, List.prefix_append, List.prefix_refl, List.prefix_append_right_inj])) | (with_reducible refine Below.alloc ?_ ?_ _) | (with_reducible refine below_ext ?_ ?_ _) | (with_reducible refine Below.drew ?_) | (with_reducible refine below_drewN ?_ _) | (with_reducible refine Below.setCell ?_ ?_ _) | go_size | (simp only [w_size_ext, List.length_append, World.alloc_size]; omega) | (simp; done) | (simp; omega))))
end Go.Proofs.YtaingleopdnkiaaDoor
