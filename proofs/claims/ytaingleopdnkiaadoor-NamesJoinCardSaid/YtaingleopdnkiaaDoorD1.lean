/- Helper lemmas: the law on splits: its walk. No condition. -/
import Derived.Test.YtaingleopdnkiaaDoorC6
import Derived.Test.YtaingleopdnkiaaDoorB5
set_option linter.unusedSimpArgs false
set_option linter.unusedVariables false
namespace Go.Proofs.YtaingleopdnkiaaDoor
open Go.RowKit

theorem eq_rr (A B : Option Addr) (c d : Nat) (l : List ByteArray) (w : World) (hA : StrsAt w A l) (hB : StrsAt w B l) (hl : l.length ≤ 8) : Calls Tryd.prog 24 #[.slice A l.length c, .slice B l.length d] w (Ret (.bool true) w) := by
  have h := eq_any A B c d l l w hA hB (by simp only [maxLen]; omega)
  rw [decide_eq_true rfl] at h
  exact h
theorem par_len (r : List ByteArray × Int) (h : r.1.length ≤ 8) : (parentR r).1.length ≤ 8 := by
  unfold parentR
  (repeat' split) <;> first | (simp; done) | (simp; omega)
set_option maxHeartbeats 8000000 in
set_option maxRecDepth 100000 in
theorem splits_law (s : ByteArray) (mx : Int) (w : World) (hm : w.cell? ⟨0, 0, none⟩ = some (.int .i64 mx)) : Calls Tryd.prog 6 #[.string s] w (Ret (.bool true) w) := by
  have hl0 := leB_of_cell hm
  by_cases hbig : 4096 < (s.size : Int)
  · go_enter Tryd.func6, Tryd.ntmps6
    go_wp2_with (go_at_call 10; (with_reducible refine (awake_m mx _ ?_).mono ?_); (· simp [go_sem, hl0, hm]); rintro e1 w1 ⟨rfl, j1, rfl⟩)
    go_ret
    exact Ret.mk (by first | rfl | simp) (by (repeat' (first | (with_reducible exact Below.refl _ _) | (with_reducible assumption) | (with_reducible exact below_app _ _ _ _) | (with_reducible refine below_pre ?_; (simp only [List.append_assoc, List.prefix_append, List.prefix_refl, List.prefix_append_right_inj])) | (with_reducible refine Below.alloc ?_ ?_ _) | (with_reducible refine below_ext ?_ ?_ _) | (with_reducible refine Below.drew ?_) | (with_reducible refine below_drewN ?_ _) | (with_reducible refine Below.setCell ?_ ?_ _) | go_size | (simp only [w_size_ext, List.length_append, World.alloc_size]; omega) | (simp; done) | (simp; omega))))
  have H19 := Lib.hid (split_any s mx w hm)
  have H20 := Lib.hid (fun w' => refsplit_ref s w')
  have H21 := Lib.hid (fun w' h => parent_any s mx w' h)
  have H22 := Lib.hid (fun w' => refparent_any s w')
  have H16 := Lib.hid (fun w' => good_any s w')
  have H23 := Lib.hid (fun w' => refgood_any s w' (by omega))
  have hl8 := split_len s
  generalize splitR s = r at *
  generalize goodE s = gg at *
  have hp8 := par_len r hl8
  generalize parentR r = p at *
  obtain ⟨l, x⟩ := r
  obtain ⟨pl, pq, px⟩ := p
  simp only at hl8 hp8
  go_enter Tryd.func6, Tryd.ntmps6
  go_wp2_with (first
    | (go_at_call 19; (with_reducible refine H19.out.mono ?_); rintro e1 w2 ⟨A1, j1, rfl, hw1, HS1, HA1⟩; have HB1 := Lib.hid (show Below w.heap.size w w2 by rw [hw1]; exact w_ext_below _ _); replace hw1 := Lib.hid hw1)
    | (go_at_call 20; (with_reducible refine (H20.out _).mono ?_); rintro e1 w3 ⟨A2, c2, rfl, HB2, HS2, HC2⟩; have HT3 := Lib.hid (below_tr HB1.out HB2.out); have hm3 := Lib.hid (cell_kept HT3.out hm))
    | (go_at_call 21; (with_reducible refine (H21.out _ hm3.out).mono ?_); rintro e1 w4 ⟨A3, rfl, HB3, HS3, HA3⟩; have HT4 := Lib.hid (below_tr HT3.out HB3.out))
    | (go_at_call 22; (with_reducible refine (H22.out _).mono ?_); rintro e1 w5 ⟨A4, c4, rfl, HB4, HS4⟩; have HT5 := Lib.hid (below_tr HT4.out HB4.out); have hm5 := cell_kept HT5.out hm; have hl5 := leB_of_cell hm5; have HQ1 := Lib.hid (((HS1.out.later HB2.out).later HB3.out).later HB4.out); have HQ2 := Lib.hid ((HS2.out.later HB3.out).later HB4.out); have HQ3 := Lib.hid (HS3.out.later HB4.out))
    | (go_at_call 16; (with_reducible refine (H16.out _).mono ?_); rintro e1 w1 ⟨rfl, j1, rfl⟩)
    | (go_at_call 23; (with_reducible refine (H23.out _).mono ?_); rintro e1 w1 ⟨rfl, j1, rfl⟩)
    | (go_at_call 24; (with_reducible refine (eq_rr A1 A2 _ _ l _ (HQ1.out.later (by (repeat' (first | (with_reducible exact Below.refl _ _) | (with_reducible assumption) | (with_reducible exact below_app _ _ _ _) | (with_reducible refine below_pre ?_; (simp only [List.append_assoc, List.prefix_append, List.prefix_refl, List.prefix_append_right_inj])) | (with_reducible refine Below.alloc ?_ ?_ _) | (with_reducible refine below_ext ?_ ?_ _) | (with_reducible refine Below.drew ?_) | (with_reducible refine below_drewN ?_ _) | (with_reducible refine Below.setCell ?_ ?_ _) | go_size | (simp only [w_size_ext, List.length_append, World.alloc_size]; omega) | (simp; done) | (simp; omega))))) (HQ2.out.later (by (repeat' (first | (with_reducible exact Below.refl _ _) | (with_reducible assumption) | (with_reducible exact below_app _ _ _ _) | (with_reducible refine below_pre ?_; (simp only [List.append_assoc, List.prefix_append, List.prefix_refl, List.prefix_append_right_inj])) | (with_reducible refine Below.alloc ?_ ?_ _) | (with_reducible refine below_ext ?_ ?_ _) | (with_reducible refine Below.drew ?_) | (with_reducible refine below_drewN ?_ _) | (with_reducible refine Below.setCell ?_ ?_ _) | go_size | (simp only [w_size_ext, List.length_append, World.alloc_size]; omega) | (simp; done) | (simp; omega))))) hl8).mono ?_); rintro e1 w1 ⟨rfl, j1, rfl⟩)
    | (go_at_call 24; (with_reducible refine (eq_rr A3 A4 _ _ pl _ (HQ3.out.later (by (repeat' (first | (with_reducible exact Below.refl _ _) | (with_reducible assumption) | (with_reducible exact below_app _ _ _ _) | (with_reducible refine below_pre ?_; (simp only [List.append_assoc, List.prefix_append, List.prefix_refl, List.prefix_append_right_inj])) | (with_reducible refine Below.alloc ?_ ?_ _) | (with_reducible refine below_ext ?_ ?_ _) | (with_reducible refine Below.drew ?_) | (with_reducible refine below_drewN ?_ _) | (with_reducible refine Below.setCell ?_ ?_ _) | go_size | (simp only [w_size_ext, List.length_append, World.alloc_size]; omega) | (simp; done) | (simp; omega))))) (HS4.out.later (by (repeat' (first | (with_reducible exact Below.refl _ _) | (with_reducible assumption) | (with_reducible exact below_app _ _ _ _) | (with_reducible refine below_pre ?_; (simp only [List.append_assoc, List.prefix_append, List.prefix_refl, List.prefix_append_right_inj])) | (with_reducible refine Below.alloc ?_ ?_ _) | (with_reducible refine below_ext ?_ ?_ _) | (with_reducible refine Below.drew ?_) | (with_reducible refine below_drewN ?_ _) | (with_reducible refine Below.setCell ?_ ?_ _) | go_size | (simp only [w_size_ext, List.length_append, World.alloc_size]; omega) | (simp; done) | (simp; omega))))) hp8).mono ?_); rintro e1 w1 ⟨rfl, j1, rfl⟩)
    | (go_at_call 10; (with_reducible refine (awake_m mx _ ?_).mono ?_); (· simp [go_sem, hl5, hm5]); rintro e1 w1 ⟨rfl, j1, rfl⟩))
  go_ret
  exact Ret.mk (by first | rfl | simp) (below_two HT5.out _)
end Go.Proofs.YtaingleopdnkiaaDoor
