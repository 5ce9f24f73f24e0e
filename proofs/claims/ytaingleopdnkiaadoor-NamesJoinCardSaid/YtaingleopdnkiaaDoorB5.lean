/- Helper lemmas: the law on paths' parents: its walk. No condition. -/
import Derived.Test.YtaingleopdnkiaaDoorB4
import Derived.Test.YtaingleopdnkiaaDoorA6
import Derived.Test.YtaingleopdnkiaaDoorB6
set_option linter.unusedSimpArgs false
set_option linter.unusedVariables false
namespace Go.Proofs.YtaingleopdnkiaaDoor
open Go.RowKit

theorem below_tr {w w1 w2 : World} (h : Below w.heap.size w w1) (h2 : Below w1.heap.size w1 w2) : Below w.heap.size w w2 := by
  obtain ⟨j, rfl⟩ := w_grown h2
  exact below_two h j
theorem cell_kept {w w' : World} {v : Value} (hb : Below w.heap.size w w') (h : w.cell? ⟨0, 0, none⟩ = some v) : w'.cell? ⟨0, 0, none⟩ = some v := by
  rw [hb.cell (p := ⟨0, 0, none⟩) (World.block_lt_of_cell? w _ h)]; exact h
theorem eq_self (A B : Option Addr) (c d : Nat) (l : List ByteArray) (q : ByteArray) (w : World) (hA : StrsAt w A (l ++ [q])) (hB : StrsAt w B (l ++ [q])) (hl : l.length ≤ 8) : Calls Tryd.prog 24 #[.slice A (l.length + 1) c, .slice B (l.length + 1) d] w (Ret (.bool true) w) := by
  have h := eq_m A B c d (l.length + 1) (l ++ [q]) (l ++ [q]) w hA hB (by simp) (by simp) (by simp only [maxLen]; omega)
  rw [decide_eq_true rfl] at h
  exact h
theorem wi_1 (A A2 : Option Addr) (l : List ByteArray) (q : ByteArray) (w : World) (h : StrsAt w A l) (h2 : StrsAt w A2 (l ++ [q])) (hl : l.length ≤ 8) : Calls Tryd.prog 18 #[.slice A2 (l.length + 1) (l.length + 1), .slice A l.length l.length] w (Ret (.bool true) w) := by
  have hn : (l ++ [q]).length = l.length + 1 := by simp
  have hw := within_any A2 A (l.length + 1) l.length (l ++ [q]) l w h2 h (by omega) (by simp only [maxLen]; omega) (fun e => by
    obtain ⟨b, o, e2, _⟩ := h2 0 (by omega)
    rw [e] at e2
    cases e2)
  rw [hn, WB_under] at hw
  exact hw
theorem wi_2 (A A2 : Option Addr) (l : List ByteArray) (q : ByteArray) (w : World) : Calls Tryd.prog 18 #[.slice A l.length l.length, .slice A2 (l.length + 1) (l.length + 1)] w (Ret (.bool false) w) :=
  within_no A A2 l.length (l.length + 1) l.length (l.length + 1) w (by omega)
theorem app_step {ops : Array Oper} {rest : List Oper} {o : Oper} {a : Act} {Q : Exit → Act → World → Prop} {W w2 : World} {v y v2 : Value} (s x : Operand) (hw : Region.wanted o (yielded ops a.tmps) = true)
    (ho : o.op = .call { callee := .builtin .append, args := #[s, x], argTypes := #[33, 33] }) (hty : o.type = 33) (hs : a.eval s = v) (hx : a.eval x = y) (hr : (Builtin.append_ #[33, 33] 33 #[v, y]).run Tryd.prog W = .ok v2 w2)
    (h : wpList Tryd.prog ops Q rest (a.put o.dst v2) w2) : wpList Tryd.prog ops Q (o :: rest) a W := by
  refine wpList_step fun K hK => ?_
  rw [if_pos hw]
  unfold Oper.wp execOp
  simp only [ho, resolve, invoke, builtin, Sem.run_bind, Sem.run_pure, Result.andThen_ok, List.map_toArray, List.map_cons, List.map_nil, hs, hx, hty, hr]
  exact hK _ _ h
set_option maxHeartbeats 8000000 in
set_option maxRecDepth 100000 in
theorem parents_law (s : ByteArray) (mx : Int) (w : World) (hm : w.cell? ⟨0, 0, none⟩ = some (.int .i64 mx)) : Calls Tryd.prog 7 #[.string s] w (Ret (.bool true) w) := by
  have hl0 := leB_of_cell hm
  have HP := Lib.hid (parent_any s mx w hm)
  have HSP := Lib.hid (fun w' h => split_any s mx w' h)
  have hl8 := split_len s
  generalize splitR s = r at *
  by_cases hbig : 4096 < (s.size : Int)
  · go_enter Tryd.func7, Tryd.ntmps7
    go_wp2_with (go_at_call 10; (with_reducible refine (awake_m mx _ ?_).mono ?_); (· simp [go_sem, hl0, hm]); rintro e1 w1 ⟨rfl, j1, rfl⟩)
    go_ret
    exact Ret.mk (by first | rfl | simp) (by (repeat' (first | (with_reducible exact Below.refl _ _) | (with_reducible assumption) | (with_reducible exact below_app _ _ _ _) | (with_reducible refine below_pre ?_; (simp only [List.append_assoc, List.prefix_append, List.prefix_refl, List.prefix_append_right_inj])) | (with_reducible refine Below.alloc ?_ ?_ _) | (with_reducible refine below_ext ?_ ?_ _) | (with_reducible refine Below.drew ?_) | (with_reducible refine below_drewN ?_ _) | (with_reducible refine Below.setCell ?_ ?_ _) | go_size | (simp only [w_size_ext, List.length_append, World.alloc_size]; omega) | (simp; done) | (simp; omega))))
  by_cases hx : (parentR r).2.2 = 0
  case neg =>
    obtain ⟨x, hx0, e⟩ := parent_err r hx
    rw [e] at HP
    clear HSP hx e
    go_enter Tryd.func7, Tryd.ntmps7
    go_wp2_with (first | (go_at_call 10; (with_reducible refine (awake_m mx _ ?_).mono ?_); (· simp [go_sem, hl0, hm]); rintro e1 w1 ⟨rfl, j1, rfl⟩) | (go_at_call 21; (with_reducible refine HP.out.mono ?_); rintro e1 w1 ⟨A, rfl, HB, HS, HA⟩; obtain ⟨j0, rfl⟩ := w_grown HB.out))
    go_ret
    exact Ret.mk (by first | rfl | simp) (by (repeat' (first | (with_reducible exact Below.refl _ _) | (with_reducible assumption) | (with_reducible exact below_app _ _ _ _) | (with_reducible refine below_pre ?_; (simp only [List.append_assoc, List.prefix_append, List.prefix_refl, List.prefix_append_right_inj])) | (with_reducible refine Below.alloc ?_ ?_ _) | (with_reducible refine below_ext ?_ ?_ _) | (with_reducible refine Below.drew ?_) | (with_reducible refine below_drewN ?_ _) | (with_reducible refine Below.setCell ?_ ?_ _) | go_size | (simp only [w_size_ext, List.length_append, World.alloc_size]; omega) | (simp; done) | (simp; omega))))
  obtain ⟨l, q, e1, e2⟩ := parent_ok r hx
  rw [e2] at HP
  subst e1
  clear hx e2
  replace hl8 : l.length ≤ 8 := by simp at hl8; omega
  go_enter Tryd.func7, Tryd.ntmps7
  go_wp2_with (first | (at_builtin; refine app_step _ _ rfl rfl rfl rfl rfl (by assumption) ?_) | (go_at_call 21; (with_reducible refine HP.out.mono ?_); rintro e1 w1 ⟨A, rfl, HB, HS, HA⟩; obtain ⟨j0, rfl⟩ := w_grown HB.out) | (go_at_call 19; (with_reducible refine (HSP.out _ ?_).mono ?_); (· simp [go_sem, hl0, hm]); rintro e1 w2 ⟨A2, j2, rfl, hw2, HS2, HA2⟩; have hwb := Lib.hid (show Below (wext w j0).heap.size (wext w j0) w2 by rw [hw2]; exact w_ext_below _ _); replace hw2 := Lib.hid hw2) | (go_at_call 25; (with_reducible refine (clone_any A _ l _ (HS.out.later hwb.out) HA.out hl8).mono ?_); rintro e1 w5 ⟨v5, rfl, HO5, HB5⟩; obtain ⟨g, cap, w6, hr, HS6, HB6⟩ := app_any _ w5 v5 l q HO5.out HB5.out hl8; have HSl := Lib.hid ((HS.out.later hwb.out).later HB6.out); have HSk := Lib.hid (HS2.out.later HB6.out); have HBw := Lib.hid (below_tr (below_tr HB.out hwb.out) HB6.out); have hm6 := cell_kept HBw.out hm; have hl6 := leB_of_cell hm6) | (go_at_call 24; (with_reducible refine (eq_self _ A2 _ _ l q _ (HS6.out.later (by (repeat' (first | (with_reducible exact Below.refl _ _) | (with_reducible assumption) | (with_reducible exact below_app _ _ _ _) | (with_reducible refine below_pre ?_; (simp only [List.append_assoc, List.prefix_append, List.prefix_refl, List.prefix_append_right_inj])) | (with_reducible refine Below.alloc ?_ ?_ _) | (with_reducible refine below_ext ?_ ?_ _) | (with_reducible refine Below.drew ?_) | (with_reducible refine below_drewN ?_ _) | (with_reducible refine Below.setCell ?_ ?_ _) | go_size | (simp only [w_size_ext, List.length_append, World.alloc_size]; omega) | (simp; done) | (simp; omega))))) (HSk.out.later (by (repeat' (first | (with_reducible exact Below.refl _ _) | (with_reducible assumption) | (with_reducible exact below_app _ _ _ _) | (with_reducible refine below_pre ?_; (simp only [List.append_assoc, List.prefix_append, List.prefix_refl, List.prefix_append_right_inj])) | (with_reducible refine Below.alloc ?_ ?_ _) | (with_reducible refine below_ext ?_ ?_ _) | (with_reducible refine Below.drew ?_) | (with_reducible refine below_drewN ?_ _) | (with_reducible refine Below.setCell ?_ ?_ _) | go_size | (simp only [w_size_ext, List.length_append, World.alloc_size]; omega) | (simp; done) | (simp; omega))))) hl8).mono ?_); rintro e1 w1 ⟨rfl, j1, rfl⟩) | (go_at_call 18; (with_reducible refine (wi_1 A A2 l q _ (HSl.out.later (by (repeat' (first | (with_reducible exact Below.refl _ _) | (with_reducible assumption) | (with_reducible exact below_app _ _ _ _) | (with_reducible refine below_pre ?_; (simp only [List.append_assoc, List.prefix_append, List.prefix_refl, List.prefix_append_right_inj])) | (with_reducible refine Below.alloc ?_ ?_ _) | (with_reducible refine below_ext ?_ ?_ _) | (with_reducible refine Below.drew ?_) | (with_reducible refine below_drewN ?_ _) | (with_reducible refine Below.setCell ?_ ?_ _) | go_size | (simp only [w_size_ext, List.length_append, World.alloc_size]; omega) | (simp; done) | (simp; omega))))) (HSk.out.later (by (repeat' (first | (with_reducible exact Below.refl _ _) | (with_reducible assumption) | (with_reducible exact below_app _ _ _ _) | (with_reducible refine below_pre ?_; (simp only [List.append_assoc, List.prefix_append, List.prefix_refl, List.prefix_append_right_inj])) | (with_reducible refine Below.alloc ?_ ?_ _) | (with_reducible refine below_ext ?_ ?_ _) | (with_reducible refine Below.drew ?_) | (with_reducible refine below_drewN ?_ _) | (with_reducible refine Below.setCell ?_ ?_ _) | go_size | (simp only [w_size_ext, List.length_append, World.alloc_size]; omega) | (simp; done) | (simp; omega))))) hl8).mono ?_); rintro e1 w1 ⟨rfl, j1, rfl⟩) | (go_at_call 18; (with_reducible refine (wi_2 A A2 l q _).mono ?_); rintro e1 w1 ⟨rfl, j1, rfl⟩) | (go_at_call 10; (with_reducible refine (awake_m mx _ ?_).mono ?_); (· simp [go_sem, hl6, hm6]); rintro e1 w1 ⟨rfl, j1, rfl⟩))
  go_ret
  exact Ret.mk (by first | rfl | simp) (below_two HBw.out _)
end Go.Proofs.YtaingleopdnkiaaDoor
