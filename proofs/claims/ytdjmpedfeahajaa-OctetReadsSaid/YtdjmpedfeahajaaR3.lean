/- Helper lemmas: the law's closure that sees a vector and a stamp; Read with it. No condition. -/
import Derived.Test.YtdjmpedfeahajaaR2
set_option linter.unusedSimpArgs false
set_option linter.unusedVariables false
namespace Go.Proofs.Ytdjmpedfeahajaa
open Go.RowKit Go.Proofs.YtdjmpedfeahajaaW.PrintWords Go.Proofs.YtdjmpedfeahajaaW.PrintLast Go.Proofs.YtdjmpedfeahajaaW.PrintMore

theorem neq_stamp (t who : Int) (W : World) : (binOp .neq 25 (stamp t who) (stamp 0 0)).run Try.prog W = .ok (.bool (!(t == 0 && who == 0))) W := by
  have h : ∀ w, (Op.equalIn 10000 25 (stamp t who) (stamp 0 0)).run Try.prog w = .ok (t == 0 && who == 0) w := fun w => by
    rw [Op.equalIn.eq_def]
    simp only [go_sem]
    simp [go_sem, List.range', List.forIn_cons, List.forIn_nil]
    repeat' split
    all_goals simp_all
  simp only [binOp]
  simp [Op.equal, Op.maxDepth, h]
theorem seeS_ret (b : Nat) (s0 s1 s2 : ByteArray) (t who : Nat) (w : World) (hr : w.cell? ⟨b, 0, none⟩ = some (.string s0)) (ho : w.cell? ⟨b, 1, none⟩ = some (.bool true)) (hf : w.frozen? ⟨b, 0, none⟩ = false) (x0 : Hid (Nx s0 6 t s1)) (x1 : Hid (Nx s1 1 who s2)) (hs : (isB (t : Int) (who : Int) = true ∨ (isB (t : Int) (who : Int) = false ∧ t = 0 ∧ who = 0))) :
    Calls Try.prog 78 #[eyeP b] w fun e w' => e = .returned (stamp (t : Int) (who : Int)) ∧ ∃ j, w' = wext (eyeSet w b s2) j := by
  rcases hs with h | ⟨h, rfl, rfl⟩
  · exact seeS_yes b s0 s1 s2 t who w hr ho hf x0 x1 h
  · refine (seeS_no b s0 s1 s2 0 0 w hr ho hf x0 x1 h false (fun W => neq_stamp 0 0 W)).mono ?_
    rintro e w' (⟨h, _⟩ | ⟨_, h⟩)
    · cases h
    · exact h
theorem seeS_thr (b : Nat) (s0 s1 s2 : ByteArray) (t who : Nat) (w : World) (hr : w.cell? ⟨b, 0, none⟩ = some (.string s0)) (ho : w.cell? ⟨b, 1, none⟩ = some (.bool true)) (hf : w.frozen? ⟨b, 0, none⟩ = false) (x0 : Hid (Nx s0 6 t s1)) (x1 : Hid (Nx s1 1 who s2)) (hs : isB (t : Int) (who : Int) = false) (hz : ¬ (t = 0 ∧ who = 0)) :
    Calls Try.prog 78 #[eyeP b] w fun e w' => e = .panicked [fault 201] ∧ ∃ s' j, w' = wext (eyeSet w b s') j := by
  have hzz : ((t : Int) == 0 && (who : Int) == 0) = false := by
    rw [Bool.and_eq_false_iff, beq_eq_false_iff_ne, beq_eq_false_iff_ne]
    omega
  refine (seeS_no b s0 s1 s2 t who w hr ho hf x0 x1 hs true (fun W => by rw [neq_stamp, hzz]; rfl)).mono ?_
  rintro e w' (⟨_, h⟩ | ⟨h, _⟩)
  · exact h
  · cases h
set_option maxHeartbeats 8000000 in
set_option maxRecDepth 100000 in
theorem look76 (b px py : Nat) (s0 s1 s2 s3 s4 s5 s6 s7 s8 s9 s10 : ByteArray) (m0 m1 m2 m3 m4 m5 m6 m7 t who : Nat) (w : World) (hr : w.cell? ⟨b, 0, none⟩ = some (.string s0)) (ho : w.cell? ⟨b, 1, none⟩ = some (.bool true)) (hf : w.frozen? ⟨b, 0, none⟩ = false) (cx0 : w.cell? ⟨px, 0, none⟩ = some (.int .i64 0)) (fx0 : w.frozen? ⟨px, 0, none⟩ = false) (cx1 : w.cell? ⟨px, 1, none⟩ = some (.int .i64 0)) (fx1 : w.frozen? ⟨px, 1, none⟩ = false) (cx2 : w.cell? ⟨px, 2, none⟩ = some (.int .i64 0)) (fx2 : w.frozen? ⟨px, 2, none⟩ = false) (cx3 : w.cell? ⟨px, 3, none⟩ = some (.int .i64 0)) (fx3 : w.frozen? ⟨px, 3, none⟩ = false) (cx4 : w.cell? ⟨px, 4, none⟩ = some (.int .i64 0)) (fx4 : w.frozen? ⟨px, 4, none⟩ = false) (cx5 : w.cell? ⟨px, 5, none⟩ = some (.int .i64 0)) (fx5 : w.frozen? ⟨px, 5, none⟩ = false) (cx6 : w.cell? ⟨px, 6, none⟩ = some (.int .i64 0)) (fx6 : w.frozen? ⟨px, 6, none⟩ = false) (cx7 : w.cell? ⟨px, 7, none⟩ = some (.int .i64 0)) (fx7 : w.frozen? ⟨px, 7, none⟩ = false) (cy0 : w.cell? ⟨py, 0, none⟩ = some (.int .i64 0)) (fy0 : w.frozen? ⟨py, 0, none⟩ = false) (cy1 : w.cell? ⟨py, 1, none⟩ = some (.int .i64 0)) (fy1 : w.frozen? ⟨py, 1, none⟩ = false) (nb : ¬ px = b) (nc : ¬ py = b) (nd : ¬ py = px) (x0 : Hid (Nx s0 6 m0 s1)) (x1 : Hid (Nx s1 6 m1 s2)) (x2 : Hid (Nx s2 6 m2 s3)) (x3 : Hid (Nx s3 6 m3 s4)) (x4 : Hid (Nx s4 6 m4 s5)) (x5 : Hid (Nx s5 6 m5 s6)) (x6 : Hid (Nx s6 6 m6 s7)) (x7 : Hid (Nx s7 6 m7 s8)) (y0 : Hid (Nx s8 6 t s9)) (y1 : Hid (Nx s9 1 who s10)) (hg0 : goodB (m0 : Int) (m1 : Int) (m2 : Int) (m3 : Int) (m4 : Int) (m5 : Int) (m6 : Int) (m7 : Int) = true) (hs0 : (isB (t : Int) (who : Int) = true ∨ (isB (t : Int) (who : Int) = false ∧ t = 0 ∧ who = 0))) :
    Calls Try.prog 76 #[eyeP b, .pointer (some ⟨px, 0, none⟩), .pointer (some ⟨py, 0, none⟩)] w fun e w' => e = .returned (.tuple #[]) ∧ ∃ j, w' = wext (((((((((((eyeSet w b s10).setCell ⟨px, 0, none⟩ (.int .i64 (m0 : Int))).setCell ⟨px, 1, none⟩ (.int .i64 (m1 : Int))).setCell ⟨px, 2, none⟩ (.int .i64 (m2 : Int))).setCell ⟨px, 3, none⟩ (.int .i64 (m3 : Int))).setCell ⟨px, 4, none⟩ (.int .i64 (m4 : Int))).setCell ⟨px, 5, none⟩ (.int .i64 (m5 : Int))).setCell ⟨px, 6, none⟩ (.int .i64 (m6 : Int))).setCell ⟨px, 7, none⟩ (.int .i64 (m7 : Int))).setCell ⟨py, 0, none⟩ (.int .i64 (t : Int))).setCell ⟨py, 1, none⟩ (.int .i64 (who : Int))) j := by
  have hlt := leB_of_cell ho
  have hlx := leB_of_cell cx0
  have hly := leB_of_cell cy0
  have hg := Lib.hid hg0
  have hs := Lib.hid hs0
  clear hg0 hs0
  go_enter Try.func76, Try.ntmps76
  go_wp2_with (first | (go_at_call 77; (with_reducible refine (see_yes b s0 s1 s2 s3 s4 s5 s6 s7 s8 m0 m1 m2 m3 m4 m5 m6 m7 _ ?_ ?_ ?_ x0 x1 x2 x3 x4 x5 x6 x7 hg.out).mono ?_); (· go_cell); (· go_cell); (· simp [go_sem, hlt, hf]); rintro e1 w1 ⟨rfl, j1, rfl⟩) | (go_at_call 78; (with_reducible refine (seeS_ret b s8 s9 s10 t who _ ?_ ?_ ?_ y0 y1 hs.out).mono ?_); (· go_cell); (· go_cell); (· simp [go_sem, hlt, hf]); rintro e1 w1 ⟨rfl, j1, rfl⟩))
  go_end0
  exact ⟨rfl, _, rfl⟩
set_option maxHeartbeats 8000000 in
set_option maxRecDepth 100000 in
theorem read76_ok (A : Option Addr) (c : Nat) (l : List Int) (px py : Nat) (s0 s1 s2 s3 s4 s5 s6 s7 s8 s9 s10 : ByteArray) (m0 m1 m2 m3 m4 m5 m6 m7 t who : Nat) (w : World) (hC : ReadsB w A l) (hl : strOfNums l = s0) (cx0 : w.cell? ⟨px, 0, none⟩ = some (.int .i64 0)) (fx0 : w.frozen? ⟨px, 0, none⟩ = false) (cx1 : w.cell? ⟨px, 1, none⟩ = some (.int .i64 0)) (fx1 : w.frozen? ⟨px, 1, none⟩ = false) (cx2 : w.cell? ⟨px, 2, none⟩ = some (.int .i64 0)) (fx2 : w.frozen? ⟨px, 2, none⟩ = false) (cx3 : w.cell? ⟨px, 3, none⟩ = some (.int .i64 0)) (fx3 : w.frozen? ⟨px, 3, none⟩ = false) (cx4 : w.cell? ⟨px, 4, none⟩ = some (.int .i64 0)) (fx4 : w.frozen? ⟨px, 4, none⟩ = false) (cx5 : w.cell? ⟨px, 5, none⟩ = some (.int .i64 0)) (fx5 : w.frozen? ⟨px, 5, none⟩ = false) (cx6 : w.cell? ⟨px, 6, none⟩ = some (.int .i64 0)) (fx6 : w.frozen? ⟨px, 6, none⟩ = false) (cx7 : w.cell? ⟨px, 7, none⟩ = some (.int .i64 0)) (fx7 : w.frozen? ⟨px, 7, none⟩ = false) (cy0 : w.cell? ⟨py, 0, none⟩ = some (.int .i64 0)) (fy0 : w.frozen? ⟨py, 0, none⟩ = false) (cy1 : w.cell? ⟨py, 1, none⟩ = some (.int .i64 0)) (fy1 : w.frozen? ⟨py, 1, none⟩ = false) (nd : ¬ py = px) (x0 : Hid (Nx s0 6 m0 s1)) (x1 : Hid (Nx s1 6 m1 s2)) (x2 : Hid (Nx s2 6 m2 s3)) (x3 : Hid (Nx s3 6 m3 s4)) (x4 : Hid (Nx s4 6 m4 s5)) (x5 : Hid (Nx s5 6 m5 s6)) (x6 : Hid (Nx s6 6 m6 s7)) (x7 : Hid (Nx s7 6 m7 s8)) (y0 : Hid (Nx s8 6 t s9)) (y1 : Hid (Nx s9 1 who s10)) (h10 : s10 = ⟨#[]⟩) (hg0 : goodB (m0 : Int) (m1 : Int) (m2 : Int) (m3 : Int) (m4 : Int) (m5 : Int) (m6 : Int) (m7 : Int) = true) (hs0 : (isB (t : Int) (who : Int) = true ∨ (isB (t : Int) (who : Int) = false ∧ t = 0 ∧ who = 0))) :
    Calls Try.prog 48 #[.slice A l.length c, .func (.func 76) #[] #[.pointer (some ⟨px, 0, none⟩), .pointer (some ⟨py, 0, none⟩)]] w fun e w' => e = .returned (.int .i64 0) ∧ ∃ j, w' = wext ((((((((((w.setCell ⟨px, 0, none⟩ (.int .i64 (m0 : Int))).setCell ⟨px, 1, none⟩ (.int .i64 (m1 : Int))).setCell ⟨px, 2, none⟩ (.int .i64 (m2 : Int))).setCell ⟨px, 3, none⟩ (.int .i64 (m3 : Int))).setCell ⟨px, 4, none⟩ (.int .i64 (m4 : Int))).setCell ⟨px, 5, none⟩ (.int .i64 (m5 : Int))).setCell ⟨px, 6, none⟩ (.int .i64 (m6 : Int))).setCell ⟨px, 7, none⟩ (.int .i64 (m7 : Int))).setCell ⟨py, 0, none⟩ (.int .i64 (t : Int))).setCell ⟨py, 1, none⟩ (.int .i64 (who : Int))) j := by
  have hlx := leB_of_cell cx0
  have hly := leB_of_cell cy0
  have hbx := World.block_lt_of_cell? w _ cx0
  have hby := World.block_lt_of_cell? w _ cy0
  simp only at hbx hby
  have hmf : ∀ (fn : Fn) (first cap : Array Value) (w : World), (Instr.makeFunc fn first cap).run Try.prog w = .ok (.func fn first cap) w := fun _ _ _ _ => rfl
  have hcv : ∀ o, (convert 43 9 (.slice A l.length c)).run Try.prog (w.alloc o) = .ok (.string s0) (w.alloc o) := fun o => by rw [← hl]; exact conv_read hC c _ ((Below.refl _ _).alloc (Nat.le_refl _) o)
  have htn := toList_nil
  have hnq : ∀ W, (binOp .neq 55 (.func (.func 76) #[] #[.pointer (some ⟨px, 0, none⟩), .pointer (some ⟨py, 0, none⟩)]) .nilFunc).run Try.prog W = .ok (.bool true) W := fun _ => by kernel_rfl
  generalize l.length = n at *
  clear hC hl
  have hg := Lib.hid hg0
  have hs := Lib.hid hs0
  clear hg0 hs0
  subst h10
  go_enter_defers Try.func48, Try.ntmps48
  go_wp2_with (go_at_call 76; refine (look76 _ px py s0 s1 s2 s3 s4 s5 s6 s7 s8 s9 _ m0 m1 m2 m3 m4 m5 m6 m7 t who _ (by go_cell) (by go_cell) (by simp [go_sem]) (by simp [go_sem, hlx, cx0]) (by simp [go_sem, hlx, fx0]) (by simp [go_sem, hlx, cx1]) (by simp [go_sem, hlx, fx1]) (by simp [go_sem, hlx, cx2]) (by simp [go_sem, hlx, fx2]) (by simp [go_sem, hlx, cx3]) (by simp [go_sem, hlx, fx3]) (by simp [go_sem, hlx, cx4]) (by simp [go_sem, hlx, fx4]) (by simp [go_sem, hlx, cx5]) (by simp [go_sem, hlx, fx5]) (by simp [go_sem, hlx, cx6]) (by simp [go_sem, hlx, fx6]) (by simp [go_sem, hlx, cx7]) (by simp [go_sem, hlx, fx7]) (by simp [go_sem, hly, cy0]) (by simp [go_sem, hly, fy0]) (by simp [go_sem, hly, cy1]) (by simp [go_sem, hly, fy1]) (by omega) (by omega) nd x0 x1 x2 x3 x4 x5 x6 x7 y0 y1 hg.out hs.out).mono ?_; rintro e1 w1 ⟨rfl, j1, rfl⟩)
  refine leaves_cons (f := 88) (args := #[.pointer (some ⟨w.heap.size + 1 + 1, 0, none⟩), .pointer (some ⟨w.heap.size, 0, none⟩)]) (by simp) (by simp [go_sem]) ?_
  refine (catch_idle (w.heap.size + 1 + 1) w.heap.size (w.heap.size + 1) _ (by simp [go_sem]) (by simp [go_sem]) (by simp [go_sem])).mono ?_
  rintro e u' w'' ⟨rfl, rfl, rfl⟩
  simp [Leaves, settle, results, Try.results48, go_sem]
  exact w_grown (by (repeat' (first | (with_reducible exact Below.refl _ _) | (with_reducible assumption) | (with_reducible exact below_app _ _ _ _) | (with_reducible refine below_pre ?_; (simp only [List.append_assoc, List.prefix_append, List.prefix_refl, List.prefix_append_right_inj])) | (with_reducible refine Below.alloc ?_ ?_ _) | (with_reducible refine below_ext ?_ ?_ _) | (with_reducible refine Below.drew ?_) | (with_reducible refine below_drewN ?_ _) | (with_reducible refine Below.setCell ?_ ?_ _) | go_size | (simp only [w_size_ext, List.length_append, World.alloc_size]; omega) | (simp; done) | (simp; omega))))
set_option maxHeartbeats 8000000 in
set_option maxRecDepth 100000 in
theorem look76_no (b px py : Nat) (s0 s1 s2 s3 s4 s5 s6 s7 s8 s9 s10 : ByteArray) (m0 m1 m2 m3 m4 m5 m6 m7 t who : Nat) (w : World) (hr : w.cell? ⟨b, 0, none⟩ = some (.string s0)) (ho : w.cell? ⟨b, 1, none⟩ = some (.bool true)) (hf : w.frozen? ⟨b, 0, none⟩ = false) (x0 : Hid (Nx s0 6 m0 s1)) (x1 : Hid (Nx s1 6 m1 s2)) (x2 : Hid (Nx s2 6 m2 s3)) (x3 : Hid (Nx s3 6 m3 s4)) (x4 : Hid (Nx s4 6 m4 s5)) (x5 : Hid (Nx s5 6 m5 s6)) (x6 : Hid (Nx s6 6 m6 s7)) (x7 : Hid (Nx s7 6 m7 s8)) (y0 : Hid (Nx s8 6 t s9)) (y1 : Hid (Nx s9 1 who s10)) (hbad : (goodB (m0 : Int) (m1 : Int) (m2 : Int) (m3 : Int) (m4 : Int) (m5 : Int) (m6 : Int) (m7 : Int) = false ∨ (goodB (m0 : Int) (m1 : Int) (m2 : Int) (m3 : Int) (m4 : Int) (m5 : Int) (m6 : Int) (m7 : Int) = true ∧ isB (t : Int) (who : Int) = false ∧ ¬ (t = 0 ∧ who = 0)))) :
    Calls Try.prog 76 #[eyeP b, .pointer (some ⟨px, 0, none⟩), .pointer (some ⟨py, 0, none⟩)] w fun e w' => e = .panicked [fault 201] ∧ ∃ s' j, w' = wext (eyeSet w b s') j := by
  have hlt := leB_of_cell ho
  rcases hbad with h | ⟨h, h2, h3⟩
  · have hg := Lib.hid h
    clear h
    go_enter Try.func76, Try.ntmps76
    go_wp2_with (first | (go_at_call 77; (with_reducible refine (see_no b s0 s1 s2 s3 s4 s5 s6 s7 s8 m0 m1 m2 m3 m4 m5 m6 m7 _ ?_ ?_ ?_ x0 x1 x2 x3 x4 x5 x6 x7 hg.out).mono ?_); (· go_cell); (· go_cell); (· simp [go_sem, hlt, hf]); rintro e1 w1 ⟨rfl, s', j1, rfl⟩) | fail)
    exact ⟨rfl, rfl, s', w_grown (by (repeat' (first | (with_reducible exact Below.refl _ _) | (with_reducible assumption) | (with_reducible exact below_app _ _ _ _) | (with_reducible refine below_pre ?_; (simp only [List.append_assoc, List.prefix_append, List.prefix_refl, List.prefix_append_right_inj])) | (with_reducible refine Below.alloc ?_ ?_ _) | (with_reducible refine below_ext ?_ ?_ _) | (with_reducible refine Below.drew ?_) | (with_reducible refine below_drewN ?_ _) | (with_reducible refine Below.setCell ?_ ?_ _) | go_size | (simp only [w_size_ext, List.length_append, World.alloc_size]; omega) | (simp; done) | (simp; omega))))⟩
  · have hg := Lib.hid h
    have hs := Lib.hid (And.intro h2 h3)
    clear h h2 h3
    go_enter Try.func76, Try.ntmps76
    go_wp2_with (first | (go_at_call 77; (with_reducible refine (see_yes b s0 s1 s2 s3 s4 s5 s6 s7 s8 m0 m1 m2 m3 m4 m5 m6 m7 _ ?_ ?_ ?_ x0 x1 x2 x3 x4 x5 x6 x7 hg.out).mono ?_); (· go_cell); (· go_cell); (· simp [go_sem, hlt, hf]); rintro e1 w1 ⟨rfl, j1, rfl⟩) | (go_at_call 78; (with_reducible refine (seeS_thr b s8 s9 s10 t who _ ?_ ?_ ?_ y0 y1 hs.out.1 hs.out.2).mono ?_); (· go_cell); (· go_cell); (· simp [go_sem, hlt, hf]); rintro e1 w1 ⟨rfl, s', j1, rfl⟩))
    exact ⟨rfl, rfl, s', w_grown (by (repeat' (first | (with_reducible exact Below.refl _ _) | (with_reducible assumption) | (with_reducible exact below_app _ _ _ _) | (with_reducible refine below_pre ?_; (simp only [List.append_assoc, List.prefix_append, List.prefix_refl, List.prefix_append_right_inj])) | (with_reducible refine Below.alloc ?_ ?_ _) | (with_reducible refine below_ext ?_ ?_ _) | (with_reducible refine Below.drew ?_) | (with_reducible refine below_drewN ?_ _) | (with_reducible refine Below.setCell ?_ ?_ _) | go_size | (simp only [w_size_ext, List.length_append, World.alloc_size]; omega) | (simp; done) | (simp; omega))))⟩
set_option maxHeartbeats 8000000 in
set_option maxRecDepth 100000 in
theorem read76_no (A : Option Addr) (c : Nat) (l : List Int) (px py : Nat) (s0 s1 s2 s3 s4 s5 s6 s7 s8 s9 s10 : ByteArray) (m0 m1 m2 m3 m4 m5 m6 m7 t who : Nat) (w : World) (hC : ReadsB w A l) (hl : strOfNums l = s0) (cx0 : w.cell? ⟨px, 0, none⟩ = some (.int .i64 0)) (fx0 : w.frozen? ⟨px, 0, none⟩ = false) (cx1 : w.cell? ⟨px, 1, none⟩ = some (.int .i64 0)) (fx1 : w.frozen? ⟨px, 1, none⟩ = false) (cx2 : w.cell? ⟨px, 2, none⟩ = some (.int .i64 0)) (fx2 : w.frozen? ⟨px, 2, none⟩ = false) (cx3 : w.cell? ⟨px, 3, none⟩ = some (.int .i64 0)) (fx3 : w.frozen? ⟨px, 3, none⟩ = false) (cx4 : w.cell? ⟨px, 4, none⟩ = some (.int .i64 0)) (fx4 : w.frozen? ⟨px, 4, none⟩ = false) (cx5 : w.cell? ⟨px, 5, none⟩ = some (.int .i64 0)) (fx5 : w.frozen? ⟨px, 5, none⟩ = false) (cx6 : w.cell? ⟨px, 6, none⟩ = some (.int .i64 0)) (fx6 : w.frozen? ⟨px, 6, none⟩ = false) (cx7 : w.cell? ⟨px, 7, none⟩ = some (.int .i64 0)) (fx7 : w.frozen? ⟨px, 7, none⟩ = false) (cy0 : w.cell? ⟨py, 0, none⟩ = some (.int .i64 0)) (fy0 : w.frozen? ⟨py, 0, none⟩ = false) (cy1 : w.cell? ⟨py, 1, none⟩ = some (.int .i64 0)) (fy1 : w.frozen? ⟨py, 1, none⟩ = false) (nd : ¬ py = px) (x0 : Hid (Nx s0 6 m0 s1)) (x1 : Hid (Nx s1 6 m1 s2)) (x2 : Hid (Nx s2 6 m2 s3)) (x3 : Hid (Nx s3 6 m3 s4)) (x4 : Hid (Nx s4 6 m4 s5)) (x5 : Hid (Nx s5 6 m5 s6)) (x6 : Hid (Nx s6 6 m6 s7)) (x7 : Hid (Nx s7 6 m7 s8)) (y0 : Hid (Nx s8 6 t s9)) (y1 : Hid (Nx s9 1 who s10)) (hbad0 : (goodB (m0 : Int) (m1 : Int) (m2 : Int) (m3 : Int) (m4 : Int) (m5 : Int) (m6 : Int) (m7 : Int) = false ∨ (goodB (m0 : Int) (m1 : Int) (m2 : Int) (m3 : Int) (m4 : Int) (m5 : Int) (m6 : Int) (m7 : Int) = true ∧ isB (t : Int) (who : Int) = false ∧ ¬ (t = 0 ∧ who = 0)))) :
    Calls Try.prog 48 #[.slice A l.length c, .func (.func 76) #[] #[.pointer (some ⟨px, 0, none⟩), .pointer (some ⟨py, 0, none⟩)]] w (Ret (.int .i64 201) w) := by
  have hlx := leB_of_cell cx0
  have hly := leB_of_cell cy0
  have hbx := World.block_lt_of_cell? w _ cx0
  have hby := World.block_lt_of_cell? w _ cy0
  simp only at hbx hby
  have hmf : ∀ (fn : Fn) (first cap : Array Value) (w : World), (Instr.makeFunc fn first cap).run Try.prog w = .ok (.func fn first cap) w := fun _ _ _ _ => rfl
  have hcv : ∀ o, (convert 43 9 (.slice A l.length c)).run Try.prog (w.alloc o) = .ok (.string s0) (w.alloc o) := fun o => by rw [← hl]; exact conv_read hC c _ ((Below.refl _ _).alloc (Nat.le_refl _) o)
  have htn := toList_nil
  have hnq : ∀ W, (binOp .neq 55 (.func (.func 76) #[] #[.pointer (some ⟨px, 0, none⟩), .pointer (some ⟨py, 0, none⟩)]) .nilFunc).run Try.prog W = .ok (.bool true) W := fun _ => by kernel_rfl
  generalize l.length = n at *
  clear hC hl
  have hbad := Lib.hid hbad0
  clear hbad0
  go_enter_defers Try.func48, Try.ntmps48
  go_wp2_with (go_at_call 76; refine (look76_no _ px py s0 s1 s2 s3 s4 s5 s6 s7 s8 s9 s10 m0 m1 m2 m3 m4 m5 m6 m7 t who _ (by go_cell) (by go_cell) (by simp [go_sem]) x0 x1 x2 x3 x4 x5 x6 x7 y0 y1 hbad.out).mono ?_; rintro e1 w1 ⟨rfl, s', j1, rfl⟩)
  refine leaves_cons (f := 88) (args := #[.pointer (some ⟨w.heap.size + 1 + 1, 0, none⟩), .pointer (some ⟨w.heap.size, 0, none⟩)]) (by simp) (by simp [go_sem]) ?_
  refine (catch_fault (w.heap.size + 1 + 1) w.heap.size (w.heap.size + 1) 201 _ _ (by simp [go_sem]) (by simp [go_sem]) (by simp [go_sem]) (by simp [go_sem]; rfl) (by simp [go_sem])).mono ?_
  rintro e u' w'' ⟨rfl, rfl, j2, rfl⟩
  simp [Leaves, settle, results, Try.results48, go_sem]
  exact Ret.mk rfl (by (repeat' (first | (with_reducible exact Below.refl _ _) | (with_reducible assumption) | (with_reducible exact below_app _ _ _ _) | (with_reducible refine below_pre ?_; (simp only [List.append_assoc, List.prefix_append, List.prefix_refl, List.prefix_append_right_inj])) | (with_reducible refine Below.alloc ?_ ?_ _) | (with_reducible refine below_ext ?_ ?_ _) | (with_reducible refine Below.drew ?_) | (with_reducible refine below_drewN ?_ _) | (with_reducible refine Below.setCell ?_ ?_ _) | go_size | (simp only [w_size_ext, List.length_append, World.alloc_size]; omega) | (simp; done) | (simp; omega))))
end Go.Proofs.Ytdjmpedfeahajaa
