/- Helper lemmas: a stamp and a vector that are seen of any bytes, by the program and by the reference, and the walk of the law that compares them. No condition. -/
import Derived.Test.YtdjmpedfeahajaaR4
import Derived.Test.YtdjmpedfeahajaaR1
import Derived.Test.YtdjmpedfeahajaaPSeeStampx1
import Derived.Test.YtdjmpedfeahajaaPEndx1
import Derived.Test.YtdjmpedfeahajaaV5
set_option linter.unusedSimpArgs false
set_option linter.unusedVariables false
namespace Go.Proofs.Ytdjmpedfeahajaa
open Go.RowKit Go.Proofs.YtdjmpedfeahajaaW.PrintWords Go.Proofs.YtdjmpedfeahajaaW.PrintLast Go.Proofs.YtdjmpedfeahajaaW.PrintMore

theorem set_self (w : World) (b o : Nat) (v : Value) (h : w.cell? ⟨b, o, none⟩ = some v) : w.setCell ⟨b, o, none⟩ v = w := by
  have key : ∀ f : Obj → Obj, (∀ x, w.heap[b]? = some x → f x = x) → w.heap.modify b f = w.heap := by
    intro f hf
    apply Array.ext_getElem?
    intro i
    rw [Array.getElem?_modify]
    split
    · rename_i hi
      subst hi
      cases hx : w.heap[b]? with
      | none => rfl
      | some x => simp [hf x hx]
    · rfl
  unfold World.setCell
  rw [key]
  intro x hx
  unfold World.cell? at h
  simp only at h
  rw [hx] at h
  cases x with
  | cells c e fr =>
    simp at h ⊢
    apply Array.ext_getElem?
    intro i
    rw [Array.getElem?_setIfInBounds]
    split
    · rename_i hi
      subst hi
      rw [h]
      obtain ⟨hlt, _⟩ := Array.getElem?_eq_some_iff.1 h
      rw [if_pos hlt]
    · rfl
  | _ => rfl
theorem nx_get (s : ByteArray) (n : Nat) (h : n ≤ s.size) (hn : n ≤ 6) : ∃ m t, Nx s n m t ∧ t.size = s.size - n := by
  have hb : numOf s n < 256 ^ n := by
    have h1 := beNat_lt (s.extract 0 n).data.toList
    have h2 : (s.extract 0 n).data.toList.length = n := by
      have : (s.extract 0 n).size = n := by simp; omega
      exact this
    rw [h2] at h1
    exact h1
  have hp : 256 ^ n ≤ 256 ^ 6 := Nat.pow_le_pow_right (by omega) hn
  refine ⟨numOf s n, s.extract n s.size, ⟨h, rfl, ?_, rfl⟩, by simp⟩
  have : (256 : Nat) ^ 6 < 9223372036854775808 := by decide
  omega
theorem nx_size {s t : ByteArray} {n m : Nat} (h : Nx s n m t) : t.size = s.size - n := by
  obtain ⟨_, _, _, rfl⟩ := h
  simp
theorem num_short6 (b : Nat) (s : ByteArray) (w : World) (hr : w.cell? ⟨b, 0, none⟩ = some (.string s)) (ho : w.cell? ⟨b, 1, none⟩ = some (.bool true)) (hn : s.size < 6) : Calls Try.prog 50 #[eyeP b, .int .i64 6] w (Throws 201 w) :=
  num_short b s 6 w hr ho (by omega) (by omega) (by omega)
theorem num_short1 (b : Nat) (s : ByteArray) (w : World) (hr : w.cell? ⟨b, 0, none⟩ = some (.string s)) (ho : w.cell? ⟨b, 1, none⟩ = some (.bool true)) (hn : s.size < 1) : Calls Try.prog 50 #[eyeP b, .int .i64 1] w (Throws 201 w) :=
  num_short b s 1 w hr ho (by omega) (by omega) (by omega)
set_option maxHeartbeats 8000000 in
set_option maxRecDepth 100000 in
theorem seeS_short (b : Nat) (s0 : ByteArray) (w : World) (hr : w.cell? ⟨b, 0, none⟩ = some (.string s0)) (ho : w.cell? ⟨b, 1, none⟩ = some (.bool true)) (hf : w.frozen? ⟨b, 0, none⟩ = false) (h : s0.size < 7) : Calls Try.prog 78 #[eyeP b] w fun e w' => e = .panicked [fault 201] ∧ ∃ s' j, w' = wext (eyeSet w b s') j := by
  have hlt := leB_of_cell ho
  by_cases h6 : s0.size < 6
  · have HS := Lib.hid h6
    clear h h6
    go_enter Try.func78, Try.ntmps78
    go_wp2_with (go_at_call 50; (with_reducible refine (num_short6 b s0 _ ?_ ?_ HS.out).mono ?_); (· go_cell); (· go_cell); rintro e1 w1 ⟨rfl, j1, rfl⟩)
    exact ⟨rfl, rfl, s0, by rw [eyeSet, set_self w b 0 _ hr]; exact w_grown (by (repeat' (first | (with_reducible exact Below.refl _ _) | (with_reducible assumption) | (with_reducible exact below_app _ _ _ _) | (with_reducible refine below_pre ?_; (simp only [List.append_assoc, List.prefix_append, List.prefix_refl, List.prefix_append_right_inj])) | (with_reducible refine Below.alloc ?_ ?_ _) | (with_reducible refine below_ext ?_ ?_ _) | (with_reducible refine Below.drew ?_) | (with_reducible refine below_drewN ?_ _) | (with_reducible refine Below.setCell ?_ ?_ _) | go_size | (simp only [w_size_ext, List.length_append, World.alloc_size]; omega) | (simp; done) | (simp; omega))))⟩
  · obtain ⟨t, s1, hx, hsz⟩ := nx_get s0 6 (by omega) (by omega)
    have HS := Lib.hid (show s1.size < 1 by omega)
    have x0 := Lib.hid hx
    clear h h6 hx hsz
    go_enter Try.func78, Try.ntmps78
    go_wp2_with (first | (go_at_call 50; (with_reducible refine (num_nx6 b s0 s1 t _ ?_ ?_ ?_ x0.out).mono ?_); (· go_cell); (· go_cell); (· simp [go_sem, hlt, hf]); rintro e1 w1 ⟨rfl, j1, rfl⟩) | (go_at_call 50; (with_reducible refine (num_short1 b s1 _ ?_ ?_ HS.out).mono ?_); (· go_cell); (· go_cell); rintro e1 w1 ⟨rfl, j1, rfl⟩))
    exact ⟨rfl, rfl, s1, w_grown (by (repeat' (first | (with_reducible exact Below.refl _ _) | (with_reducible assumption) | (with_reducible exact below_app _ _ _ _) | (with_reducible refine below_pre ?_; (simp only [List.append_assoc, List.prefix_append, List.prefix_refl, List.prefix_append_right_inj])) | (with_reducible refine Below.alloc ?_ ?_ _) | (with_reducible refine below_ext ?_ ?_ _) | (with_reducible refine Below.drew ?_) | (with_reducible refine below_drewN ?_ _) | (with_reducible refine Below.setCell ?_ ?_ _) | go_size | (simp only [w_size_ext, List.length_append, World.alloc_size]; omega) | (simp; done) | (simp; omega))))⟩
set_option maxHeartbeats 8000000 in
set_option maxRecDepth 100000 in
theorem see_short0 (b : Nat) (s0 : ByteArray) (w : World) (hr : w.cell? ⟨b, 0, none⟩ = some (.string s0)) (ho : w.cell? ⟨b, 1, none⟩ = some (.bool true)) (hf : w.frozen? ⟨b, 0, none⟩ = false)  (HS : Hid (s0.size < 6)) : Calls Try.prog 77 #[eyeP b] w fun e w' => e = .panicked [fault 201] ∧ ∃ s' j, w' = wext (eyeSet w b s') j := by
  have hlt := leB_of_cell ho
  go_enter Try.func77, Try.ntmps77
  go_wp2
  refine wp_loop_rounds 9 ?_
  repeat any_goals (rw [rounds_succ]; go_wp2_with (first | (go_at_call 50; (with_reducible refine (num_short6 b s0 _ ?_ ?_ HS.out).mono ?_); (· go_cell); (· go_cell); rintro e1 w1 ⟨rfl, j1, rfl⟩)))
  exact ⟨rfl, rfl, s0, by rw [eyeSet, set_self w b 0 _ hr]; exact w_grown (by (repeat' (first | (with_reducible exact Below.refl _ _) | (with_reducible assumption) | (with_reducible exact below_app _ _ _ _) | (with_reducible refine below_pre ?_; (simp only [List.append_assoc, List.prefix_append, List.prefix_refl, List.prefix_append_right_inj])) | (with_reducible refine Below.alloc ?_ ?_ _) | (with_reducible refine below_ext ?_ ?_ _) | (with_reducible refine Below.drew ?_) | (with_reducible refine below_drewN ?_ _) | (with_reducible refine Below.setCell ?_ ?_ _) | go_size | (simp only [w_size_ext, List.length_append, World.alloc_size]; omega) | (simp; done) | (simp; omega))))⟩
set_option maxHeartbeats 8000000 in
set_option maxRecDepth 100000 in
theorem see_short1 (b : Nat) (s0 s1 : ByteArray) (m0 : Nat) (w : World) (hr : w.cell? ⟨b, 0, none⟩ = some (.string s0)) (ho : w.cell? ⟨b, 1, none⟩ = some (.bool true)) (hf : w.frozen? ⟨b, 0, none⟩ = false) (x0 : Hid (Nx s0 6 m0 s1)) (HS : Hid (s1.size < 6)) : Calls Try.prog 77 #[eyeP b] w fun e w' => e = .panicked [fault 201] ∧ ∃ s' j, w' = wext (eyeSet w b s') j := by
  have hlt := leB_of_cell ho
  go_enter Try.func77, Try.ntmps77
  go_wp2
  refine wp_loop_rounds 9 ?_
  repeat any_goals (rw [rounds_succ]; go_wp2_with (first | (go_at_call 50; (with_reducible refine (num_nx6 b s0 s1 m0 _ ?_ ?_ ?_ x0.out).mono ?_); (· go_cell); (· go_cell); (· simp [go_sem, hlt, hf]); rintro e1 w1 ⟨rfl, j1, rfl⟩) | (go_at_call 50; (with_reducible refine (num_short6 b s1 _ ?_ ?_ HS.out).mono ?_); (· go_cell); (· go_cell); rintro e1 w1 ⟨rfl, j1, rfl⟩)))
  exact ⟨rfl, rfl, s1, w_grown (by (repeat' (first | (with_reducible exact Below.refl _ _) | (with_reducible assumption) | (with_reducible exact below_app _ _ _ _) | (with_reducible refine below_pre ?_; (simp only [List.append_assoc, List.prefix_append, List.prefix_refl, List.prefix_append_right_inj])) | (with_reducible refine Below.alloc ?_ ?_ _) | (with_reducible refine below_ext ?_ ?_ _) | (with_reducible refine Below.drew ?_) | (with_reducible refine below_drewN ?_ _) | (with_reducible refine Below.setCell ?_ ?_ _) | go_size | (simp only [w_size_ext, List.length_append, World.alloc_size]; omega) | (simp; done) | (simp; omega))))⟩
set_option maxHeartbeats 8000000 in
set_option maxRecDepth 100000 in
theorem see_short2 (b : Nat) (s0 s1 s2 : ByteArray) (m0 m1 : Nat) (w : World) (hr : w.cell? ⟨b, 0, none⟩ = some (.string s0)) (ho : w.cell? ⟨b, 1, none⟩ = some (.bool true)) (hf : w.frozen? ⟨b, 0, none⟩ = false) (x0 : Hid (Nx s0 6 m0 s1)) (x1 : Hid (Nx s1 6 m1 s2)) (HS : Hid (s2.size < 6)) : Calls Try.prog 77 #[eyeP b] w fun e w' => e = .panicked [fault 201] ∧ ∃ s' j, w' = wext (eyeSet w b s') j := by
  have hlt := leB_of_cell ho
  go_enter Try.func77, Try.ntmps77
  go_wp2
  refine wp_loop_rounds 9 ?_
  repeat any_goals (rw [rounds_succ]; go_wp2_with (first | (go_at_call 50; (with_reducible refine (num_nx6 b s0 s1 m0 _ ?_ ?_ ?_ x0.out).mono ?_); (· go_cell); (· go_cell); (· simp [go_sem, hlt, hf]); rintro e1 w1 ⟨rfl, j1, rfl⟩) | (go_at_call 50; (with_reducible refine (num_nx6 b s1 s2 m1 _ ?_ ?_ ?_ x1.out).mono ?_); (· go_cell); (· go_cell); (· simp [go_sem, hlt, hf]); rintro e1 w1 ⟨rfl, j1, rfl⟩) | (go_at_call 50; (with_reducible refine (num_short6 b s2 _ ?_ ?_ HS.out).mono ?_); (· go_cell); (· go_cell); rintro e1 w1 ⟨rfl, j1, rfl⟩)))
  exact ⟨rfl, rfl, s2, w_grown (by (repeat' (first | (with_reducible exact Below.refl _ _) | (with_reducible assumption) | (with_reducible exact below_app _ _ _ _) | (with_reducible refine below_pre ?_; (simp only [List.append_assoc, List.prefix_append, List.prefix_refl, List.prefix_append_right_inj])) | (with_reducible refine Below.alloc ?_ ?_ _) | (with_reducible refine below_ext ?_ ?_ _) | (with_reducible refine Below.drew ?_) | (with_reducible refine below_drewN ?_ _) | (with_reducible refine Below.setCell ?_ ?_ _) | go_size | (simp only [w_size_ext, List.length_append, World.alloc_size]; omega) | (simp; done) | (simp; omega))))⟩
set_option maxHeartbeats 8000000 in
set_option maxRecDepth 100000 in
theorem see_short3 (b : Nat) (s0 s1 s2 s3 : ByteArray) (m0 m1 m2 : Nat) (w : World) (hr : w.cell? ⟨b, 0, none⟩ = some (.string s0)) (ho : w.cell? ⟨b, 1, none⟩ = some (.bool true)) (hf : w.frozen? ⟨b, 0, none⟩ = false) (x0 : Hid (Nx s0 6 m0 s1)) (x1 : Hid (Nx s1 6 m1 s2)) (x2 : Hid (Nx s2 6 m2 s3)) (HS : Hid (s3.size < 6)) : Calls Try.prog 77 #[eyeP b] w fun e w' => e = .panicked [fault 201] ∧ ∃ s' j, w' = wext (eyeSet w b s') j := by
  have hlt := leB_of_cell ho
  go_enter Try.func77, Try.ntmps77
  go_wp2
  refine wp_loop_rounds 9 ?_
  repeat any_goals (rw [rounds_succ]; go_wp2_with (first | (go_at_call 50; (with_reducible refine (num_nx6 b s0 s1 m0 _ ?_ ?_ ?_ x0.out).mono ?_); (· go_cell); (· go_cell); (· simp [go_sem, hlt, hf]); rintro e1 w1 ⟨rfl, j1, rfl⟩) | (go_at_call 50; (with_reducible refine (num_nx6 b s1 s2 m1 _ ?_ ?_ ?_ x1.out).mono ?_); (· go_cell); (· go_cell); (· simp [go_sem, hlt, hf]); rintro e1 w1 ⟨rfl, j1, rfl⟩) | (go_at_call 50; (with_reducible refine (num_nx6 b s2 s3 m2 _ ?_ ?_ ?_ x2.out).mono ?_); (· go_cell); (· go_cell); (· simp [go_sem, hlt, hf]); rintro e1 w1 ⟨rfl, j1, rfl⟩) | (go_at_call 50; (with_reducible refine (num_short6 b s3 _ ?_ ?_ HS.out).mono ?_); (· go_cell); (· go_cell); rintro e1 w1 ⟨rfl, j1, rfl⟩)))
  exact ⟨rfl, rfl, s3, w_grown (by (repeat' (first | (with_reducible exact Below.refl _ _) | (with_reducible assumption) | (with_reducible exact below_app _ _ _ _) | (with_reducible refine below_pre ?_; (simp only [List.append_assoc, List.prefix_append, List.prefix_refl, List.prefix_append_right_inj])) | (with_reducible refine Below.alloc ?_ ?_ _) | (with_reducible refine below_ext ?_ ?_ _) | (with_reducible refine Below.drew ?_) | (with_reducible refine below_drewN ?_ _) | (with_reducible refine Below.setCell ?_ ?_ _) | go_size | (simp only [w_size_ext, List.length_append, World.alloc_size]; omega) | (simp; done) | (simp; omega))))⟩
set_option maxHeartbeats 8000000 in
set_option maxRecDepth 100000 in
theorem see_short4 (b : Nat) (s0 s1 s2 s3 s4 : ByteArray) (m0 m1 m2 m3 : Nat) (w : World) (hr : w.cell? ⟨b, 0, none⟩ = some (.string s0)) (ho : w.cell? ⟨b, 1, none⟩ = some (.bool true)) (hf : w.frozen? ⟨b, 0, none⟩ = false) (x0 : Hid (Nx s0 6 m0 s1)) (x1 : Hid (Nx s1 6 m1 s2)) (x2 : Hid (Nx s2 6 m2 s3)) (x3 : Hid (Nx s3 6 m3 s4)) (HS : Hid (s4.size < 6)) : Calls Try.prog 77 #[eyeP b] w fun e w' => e = .panicked [fault 201] ∧ ∃ s' j, w' = wext (eyeSet w b s') j := by
  have hlt := leB_of_cell ho
  go_enter Try.func77, Try.ntmps77
  go_wp2
  refine wp_loop_rounds 9 ?_
  repeat any_goals (rw [rounds_succ]; go_wp2_with (first | (go_at_call 50; (with_reducible refine (num_nx6 b s0 s1 m0 _ ?_ ?_ ?_ x0.out).mono ?_); (· go_cell); (· go_cell); (· simp [go_sem, hlt, hf]); rintro e1 w1 ⟨rfl, j1, rfl⟩) | (go_at_call 50; (with_reducible refine (num_nx6 b s1 s2 m1 _ ?_ ?_ ?_ x1.out).mono ?_); (· go_cell); (· go_cell); (· simp [go_sem, hlt, hf]); rintro e1 w1 ⟨rfl, j1, rfl⟩) | (go_at_call 50; (with_reducible refine (num_nx6 b s2 s3 m2 _ ?_ ?_ ?_ x2.out).mono ?_); (· go_cell); (· go_cell); (· simp [go_sem, hlt, hf]); rintro e1 w1 ⟨rfl, j1, rfl⟩) | (go_at_call 50; (with_reducible refine (num_nx6 b s3 s4 m3 _ ?_ ?_ ?_ x3.out).mono ?_); (· go_cell); (· go_cell); (· simp [go_sem, hlt, hf]); rintro e1 w1 ⟨rfl, j1, rfl⟩) | (go_at_call 50; (with_reducible refine (num_short6 b s4 _ ?_ ?_ HS.out).mono ?_); (· go_cell); (· go_cell); rintro e1 w1 ⟨rfl, j1, rfl⟩)))
  exact ⟨rfl, rfl, s4, w_grown (by (repeat' (first | (with_reducible exact Below.refl _ _) | (with_reducible assumption) | (with_reducible exact below_app _ _ _ _) | (with_reducible refine below_pre ?_; (simp only [List.append_assoc, List.prefix_append, List.prefix_refl, List.prefix_append_right_inj])) | (with_reducible refine Below.alloc ?_ ?_ _) | (with_reducible refine below_ext ?_ ?_ _) | (with_reducible refine Below.drew ?_) | (with_reducible refine below_drewN ?_ _) | (with_reducible refine Below.setCell ?_ ?_ _) | go_size | (simp only [w_size_ext, List.length_append, World.alloc_size]; omega) | (simp; done) | (simp; omega))))⟩
set_option maxHeartbeats 8000000 in
set_option maxRecDepth 100000 in
theorem see_short5 (b : Nat) (s0 s1 s2 s3 s4 s5 : ByteArray) (m0 m1 m2 m3 m4 : Nat) (w : World) (hr : w.cell? ⟨b, 0, none⟩ = some (.string s0)) (ho : w.cell? ⟨b, 1, none⟩ = some (.bool true)) (hf : w.frozen? ⟨b, 0, none⟩ = false) (x0 : Hid (Nx s0 6 m0 s1)) (x1 : Hid (Nx s1 6 m1 s2)) (x2 : Hid (Nx s2 6 m2 s3)) (x3 : Hid (Nx s3 6 m3 s4)) (x4 : Hid (Nx s4 6 m4 s5)) (HS : Hid (s5.size < 6)) : Calls Try.prog 77 #[eyeP b] w fun e w' => e = .panicked [fault 201] ∧ ∃ s' j, w' = wext (eyeSet w b s') j := by
  have hlt := leB_of_cell ho
  go_enter Try.func77, Try.ntmps77
  go_wp2
  refine wp_loop_rounds 9 ?_
  repeat any_goals (rw [rounds_succ]; go_wp2_with (first | (go_at_call 50; (with_reducible refine (num_nx6 b s0 s1 m0 _ ?_ ?_ ?_ x0.out).mono ?_); (· go_cell); (· go_cell); (· simp [go_sem, hlt, hf]); rintro e1 w1 ⟨rfl, j1, rfl⟩) | (go_at_call 50; (with_reducible refine (num_nx6 b s1 s2 m1 _ ?_ ?_ ?_ x1.out).mono ?_); (· go_cell); (· go_cell); (· simp [go_sem, hlt, hf]); rintro e1 w1 ⟨rfl, j1, rfl⟩) | (go_at_call 50; (with_reducible refine (num_nx6 b s2 s3 m2 _ ?_ ?_ ?_ x2.out).mono ?_); (· go_cell); (· go_cell); (· simp [go_sem, hlt, hf]); rintro e1 w1 ⟨rfl, j1, rfl⟩) | (go_at_call 50; (with_reducible refine (num_nx6 b s3 s4 m3 _ ?_ ?_ ?_ x3.out).mono ?_); (· go_cell); (· go_cell); (· simp [go_sem, hlt, hf]); rintro e1 w1 ⟨rfl, j1, rfl⟩) | (go_at_call 50; (with_reducible refine (num_nx6 b s4 s5 m4 _ ?_ ?_ ?_ x4.out).mono ?_); (· go_cell); (· go_cell); (· simp [go_sem, hlt, hf]); rintro e1 w1 ⟨rfl, j1, rfl⟩) | (go_at_call 50; (with_reducible refine (num_short6 b s5 _ ?_ ?_ HS.out).mono ?_); (· go_cell); (· go_cell); rintro e1 w1 ⟨rfl, j1, rfl⟩)))
  exact ⟨rfl, rfl, s5, w_grown (by (repeat' (first | (with_reducible exact Below.refl _ _) | (with_reducible assumption) | (with_reducible exact below_app _ _ _ _) | (with_reducible refine below_pre ?_; (simp only [List.append_assoc, List.prefix_append, List.prefix_refl, List.prefix_append_right_inj])) | (with_reducible refine Below.alloc ?_ ?_ _) | (with_reducible refine below_ext ?_ ?_ _) | (with_reducible refine Below.drew ?_) | (with_reducible refine below_drewN ?_ _) | (with_reducible refine Below.setCell ?_ ?_ _) | go_size | (simp only [w_size_ext, List.length_append, World.alloc_size]; omega) | (simp; done) | (simp; omega))))⟩
set_option maxHeartbeats 8000000 in
set_option maxRecDepth 100000 in
theorem see_short6 (b : Nat) (s0 s1 s2 s3 s4 s5 s6 : ByteArray) (m0 m1 m2 m3 m4 m5 : Nat) (w : World) (hr : w.cell? ⟨b, 0, none⟩ = some (.string s0)) (ho : w.cell? ⟨b, 1, none⟩ = some (.bool true)) (hf : w.frozen? ⟨b, 0, none⟩ = false) (x0 : Hid (Nx s0 6 m0 s1)) (x1 : Hid (Nx s1 6 m1 s2)) (x2 : Hid (Nx s2 6 m2 s3)) (x3 : Hid (Nx s3 6 m3 s4)) (x4 : Hid (Nx s4 6 m4 s5)) (x5 : Hid (Nx s5 6 m5 s6)) (HS : Hid (s6.size < 6)) : Calls Try.prog 77 #[eyeP b] w fun e w' => e = .panicked [fault 201] ∧ ∃ s' j, w' = wext (eyeSet w b s') j := by
  have hlt := leB_of_cell ho
  go_enter Try.func77, Try.ntmps77
  go_wp2
  refine wp_loop_rounds 9 ?_
  repeat any_goals (rw [rounds_succ]; go_wp2_with (first | (go_at_call 50; (with_reducible refine (num_nx6 b s0 s1 m0 _ ?_ ?_ ?_ x0.out).mono ?_); (· go_cell); (· go_cell); (· simp [go_sem, hlt, hf]); rintro e1 w1 ⟨rfl, j1, rfl⟩) | (go_at_call 50; (with_reducible refine (num_nx6 b s1 s2 m1 _ ?_ ?_ ?_ x1.out).mono ?_); (· go_cell); (· go_cell); (· simp [go_sem, hlt, hf]); rintro e1 w1 ⟨rfl, j1, rfl⟩) | (go_at_call 50; (with_reducible refine (num_nx6 b s2 s3 m2 _ ?_ ?_ ?_ x2.out).mono ?_); (· go_cell); (· go_cell); (· simp [go_sem, hlt, hf]); rintro e1 w1 ⟨rfl, j1, rfl⟩) | (go_at_call 50; (with_reducible refine (num_nx6 b s3 s4 m3 _ ?_ ?_ ?_ x3.out).mono ?_); (· go_cell); (· go_cell); (· simp [go_sem, hlt, hf]); rintro e1 w1 ⟨rfl, j1, rfl⟩) | (go_at_call 50; (with_reducible refine (num_nx6 b s4 s5 m4 _ ?_ ?_ ?_ x4.out).mono ?_); (· go_cell); (· go_cell); (· simp [go_sem, hlt, hf]); rintro e1 w1 ⟨rfl, j1, rfl⟩) | (go_at_call 50; (with_reducible refine (num_nx6 b s5 s6 m5 _ ?_ ?_ ?_ x5.out).mono ?_); (· go_cell); (· go_cell); (· simp [go_sem, hlt, hf]); rintro e1 w1 ⟨rfl, j1, rfl⟩) | (go_at_call 50; (with_reducible refine (num_short6 b s6 _ ?_ ?_ HS.out).mono ?_); (· go_cell); (· go_cell); rintro e1 w1 ⟨rfl, j1, rfl⟩)))
  exact ⟨rfl, rfl, s6, w_grown (by (repeat' (first | (with_reducible exact Below.refl _ _) | (with_reducible assumption) | (with_reducible exact below_app _ _ _ _) | (with_reducible refine below_pre ?_; (simp only [List.append_assoc, List.prefix_append, List.prefix_refl, List.prefix_append_right_inj])) | (with_reducible refine Below.alloc ?_ ?_ _) | (with_reducible refine below_ext ?_ ?_ _) | (with_reducible refine Below.drew ?_) | (with_reducible refine below_drewN ?_ _) | (with_reducible refine Below.setCell ?_ ?_ _) | go_size | (simp only [w_size_ext, List.length_append, World.alloc_size]; omega) | (simp; done) | (simp; omega))))⟩
set_option maxHeartbeats 8000000 in
set_option maxRecDepth 100000 in
theorem see_short7 (b : Nat) (s0 s1 s2 s3 s4 s5 s6 s7 : ByteArray) (m0 m1 m2 m3 m4 m5 m6 : Nat) (w : World) (hr : w.cell? ⟨b, 0, none⟩ = some (.string s0)) (ho : w.cell? ⟨b, 1, none⟩ = some (.bool true)) (hf : w.frozen? ⟨b, 0, none⟩ = false) (x0 : Hid (Nx s0 6 m0 s1)) (x1 : Hid (Nx s1 6 m1 s2)) (x2 : Hid (Nx s2 6 m2 s3)) (x3 : Hid (Nx s3 6 m3 s4)) (x4 : Hid (Nx s4 6 m4 s5)) (x5 : Hid (Nx s5 6 m5 s6)) (x6 : Hid (Nx s6 6 m6 s7)) (HS : Hid (s7.size < 6)) : Calls Try.prog 77 #[eyeP b] w fun e w' => e = .panicked [fault 201] ∧ ∃ s' j, w' = wext (eyeSet w b s') j := by
  have hlt := leB_of_cell ho
  go_enter Try.func77, Try.ntmps77
  go_wp2
  refine wp_loop_rounds 9 ?_
  repeat any_goals (rw [rounds_succ]; go_wp2_with (first | (go_at_call 50; (with_reducible refine (num_nx6 b s0 s1 m0 _ ?_ ?_ ?_ x0.out).mono ?_); (· go_cell); (· go_cell); (· simp [go_sem, hlt, hf]); rintro e1 w1 ⟨rfl, j1, rfl⟩) | (go_at_call 50; (with_reducible refine (num_nx6 b s1 s2 m1 _ ?_ ?_ ?_ x1.out).mono ?_); (· go_cell); (· go_cell); (· simp [go_sem, hlt, hf]); rintro e1 w1 ⟨rfl, j1, rfl⟩) | (go_at_call 50; (with_reducible refine (num_nx6 b s2 s3 m2 _ ?_ ?_ ?_ x2.out).mono ?_); (· go_cell); (· go_cell); (· simp [go_sem, hlt, hf]); rintro e1 w1 ⟨rfl, j1, rfl⟩) | (go_at_call 50; (with_reducible refine (num_nx6 b s3 s4 m3 _ ?_ ?_ ?_ x3.out).mono ?_); (· go_cell); (· go_cell); (· simp [go_sem, hlt, hf]); rintro e1 w1 ⟨rfl, j1, rfl⟩) | (go_at_call 50; (with_reducible refine (num_nx6 b s4 s5 m4 _ ?_ ?_ ?_ x4.out).mono ?_); (· go_cell); (· go_cell); (· simp [go_sem, hlt, hf]); rintro e1 w1 ⟨rfl, j1, rfl⟩) | (go_at_call 50; (with_reducible refine (num_nx6 b s5 s6 m5 _ ?_ ?_ ?_ x5.out).mono ?_); (· go_cell); (· go_cell); (· simp [go_sem, hlt, hf]); rintro e1 w1 ⟨rfl, j1, rfl⟩) | (go_at_call 50; (with_reducible refine (num_nx6 b s6 s7 m6 _ ?_ ?_ ?_ x6.out).mono ?_); (· go_cell); (· go_cell); (· simp [go_sem, hlt, hf]); rintro e1 w1 ⟨rfl, j1, rfl⟩) | (go_at_call 50; (with_reducible refine (num_short6 b s7 _ ?_ ?_ HS.out).mono ?_); (· go_cell); (· go_cell); rintro e1 w1 ⟨rfl, j1, rfl⟩)))
  exact ⟨rfl, rfl, s7, w_grown (by (repeat' (first | (with_reducible exact Below.refl _ _) | (with_reducible assumption) | (with_reducible exact below_app _ _ _ _) | (with_reducible refine below_pre ?_; (simp only [List.append_assoc, List.prefix_append, List.prefix_refl, List.prefix_append_right_inj])) | (with_reducible refine Below.alloc ?_ ?_ _) | (with_reducible refine below_ext ?_ ?_ _) | (with_reducible refine Below.drew ?_) | (with_reducible refine below_drewN ?_ _) | (with_reducible refine Below.setCell ?_ ?_ _) | go_size | (simp only [w_size_ext, List.length_append, World.alloc_size]; omega) | (simp; done) | (simp; omega))))⟩
theorem see_short (b : Nat) (s0 : ByteArray) (w : World) (hr : w.cell? ⟨b, 0, none⟩ = some (.string s0)) (ho : w.cell? ⟨b, 1, none⟩ = some (.bool true)) (hf : w.frozen? ⟨b, 0, none⟩ = false) (h : s0.size < 48) : Calls Try.prog 77 #[eyeP b] w fun e w' => e = .panicked [fault 201] ∧ ∃ s' j, w' = wext (eyeSet w b s') j := by
  by_cases h0 : s0.size < 6
  · exact see_short0 b s0  w hr ho hf  (Lib.hid h0)
  obtain ⟨m0, s1, y0, z0⟩ := nx_get s0 6 (by omega) (by omega)
  have x0 := Lib.hid y0
  by_cases h1 : s1.size < 6
  · exact see_short1 b s0 s1 m0 w hr ho hf x0 (Lib.hid h1)
  obtain ⟨m1, s2, y1, z1⟩ := nx_get s1 6 (by omega) (by omega)
  have x1 := Lib.hid y1
  by_cases h2 : s2.size < 6
  · exact see_short2 b s0 s1 s2 m0 m1 w hr ho hf x0 x1 (Lib.hid h2)
  obtain ⟨m2, s3, y2, z2⟩ := nx_get s2 6 (by omega) (by omega)
  have x2 := Lib.hid y2
  by_cases h3 : s3.size < 6
  · exact see_short3 b s0 s1 s2 s3 m0 m1 m2 w hr ho hf x0 x1 x2 (Lib.hid h3)
  obtain ⟨m3, s4, y3, z3⟩ := nx_get s3 6 (by omega) (by omega)
  have x3 := Lib.hid y3
  by_cases h4 : s4.size < 6
  · exact see_short4 b s0 s1 s2 s3 s4 m0 m1 m2 m3 w hr ho hf x0 x1 x2 x3 (Lib.hid h4)
  obtain ⟨m4, s5, y4, z4⟩ := nx_get s4 6 (by omega) (by omega)
  have x4 := Lib.hid y4
  by_cases h5 : s5.size < 6
  · exact see_short5 b s0 s1 s2 s3 s4 s5 m0 m1 m2 m3 m4 w hr ho hf x0 x1 x2 x3 x4 (Lib.hid h5)
  obtain ⟨m5, s6, y5, z5⟩ := nx_get s5 6 (by omega) (by omega)
  have x5 := Lib.hid y5
  by_cases h6 : s6.size < 6
  · exact see_short6 b s0 s1 s2 s3 s4 s5 s6 m0 m1 m2 m3 m4 m5 w hr ho hf x0 x1 x2 x3 x4 x5 (Lib.hid h6)
  obtain ⟨m6, s7, y6, z6⟩ := nx_get s6 6 (by omega) (by omega)
  have x6 := Lib.hid y6
  by_cases h7 : s7.size < 6
  · exact see_short7 b s0 s1 s2 s3 s4 s5 s6 s7 m0 m1 m2 m3 m4 m5 m6 w hr ho hf x0 x1 x2 x3 x4 x5 x6 (Lib.hid h7)
  obtain ⟨m7, s8, y7, z7⟩ := nx_get s7 6 (by omega) (by omega)
  have x7 := Lib.hid y7
  omega
end Go.Proofs.Ytdjmpedfeahajaa

set_option linter.unusedSimpArgs false
set_option linter.unusedVariables false
namespace Go.Proofs.Ytdjmpedfeahajaa
open Go.RowKit Go.Proofs.YtdjmpedfeahajaaW.PrintWords Go.Proofs.YtdjmpedfeahajaaW.PrintLast Go.Proofs.YtdjmpedfeahajaaW.PrintMore

theorem not_empty (s : ByteArray) (h : ¬ s.size = 0) : s.toList.isEmpty = false := by
  cases he : s.toList.isEmpty with
  | false => rfl
  | true =>
    rw [List.isEmpty_iff, Lib.toList_data] at he
    have := congrArg List.length he
    exact absurd (by simpa using this) h
set_option maxHeartbeats 8000000 in
set_option maxRecDepth 100000 in
theorem look81 (b px py : Nat) (s0 s1 s2 s3 s4 s5 s6 s7 s8 s9 s10 : ByteArray) (m0 m1 m2 m3 m4 m5 m6 m7 t who : Nat) (w : World) (hr : w.cell? ⟨b, 0, none⟩ = some (.string s0)) (ho : w.cell? ⟨b, 1, none⟩ = some (.bool true)) (hf : w.frozen? ⟨b, 0, none⟩ = false) (cx0 : w.cell? ⟨px, 0, none⟩ = some (.int .i64 0)) (fx0 : w.frozen? ⟨px, 0, none⟩ = false) (cx1 : w.cell? ⟨px, 1, none⟩ = some (.int .i64 0)) (fx1 : w.frozen? ⟨px, 1, none⟩ = false) (cx2 : w.cell? ⟨px, 2, none⟩ = some (.int .i64 0)) (fx2 : w.frozen? ⟨px, 2, none⟩ = false) (cx3 : w.cell? ⟨px, 3, none⟩ = some (.int .i64 0)) (fx3 : w.frozen? ⟨px, 3, none⟩ = false) (cx4 : w.cell? ⟨px, 4, none⟩ = some (.int .i64 0)) (fx4 : w.frozen? ⟨px, 4, none⟩ = false) (cx5 : w.cell? ⟨px, 5, none⟩ = some (.int .i64 0)) (fx5 : w.frozen? ⟨px, 5, none⟩ = false) (cx6 : w.cell? ⟨px, 6, none⟩ = some (.int .i64 0)) (fx6 : w.frozen? ⟨px, 6, none⟩ = false) (cx7 : w.cell? ⟨px, 7, none⟩ = some (.int .i64 0)) (fx7 : w.frozen? ⟨px, 7, none⟩ = false) (cy0 : w.cell? ⟨py, 0, none⟩ = some (.int .i64 0)) (fy0 : w.frozen? ⟨py, 0, none⟩ = false) (cy1 : w.cell? ⟨py, 1, none⟩ = some (.int .i64 0)) (fy1 : w.frozen? ⟨py, 1, none⟩ = false) (nb : ¬ px = b) (nc : ¬ py = b) (nd : ¬ py = px) (y0 : Hid (Nx s0 6 t s1)) (y1 : Hid (Nx s1 1 who s2)) (x0 : Hid (Nx s2 6 m0 s3)) (x1 : Hid (Nx s3 6 m1 s4)) (x2 : Hid (Nx s4 6 m2 s5)) (x3 : Hid (Nx s5 6 m3 s6)) (x4 : Hid (Nx s6 6 m4 s7)) (x5 : Hid (Nx s7 6 m5 s8)) (x6 : Hid (Nx s8 6 m6 s9)) (x7 : Hid (Nx s9 6 m7 s10)) (hg0 : goodB (m0 : Int) (m1 : Int) (m2 : Int) (m3 : Int) (m4 : Int) (m5 : Int) (m6 : Int) (m7 : Int) = true) (hs0 : (isB (t : Int) (who : Int) = true ∨ (isB (t : Int) (who : Int) = false ∧ t = 0 ∧ who = 0))) :
    Calls Try.prog 81 #[eyeP b, .pointer (some ⟨py, 0, none⟩), .pointer (some ⟨px, 0, none⟩)] w fun e w' => e = .returned (.tuple #[]) ∧ ∃ j, w' = wext (((((((((((eyeSet w b s10).setCell ⟨py, 0, none⟩ (.int .i64 (t : Int))).setCell ⟨py, 1, none⟩ (.int .i64 (who : Int))).setCell ⟨px, 0, none⟩ (.int .i64 (m0 : Int))).setCell ⟨px, 1, none⟩ (.int .i64 (m1 : Int))).setCell ⟨px, 2, none⟩ (.int .i64 (m2 : Int))).setCell ⟨px, 3, none⟩ (.int .i64 (m3 : Int))).setCell ⟨px, 4, none⟩ (.int .i64 (m4 : Int))).setCell ⟨px, 5, none⟩ (.int .i64 (m5 : Int))).setCell ⟨px, 6, none⟩ (.int .i64 (m6 : Int))).setCell ⟨px, 7, none⟩ (.int .i64 (m7 : Int))) j := by
  have hlt := leB_of_cell ho
  have hlx := leB_of_cell cx0
  have hly := leB_of_cell cy0
  have hg := Lib.hid hg0
  have hs := Lib.hid hs0
  clear hg0 hs0
  go_enter Try.func81, Try.ntmps81
  go_wp2_with (first | (go_at_call 77; (with_reducible refine (see_yes b s2 s3 s4 s5 s6 s7 s8 s9 s10 m0 m1 m2 m3 m4 m5 m6 m7 _ ?_ ?_ ?_ x0 x1 x2 x3 x4 x5 x6 x7 hg.out).mono ?_); (· go_cell); (· go_cell); (· simp [go_sem, hlt, hf]); rintro e1 w1 ⟨rfl, j1, rfl⟩) | (go_at_call 78; (with_reducible refine (seeS_ret b s0 s1 s2 t who _ ?_ ?_ ?_ y0 y1 hs.out).mono ?_); (· go_cell); (· go_cell); (· simp [go_sem, hlt, hf]); rintro e1 w1 ⟨rfl, j1, rfl⟩))
  go_end0
  exact ⟨rfl, _, rfl⟩
/-- The closure throws where the stamp does. -/
abbrev Thr78 (s0 : ByteArray) : Prop := ∀ (b : Nat) (w : World), w.cell? ⟨b, 0, none⟩ = some (.string s0) → w.cell? ⟨b, 1, none⟩ = some (.bool true) → w.frozen? ⟨b, 0, none⟩ = false → Calls Try.prog 78 #[eyeP b] w fun e w' => e = .panicked [fault 201] ∧ ∃ s' j, w' = wext (eyeSet w b s') j
abbrev Thr77 (s0 : ByteArray) : Prop := ∀ (b : Nat) (w : World), w.cell? ⟨b, 0, none⟩ = some (.string s0) → w.cell? ⟨b, 1, none⟩ = some (.bool true) → w.frozen? ⟨b, 0, none⟩ = false → Calls Try.prog 77 #[eyeP b] w fun e w' => e = .panicked [fault 201] ∧ ∃ s' j, w' = wext (eyeSet w b s') j
abbrev Thr81 (py px : Nat) (s0 : ByteArray) : Prop := ∀ (b : Nat) (w : World), w.cell? ⟨b, 0, none⟩ = some (.string s0) → w.cell? ⟨b, 1, none⟩ = some (.bool true) → w.frozen? ⟨b, 0, none⟩ = false → Calls Try.prog 81 #[eyeP b, .pointer (some ⟨py, 0, none⟩), .pointer (some ⟨px, 0, none⟩)] w fun e w' => e = .panicked [fault 201] ∧ ∃ s' j, w' = wext (eyeSet w b s') j
set_option maxHeartbeats 8000000 in
set_option maxRecDepth 100000 in
theorem look81_s (py px : Nat) (s0 : ByteArray) (H0 : Thr78 s0) : Thr81 py px s0 := by
  intro b w hr ho hf
  have hlt := leB_of_cell ho
  have H := Lib.hid H0
  clear H0
  go_enter Try.func81, Try.ntmps81
  go_wp2_with (go_at_call 78; (with_reducible refine (H.out b _ ?_ ?_ ?_).mono ?_); (· go_cell); (· go_cell); (· simp [go_sem, hlt, hf]); rintro e1 w1 ⟨rfl, s', j1, rfl⟩)
  exact ⟨rfl, rfl, s', w_grown (by (repeat' (first | (with_reducible exact Below.refl _ _) | (with_reducible assumption) | (with_reducible exact below_app _ _ _ _) | (with_reducible refine below_pre ?_; (simp only [List.append_assoc, List.prefix_append, List.prefix_refl, List.prefix_append_right_inj])) | (with_reducible refine Below.alloc ?_ ?_ _) | (with_reducible refine below_ext ?_ ?_ _) | (with_reducible refine Below.drew ?_) | (with_reducible refine below_drewN ?_ _) | (with_reducible refine Below.setCell ?_ ?_ _) | go_size | (simp only [w_size_ext, List.length_append, World.alloc_size]; omega) | (simp; done) | (simp; omega))))⟩
set_option maxHeartbeats 8000000 in
set_option maxRecDepth 100000 in
theorem look81_v (py px : Nat) (s0 s1 s2 : ByteArray) (t who : Nat) (y0 : Hid (Nx s0 6 t s1)) (y1 : Hid (Nx s1 1 who s2)) (hs0 : (isB (t : Int) (who : Int) = true ∨ (isB (t : Int) (who : Int) = false ∧ t = 0 ∧ who = 0))) (H0 : Thr77 s2) : Thr81 py px s0 := by
  intro b w hr ho hf
  have hlt := leB_of_cell ho
  have H := Lib.hid H0
  have hs := Lib.hid hs0
  clear H0 hs0
  go_enter Try.func81, Try.ntmps81
  go_wp2_with (first | (go_at_call 78; (with_reducible refine (seeS_ret b s0 s1 s2 t who _ ?_ ?_ ?_ y0 y1 hs.out).mono ?_); (· go_cell); (· go_cell); (· simp [go_sem, hlt, hf]); rintro e1 w1 ⟨rfl, j1, rfl⟩) | (go_at_call 77; (with_reducible refine (H.out b _ ?_ ?_ ?_).mono ?_); (· go_cell); (· go_cell); (· simp [go_sem, hlt, hf]); rintro e1 w1 ⟨rfl, s', j1, rfl⟩))
  exact ⟨rfl, rfl, s', w_grown (by (repeat' (first | (with_reducible exact Below.refl _ _) | (with_reducible assumption) | (with_reducible exact below_app _ _ _ _) | (with_reducible refine below_pre ?_; (simp only [List.append_assoc, List.prefix_append, List.prefix_refl, List.prefix_append_right_inj])) | (with_reducible refine Below.alloc ?_ ?_ _) | (with_reducible refine below_ext ?_ ?_ _) | (with_reducible refine Below.drew ?_) | (with_reducible refine below_drewN ?_ _) | (with_reducible refine Below.setCell ?_ ?_ _) | go_size | (simp only [w_size_ext, List.length_append, World.alloc_size]; omega) | (simp; done) | (simp; omega))))⟩
set_option maxHeartbeats 8000000 in
set_option maxRecDepth 100000 in
theorem read81_ok (A : Option Addr) (c : Nat) (l : List Int) (px py : Nat) (s0 s1 s2 s3 s4 s5 s6 s7 s8 s9 s10 : ByteArray) (m0 m1 m2 m3 m4 m5 m6 m7 t who : Nat) (w : World) (hC : ReadsB w A l) (hl : strOfNums l = s0) (cx0 : w.cell? ⟨px, 0, none⟩ = some (.int .i64 0)) (fx0 : w.frozen? ⟨px, 0, none⟩ = false) (cx1 : w.cell? ⟨px, 1, none⟩ = some (.int .i64 0)) (fx1 : w.frozen? ⟨px, 1, none⟩ = false) (cx2 : w.cell? ⟨px, 2, none⟩ = some (.int .i64 0)) (fx2 : w.frozen? ⟨px, 2, none⟩ = false) (cx3 : w.cell? ⟨px, 3, none⟩ = some (.int .i64 0)) (fx3 : w.frozen? ⟨px, 3, none⟩ = false) (cx4 : w.cell? ⟨px, 4, none⟩ = some (.int .i64 0)) (fx4 : w.frozen? ⟨px, 4, none⟩ = false) (cx5 : w.cell? ⟨px, 5, none⟩ = some (.int .i64 0)) (fx5 : w.frozen? ⟨px, 5, none⟩ = false) (cx6 : w.cell? ⟨px, 6, none⟩ = some (.int .i64 0)) (fx6 : w.frozen? ⟨px, 6, none⟩ = false) (cx7 : w.cell? ⟨px, 7, none⟩ = some (.int .i64 0)) (fx7 : w.frozen? ⟨px, 7, none⟩ = false) (cy0 : w.cell? ⟨py, 0, none⟩ = some (.int .i64 0)) (fy0 : w.frozen? ⟨py, 0, none⟩ = false) (cy1 : w.cell? ⟨py, 1, none⟩ = some (.int .i64 0)) (fy1 : w.frozen? ⟨py, 1, none⟩ = false) (nd : ¬ py = px) (y0 : Hid (Nx s0 6 t s1)) (y1 : Hid (Nx s1 1 who s2)) (x0 : Hid (Nx s2 6 m0 s3)) (x1 : Hid (Nx s3 6 m1 s4)) (x2 : Hid (Nx s4 6 m2 s5)) (x3 : Hid (Nx s5 6 m3 s6)) (x4 : Hid (Nx s6 6 m4 s7)) (x5 : Hid (Nx s7 6 m5 s8)) (x6 : Hid (Nx s8 6 m6 s9)) (x7 : Hid (Nx s9 6 m7 s10)) (h10 : s10 = ⟨#[]⟩) (hg0 : goodB (m0 : Int) (m1 : Int) (m2 : Int) (m3 : Int) (m4 : Int) (m5 : Int) (m6 : Int) (m7 : Int) = true) (hs0 : (isB (t : Int) (who : Int) = true ∨ (isB (t : Int) (who : Int) = false ∧ t = 0 ∧ who = 0))) :
    Calls Try.prog 48 #[.slice A l.length c, .func (.func 81) #[] #[.pointer (some ⟨py, 0, none⟩), .pointer (some ⟨px, 0, none⟩)]] w fun e w' => e = .returned (.int .i64 0) ∧ ∃ j, w' = wext ((((((((((w.setCell ⟨py, 0, none⟩ (.int .i64 (t : Int))).setCell ⟨py, 1, none⟩ (.int .i64 (who : Int))).setCell ⟨px, 0, none⟩ (.int .i64 (m0 : Int))).setCell ⟨px, 1, none⟩ (.int .i64 (m1 : Int))).setCell ⟨px, 2, none⟩ (.int .i64 (m2 : Int))).setCell ⟨px, 3, none⟩ (.int .i64 (m3 : Int))).setCell ⟨px, 4, none⟩ (.int .i64 (m4 : Int))).setCell ⟨px, 5, none⟩ (.int .i64 (m5 : Int))).setCell ⟨px, 6, none⟩ (.int .i64 (m6 : Int))).setCell ⟨px, 7, none⟩ (.int .i64 (m7 : Int))) j := by
  have hlx := leB_of_cell cx0
  have hly := leB_of_cell cy0
  have hbx := World.block_lt_of_cell? w _ cx0
  have hby := World.block_lt_of_cell? w _ cy0
  simp only at hbx hby
  have hmf : ∀ (fn : Fn) (first cap : Array Value) (w : World), (Instr.makeFunc fn first cap).run Try.prog w = .ok (.func fn first cap) w := fun _ _ _ _ => rfl
  have hcv : ∀ o, (convert 43 9 (.slice A l.length c)).run Try.prog (w.alloc o) = .ok (.string s0) (w.alloc o) := fun o => by rw [← hl]; exact conv_read hC c _ ((Below.refl _ _).alloc (Nat.le_refl _) o)
  have htn := toList_nil
  have hnq : ∀ W, (binOp .neq 55 (.func (.func 81) #[] #[.pointer (some ⟨py, 0, none⟩), .pointer (some ⟨px, 0, none⟩)]) .nilFunc).run Try.prog W = .ok (.bool true) W := fun _ => by kernel_rfl
  generalize l.length = n at *
  clear hC hl
  have hg := Lib.hid hg0
  have hs := Lib.hid hs0
  clear hg0 hs0
  subst h10
  go_enter_defers Try.func48, Try.ntmps48
  go_wp2_with (go_at_call 81; refine (look81 _ px py s0 s1 s2 s3 s4 s5 s6 s7 s8 s9 _ m0 m1 m2 m3 m4 m5 m6 m7 t who _ (by go_cell) (by go_cell) (by simp [go_sem]) (by simp [go_sem, hlx, cx0]) (by simp [go_sem, hlx, fx0]) (by simp [go_sem, hlx, cx1]) (by simp [go_sem, hlx, fx1]) (by simp [go_sem, hlx, cx2]) (by simp [go_sem, hlx, fx2]) (by simp [go_sem, hlx, cx3]) (by simp [go_sem, hlx, fx3]) (by simp [go_sem, hlx, cx4]) (by simp [go_sem, hlx, fx4]) (by simp [go_sem, hlx, cx5]) (by simp [go_sem, hlx, fx5]) (by simp [go_sem, hlx, cx6]) (by simp [go_sem, hlx, fx6]) (by simp [go_sem, hlx, cx7]) (by simp [go_sem, hlx, fx7]) (by simp [go_sem, hly, cy0]) (by simp [go_sem, hly, fy0]) (by simp [go_sem, hly, cy1]) (by simp [go_sem, hly, fy1]) (by omega) (by omega) nd y0 y1 x0 x1 x2 x3 x4 x5 x6 x7 hg.out hs.out).mono ?_; rintro e1 w1 ⟨rfl, j1, rfl⟩)
  refine leaves_cons (f := 88) (args := #[.pointer (some ⟨w.heap.size + 1 + 1, 0, none⟩), .pointer (some ⟨w.heap.size, 0, none⟩)]) (by simp) (by simp [go_sem]) ?_
  refine (catch_idle (w.heap.size + 1 + 1) w.heap.size (w.heap.size + 1) _ (by simp [go_sem]) (by simp [go_sem]) (by simp [go_sem])).mono ?_
  rintro e u' w'' ⟨rfl, rfl, rfl⟩
  simp [Leaves, settle, results, Try.results48, go_sem]
  exact w_grown (by (repeat' (first | (with_reducible exact Below.refl _ _) | (with_reducible assumption) | (with_reducible exact below_app _ _ _ _) | (with_reducible refine below_pre ?_; (simp only [List.append_assoc, List.prefix_append, List.prefix_refl, List.prefix_append_right_inj])) | (with_reducible refine Below.alloc ?_ ?_ _) | (with_reducible refine below_ext ?_ ?_ _) | (with_reducible refine Below.drew ?_) | (with_reducible refine below_drewN ?_ _) | (with_reducible refine Below.setCell ?_ ?_ _) | go_size | (simp only [w_size_ext, List.length_append, World.alloc_size]; omega) | (simp; done) | (simp; omega))))
set_option maxHeartbeats 8000000 in
set_option maxRecDepth 100000 in
theorem read81_more (A : Option Addr) (c : Nat) (l : List Int) (px py : Nat) (s0 s1 s2 s3 s4 s5 s6 s7 s8 s9 s10 : ByteArray) (m0 m1 m2 m3 m4 m5 m6 m7 t who : Nat) (w : World) (hC : ReadsB w A l) (hl : strOfNums l = s0) (cx0 : w.cell? ⟨px, 0, none⟩ = some (.int .i64 0)) (fx0 : w.frozen? ⟨px, 0, none⟩ = false) (cx1 : w.cell? ⟨px, 1, none⟩ = some (.int .i64 0)) (fx1 : w.frozen? ⟨px, 1, none⟩ = false) (cx2 : w.cell? ⟨px, 2, none⟩ = some (.int .i64 0)) (fx2 : w.frozen? ⟨px, 2, none⟩ = false) (cx3 : w.cell? ⟨px, 3, none⟩ = some (.int .i64 0)) (fx3 : w.frozen? ⟨px, 3, none⟩ = false) (cx4 : w.cell? ⟨px, 4, none⟩ = some (.int .i64 0)) (fx4 : w.frozen? ⟨px, 4, none⟩ = false) (cx5 : w.cell? ⟨px, 5, none⟩ = some (.int .i64 0)) (fx5 : w.frozen? ⟨px, 5, none⟩ = false) (cx6 : w.cell? ⟨px, 6, none⟩ = some (.int .i64 0)) (fx6 : w.frozen? ⟨px, 6, none⟩ = false) (cx7 : w.cell? ⟨px, 7, none⟩ = some (.int .i64 0)) (fx7 : w.frozen? ⟨px, 7, none⟩ = false) (cy0 : w.cell? ⟨py, 0, none⟩ = some (.int .i64 0)) (fy0 : w.frozen? ⟨py, 0, none⟩ = false) (cy1 : w.cell? ⟨py, 1, none⟩ = some (.int .i64 0)) (fy1 : w.frozen? ⟨py, 1, none⟩ = false) (nd : ¬ py = px) (y0 : Hid (Nx s0 6 t s1)) (y1 : Hid (Nx s1 1 who s2)) (x0 : Hid (Nx s2 6 m0 s3)) (x1 : Hid (Nx s3 6 m1 s4)) (x2 : Hid (Nx s4 6 m2 s5)) (x3 : Hid (Nx s5 6 m3 s6)) (x4 : Hid (Nx s6 6 m4 s7)) (x5 : Hid (Nx s7 6 m5 s8)) (x6 : Hid (Nx s8 6 m6 s9)) (x7 : Hid (Nx s9 6 m7 s10)) (h10 : ¬ s10.size = 0) (hg0 : goodB (m0 : Int) (m1 : Int) (m2 : Int) (m3 : Int) (m4 : Int) (m5 : Int) (m6 : Int) (m7 : Int) = true) (hs0 : (isB (t : Int) (who : Int) = true ∨ (isB (t : Int) (who : Int) = false ∧ t = 0 ∧ who = 0))) :
    Calls Try.prog 48 #[.slice A l.length c, .func (.func 81) #[] #[.pointer (some ⟨py, 0, none⟩), .pointer (some ⟨px, 0, none⟩)]] w fun e w' => e = .returned (.int .i64 201) ∧ ∃ j, w' = wext ((((((((((w.setCell ⟨py, 0, none⟩ (.int .i64 (t : Int))).setCell ⟨py, 1, none⟩ (.int .i64 (who : Int))).setCell ⟨px, 0, none⟩ (.int .i64 (m0 : Int))).setCell ⟨px, 1, none⟩ (.int .i64 (m1 : Int))).setCell ⟨px, 2, none⟩ (.int .i64 (m2 : Int))).setCell ⟨px, 3, none⟩ (.int .i64 (m3 : Int))).setCell ⟨px, 4, none⟩ (.int .i64 (m4 : Int))).setCell ⟨px, 5, none⟩ (.int .i64 (m5 : Int))).setCell ⟨px, 6, none⟩ (.int .i64 (m6 : Int))).setCell ⟨px, 7, none⟩ (.int .i64 (m7 : Int))) j := by
  have hlx := leB_of_cell cx0
  have hly := leB_of_cell cy0
  have hbx := World.block_lt_of_cell? w _ cx0
  have hby := World.block_lt_of_cell? w _ cy0
  simp only at hbx hby
  have hmf : ∀ (fn : Fn) (first cap : Array Value) (w : World), (Instr.makeFunc fn first cap).run Try.prog w = .ok (.func fn first cap) w := fun _ _ _ _ => rfl
  have hcv : ∀ o, (convert 43 9 (.slice A l.length c)).run Try.prog (w.alloc o) = .ok (.string s0) (w.alloc o) := fun o => by rw [← hl]; exact conv_read hC c _ ((Below.refl _ _).alloc (Nat.le_refl _) o)
  have htn := toList_nil
  have hnq : ∀ W, (binOp .neq 55 (.func (.func 81) #[] #[.pointer (some ⟨py, 0, none⟩), .pointer (some ⟨px, 0, none⟩)]) .nilFunc).run Try.prog W = .ok (.bool true) W := fun _ => by kernel_rfl
  generalize l.length = n at *
  clear hC hl
  have hg := Lib.hid hg0
  have hs := Lib.hid hs0
  have hne : s10.toList.isEmpty = false := not_empty s10 h10
  clear hg0 hs0 h10
  go_enter_defers Try.func48, Try.ntmps48
  go_wp2_with (first | (go_at_call 81; refine (look81 _ px py s0 s1 s2 s3 s4 s5 s6 s7 s8 s9 s10 m0 m1 m2 m3 m4 m5 m6 m7 t who _ (by go_cell) (by go_cell) (by simp [go_sem]) (by simp [go_sem, hlx, cx0]) (by simp [go_sem, hlx, fx0]) (by simp [go_sem, hlx, cx1]) (by simp [go_sem, hlx, fx1]) (by simp [go_sem, hlx, cx2]) (by simp [go_sem, hlx, fx2]) (by simp [go_sem, hlx, cx3]) (by simp [go_sem, hlx, fx3]) (by simp [go_sem, hlx, cx4]) (by simp [go_sem, hlx, fx4]) (by simp [go_sem, hlx, cx5]) (by simp [go_sem, hlx, fx5]) (by simp [go_sem, hlx, cx6]) (by simp [go_sem, hlx, fx6]) (by simp [go_sem, hlx, cx7]) (by simp [go_sem, hlx, fx7]) (by simp [go_sem, hly, cy0]) (by simp [go_sem, hly, fy0]) (by simp [go_sem, hly, cy1]) (by simp [go_sem, hly, fy1]) (by omega) (by omega) nd y0 y1 x0 x1 x2 x3 x4 x5 x6 x7 hg.out hs.out).mono ?_; rintro e1 w1 ⟨rfl, j1, rfl⟩) | (go_at_call 89; refine (fail_on _ _ _ (by go_cell)).mono ?_; rintro e1 w1 ⟨rfl, j1, rfl⟩))
  refine leaves_cons (f := 88) (args := #[.pointer (some ⟨w.heap.size + 1 + 1, 0, none⟩), .pointer (some ⟨w.heap.size, 0, none⟩)]) (by simp) (by simp [go_sem]) ?_
  refine (catch_fault (w.heap.size + 1 + 1) w.heap.size (w.heap.size + 1) 201 _ _ (by simp [go_sem]) (by simp [go_sem]) (by simp [go_sem]) (by simp [go_sem]; rfl) (by simp [go_sem])).mono ?_
  rintro e u' w'' ⟨rfl, rfl, j2, rfl⟩
  simp [Leaves, settle, results, Try.results48, go_sem]
  exact w_grown (by (repeat' (first | (with_reducible exact Below.refl _ _) | (with_reducible assumption) | (with_reducible exact below_app _ _ _ _) | (with_reducible refine below_pre ?_; (simp only [List.append_assoc, List.prefix_append, List.prefix_refl, List.prefix_append_right_inj])) | (with_reducible refine Below.alloc ?_ ?_ _) | (with_reducible refine below_ext ?_ ?_ _) | (with_reducible refine Below.drew ?_) | (with_reducible refine below_drewN ?_ _) | (with_reducible refine Below.setCell ?_ ?_ _) | go_size | (simp only [w_size_ext, List.length_append, World.alloc_size]; omega) | (simp; done) | (simp; omega))))
set_option maxHeartbeats 8000000 in
set_option maxRecDepth 100000 in
theorem read81_no (A : Option Addr) (c : Nat) (l : List Int) (px py : Nat) (s0 : ByteArray) (w : World) (hC : ReadsB w A l) (hl : strOfNums l = s0) (H0 : Thr81 py px s0) :
    Calls Try.prog 48 #[.slice A l.length c, .func (.func 81) #[] #[.pointer (some ⟨py, 0, none⟩), .pointer (some ⟨px, 0, none⟩)]] w (Ret (.int .i64 201) w) := by
  have hmf : ∀ (fn : Fn) (first cap : Array Value) (w : World), (Instr.makeFunc fn first cap).run Try.prog w = .ok (.func fn first cap) w := fun _ _ _ _ => rfl
  have hcv : ∀ o, (convert 43 9 (.slice A l.length c)).run Try.prog (w.alloc o) = .ok (.string s0) (w.alloc o) := fun o => by rw [← hl]; exact conv_read hC c _ ((Below.refl _ _).alloc (Nat.le_refl _) o)
  have htn := toList_nil
  have hnq : ∀ W, (binOp .neq 55 (.func (.func 81) #[] #[.pointer (some ⟨py, 0, none⟩), .pointer (some ⟨px, 0, none⟩)]) .nilFunc).run Try.prog W = .ok (.bool true) W := fun _ => by kernel_rfl
  generalize l.length = n at *
  clear hC hl
  have H := Lib.hid H0
  clear H0
  go_enter_defers Try.func48, Try.ntmps48
  go_wp2_with (go_at_call 81; refine (H.out _ _ (by go_cell) (by go_cell) (by simp [go_sem])).mono ?_; rintro e1 w1 ⟨rfl, s', j1, rfl⟩)
  refine leaves_cons (f := 88) (args := #[.pointer (some ⟨w.heap.size + 1 + 1, 0, none⟩), .pointer (some ⟨w.heap.size, 0, none⟩)]) (by simp) (by simp [go_sem]) ?_
  refine (catch_fault (w.heap.size + 1 + 1) w.heap.size (w.heap.size + 1) 201 _ _ (by simp [go_sem]) (by simp [go_sem]) (by simp [go_sem]) (by simp [go_sem]; rfl) (by simp [go_sem])).mono ?_
  rintro e u' w'' ⟨rfl, rfl, j2, rfl⟩
  simp [Leaves, settle, results, Try.results48, go_sem]
  exact Ret.mk rfl (by (repeat' (first | (with_reducible exact Below.refl _ _) | (with_reducible assumption) | (with_reducible exact below_app _ _ _ _) | (with_reducible refine below_pre ?_; (simp only [List.append_assoc, List.prefix_append, List.prefix_refl, List.prefix_append_right_inj])) | (with_reducible refine Below.alloc ?_ ?_ _) | (with_reducible refine below_ext ?_ ?_ _) | (with_reducible refine Below.drew ?_) | (with_reducible refine below_drewN ?_ _) | (with_reducible refine Below.setCell ?_ ?_ _) | go_size | (simp only [w_size_ext, List.length_append, World.alloc_size]; omega) | (simp; done) | (simp; omega))))
end Go.Proofs.Ytdjmpedfeahajaa

set_option linter.unusedSimpArgs false
set_option linter.unusedVariables false
namespace Go.Proofs.Ytdjmpedfeahajaa
open Go.RowKit Go.Proofs.YtdjmpedfeahajaaW.PrintWords Go.Proofs.YtdjmpedfeahajaaW.PrintLast Go.Proofs.YtdjmpedfeahajaaW.PrintMore

set_option maxHeartbeats 8000000 in
set_option maxRecDepth 100000 in
theorem rvput_any (A : Option Addr) (c : Nat) (l : List Int) (n0 n1 n2 n3 n4 n5 n6 n7 : Int) (w : World) (hA : ReadsB w A l) (hc : l.length ≤ c) (hl : l.length ≤ 1000000) : Calls Try.prog 79 #[.slice A l.length c, vec n0 n1 n2 n3 n4 n5 n6 n7] w (RetB (vecR l n0 n1 n2 n3 n4 n5 n6 n7) w) := by
  have b0x : l.length ≤ 1000000 := hl
  have b1x : (putR l n0 6).length ≤ 1000008 := by have := putR_length l n0 6; omega
  have b2x : (putR (putR l n0 6) n1 6).length ≤ 1000016 := by have := putR_length (putR l n0 6) n1 6; omega
  have b3x : (putR (putR (putR l n0 6) n1 6) n2 6).length ≤ 1000024 := by have := putR_length (putR (putR l n0 6) n1 6) n2 6; omega
  have b4x : (putR (putR (putR (putR l n0 6) n1 6) n2 6) n3 6).length ≤ 1000032 := by have := putR_length (putR (putR (putR l n0 6) n1 6) n2 6) n3 6; omega
  have b5x : (putR (putR (putR (putR (putR l n0 6) n1 6) n2 6) n3 6) n4 6).length ≤ 1000040 := by have := putR_length (putR (putR (putR (putR l n0 6) n1 6) n2 6) n3 6) n4 6; omega
  have b6x : (putR (putR (putR (putR (putR (putR l n0 6) n1 6) n2 6) n3 6) n4 6) n5 6).length ≤ 1000048 := by have := putR_length (putR (putR (putR (putR (putR l n0 6) n1 6) n2 6) n3 6) n4 6) n5 6; omega
  have b7x : (putR (putR (putR (putR (putR (putR (putR l n0 6) n1 6) n2 6) n3 6) n4 6) n5 6) n6 6).length ≤ 1000056 := by have := putR_length (putR (putR (putR (putR (putR (putR l n0 6) n1 6) n2 6) n3 6) n4 6) n5 6) n6 6; omega
  have b8x : (putR (putR (putR (putR (putR (putR (putR (putR l n0 6) n1 6) n2 6) n3 6) n4 6) n5 6) n6 6) n7 6).length ≤ 1000064 := by have := putR_length (putR (putR (putR (putR (putR (putR (putR l n0 6) n1 6) n2 6) n3 6) n4 6) n5 6) n6 6) n7 6; omega
  have B0 := Lib.hid (show l.length < 140737488355000 by omega)
  have B1 := Lib.hid (show (putR l n0 6).length < 140737488355000 by omega)
  have B2 := Lib.hid (show (putR (putR l n0 6) n1 6).length < 140737488355000 by omega)
  have B3 := Lib.hid (show (putR (putR (putR l n0 6) n1 6) n2 6).length < 140737488355000 by omega)
  have B4 := Lib.hid (show (putR (putR (putR (putR l n0 6) n1 6) n2 6) n3 6).length < 140737488355000 by omega)
  have B5 := Lib.hid (show (putR (putR (putR (putR (putR l n0 6) n1 6) n2 6) n3 6) n4 6).length < 140737488355000 by omega)
  have B6 := Lib.hid (show (putR (putR (putR (putR (putR (putR l n0 6) n1 6) n2 6) n3 6) n4 6) n5 6).length < 140737488355000 by omega)
  have B7 := Lib.hid (show (putR (putR (putR (putR (putR (putR (putR l n0 6) n1 6) n2 6) n3 6) n4 6) n5 6) n6 6).length < 140737488355000 by omega)
  clear b0x b1x b2x b3x b4x b5x b6x b7x b8x
  have HA := Lib.hid hA
  clear hA hl
  unfold vecR
  obtain ⟨i0, i1, i2, i3, i4, i5, i6, i7⟩ := idx8 (.int .i64 n0) (.int .i64 n1) (.int .i64 n2) (.int .i64 n3) (.int .i64 n4) (.int .i64 n5) (.int .i64 n6) (.int .i64 n7)
  go_enter Try.func79, Try.ntmps79
  go_wp2_with (first | (refine Kd.R_lit (Kd.int .u8) (w.alloc (.cells #[.int .i64 n0, .int .i64 n1, .int .i64 n2, .int .i64 n3, .int .i64 n4, .int .i64 n5, .int .i64 n6, .int .i64 n7] 23)).heap.size 5 rfl (N := 7) rfl (w0 := (w.alloc (.cells #[.int .i64 n0, .int .i64 n1, .int .i64 n2, .int .i64 n3, .int .i64 n4, .int .i64 n5, .int .i64 n6, .int .i64 n7] 23))) (xs := ([] : List Int)) (inner := []) (ok := fun _ => True) (okp := fun _ => True) ?hr (Reps.none _ _) (fun _ hk => hk) trivial (Below.refl _ _) (Nat.le_refl _) (by simp) ?_; (case hr => first | (go_simp; done) | (go_simp; rfl)); intro v1 w1 hR1 hb1 hg1 hn1) | (at_builtin; refine Kd.R_append_rows (Kd.int .u8) (w0 := (w.alloc (.cells #[.int .i64 n0, .int .i64 n1, .int .i64 n2, .int .i64 n3, .int .i64 n4, .int .i64 n5, .int .i64 n6, .int .i64 n7] 23))) (w.alloc (.cells #[.int .i64 n0, .int .i64 n1, .int .i64 n2, .int .i64 n3, .int .i64 n4, .int .i64 n5, .int .i64 n6, .int .i64 n7] 23)).heap.size rfl (.tmp 7) (.tmp 8) 43 5 (.int .u8 0) 1 rfl Try.underlying43 PPutText.info5 rfl (by decide) (by omega) v1 ([] : List Int) l _ _ _ (fun _ => True) (fun _ => False) rfl rfl hR1 (Kd.C_below HA.out ((Below.refl _ _).alloc (Nat.le_refl _) _ |>.trans (hb1.mono (by simp)))) (fun _ _ h => h) (fun _ h => h.elim) (fun _ _ => trivial) hb1 (below_size hb1) (by have := B0.out; simp only [List.length_nil]; omega) ?_; intro v2 w2 hR2 hb2 hg2 hat2; obtain ⟨j1, rfl⟩ := w_ext_of_below hb2; clear hb1 hb2 hg2 hat2 hn1 hg1 hR1; obtain ⟨D, d, rfl, kd, hd⟩ := Kd.R_reads hR2; simp only [List.nil_append] at kd hd ⊢; have HD := Lib.hid hd; clear hd hR2))
  refine wp_loop_rounds 9 ?_
  repeat any_goals (rw [rounds_succ]; go_wp2_with (first | (go_at_call 56; (with_reducible refine (rput_gen D d l n0 6 _ ?_ kd ?_).mono ?_); (· exact Kd.C_below HD.out (by (repeat' (first | (with_reducible exact Below.refl _ _) | (with_reducible assumption) | (with_reducible exact below_app _ _ _ _) | (with_reducible refine below_pre ?_; (simp only [List.append_assoc, List.prefix_append, List.prefix_refl, List.prefix_append_right_inj])) | (with_reducible refine Below.alloc ?_ ?_ _) | (with_reducible refine below_ext ?_ ?_ _) | (with_reducible refine Below.drew ?_) | (with_reducible refine below_drewN ?_ _) | (with_reducible refine Below.setCell ?_ ?_ _) | go_size | (simp only [w_size_ext, List.length_append, World.alloc_size]; omega) | (simp; done) | (simp; omega))))); (· exact B0.out); rintro e1 w1 ⟨P0, c0, rfl, k0, j1, rfl, h0⟩; (try simp only [w_ext_ext] at h0); have H0 := Lib.hid h0; clear h0) | (go_at_call 56; (with_reducible refine (rput_gen P0 c0 (putR l n0 6) n1 6 _ ?_ k0 ?_).mono ?_); (· exact Kd.C_below H0.out (by (repeat' (first | (with_reducible exact Below.refl _ _) | (with_reducible assumption) | (with_reducible exact below_app _ _ _ _) | (with_reducible refine below_pre ?_; (simp only [List.append_assoc, List.prefix_append, List.prefix_refl, List.prefix_append_right_inj])) | (with_reducible refine Below.alloc ?_ ?_ _) | (with_reducible refine below_ext ?_ ?_ _) | (with_reducible refine Below.drew ?_) | (with_reducible refine below_drewN ?_ _) | (with_reducible refine Below.setCell ?_ ?_ _) | go_size | (simp only [w_size_ext, List.length_append, World.alloc_size]; omega) | (simp; done) | (simp; omega))))); (· exact B1.out); rintro e1 w1 ⟨P1, c1, rfl, k1, j1, rfl, h1⟩; (try simp only [w_ext_ext] at h1); have H1 := Lib.hid h1; clear h1) | (go_at_call 56; (with_reducible refine (rput_gen P1 c1 (putR (putR l n0 6) n1 6) n2 6 _ ?_ k1 ?_).mono ?_); (· exact Kd.C_below H1.out (by (repeat' (first | (with_reducible exact Below.refl _ _) | (with_reducible assumption) | (with_reducible exact below_app _ _ _ _) | (with_reducible refine below_pre ?_; (simp only [List.append_assoc, List.prefix_append, List.prefix_refl, List.prefix_append_right_inj])) | (with_reducible refine Below.alloc ?_ ?_ _) | (with_reducible refine below_ext ?_ ?_ _) | (with_reducible refine Below.drew ?_) | (with_reducible refine below_drewN ?_ _) | (with_reducible refine Below.setCell ?_ ?_ _) | go_size | (simp only [w_size_ext, List.length_append, World.alloc_size]; omega) | (simp; done) | (simp; omega))))); (· exact B2.out); rintro e1 w1 ⟨P2, c2, rfl, k2, j1, rfl, h2⟩; (try simp only [w_ext_ext] at h2); have H2 := Lib.hid h2; clear h2) | (go_at_call 56; (with_reducible refine (rput_gen P2 c2 (putR (putR (putR l n0 6) n1 6) n2 6) n3 6 _ ?_ k2 ?_).mono ?_); (· exact Kd.C_below H2.out (by (repeat' (first | (with_reducible exact Below.refl _ _) | (with_reducible assumption) | (with_reducible exact below_app _ _ _ _) | (with_reducible refine below_pre ?_; (simp only [List.append_assoc, List.prefix_append, List.prefix_refl, List.prefix_append_right_inj])) | (with_reducible refine Below.alloc ?_ ?_ _) | (with_reducible refine below_ext ?_ ?_ _) | (with_reducible refine Below.drew ?_) | (with_reducible refine below_drewN ?_ _) | (with_reducible refine Below.setCell ?_ ?_ _) | go_size | (simp only [w_size_ext, List.length_append, World.alloc_size]; omega) | (simp; done) | (simp; omega))))); (· exact B3.out); rintro e1 w1 ⟨P3, c3, rfl, k3, j1, rfl, h3⟩; (try simp only [w_ext_ext] at h3); have H3 := Lib.hid h3; clear h3) | (go_at_call 56; (with_reducible refine (rput_gen P3 c3 (putR (putR (putR (putR l n0 6) n1 6) n2 6) n3 6) n4 6 _ ?_ k3 ?_).mono ?_); (· exact Kd.C_below H3.out (by (repeat' (first | (with_reducible exact Below.refl _ _) | (with_reducible assumption) | (with_reducible exact below_app _ _ _ _) | (with_reducible refine below_pre ?_; (simp only [List.append_assoc, List.prefix_append, List.prefix_refl, List.prefix_append_right_inj])) | (with_reducible refine Below.alloc ?_ ?_ _) | (with_reducible refine below_ext ?_ ?_ _) | (with_reducible refine Below.drew ?_) | (with_reducible refine below_drewN ?_ _) | (with_reducible refine Below.setCell ?_ ?_ _) | go_size | (simp only [w_size_ext, List.length_append, World.alloc_size]; omega) | (simp; done) | (simp; omega))))); (· exact B4.out); rintro e1 w1 ⟨P4, c4, rfl, k4, j1, rfl, h4⟩; (try simp only [w_ext_ext] at h4); have H4 := Lib.hid h4; clear h4) | (go_at_call 56; (with_reducible refine (rput_gen P4 c4 (putR (putR (putR (putR (putR l n0 6) n1 6) n2 6) n3 6) n4 6) n5 6 _ ?_ k4 ?_).mono ?_); (· exact Kd.C_below H4.out (by (repeat' (first | (with_reducible exact Below.refl _ _) | (with_reducible assumption) | (with_reducible exact below_app _ _ _ _) | (with_reducible refine below_pre ?_; (simp only [List.append_assoc, List.prefix_append, List.prefix_refl, List.prefix_append_right_inj])) | (with_reducible refine Below.alloc ?_ ?_ _) | (with_reducible refine below_ext ?_ ?_ _) | (with_reducible refine Below.drew ?_) | (with_reducible refine below_drewN ?_ _) | (with_reducible refine Below.setCell ?_ ?_ _) | go_size | (simp only [w_size_ext, List.length_append, World.alloc_size]; omega) | (simp; done) | (simp; omega))))); (· exact B5.out); rintro e1 w1 ⟨P5, c5, rfl, k5, j1, rfl, h5⟩; (try simp only [w_ext_ext] at h5); have H5 := Lib.hid h5; clear h5) | (go_at_call 56; (with_reducible refine (rput_gen P5 c5 (putR (putR (putR (putR (putR (putR l n0 6) n1 6) n2 6) n3 6) n4 6) n5 6) n6 6 _ ?_ k5 ?_).mono ?_); (· exact Kd.C_below H5.out (by (repeat' (first | (with_reducible exact Below.refl _ _) | (with_reducible assumption) | (with_reducible exact below_app _ _ _ _) | (with_reducible refine below_pre ?_; (simp only [List.append_assoc, List.prefix_append, List.prefix_refl, List.prefix_append_right_inj])) | (with_reducible refine Below.alloc ?_ ?_ _) | (with_reducible refine below_ext ?_ ?_ _) | (with_reducible refine Below.drew ?_) | (with_reducible refine below_drewN ?_ _) | (with_reducible refine Below.setCell ?_ ?_ _) | go_size | (simp only [w_size_ext, List.length_append, World.alloc_size]; omega) | (simp; done) | (simp; omega))))); (· exact B6.out); rintro e1 w1 ⟨P6, c6, rfl, k6, j1, rfl, h6⟩; (try simp only [w_ext_ext] at h6); have H6 := Lib.hid h6; clear h6) | (go_at_call 56; (with_reducible refine (rput_gen P6 c6 (putR (putR (putR (putR (putR (putR (putR l n0 6) n1 6) n2 6) n3 6) n4 6) n5 6) n6 6) n7 6 _ ?_ k6 ?_).mono ?_); (· exact Kd.C_below H6.out (by (repeat' (first | (with_reducible exact Below.refl _ _) | (with_reducible assumption) | (with_reducible exact below_app _ _ _ _) | (with_reducible refine below_pre ?_; (simp only [List.append_assoc, List.prefix_append, List.prefix_refl, List.prefix_append_right_inj])) | (with_reducible refine Below.alloc ?_ ?_ _) | (with_reducible refine below_ext ?_ ?_ _) | (with_reducible refine Below.drew ?_) | (with_reducible refine below_drewN ?_ _) | (with_reducible refine Below.setCell ?_ ?_ _) | go_size | (simp only [w_size_ext, List.length_append, World.alloc_size]; omega) | (simp; done) | (simp; omega))))); (· exact B7.out); rintro e1 w1 ⟨P7, c7, rfl, k7, j1, rfl, h7⟩; (try simp only [w_ext_ext] at h7); have H7 := Lib.hid h7; clear h7)))
  go_ret
  exact ⟨P7, c7, rfl, k7, w_grown_reads (Kd.C_below H7.out (by (repeat' (first | (with_reducible exact Below.refl _ _) | (with_reducible assumption) | (with_reducible exact below_app _ _ _ _) | (with_reducible refine below_pre ?_; (simp only [List.append_assoc, List.prefix_append, List.prefix_refl, List.prefix_append_right_inj])) | (with_reducible refine Below.alloc ?_ ?_ _) | (with_reducible refine below_ext ?_ ?_ _) | (with_reducible refine Below.drew ?_) | (with_reducible refine below_drewN ?_ _) | (with_reducible refine Below.setCell ?_ ?_ _) | go_size | (simp only [w_size_ext, List.length_append, World.alloc_size]; omega) | (simp; done) | (simp; omega))))) (by (repeat' (first | (with_reducible exact Below.refl _ _) | (with_reducible assumption) | (with_reducible exact below_app _ _ _ _) | (with_reducible refine below_pre ?_; (simp only [List.append_assoc, List.prefix_append, List.prefix_refl, List.prefix_append_right_inj])) | (with_reducible refine Below.alloc ?_ ?_ _) | (with_reducible refine below_ext ?_ ?_ _) | (with_reducible refine Below.drew ?_) | (with_reducible refine below_drewN ?_ _) | (with_reducible refine Below.setCell ?_ ?_ _) | go_size | (simp only [w_size_ext, List.length_append, World.alloc_size]; omega) | (simp; done) | (simp; omega)))) rfl⟩
set_option maxHeartbeats 8000000 in
set_option maxRecDepth 100000 in
theorem rpstamp_any (A : Option Addr) (c : Nat) (l : List Int) (t who : Int) (w : World) (hA : ReadsB w A l) (hc : l.length ≤ c) (hl : l.length ≤ 1000000) : Calls Try.prog 80 #[.slice A l.length c, .agg #[.int .i64 t, .int .i64 who]] w (RetB (stampR l t who) w) := by
  have B0 := Lib.hid (show l.length < 140737488355000 by omega)
  have B1 := Lib.hid (show (putR l t 6).length < 140737488355000 by have := putR_length l t 6; omega)
  have HA := Lib.hid hA
  clear hA hl
  unfold stampR
  go_enter Try.func80, Try.ntmps80
  go_wp2_with fail
  refine wp_region_mix [(0, true), (1, true), (2, true), (4, true), (5, true), (3, false), (6, false), (7, true)] (by kernel_rfl) (by kernel_rfl) rfl (by kernel_rfl) (by intro _ _ d _ _ h; cases d <;> exact h) ?_; intro j1; (repeat (first | (refine wpMix_skip rfl rfl ?_; simp only [Act.put, List.setIfInBounds_toArray, List.set_cons_zero, List.set_cons_succ]) | (refine wpMix_light rfl rfl ?_; intro K hK; go_simp; refine hK _ ?_; clear hK K) | (refine wpMix_heavy rfl rfl ?_; intro K hK; go_wp2_with ((first | (go_at_call 56; (with_reducible refine (rput_gen A c l t 6 _ ?_ hc ?_).mono ?_); (· exact Kd.C_below HA.out (by (repeat' (first | (with_reducible exact Below.refl _ _) | (with_reducible assumption) | (with_reducible exact below_app _ _ _ _) | (with_reducible refine below_pre ?_; (simp only [List.append_assoc, List.prefix_append, List.prefix_refl, List.prefix_append_right_inj])) | (with_reducible refine Below.alloc ?_ ?_ _) | (with_reducible refine below_ext ?_ ?_ _) | (with_reducible refine Below.drew ?_) | (with_reducible refine below_drewN ?_ _) | (with_reducible refine Below.setCell ?_ ?_ _) | go_size | (simp only [w_size_ext, List.length_append, World.alloc_size]; omega) | (simp; done) | (simp; omega))))); (· exact B0.out); rintro e1 w1 ⟨P0, c0, rfl, k0, j1, rfl, h0⟩; (try simp only [w_ext_ext] at h0); have H0 := Lib.hid h0; clear h0) | (go_at_call 56; (with_reducible refine (rput_gen P0 c0 (putR l t 6) who 1 _ ?_ k0 ?_).mono ?_); (· exact Kd.C_below H0.out (by (repeat' (first | (with_reducible exact Below.refl _ _) | (with_reducible assumption) | (with_reducible exact below_app _ _ _ _) | (with_reducible refine below_pre ?_; (simp only [List.append_assoc, List.prefix_append, List.prefix_refl, List.prefix_append_right_inj])) | (with_reducible refine Below.alloc ?_ ?_ _) | (with_reducible refine below_ext ?_ ?_ _) | (with_reducible refine Below.drew ?_) | (with_reducible refine below_drewN ?_ _) | (with_reducible refine Below.setCell ?_ ?_ _) | go_size | (simp only [w_size_ext, List.length_append, World.alloc_size]; omega) | (simp; done) | (simp; omega))))); (· exact B1.out); rintro e1 w1 ⟨P1, c1, rfl, k1, j1, rfl, h1⟩; (try simp only [w_ext_ext] at h1); have H1 := Lib.hid h1; clear h1))); refine ⟨w_ext_of_below (by (repeat' (first | (with_reducible exact Below.refl _ _) | (with_reducible assumption) | (with_reducible exact below_app _ _ _ _) | (with_reducible refine below_pre ?_; (simp only [List.append_assoc, List.prefix_append, List.prefix_refl, List.prefix_append_right_inj])) | (with_reducible refine Below.alloc ?_ ?_ _) | (with_reducible refine below_ext ?_ ?_ _) | (with_reducible refine Below.drew ?_) | (with_reducible refine below_drewN ?_ _) | (with_reducible refine Below.setCell ?_ ?_ _) | go_size | (simp only [w_size_ext, List.length_append, World.alloc_size]; omega) | (simp; done) | (simp; omega)))), ?_⟩))); refine wpMix_nil ?_
  go_wp2
  go_ret
  exact ⟨P1, c1, rfl, k1, w_grown_reads (Kd.C_below H1.out (by (repeat' (first | (with_reducible exact Below.refl _ _) | (with_reducible assumption) | (with_reducible exact below_app _ _ _ _) | (with_reducible refine below_pre ?_; (simp only [List.append_assoc, List.prefix_append, List.prefix_refl, List.prefix_append_right_inj])) | (with_reducible refine Below.alloc ?_ ?_ _) | (with_reducible refine below_ext ?_ ?_ _) | (with_reducible refine Below.drew ?_) | (with_reducible refine below_drewN ?_ _) | (with_reducible refine Below.setCell ?_ ?_ _) | go_size | (simp only [w_size_ext, List.length_append, World.alloc_size]; omega) | (simp; done) | (simp; omega))))) (by (repeat' (first | (with_reducible exact Below.refl _ _) | (with_reducible assumption) | (with_reducible exact below_app _ _ _ _) | (with_reducible refine below_pre ?_; (simp only [List.append_assoc, List.prefix_append, List.prefix_refl, List.prefix_append_right_inj])) | (with_reducible refine Below.alloc ?_ ?_ _) | (with_reducible refine below_ext ?_ ?_ _) | (with_reducible refine Below.drew ?_) | (with_reducible refine below_drewN ?_ _) | (with_reducible refine Below.setCell ?_ ?_ _) | go_size | (simp only [w_size_ext, List.length_append, World.alloc_size]; omega) | (simp; done) | (simp; omega)))) rfl⟩
end Go.Proofs.Ytdjmpedfeahajaa

set_option linter.unusedSimpArgs false
set_option linter.unusedVariables false
namespace Go.Proofs.Ytdjmpedfeahajaa
open Go.RowKit Go.Proofs.YtdjmpedfeahajaaW.PrintWords Go.Proofs.YtdjmpedfeahajaaW.PrintLast Go.Proofs.YtdjmpedfeahajaaW.PrintMore

theorem take_snoc (l : List UInt8) (i : Nat) (h : i < l.length) : l.take (i + 1) = l.take i ++ [l[i]] := by
  rw [List.take_succ_eq_append_getElem h]
theorem bt_byte (x : ByteArray) (i : Nat) (h : i < x.data.toList.length) : bt x (i : Int) = ((x.data.toList[i]).toNat : Int) := by
  have h' : i < x.size := by simpa using h
  unfold bt
  rw [dif_pos (by simpa using h')]
  simp [ByteArray.getElem_eq_getElem_data]
theorem ref_l0 (x s : ByteArray) (a b : Int) (d : Bool) (h8 : x.size ≤ 8) : ∀ r i k, i + r = x.size → r + 1 ≤ k →
    PSeeStamp.crannogref01_Eye_Num.l0 k x (beNat (x.data.toList.take i) : Int) (x.size : Int) (i : Int) s a d b =
      if (beNat x.data.toList : Int) ≥ 9223372036854775808 then (PSeeStamp.crannogref01_Eye_Fail.f s a d b 201).bind fun q => some (0, q.1, q.2.1, q.2.2.1, q.2.2.2) else some (wrap64 (beNat x.data.toList : Int), s, a, d, b) := by
  intro r
  induction r with
  | zero =>
    intro i k hi hk
    obtain ⟨k, rfl⟩ : ∃ k', k = k' + 1 := ⟨k - 1, by omega⟩
    unfold PSeeStamp.crannogref01_Eye_Num.l0
    rw [if_neg (by omega), List.take_of_length_le (by simp; omega)]
  | succ r ih =>
    intro i k hi hk
    obtain ⟨k, rfl⟩ : ∃ k', k = k' + 1 := ⟨k - 1, by omega⟩
    have hl : i < x.data.toList.length := by simp; omega
    have hb := beNat_lt (x.data.toList.take i)
    rw [List.length_take_of_le (by omega)] at hb
    have hp : 256 ^ i ≤ 256 ^ 7 := Nat.pow_le_pow_right (by omega) (by omega)
    have h7 : (256 : Nat) ^ 7 = 72057594037927936 := by decide
    have hc := (x.data.toList[i]).toNat_lt
    unfold PSeeStamp.crannogref01_Eye_Num.l0
    rw [if_pos (by omega), if_pos (by omega), if_pos (by omega), bt_byte x i hl]
    have e1 : IntKind.u64.wrap (IntKind.u64.wrap ((beNat (x.data.toList.take i) : Int) * 256) + IntKind.u64.wrap ((x.data.toList[i]).toNat : Int)) = (beNat (x.data.toList.take (i + 1)) : Int) := by
      rw [take_snoc _ _ hl, beNat_snoc, IntKind.wrap_u64, IntKind.wrap_u64, IntKind.wrap_u64]
      omega
    have e2 : wrap64 ((i : Int) + 1) = ((i + 1 : Nat) : Int) := by rw [wrap64_eq]; omega
    rw [e1, e2]
    exact ih (i + 1) k (by omega) (by omega)

theorem ref_raw (s : ByteArray) (a n : Nat) (b : Int) (hs : s.size ≤ 1000000) (h : a + n ≤ s.size) : PSeeStamp.crannogref01_Eye_Raw.f s (a : Int) false b (n : Int) = some (s.extract a (a + n), s, ((a + n : Nat) : Int), false, b) := by
  have e1 : wrap64 ((s.size : Int) - (a : Int)) = ((s.size - a : Nat) : Int) := by rw [wrap64_eq]; omega
  have e2 : wrap64 ((a : Int) + (n : Int)) = ((a + n : Nat) : Int) := by rw [wrap64_eq]; omega
  have e3 : wrap64 (((a + n : Nat) : Int) - (n : Int)) = (a : Int) := by rw [wrap64_eq]; omega
  unfold PSeeStamp.crannogref01_Eye_Raw.f
  rw [if_neg (by simp), if_neg (by omega), e1, if_neg (by omega), e2, e3, if_pos (by omega), if_pos (by omega), if_pos (by omega), Int.toNat_natCast, Int.toNat_natCast]
theorem ref_raw_short (s : ByteArray) (a n : Nat) (b : Int) (hs : s.size ≤ 1000000) (ha : a ≤ s.size) (h : s.size < a + n) : PSeeStamp.crannogref01_Eye_Raw.f s (a : Int) false b (n : Int) = some (⟨#[]⟩, s, (a : Int), true, 201) := by
  have e1 : wrap64 ((s.size : Int) - (a : Int)) = ((s.size - a : Nat) : Int) := by rw [wrap64_eq]; omega
  unfold PSeeStamp.crannogref01_Eye_Raw.f PSeeStamp.crannogref01_Eye_Fail.f
  rw [if_neg (by simp), if_neg (by omega), e1, if_pos (by omega), if_neg (by simp)]
  rfl
theorem ref_num_j (k : Nat) (s : ByteArray) (a b : Int) (d : Bool) (n : Nat) (hd : d = false) (h1 : 1 ≤ n) (h8 : n ≤ 8) : PSeeStamp.crannogref01_Eye_Num.f (k + 1) s a d b (n : Int) = (PSeeStamp.crannogref01_Eye_Raw.f s a d b (n : Int)).bind fun q => PSeeStamp.crannogref01_Eye_Num.l0 k q.1 0 (q.1.size : Int) 0 q.2.1 q.2.2.1 q.2.2.2.1 q.2.2.2.2 := by
  subst hd
  have e : decide ((n : Int) > 8) = false := decide_eq_false (by omega)
  unfold PSeeStamp.crannogref01_Eye_Num.f
  rw [if_neg (by simp), if_neg (by omega), e]
  rw [PSeeStamp.crannogref01_Eye_Num.j0]
  rfl
theorem extract_at (s : ByteArray) (a n : Nat) (h : a + n ≤ s.size) : (s.extract a s.size).extract 0 n = s.extract a (a + n) := by
  rw [ByteArray.extract_extract]
  congr 1
  omega
theorem extract_on (s : ByteArray) (a n : Nat) (h : a + n ≤ s.size) : (s.extract a s.size).extract n (s.extract a s.size).size = s.extract (a + n) s.size := by
  rw [ByteArray.extract_extract]
  congr 1
  simp; omega
theorem ref_num_nx (s t : ByteArray) (a n m : Nat) (b : Int) (hs : s.size ≤ 1000000) (ha : a ≤ s.size) (h1 : 1 ≤ n) (h8 : n ≤ 8) (h : Nx (s.extract a s.size) n m t) :
    PSeeStamp.crannogref01_Eye_Num.f 20 s (a : Int) false b (n : Int) = some ((m : Int), s, ((a + n : Nat) : Int), false, b) ∧ t = s.extract (a + n) s.size ∧ a + n ≤ s.size := by
  obtain ⟨g1, g2, g3, g4⟩ := h
  have hsz : a + n ≤ s.size := by simp at g1; omega
  rw [extract_on s a n hsz] at g4
  unfold numOf at g2
  rw [extract_at s a n hsz] at g2
  have hx : (s.extract a (a + n)).size = n := by simp; omega
  refine ⟨?_, g4.symm, hsz⟩
  rw [ref_num_j 19 s a b false n rfl h1 h8, ref_raw s a n b hs hsz]
  show PSeeStamp.crannogref01_Eye_Num.l0 19 (s.extract a (a + n)) 0 ((s.extract a (a + n)).size : Int) 0 s ((a + n : Nat) : Int) false b = _
  have := ref_l0 (s.extract a (a + n)) s ((a + n : Nat) : Int) b false (by omega) n 0 19 (by omega) (by omega)
  simp only [List.take_zero, beNat_nil] at this
  refine this.trans ?_
  rw [g2, if_neg (by omega)]
  have e : wrap64 (m : Int) = (m : Int) := by rw [wrap64_eq]; omega
  rw [e]
theorem ref_l0_nil (s : ByteArray) (a b : Int) (d : Bool) : PSeeStamp.crannogref01_Eye_Num.l0 (18 + 1) ⟨#[]⟩ 0 0 0 s a d b = some (0, s, a, d, b) := by
  have hw : wrap64 0 = 0 := by rw [wrap64_eq]; omega
  unfold PSeeStamp.crannogref01_Eye_Num.l0
  rw [if_neg (by omega), if_neg (by omega), hw]
theorem ref_num_short (s : ByteArray) (a n : Nat) (b : Int) (hs : s.size ≤ 1000000) (ha : a ≤ s.size) (h1 : 1 ≤ n) (h8 : n ≤ 8) (h : s.size < a + n) :
    PSeeStamp.crannogref01_Eye_Num.f 20 s (a : Int) false b (n : Int) = some (0, s, (a : Int), true, 201) := by
  rw [ref_num_j 19 s a b false n rfl h1 h8, ref_raw_short s a n b hs ha h]
  show PSeeStamp.crannogref01_Eye_Num.l0 19 ⟨#[]⟩ 0 ((⟨#[]⟩ : ByteArray).size : Int) 0 s (a : Int) true 201 = _
  exact ref_l0_nil s (a : Int) 201 true
theorem ref_num_done (k : Nat) (s : ByteArray) (a b n : Int) : PSeeStamp.crannogref01_Eye_Num.f k s a true b n = some (0, s, a, true, b) := by
  unfold PSeeStamp.crannogref01_Eye_Num.f
  rw [if_pos rfl]
end Go.Proofs.Ytdjmpedfeahajaa

set_option linter.unusedSimpArgs false
set_option linter.unusedVariables false
namespace Go.Proofs.Ytdjmpedfeahajaa
open Go.RowKit Go.Proofs.YtdjmpedfeahajaaW.PrintWords Go.Proofs.YtdjmpedfeahajaaW.PrintLast Go.Proofs.YtdjmpedfeahajaaW.PrintMore

/-- The reference's eye as a block. -/
abbrev eyeO (s : ByteArray) (a : Int) (d : Bool) (b : Int) : Obj := .cells #[.string s, .int .i64 a, .bool d, .int .i64 b] 80
/-- The world with another eye in the place of one. -/
def putEye (w : World) (g : Nat) (s : ByteArray) (a : Int) (d : Bool) (b : Int) : World := { w with heap := w.heap.setIfInBounds g (eyeO s a d b) }
def EyeAt (W : World) (g : Nat) (s : ByteArray) (a : Int) (d : Bool) (b : Int) : Prop := W.heap[g]? = some (eyeO s a d b)
abbrev eyeQ (g : Nat) : Value := .pointer (some ⟨g, 0, none⟩)
theorem EyeAt.lt {W : World} {g : Nat} {s : ByteArray} {a b : Int} {d : Bool} (h : EyeAt W g s a d b) : g < W.heap.size := by
  obtain ⟨hlt, _⟩ := Array.getElem?_eq_some_iff.1 h
  exact hlt
theorem EyeAt.ext {W : World} {g : Nat} {s : ByteArray} {a b : Int} {d : Bool} (h : EyeAt W g s a d b) (j : Junk) : EyeAt (wext W j) g s a d b := by
  have hl := h.lt
  unfold EyeAt wext
  simp only
  rw [Array.getElem?_append_left hl]
  exact h
theorem EyeAt.alloc {W : World} {g : Nat} {s : ByteArray} {a b : Int} {d : Bool} (h : EyeAt W g s a d b) (o : Obj) : EyeAt (W.alloc o) g s a d b := by
  have hl := h.lt
  unfold EyeAt World.alloc
  simp only
  rw [Array.getElem?_push_lt hl]
  exact congrArg some (Array.getElem?_eq_some_iff.1 h).2
theorem EyeAt.drew {W : World} {g : Nat} {s : ByteArray} {a b : Int} {d : Bool} (h : EyeAt W g s a d b) : EyeAt W.drew g s a d b := h
theorem EyeAt.put {W : World} {g : Nat} (h : g < W.heap.size) (s : ByteArray) (a : Int) (d : Bool) (b : Int) : EyeAt (putEye W g s a d b) g s a d b := by
  unfold EyeAt putEye
  simp only
  rw [Array.getElem?_setIfInBounds, if_pos rfl, if_pos h]
theorem EyeAt.new (W : World) (s : ByteArray) (a : Int) (d : Bool) (b : Int) : EyeAt (W.alloc (eyeO s a d b)) W.heap.size s a d b := by
  unfold EyeAt World.alloc
  simp
@[go_sem, simp] theorem putEye_size (w : World) (g : Nat) (s : ByteArray) (a : Int) (d : Bool) (b : Int) : (putEye w g s a d b).heap.size = w.heap.size := by simp [putEye]
@[go_sem] theorem putEye_twice (w : World) (g : Nat) (s : ByteArray) (a : Int) (d : Bool) (b : Int) (s' : ByteArray) (a' : Int) (d' : Bool) (b' : Int) : putEye (putEye w g s a d b) g s' a' d' b' = putEye w g s' a' d' b' := by simp [putEye]
@[go_sem] theorem putEye_alloc (w : World) (o : Obj) (g : Nat) (s : ByteArray) (a : Int) (d : Bool) (b : Int) (h : leB (g + 1) w.heap.size = true) : putEye (w.alloc o) g s a d b = (putEye w g s a d b).alloc o := by
  have hl := of_leB h
  unfold putEye World.alloc
  simp only
  congr 1
  apply Array.ext_getElem?
  intro i
  simp only [Array.getElem?_setIfInBounds, Array.getElem?_push, Array.size_setIfInBounds, Array.size_push]
  repeat' split
  all_goals first | rfl | omega | simp_all
@[go_sem] theorem putEye_ext (w : World) (j : Junk) (g : Nat) (s : ByteArray) (a : Int) (d : Bool) (b : Int) (h : leB (g + 1) w.heap.size = true) : putEye (wext w j) g s a d b = wext (putEye w g s a d b) j := by
  have hl := of_leB h
  unfold putEye wext
  simp only
  congr 1
  rw [Array.setIfInBounds_append_left hl]
@[go_sem] theorem putEye_top (w : World) (C : Array Value) (t : TypeId) (f : Nat × Nat) (g : Nat) (s : ByteArray) (a : Int) (d : Bool) (b : Int) (h : g = w.heap.size) : putEye (w.alloc (.cells C t f)) g s a d b = w.alloc (eyeO s a d b) := by
  subst h
  unfold putEye World.alloc
  simp only
  congr 1
  apply Array.ext_getElem?
  intro i
  simp only [Array.getElem?_setIfInBounds, Array.getElem?_push, Array.size_setIfInBounds, Array.size_push]
  repeat' split
  all_goals first | rfl | omega | simp_all
theorem putEye_of {w w' : World} {g : Nat} {s : ByteArray} {a b : Int} {d : Bool} (hg : g < w.heap.size) (h : EyeAt w' g s a d b) (hk : KeepBut w w' g none) (ho : w'.os = w.os) (ht : w'.tape = w.tape) (hp : w'.output = w.output) : ∃ j, w' = wext (putEye w g s a d b) j := by
  refine w_ext_of_below ⟨ho, ht, hp, by rw [putEye_size]; exact hk.1, ?_⟩
  intro k hkk
  rw [putEye_size] at hkk
  by_cases e : k = g
  · subst e
    rw [h, EyeAt.put hg]
  · rw [hk.2 k hkk e (by simp)]
    unfold putEye
    simp only
    rw [Array.getElem?_setIfInBounds, if_neg (fun h => e h.symm)]
/-- The world of no blocks. -/
def bare (w : World) : World := { w with heap := #[] }
theorem bare_below (w : World) : Below (bare w).heap.size (bare w) w := ⟨rfl, rfl, rfl, Nat.zero_le _, fun k hk => absurd hk (Nat.not_lt_zero _)⟩
theorem rnum_any (g : Nat) (s s' : ByteArray) (a a' b b' n m : Int) (d d' : Bool) (w : World) (h : EyeAt w g s a d b) (hf : PSeeStamp.crannogref01_Eye_Num.f 20 s a d b n = some (m, s', a', d', b')) :
    Calls Try.prog 93 #[eyeQ g, .int .i64 n] w fun e w' => e = .returned (.int .i64 m) ∧ ∃ j, w' = wext (putEye w g s' a' d' b') j := by
  refine (PSeeStamp.crannogref01_Eye_Num.calls 20 g s a d b n m s' a' d' b' (bare w) w ⟨h, Nat.zero_le _⟩ (bare_below w) hf).mono ?_
  rintro e w' ⟨he, hi, hb, hk⟩
  exact ⟨he, putEye_of h.lt hi.1 hk hb.os hb.tape hb.output⟩
theorem rfail_any (g : Nat) (s s' : ByteArray) (a a' b b' n : Int) (d d' : Bool) (w : World) (h : EyeAt w g s a d b) (hf : PSeeStamp.crannogref01_Eye_Fail.f s a d b n = some (s', a', d', b')) :
    Calls Try.prog 97 #[eyeQ g, .int .i64 n] w fun e w' => e = .returned (.tuple #[]) ∧ ∃ j, w' = wext (putEye w g s' a' d' b') j := by
  refine (PSeeStamp.crannogref01_Eye_Fail.calls g s a d b n s' a' d' b' (bare w) w ⟨h, Nat.zero_le _⟩ (bare_below w) hf).mono ?_
  rintro e w' ⟨he, hi, hb, hk⟩
  exact ⟨he, putEye_of h.lt hi.1 hk hb.os hb.tape hb.output⟩
theorem rseeS_any (g : Nat) (s s' : ByteArray) (a a' b b' t who : Int) (d d' : Bool) (w : World) (h : EyeAt w g s a d b) (hf : PSeeStamp.crannogref09_SeeStamp.f 20 s a d b = some (t, who, s', a', d', b')) :
    Calls Try.prog 82 #[eyeQ g] w fun e w' => e = .returned (stamp t who) ∧ ∃ j, w' = wext (putEye w g s' a' d' b') j := by
  refine (PSeeStamp.crannogref09_SeeStamp.calls 20 g s a d b t who s' a' d' b' (bare w) w ⟨h, Nat.zero_le _⟩ (bare_below w) hf).mono ?_
  rintro e w' ⟨he, hi, hb, hk⟩
  exact ⟨he, putEye_of h.lt hi.1 hk hb.os hb.tape hb.output⟩
theorem rend_any (g : Nat) (s s' : ByteArray) (a a' b b' m : Int) (d d' : Bool) (w : World) (h : EyeAt w g s a d b) (hf : PEnd.crannogref01_Eye_End.f s a d b = some (m, s', a', d', b')) :
    Calls Try.prog 72 #[eyeQ g] w fun e w' => e = .returned (.int .i64 m) ∧ ∃ j, w' = wext (putEye w g s' a' d' b') j := by
  refine (PEnd.crannogref01_Eye_End.calls g s a d b m s' a' d' b' (bare w) w ⟨h, Nat.zero_le _⟩ (bare_below w) hf).mono ?_
  rintro e w' ⟨he, hi, hb, hk⟩
  exact ⟨he, putEye_of h.lt hi.1 hk hb.os hb.tape hb.output⟩
set_option maxHeartbeats 8000000 in
set_option maxRecDepth 100000 in
theorem rsee_good (g : Nat) (s : ByteArray) (a0 a1 a2 a3 a4 a5 a6 a7 a8 b0 b1 b2 b3 b4 b5 b6 b7 b8 n0 n1 n2 n3 n4 n5 n6 n7 : Int) (d0 d1 d2 d3 d4 d5 d6 d7 d8 : Bool) (w : World) (h : EyeAt w g s a0 d0 b0) (x0 : Hid (PSeeStamp.crannogref01_Eye_Num.f 20 s a0 d0 b0 6 = some (n0, s, a1, d1, b1))) (x1 : Hid (PSeeStamp.crannogref01_Eye_Num.f 20 s a1 d1 b1 6 = some (n1, s, a2, d2, b2))) (x2 : Hid (PSeeStamp.crannogref01_Eye_Num.f 20 s a2 d2 b2 6 = some (n2, s, a3, d3, b3))) (x3 : Hid (PSeeStamp.crannogref01_Eye_Num.f 20 s a3 d3 b3 6 = some (n3, s, a4, d4, b4))) (x4 : Hid (PSeeStamp.crannogref01_Eye_Num.f 20 s a4 d4 b4 6 = some (n4, s, a5, d5, b5))) (x5 : Hid (PSeeStamp.crannogref01_Eye_Num.f 20 s a5 d5 b5 6 = some (n5, s, a6, d6, b6))) (x6 : Hid (PSeeStamp.crannogref01_Eye_Num.f 20 s a6 d6 b6 6 = some (n6, s, a7, d7, b7))) (x7 : Hid (PSeeStamp.crannogref01_Eye_Num.f 20 s a7 d7 b7 6 = some (n7, s, a8, d8, b8))) (hg : goodB n0 n1 n2 n3 n4 n5 n6 n7 = true) :
    Calls Try.prog 83 #[eyeQ g] w fun e w' => e = .returned (vec n0 n1 n2 n3 n4 n5 n6 n7) ∧ ∃ j, w' = wext (putEye w g s a8 d8 b8) j := by
  have HLT := Lib.hid h.lt
  have hlt : leB (g + 1) w.heap.size = true := by have := h.lt; simp [leB]; omega
  go_enter Try.func83, Try.ntmps83
  go_wp2
  refine wp_loop_rounds 9 ?_
  repeat any_goals (rw [rounds_succ]; go_wp2_with (first | (go_at_call 93; (with_reducible refine (rnum_any g s s a0 a1 b0 b1 6 n0 d0 d1 _ ?_ x0.out).mono ?_); (· (repeat' (first | (with_reducible assumption) | (with_reducible exact EyeAt.put HLT.out _ _ _ _) | (with_reducible refine EyeAt.ext ?_ _) | (with_reducible refine EyeAt.alloc ?_ _) | (with_reducible refine EyeAt.drew ?_)))); rintro e1 w1 ⟨rfl, j1, rfl⟩) | (go_at_call 93; (with_reducible refine (rnum_any g s s a1 a2 b1 b2 6 n1 d1 d2 _ ?_ x1.out).mono ?_); (· (repeat' (first | (with_reducible assumption) | (with_reducible exact EyeAt.put HLT.out _ _ _ _) | (with_reducible refine EyeAt.ext ?_ _) | (with_reducible refine EyeAt.alloc ?_ _) | (with_reducible refine EyeAt.drew ?_)))); rintro e1 w1 ⟨rfl, j1, rfl⟩) | (go_at_call 93; (with_reducible refine (rnum_any g s s a2 a3 b2 b3 6 n2 d2 d3 _ ?_ x2.out).mono ?_); (· (repeat' (first | (with_reducible assumption) | (with_reducible exact EyeAt.put HLT.out _ _ _ _) | (with_reducible refine EyeAt.ext ?_ _) | (with_reducible refine EyeAt.alloc ?_ _) | (with_reducible refine EyeAt.drew ?_)))); rintro e1 w1 ⟨rfl, j1, rfl⟩) | (go_at_call 93; (with_reducible refine (rnum_any g s s a3 a4 b3 b4 6 n3 d3 d4 _ ?_ x3.out).mono ?_); (· (repeat' (first | (with_reducible assumption) | (with_reducible exact EyeAt.put HLT.out _ _ _ _) | (with_reducible refine EyeAt.ext ?_ _) | (with_reducible refine EyeAt.alloc ?_ _) | (with_reducible refine EyeAt.drew ?_)))); rintro e1 w1 ⟨rfl, j1, rfl⟩) | (go_at_call 93; (with_reducible refine (rnum_any g s s a4 a5 b4 b5 6 n4 d4 d5 _ ?_ x4.out).mono ?_); (· (repeat' (first | (with_reducible assumption) | (with_reducible exact EyeAt.put HLT.out _ _ _ _) | (with_reducible refine EyeAt.ext ?_ _) | (with_reducible refine EyeAt.alloc ?_ _) | (with_reducible refine EyeAt.drew ?_)))); rintro e1 w1 ⟨rfl, j1, rfl⟩) | (go_at_call 93; (with_reducible refine (rnum_any g s s a5 a6 b5 b6 6 n5 d5 d6 _ ?_ x5.out).mono ?_); (· (repeat' (first | (with_reducible assumption) | (with_reducible exact EyeAt.put HLT.out _ _ _ _) | (with_reducible refine EyeAt.ext ?_ _) | (with_reducible refine EyeAt.alloc ?_ _) | (with_reducible refine EyeAt.drew ?_)))); rintro e1 w1 ⟨rfl, j1, rfl⟩) | (go_at_call 93; (with_reducible refine (rnum_any g s s a6 a7 b6 b7 6 n6 d6 d7 _ ?_ x6.out).mono ?_); (· (repeat' (first | (with_reducible assumption) | (with_reducible exact EyeAt.put HLT.out _ _ _ _) | (with_reducible refine EyeAt.ext ?_ _) | (with_reducible refine EyeAt.alloc ?_ _) | (with_reducible refine EyeAt.drew ?_)))); rintro e1 w1 ⟨rfl, j1, rfl⟩) | (go_at_call 93; (with_reducible refine (rnum_any g s s a7 a8 b7 b8 6 n7 d7 d8 _ ?_ x7.out).mono ?_); (· (repeat' (first | (with_reducible assumption) | (with_reducible exact EyeAt.put HLT.out _ _ _ _) | (with_reducible refine EyeAt.ext ?_ _) | (with_reducible refine EyeAt.alloc ?_ _) | (with_reducible refine EyeAt.drew ?_)))); rintro e1 w1 ⟨rfl, j1, rfl⟩) | (go_at_call 28; (with_reducible refine (rgood_any _ _ _ _ _ _ _ _ _).mono ?_); rw [hg]; rintro e1 w1 ⟨rfl, j1, rfl⟩)))
  refine bodyPost_ret (by simp [results, Try.results83, go_sem]; try rfl) rfl ?_
  exact ⟨rfl, w_grown (by (repeat' (first | (with_reducible exact Below.refl _ _) | (with_reducible assumption) | (with_reducible exact below_app _ _ _ _) | (with_reducible refine below_pre ?_; (simp only [List.append_assoc, List.prefix_append, List.prefix_refl, List.prefix_append_right_inj])) | (with_reducible refine Below.alloc ?_ ?_ _) | (with_reducible refine below_ext ?_ ?_ _) | (with_reducible refine Below.drew ?_) | (with_reducible refine below_drewN ?_ _) | (with_reducible refine Below.setCell ?_ ?_ _) | go_size | (simp only [w_size_ext, List.length_append, World.alloc_size]; omega) | (simp; done) | (simp; omega))))⟩
set_option maxHeartbeats 8000000 in
set_option maxRecDepth 100000 in
theorem rsee_bad (g : Nat) (s : ByteArray) (a0 a1 a2 a3 a4 a5 a6 a7 a8 b0 b1 b2 b3 b4 b5 b6 b7 b8 n0 n1 n2 n3 n4 n5 n6 n7 : Int) (d0 d1 d2 d3 d4 d5 d6 d7 d8 : Bool) (w : World) (h : EyeAt w g s a0 d0 b0) (x0 : Hid (PSeeStamp.crannogref01_Eye_Num.f 20 s a0 d0 b0 6 = some (n0, s, a1, d1, b1))) (x1 : Hid (PSeeStamp.crannogref01_Eye_Num.f 20 s a1 d1 b1 6 = some (n1, s, a2, d2, b2))) (x2 : Hid (PSeeStamp.crannogref01_Eye_Num.f 20 s a2 d2 b2 6 = some (n2, s, a3, d3, b3))) (x3 : Hid (PSeeStamp.crannogref01_Eye_Num.f 20 s a3 d3 b3 6 = some (n3, s, a4, d4, b4))) (x4 : Hid (PSeeStamp.crannogref01_Eye_Num.f 20 s a4 d4 b4 6 = some (n4, s, a5, d5, b5))) (x5 : Hid (PSeeStamp.crannogref01_Eye_Num.f 20 s a5 d5 b5 6 = some (n5, s, a6, d6, b6))) (x6 : Hid (PSeeStamp.crannogref01_Eye_Num.f 20 s a6 d6 b6 6 = some (n6, s, a7, d7, b7))) (x7 : Hid (PSeeStamp.crannogref01_Eye_Num.f 20 s a7 d7 b7 6 = some (n7, s, a8, d8, b8))) (hg : goodB n0 n1 n2 n3 n4 n5 n6 n7 = false) (a9 b9 : Int) (d9 : Bool) (hf : Hid (PSeeStamp.crannogref01_Eye_Fail.f s a8 d8 b8 201 = some (s, a9, d9, b9))) :
    Calls Try.prog 83 #[eyeQ g] w fun e w' => e = .returned (vec n0 n1 n2 n3 n4 n5 n6 n7) ∧ ∃ j, w' = wext (putEye w g s a9 d9 b9) j := by
  have HLT := Lib.hid h.lt
  have hlt : leB (g + 1) w.heap.size = true := by have := h.lt; simp [leB]; omega
  go_enter Try.func83, Try.ntmps83
  go_wp2
  refine wp_loop_rounds 9 ?_
  repeat any_goals (rw [rounds_succ]; go_wp2_with (first | (go_at_call 93; (with_reducible refine (rnum_any g s s a0 a1 b0 b1 6 n0 d0 d1 _ ?_ x0.out).mono ?_); (· (repeat' (first | (with_reducible assumption) | (with_reducible exact EyeAt.put HLT.out _ _ _ _) | (with_reducible refine EyeAt.ext ?_ _) | (with_reducible refine EyeAt.alloc ?_ _) | (with_reducible refine EyeAt.drew ?_)))); rintro e1 w1 ⟨rfl, j1, rfl⟩) | (go_at_call 93; (with_reducible refine (rnum_any g s s a1 a2 b1 b2 6 n1 d1 d2 _ ?_ x1.out).mono ?_); (· (repeat' (first | (with_reducible assumption) | (with_reducible exact EyeAt.put HLT.out _ _ _ _) | (with_reducible refine EyeAt.ext ?_ _) | (with_reducible refine EyeAt.alloc ?_ _) | (with_reducible refine EyeAt.drew ?_)))); rintro e1 w1 ⟨rfl, j1, rfl⟩) | (go_at_call 93; (with_reducible refine (rnum_any g s s a2 a3 b2 b3 6 n2 d2 d3 _ ?_ x2.out).mono ?_); (· (repeat' (first | (with_reducible assumption) | (with_reducible exact EyeAt.put HLT.out _ _ _ _) | (with_reducible refine EyeAt.ext ?_ _) | (with_reducible refine EyeAt.alloc ?_ _) | (with_reducible refine EyeAt.drew ?_)))); rintro e1 w1 ⟨rfl, j1, rfl⟩) | (go_at_call 93; (with_reducible refine (rnum_any g s s a3 a4 b3 b4 6 n3 d3 d4 _ ?_ x3.out).mono ?_); (· (repeat' (first | (with_reducible assumption) | (with_reducible exact EyeAt.put HLT.out _ _ _ _) | (with_reducible refine EyeAt.ext ?_ _) | (with_reducible refine EyeAt.alloc ?_ _) | (with_reducible refine EyeAt.drew ?_)))); rintro e1 w1 ⟨rfl, j1, rfl⟩) | (go_at_call 93; (with_reducible refine (rnum_any g s s a4 a5 b4 b5 6 n4 d4 d5 _ ?_ x4.out).mono ?_); (· (repeat' (first | (with_reducible assumption) | (with_reducible exact EyeAt.put HLT.out _ _ _ _) | (with_reducible refine EyeAt.ext ?_ _) | (with_reducible refine EyeAt.alloc ?_ _) | (with_reducible refine EyeAt.drew ?_)))); rintro e1 w1 ⟨rfl, j1, rfl⟩) | (go_at_call 93; (with_reducible refine (rnum_any g s s a5 a6 b5 b6 6 n5 d5 d6 _ ?_ x5.out).mono ?_); (· (repeat' (first | (with_reducible assumption) | (with_reducible exact EyeAt.put HLT.out _ _ _ _) | (with_reducible refine EyeAt.ext ?_ _) | (with_reducible refine EyeAt.alloc ?_ _) | (with_reducible refine EyeAt.drew ?_)))); rintro e1 w1 ⟨rfl, j1, rfl⟩) | (go_at_call 93; (with_reducible refine (rnum_any g s s a6 a7 b6 b7 6 n6 d6 d7 _ ?_ x6.out).mono ?_); (· (repeat' (first | (with_reducible assumption) | (with_reducible exact EyeAt.put HLT.out _ _ _ _) | (with_reducible refine EyeAt.ext ?_ _) | (with_reducible refine EyeAt.alloc ?_ _) | (with_reducible refine EyeAt.drew ?_)))); rintro e1 w1 ⟨rfl, j1, rfl⟩) | (go_at_call 93; (with_reducible refine (rnum_any g s s a7 a8 b7 b8 6 n7 d7 d8 _ ?_ x7.out).mono ?_); (· (repeat' (first | (with_reducible assumption) | (with_reducible exact EyeAt.put HLT.out _ _ _ _) | (with_reducible refine EyeAt.ext ?_ _) | (with_reducible refine EyeAt.alloc ?_ _) | (with_reducible refine EyeAt.drew ?_)))); rintro e1 w1 ⟨rfl, j1, rfl⟩) | (go_at_call 28; (with_reducible refine (rgood_any _ _ _ _ _ _ _ _ _).mono ?_); rw [hg]; rintro e1 w1 ⟨rfl, j1, rfl⟩) | (go_at_call 97; (with_reducible refine (rfail_any g s s a8 a9 b8 b9 201 d8 d9 _ ?_ hf.out).mono ?_); (· (repeat' (first | (with_reducible assumption) | (with_reducible exact EyeAt.put HLT.out _ _ _ _) | (with_reducible refine EyeAt.ext ?_ _) | (with_reducible refine EyeAt.alloc ?_ _) | (with_reducible refine EyeAt.drew ?_)))); rintro e1 w1 ⟨rfl, j1, rfl⟩)))
  refine bodyPost_ret (by simp [results, Try.results83, go_sem]; try rfl) rfl ?_
  exact ⟨rfl, w_grown (by (repeat' (first | (with_reducible exact Below.refl _ _) | (with_reducible assumption) | (with_reducible exact below_app _ _ _ _) | (with_reducible refine below_pre ?_; (simp only [List.append_assoc, List.prefix_append, List.prefix_refl, List.prefix_append_right_inj])) | (with_reducible refine Below.alloc ?_ ?_ _) | (with_reducible refine below_ext ?_ ?_ _) | (with_reducible refine Below.drew ?_) | (with_reducible refine below_drewN ?_ _) | (with_reducible refine Below.setCell ?_ ?_ _) | go_size | (simp only [w_size_ext, List.length_append, World.alloc_size]; omega) | (simp; done) | (simp; omega))))⟩
end Go.Proofs.Ytdjmpedfeahajaa

set_option linter.unusedSimpArgs false
set_option linter.unusedVariables false
namespace Go.Proofs.Ytdjmpedfeahajaa
open Go.RowKit Go.Proofs.YtdjmpedfeahajaaW.PrintWords Go.Proofs.YtdjmpedfeahajaaW.PrintLast Go.Proofs.YtdjmpedfeahajaaW.PrintMore

theorem ref_is (t who : Int) : PSeeStamp.crannogref09_Is.f t who = some (isB t who) := by
  unfold PSeeStamp.crannogref09_Is.f isB
  repeat' split
  all_goals (congr 1; simp; try omega)
theorem extract_whole (s : ByteArray) : s.extract 0 s.size = s := by simp
/-- The stamp where both numbers are known. -/
theorem ref_stamp (s s1 s2 : ByteArray) (t who : Nat) (hs : s.size ≤ 1000000) (y0 : Nx s 6 t s1) (y1 : Nx s1 1 who s2) :
    PSeeStamp.crannogref09_SeeStamp.f 20 s 0 false 0 = if isB (t : Int) (who : Int) = true then some ((t : Int), (who : Int), s, 7, false, 0) else if (t : Int) = 0 then (if (who : Int) = 0 then some ((t : Int), (who : Int), s, 7, false, 0) else some ((t : Int), (who : Int), s, 7, true, 201)) else some ((t : Int), (who : Int), s, 7, true, 201) := by
  obtain ⟨h1, e1, l1⟩ := ref_num_nx s s1 0 6 t 0 hs (Nat.zero_le _) (by omega) (by omega) (by rw [extract_whole]; exact y0)
  rw [e1] at y1
  obtain ⟨h2, e2, l2⟩ := ref_num_nx s s2 (0 + 6) 1 who 0 hs (by omega) (by omega) (by omega) y1
  unfold PSeeStamp.crannogref09_SeeStamp.f
  rw [show PSeeStamp.crannogref01_Eye_Num.f 20 s 0 false 0 6 = some ((t : Int), s, 6, false, 0) from h1]
  simp only [Option.bind_some]
  rw [show PSeeStamp.crannogref01_Eye_Num.f 20 s 6 false 0 1 = some ((who : Int), s, 7, false, 0) from h2]
  simp only [Option.bind_some]
  rw [ref_is]
  simp only [Option.bind_some]
  rfl
theorem ref_stamp_ok (s s1 s2 : ByteArray) (t who : Nat) (hs : s.size ≤ 1000000) (y0 : Nx s 6 t s1) (y1 : Nx s1 1 who s2) (h : (isB (t : Int) (who : Int) = true ∨ (isB (t : Int) (who : Int) = false ∧ t = 0 ∧ who = 0))) :
    PSeeStamp.crannogref09_SeeStamp.f 20 s 0 false 0 = some ((t : Int), (who : Int), s, 7, false, 0) := by
  rw [ref_stamp s s1 s2 t who hs y0 y1]
  rcases h with h | ⟨h, rfl, rfl⟩
  · rw [if_pos h]
  · rw [if_neg (by rw [h]; simp), if_pos (by omega), if_pos (by omega)]
theorem ref_stamp_bad (s s1 s2 : ByteArray) (t who : Nat) (hs : s.size ≤ 1000000) (y0 : Nx s 6 t s1) (y1 : Nx s1 1 who s2) (h : isB (t : Int) (who : Int) = false) (hz : ¬ (t = 0 ∧ who = 0)) :
    PSeeStamp.crannogref09_SeeStamp.f 20 s 0 false 0 = some ((t : Int), (who : Int), s, 7, true, 201) := by
  rw [ref_stamp s s1 s2 t who hs y0 y1, if_neg (by rw [h]; simp)]
  by_cases h0 : (t : Int) = 0
  · rw [if_pos h0, if_neg (by omega)]
  · rw [if_neg h0]
theorem ref_stamp_done (t who : Int) (s : ByteArray) (a : Int) : ((PSeeStamp.crannogref09_Is.f t who).bind fun t135 => (if t135 = true then (some (t, who, s, a, true, (201 : Int))) else (if t = 0 then (if who = 0 then (some (t, who, s, a, true, 201)) else ((PSeeStamp.crannogref01_Eye_Fail.f s a true 201 201).bind fun bt136 => (some (t, who, bt136.1, bt136.2.1, bt136.2.2.1, bt136.2.2.2)))) else ((PSeeStamp.crannogref01_Eye_Fail.f s a true 201 201).bind fun bt140 => (some (t, who, bt140.1, bt140.2.1, bt140.2.2.1, bt140.2.2.2)))))) = some (t, who, s, a, true, 201) := by
  rw [ref_is]
  have hf : PSeeStamp.crannogref01_Eye_Fail.f s a true 201 201 = some (s, a, true, 201) := by unfold PSeeStamp.crannogref01_Eye_Fail.f; rw [if_pos rfl]
  simp only [Option.bind_some, hf]
  repeat' split
  all_goals rfl
theorem ref_stamp_short (s : ByteArray) (hs : s.size < 7) : ∃ t who a, PSeeStamp.crannogref09_SeeStamp.f 20 s 0 false 0 = some (t, who, s, a, true, 201) := by
  by_cases h6 : s.size < 6
  · have h1 := ref_num_short s 0 6 0 (by omega) (Nat.zero_le _) (by omega) (by omega) (by omega)
    refine ⟨0, 0, 0, ?_⟩
    unfold PSeeStamp.crannogref09_SeeStamp.f
    rw [show PSeeStamp.crannogref01_Eye_Num.f 20 s 0 false 0 6 = some (0, s, 0, true, 201) from h1]
    simp only [Option.bind_some]
    rw [ref_num_done]
    simp only [Option.bind_some]
    exact ref_stamp_done 0 0 s 0
  · obtain ⟨t, s1, y0, hz⟩ := nx_get s 6 (by omega) (by omega)
    obtain ⟨h1, e1, l1⟩ := ref_num_nx s s1 0 6 t 0 (by omega) (Nat.zero_le _) (by omega) (by omega) (by rw [extract_whole]; exact y0)
    have h2 := ref_num_short s (0 + 6) 1 0 (by omega) (by omega) (by omega) (by omega) (by omega)
    refine ⟨(t : Int), 0, 6, ?_⟩
    unfold PSeeStamp.crannogref09_SeeStamp.f
    rw [show PSeeStamp.crannogref01_Eye_Num.f 20 s 0 false 0 6 = some ((t : Int), s, 6, false, 0) from h1]
    simp only [Option.bind_some]
    rw [show PSeeStamp.crannogref01_Eye_Num.f 20 s 6 false 0 1 = some (0, s, 6, true, 201) from h2]
    simp only [Option.bind_some]
    exact ref_stamp_done (t : Int) 0 s 6
theorem fail_done (s : ByteArray) (a b c : Int) : PSeeStamp.crannogref01_Eye_Fail.f s a true b c = some (s, a, true, b) := by unfold PSeeStamp.crannogref01_Eye_Fail.f; rw [if_pos rfl]
theorem fail_live (s : ByteArray) (a b c : Int) : PSeeStamp.crannogref01_Eye_Fail.f s a false b c = some (s, a, true, c) := by unfold PSeeStamp.crannogref01_Eye_Fail.f; rw [if_neg (by simp)]
theorem end_done (s : ByteArray) (a b : Int) : PEnd.crannogref01_Eye_End.f s a true b = some (b, s, a, true, b) := by unfold PEnd.crannogref01_Eye_End.f; rw [if_pos rfl]
theorem end_all (s : ByteArray) (a b : Int) (h : ¬ a < (s.size : Int)) : PEnd.crannogref01_Eye_End.f s a false b = some (b, s, a, false, b) := by unfold PEnd.crannogref01_Eye_End.f; rw [if_neg (by simp), if_neg h]
theorem end_more (s : ByteArray) (a b : Int) (h : a < (s.size : Int)) : PEnd.crannogref01_Eye_End.f s a false b = some (201, s, a, true, 201) := by
  unfold PEnd.crannogref01_Eye_End.f PEnd.crannogref01_Eye_Fail.f
  rw [if_neg (by simp), if_pos h, if_neg (by simp)]
  rfl
/-- Where the eye stands after so many numbers: it has ended, or all are seen. -/
def StV (s : ByteArray) (i : Nat) (a : Int) (d : Bool) (b : Int) : Prop := (d = true ∧ b = 201) ∨ (d = false ∧ b = 0 ∧ a = ((7 + 6 * i : Nat) : Int) ∧ 7 + 6 * i ≤ s.size)
theorem stV_step (s : ByteArray) (hs : s.size ≤ 1000000) (i : Nat) (a : Int) (d : Bool) (b : Int) (h : StV s i a d b) :
    ∃ n a' d' b', PSeeStamp.crannogref01_Eye_Num.f 20 s a d b 6 = some (n, s, a', d', b') ∧ StV s (i + 1) a' d' b' := by
  rcases h with ⟨rfl, rfl⟩ | ⟨rfl, rfl, rfl, hl⟩
  · exact ⟨0, a, true, 201, ref_num_done 20 s a 201 6, Or.inl ⟨rfl, rfl⟩⟩
  · by_cases h6 : s.size < 7 + 6 * i + 6
    · exact ⟨0, _, true, 201, ref_num_short s (7 + 6 * i) 6 0 hs hl (by omega) (by omega) h6, Or.inl ⟨rfl, rfl⟩⟩
    · obtain ⟨m, t, hx, hz⟩ := nx_get (s.extract (7 + 6 * i) s.size) 6 (by simp; omega) (by omega)
      obtain ⟨h1, _, h3⟩ := ref_num_nx s t (7 + 6 * i) 6 m 0 hs hl (by omega) (by omega) hx
      exact ⟨(m : Int), _, false, 0, h1, Or.inr ⟨rfl, rfl, by omega, by omega⟩⟩
/-- A vector that the reference cannot see. -/
def SeeFails (s : ByteArray) (a : Int) (d : Bool) (b : Int) : Prop := ∀ (g : Nat) (w : World), EyeAt w g s a d b → Calls Try.prog 83 #[eyeQ g] w fun e w' => ∃ n0 n1 n2 n3 n4 n5 n6 n7 a, e = .returned (vec n0 n1 n2 n3 n4 n5 n6 n7) ∧ ∃ j, w' = wext (putEye w g s a true 201) j
theorem rsee_done (s : ByteArray) (a : Int) : SeeFails s a true 201 := by
  intro g w h
  have x := Lib.hid (ref_num_done 20 s a 201 6)
  refine (rsee_good g s a a a a a a a a a 201 201 201 201 201 201 201 201 201 0 0 0 0 0 0 0 0 true true true true true true true true true w h x x x x x x x x (by decide)).mono ?_
  rintro e w' ⟨he, hj⟩
  exact ⟨0, 0, 0, 0, 0, 0, 0, 0, a, he, hj⟩
theorem rsee_short (s : ByteArray) (h7 : 7 ≤ s.size) (h55 : s.size < 55) : SeeFails s 7 false 0 := by
  intro g w h
  have c0 : StV s 0 7 false 0 := Or.inr ⟨rfl, rfl, rfl, h7⟩
  obtain ⟨n0, a1, d1, b1, x0, c1⟩ := stV_step s (by omega) 0 7 false 0 c0
  obtain ⟨n1, a2, d2, b2, x1, c2⟩ := stV_step s (by omega) 1 a1 d1 b1 c1
  obtain ⟨n2, a3, d3, b3, x2, c3⟩ := stV_step s (by omega) 2 a2 d2 b2 c2
  obtain ⟨n3, a4, d4, b4, x3, c4⟩ := stV_step s (by omega) 3 a3 d3 b3 c3
  obtain ⟨n4, a5, d5, b5, x4, c5⟩ := stV_step s (by omega) 4 a4 d4 b4 c4
  obtain ⟨n5, a6, d6, b6, x5, c6⟩ := stV_step s (by omega) 5 a5 d5 b5 c5
  obtain ⟨n6, a7, d7, b7, x6, c7⟩ := stV_step s (by omega) 6 a6 d6 b6 c6
  obtain ⟨n7, a8, d8, b8, x7, c8⟩ := stV_step s (by omega) 7 a7 d7 b7 c7
  have hd : d8 = true ∧ b8 = 201 := by
    rcases c8 with h | ⟨_, _, _, h⟩
    · exact h
    · omega
  obtain ⟨rfl, rfl⟩ := hd
  cases hg : goodB n0 n1 n2 n3 n4 n5 n6 n7 with
  | true =>
    refine (rsee_good g s 7 a1 a2 a3 a4 a5 a6 a7 a8 0 b1 b2 b3 b4 b5 b6 b7 201 n0 n1 n2 n3 n4 n5 n6 n7 false d1 d2 d3 d4 d5 d6 d7 true w h (Lib.hid x0) (Lib.hid x1) (Lib.hid x2) (Lib.hid x3) (Lib.hid x4) (Lib.hid x5) (Lib.hid x6) (Lib.hid x7) hg).mono ?_
    rintro e w' ⟨he, hj⟩
    exact ⟨n0, n1, n2, n3, n4, n5, n6, n7, a8, he, hj⟩
  | false =>
    refine (rsee_bad g s 7 a1 a2 a3 a4 a5 a6 a7 a8 0 b1 b2 b3 b4 b5 b6 b7 201 n0 n1 n2 n3 n4 n5 n6 n7 false d1 d2 d3 d4 d5 d6 d7 true w h (Lib.hid x0) (Lib.hid x1) (Lib.hid x2) (Lib.hid x3) (Lib.hid x4) (Lib.hid x5) (Lib.hid x6) (Lib.hid x7) hg a8 201 true (Lib.hid (fail_done s a8 201 201))).mono ?_
    rintro e w' ⟨he, hj⟩
    exact ⟨n0, n1, n2, n3, n4, n5, n6, n7, a8, he, hj⟩
/-- Where all eight numbers are there. -/
theorem rsee_ok (s s2 s3 s4 s5 s6 s7 s8 s9 s10 : ByteArray) (m0 m1 m2 m3 m4 m5 m6 m7 : Nat) (hs : s.size ≤ 1000000) (h7 : 7 ≤ s.size) (e2 : s2 = s.extract 7 s.size) (x0 : Hid (Nx s2 6 m0 s3)) (x1 : Hid (Nx s3 6 m1 s4)) (x2 : Hid (Nx s4 6 m2 s5)) (x3 : Hid (Nx s5 6 m3 s6)) (x4 : Hid (Nx s6 6 m4 s7)) (x5 : Hid (Nx s7 6 m5 s8)) (x6 : Hid (Nx s8 6 m6 s9)) (x7 : Hid (Nx s9 6 m7 s10)) (hg : goodB (m0 : Int) (m1 : Int) (m2 : Int) (m3 : Int) (m4 : Int) (m5 : Int) (m6 : Int) (m7 : Int) = true) (g : Nat) (w : World) (h : EyeAt w g s 7 false 0) :
    Calls Try.prog 83 #[eyeQ g] w fun e w' => e = .returned (vec (m0 : Int) (m1 : Int) (m2 : Int) (m3 : Int) (m4 : Int) (m5 : Int) (m6 : Int) (m7 : Int)) ∧ ∃ j, w' = wext (putEye w g s 55 false 0) j := by
  obtain ⟨g0, e3, l0⟩ := ref_num_nx s s3 7 6 m0 0 hs (by omega) (by omega) (by omega) (by rw [← e2]; exact x0.out)
  obtain ⟨g1, e4, l1⟩ := ref_num_nx s s4 13 6 m1 0 hs (by omega) (by omega) (by omega) (by rw [← e3]; exact x1.out)
  obtain ⟨g2, e5, l2⟩ := ref_num_nx s s5 19 6 m2 0 hs (by omega) (by omega) (by omega) (by rw [← e4]; exact x2.out)
  obtain ⟨g3, e6, l3⟩ := ref_num_nx s s6 25 6 m3 0 hs (by omega) (by omega) (by omega) (by rw [← e5]; exact x3.out)
  obtain ⟨g4, e7, l4⟩ := ref_num_nx s s7 31 6 m4 0 hs (by omega) (by omega) (by omega) (by rw [← e6]; exact x4.out)
  obtain ⟨g5, e8, l5⟩ := ref_num_nx s s8 37 6 m5 0 hs (by omega) (by omega) (by omega) (by rw [← e7]; exact x5.out)
  obtain ⟨g6, e9, l6⟩ := ref_num_nx s s9 43 6 m6 0 hs (by omega) (by omega) (by omega) (by rw [← e8]; exact x6.out)
  obtain ⟨g7, e10, l7⟩ := ref_num_nx s s10 49 6 m7 0 hs (by omega) (by omega) (by omega) (by rw [← e9]; exact x7.out)
  exact rsee_good g s 7 13 19 25 31 37 43 49 55 0 0 0 0 0 0 0 0 0 (m0 : Int) (m1 : Int) (m2 : Int) (m3 : Int) (m4 : Int) (m5 : Int) (m6 : Int) (m7 : Int) false false false false false false false false false w h (Lib.hid g0) (Lib.hid g1) (Lib.hid g2) (Lib.hid g3) (Lib.hid g4) (Lib.hid g5) (Lib.hid g6) (Lib.hid g7) hg
theorem rsee_not (s s2 s3 s4 s5 s6 s7 s8 s9 s10 : ByteArray) (m0 m1 m2 m3 m4 m5 m6 m7 : Nat) (hs : s.size ≤ 1000000) (h7 : 7 ≤ s.size) (e2 : s2 = s.extract 7 s.size) (x0 : Hid (Nx s2 6 m0 s3)) (x1 : Hid (Nx s3 6 m1 s4)) (x2 : Hid (Nx s4 6 m2 s5)) (x3 : Hid (Nx s5 6 m3 s6)) (x4 : Hid (Nx s6 6 m4 s7)) (x5 : Hid (Nx s7 6 m5 s8)) (x6 : Hid (Nx s8 6 m6 s9)) (x7 : Hid (Nx s9 6 m7 s10)) (hg : goodB (m0 : Int) (m1 : Int) (m2 : Int) (m3 : Int) (m4 : Int) (m5 : Int) (m6 : Int) (m7 : Int) = false) : SeeFails s 7 false 0 := by
  intro g w h
  obtain ⟨g0, e3, l0⟩ := ref_num_nx s s3 7 6 m0 0 hs (by omega) (by omega) (by omega) (by rw [← e2]; exact x0.out)
  obtain ⟨g1, e4, l1⟩ := ref_num_nx s s4 13 6 m1 0 hs (by omega) (by omega) (by omega) (by rw [← e3]; exact x1.out)
  obtain ⟨g2, e5, l2⟩ := ref_num_nx s s5 19 6 m2 0 hs (by omega) (by omega) (by omega) (by rw [← e4]; exact x2.out)
  obtain ⟨g3, e6, l3⟩ := ref_num_nx s s6 25 6 m3 0 hs (by omega) (by omega) (by omega) (by rw [← e5]; exact x3.out)
  obtain ⟨g4, e7, l4⟩ := ref_num_nx s s7 31 6 m4 0 hs (by omega) (by omega) (by omega) (by rw [← e6]; exact x4.out)
  obtain ⟨g5, e8, l5⟩ := ref_num_nx s s8 37 6 m5 0 hs (by omega) (by omega) (by omega) (by rw [← e7]; exact x5.out)
  obtain ⟨g6, e9, l6⟩ := ref_num_nx s s9 43 6 m6 0 hs (by omega) (by omega) (by omega) (by rw [← e8]; exact x6.out)
  obtain ⟨g7, e10, l7⟩ := ref_num_nx s s10 49 6 m7 0 hs (by omega) (by omega) (by omega) (by rw [← e9]; exact x7.out)
  refine (rsee_bad g s 7 13 19 25 31 37 43 49 55 0 0 0 0 0 0 0 0 0 (m0 : Int) (m1 : Int) (m2 : Int) (m3 : Int) (m4 : Int) (m5 : Int) (m6 : Int) (m7 : Int) false false false false false false false false false w h (Lib.hid g0) (Lib.hid g1) (Lib.hid g2) (Lib.hid g3) (Lib.hid g4) (Lib.hid g5) (Lib.hid g6) (Lib.hid g7) hg 55 201 true (Lib.hid (fail_live s 55 0 201))).mono ?_
  rintro e w' ⟨he, hj⟩
  exact ⟨(m0 : Int), (m1 : Int), (m2 : Int), (m3 : Int), (m4 : Int), (m5 : Int), (m6 : Int), (m7 : Int), 55, he, hj⟩
end Go.Proofs.Ytdjmpedfeahajaa

set_option linter.unusedSimpArgs false
set_option linter.unusedVariables false
namespace Go.Proofs.Ytdjmpedfeahajaa
open Go.RowKit Go.Proofs.YtdjmpedfeahajaaW.PrintWords Go.Proofs.YtdjmpedfeahajaaW.PrintLast Go.Proofs.YtdjmpedfeahajaaW.PrintMore

theorem EyeAt.new_at (W : World) (g : Nat) (hg : g = W.heap.size) (s : ByteArray) (a : Int) (d : Bool) (b : Int) : EyeAt (W.alloc (eyeO s a d b)) g s a d b := by
  subst hg
  exact EyeAt.new W s a d b
theorem eql_vec_same (n0 n1 n2 n3 n4 n5 n6 n7 : Int) (W : World) : (binOp .eql 23 (vec n0 n1 n2 n3 n4 n5 n6 n7) (vec n0 n1 n2 n3 n4 n5 n6 n7)).run Try.prog W = .ok (.bool true) W := by
  simp only [binOp]
  simp [Op.equal, Op.maxDepth, eq_vec]
theorem eql_st_same (t who : Int) (W : World) : (binOp .eql 25 (stamp t who) (stamp t who)).run Try.prog W = .ok (.bool true) W := by
  have h : ∀ w, (Op.equalIn 10000 25 (stamp t who) (stamp t who)).run Try.prog w = .ok true w := fun w => by
    rw [Op.equalIn.eq_def]
    simp only [go_sem]
    simp [go_sem, List.range', List.forIn_cons, List.forIn_nil]
  simp only [binOp]
  simp [Op.equal, Op.maxDepth, h]
set_option maxHeartbeats 8000000 in
set_option maxRecDepth 100000 in
theorem bytes_long (A : Option Addr) (c : Nat) (l : List Int) (n0 n1 n2 n3 n4 n5 n6 n7 t0 u0 : Int) (B : Option Addr) (d : Nat) (li : List Int) (w : World) (hA0 : ReadsB w A l) (hc : l.length ≤ c) (hB0 : ReadsB w B li) (hd : li.length ≤ d) (h1 : (4096 : Int) < (l.length : Int)) : Calls Try.prog 17 #[.slice A l.length c, vec n0 n1 n2 n3 n4 n5 n6 n7, stamp t0 u0, .slice B li.length d] w (Ret (.bool true) w) := by
  clear hA0 hB0
  go_enter Try.func17, Try.ntmps17
  go_wp2_with (go_at_call 20; (with_reducible refine (awake_any _).mono ?_); rintro e1 w1 ⟨rfl, j1, rfl⟩)
  go_ret
  exact Ret.mk (by first | rfl | simp) (by (repeat' (first | (with_reducible exact Below.refl _ _) | (with_reducible assumption) | (with_reducible exact below_app _ _ _ _) | (with_reducible refine below_pre ?_; (simp only [List.append_assoc, List.prefix_append, List.prefix_refl, List.prefix_append_right_inj])) | (with_reducible refine Below.alloc ?_ ?_ _) | (with_reducible refine below_ext ?_ ?_ _) | (with_reducible refine Below.drew ?_) | (with_reducible refine below_drewN ?_ _) | (with_reducible refine Below.setCell ?_ ?_ _) | go_size | (simp only [w_size_ext, List.length_append, World.alloc_size]; omega) | (simp; done) | (simp; omega))))

set_option maxHeartbeats 8000000 in
set_option maxRecDepth 100000 in
theorem bytes_long2 (A : Option Addr) (c : Nat) (l : List Int) (n0 n1 n2 n3 n4 n5 n6 n7 t0 u0 : Int) (B : Option Addr) (d : Nat) (li : List Int) (w : World) (hA0 : ReadsB w A l) (hc : l.length ≤ c) (hB0 : ReadsB w B li) (hd : li.length ≤ d) (h1 : ¬ (4096 : Int) < (l.length : Int)) (h2 : (4096 : Int) < (li.length : Int)) : Calls Try.prog 17 #[.slice A l.length c, vec n0 n1 n2 n3 n4 n5 n6 n7, stamp t0 u0, .slice B li.length d] w (Ret (.bool true) w) := by
  clear hA0 hB0
  go_enter Try.func17, Try.ntmps17
  go_wp2_with (go_at_call 20; (with_reducible refine (awake_any _).mono ?_); rintro e1 w1 ⟨rfl, j1, rfl⟩)
  go_ret
  exact Ret.mk (by first | rfl | simp) (by (repeat' (first | (with_reducible exact Below.refl _ _) | (with_reducible assumption) | (with_reducible exact below_app _ _ _ _) | (with_reducible refine below_pre ?_; (simp only [List.append_assoc, List.prefix_append, List.prefix_refl, List.prefix_append_right_inj])) | (with_reducible refine Below.alloc ?_ ?_ _) | (with_reducible refine below_ext ?_ ?_ _) | (with_reducible refine Below.drew ?_) | (with_reducible refine below_drewN ?_ _) | (with_reducible refine Below.setCell ?_ ?_ _) | go_size | (simp only [w_size_ext, List.length_append, World.alloc_size]; omega) | (simp; done) | (simp; omega))))

set_option maxHeartbeats 8000000 in
set_option maxRecDepth 100000 in
theorem bytes_no (A : Option Addr) (c : Nat) (l : List Int) (n0 n1 n2 n3 n4 n5 n6 n7 t0 u0 : Int) (B : Option Addr) (d : Nat) (li : List Int) (w : World) (hA0 : ReadsB w A l) (hc : l.length ≤ c) (hB0 : ReadsB w B li) (hd : li.length ≤ d) (h1 : ¬ (4096 : Int) < (l.length : Int)) (h2 : ¬ (4096 : Int) < (li.length : Int)) (s0 : ByteArray) (sI : strOfNums li = s0) (HTH : Hid (∀ py px, Thr81 py px s0)) (t who a b : Int) (q : Bool) (RS : Hid (PSeeStamp.crannogref09_SeeStamp.f 20 s0 0 false 0 = some (t, who, s0, a, q, b))) (RV : Hid (SeeFails s0 a q b)) : Calls Try.prog 17 #[.slice A l.length c, vec n0 n1 n2 n3 n4 n5 n6 n7, stamp t0 u0, .slice B li.length d] w (Ret (.bool true) w) := by
  have hl6 := Lib.hid (show l.length ≤ 1000000 by omega)
  have hA := Lib.hid hA0
  have hB := Lib.hid hB0
  have hmf : ∀ (fn : Fn) (first cap : Array Value) (w : World), (Instr.makeFunc fn first cap).run Try.prog w = .ok (.func fn first cap) w := fun _ _ _ _ => rfl
  have hcv : ∀ (j j' : Junk) (x y : Obj), (convert 43 9 (.slice B li.length d)).run Try.prog (wext (((wext ((w.alloc (.cells #[.int .i64 n0, .int .i64 n1, .int .i64 n2, .int .i64 n3, .int .i64 n4, .int .i64 n5, .int .i64 n6, .int .i64 n7] 23)).alloc (.cells #[.int .i64 t0, .int .i64 u0] 25)) j).alloc x).alloc y) j') = .ok (.string s0) (wext (((wext ((w.alloc (.cells #[.int .i64 n0, .int .i64 n1, .int .i64 n2, .int .i64 n3, .int .i64 n4, .int .i64 n5, .int .i64 n6, .int .i64 n7] 23)).alloc (.cells #[.int .i64 t0, .int .i64 u0] 25)) j).alloc x).alloc y) j') := fun j j' x y => by
    rw [← sI]
    exact conv_read hB0 d _ (by (repeat' (first | (with_reducible exact Below.refl _ _) | (with_reducible assumption) | (with_reducible exact below_app _ _ _ _) | (with_reducible refine below_pre ?_; (simp only [List.append_assoc, List.prefix_append, List.prefix_refl, List.prefix_append_right_inj])) | (with_reducible refine Below.alloc ?_ ?_ _) | (with_reducible refine below_ext ?_ ?_ _) | (with_reducible refine Below.drew ?_) | (with_reducible refine below_drewN ?_ _) | (with_reducible refine Below.setCell ?_ ?_ _) | go_size | (simp only [w_size_ext, List.length_append, World.alloc_size]; omega) | (simp; done) | (simp; omega))))
  clear hA0 hB0
  go_enter Try.func17, Try.ntmps17
  go_wp2_with fail
  refine wp_region_mix [(0, true), (1, true), (3, true), (4, true), (2, false), (5, false), (6, false), (7, true), (8, true), (9, true), (10, true), (12, true), (13, true), (11, false), (14, false), (15, false), (16, true), (17, true)] (by kernel_rfl) (by kernel_rfl) rfl (by kernel_rfl) (by intro _ _ d _ _ h; cases d <;> exact h) ?_; intro j1; (repeat (first | (refine wpMix_skip rfl rfl ?_; simp only [Act.put, List.setIfInBounds_toArray, List.set_cons_zero, List.set_cons_succ]) | (refine wpMix_light rfl rfl ?_; intro K hK; go_simp; refine hK _ ?_; clear hK K) | (refine wpMix_heavy rfl rfl ?_; intro K hK; go_wp2_with ((first | (go_at_call 75; (with_reducible refine (vput_any A c l n0 n1 n2 n3 n4 n5 n6 n7 _ ?_ hc hl6.out).mono ?_); (· exact Kd.C_below hA.out (by (repeat' (first | (with_reducible exact Below.refl _ _) | (with_reducible assumption) | (with_reducible exact below_app _ _ _ _) | (with_reducible refine below_pre ?_; (simp only [List.append_assoc, List.prefix_append, List.prefix_refl, List.prefix_append_right_inj])) | (with_reducible refine Below.alloc ?_ ?_ _) | (with_reducible refine below_ext ?_ ?_ _) | (with_reducible refine Below.drew ?_) | (with_reducible refine below_drewN ?_ _) | (with_reducible refine Below.setCell ?_ ?_ _) | go_size | (simp only [w_size_ext, List.length_append, World.alloc_size]; omega) | (simp; done) | (simp; omega))))); rintro e1 w1 ⟨P, cP, rfl, kP, j1, rfl, hP⟩; (try simp only [w_ext_ext] at hP); have HP := Lib.hid hP; clear hP) | (go_at_call 79; (with_reducible refine (rvput_any A c l n0 n1 n2 n3 n4 n5 n6 n7 _ ?_ hc hl6.out).mono ?_); (· exact Kd.C_below hA.out (by (repeat' (first | (with_reducible exact Below.refl _ _) | (with_reducible assumption) | (with_reducible exact below_app _ _ _ _) | (with_reducible refine below_pre ?_; (simp only [List.append_assoc, List.prefix_append, List.prefix_refl, List.prefix_append_right_inj])) | (with_reducible refine Below.alloc ?_ ?_ _) | (with_reducible refine below_ext ?_ ?_ _) | (with_reducible refine Below.drew ?_) | (with_reducible refine below_drewN ?_ _) | (with_reducible refine Below.setCell ?_ ?_ _) | go_size | (simp only [w_size_ext, List.length_append, World.alloc_size]; omega) | (simp; done) | (simp; omega))))); rintro e1 w1 ⟨R, cR, rfl, kR, j1, rfl, hR⟩; (try simp only [w_ext_ext] at hR); have HR := Lib.hid hR; clear hR) | (go_at_call 55; (with_reducible refine (equal_gen P R cP cR (vecR l n0 n1 n2 n3 n4 n5 n6 n7) _ ?_ kP ?_ kR).mono ?_); (· exact Kd.C_below HP.out (by (repeat' (first | (with_reducible exact Below.refl _ _) | (with_reducible assumption) | (with_reducible exact below_app _ _ _ _) | (with_reducible refine below_pre ?_; (simp only [List.append_assoc, List.prefix_append, List.prefix_refl, List.prefix_append_right_inj])) | (with_reducible refine Below.alloc ?_ ?_ _) | (with_reducible refine below_ext ?_ ?_ _) | (with_reducible refine Below.drew ?_) | (with_reducible refine below_drewN ?_ _) | (with_reducible refine Below.setCell ?_ ?_ _) | go_size | (simp only [w_size_ext, List.length_append, World.alloc_size]; omega) | (simp; done) | (simp; omega))))); (· exact Kd.C_below HR.out (by (repeat' (first | (with_reducible exact Below.refl _ _) | (with_reducible assumption) | (with_reducible exact below_app _ _ _ _) | (with_reducible refine below_pre ?_; (simp only [List.append_assoc, List.prefix_append, List.prefix_refl, List.prefix_append_right_inj])) | (with_reducible refine Below.alloc ?_ ?_ _) | (with_reducible refine below_ext ?_ ?_ _) | (with_reducible refine Below.drew ?_) | (with_reducible refine below_drewN ?_ _) | (with_reducible refine Below.setCell ?_ ?_ _) | go_size | (simp only [w_size_ext, List.length_append, World.alloc_size]; omega) | (simp; done) | (simp; omega))))); rintro e1 w1 ⟨rfl, j1, rfl⟩) | (go_at_call 41; (with_reducible refine (pstamp_any A c l t0 u0 _ ?_ hc hl6.out).mono ?_); (· exact Kd.C_below hA.out (by (repeat' (first | (with_reducible exact Below.refl _ _) | (with_reducible assumption) | (with_reducible exact below_app _ _ _ _) | (with_reducible refine below_pre ?_; (simp only [List.append_assoc, List.prefix_append, List.prefix_refl, List.prefix_append_right_inj])) | (with_reducible refine Below.alloc ?_ ?_ _) | (with_reducible refine below_ext ?_ ?_ _) | (with_reducible refine Below.drew ?_) | (with_reducible refine below_drewN ?_ _) | (with_reducible refine Below.setCell ?_ ?_ _) | go_size | (simp only [w_size_ext, List.length_append, World.alloc_size]; omega) | (simp; done) | (simp; omega))))); rintro e1 w1 ⟨T, cT, rfl, kT, j1, rfl, hT⟩; (try simp only [w_ext_ext] at hT); have HT := Lib.hid hT; clear hT) | (go_at_call 80; (with_reducible refine (rpstamp_any A c l t0 u0 _ ?_ hc hl6.out).mono ?_); (· exact Kd.C_below hA.out (by (repeat' (first | (with_reducible exact Below.refl _ _) | (with_reducible assumption) | (with_reducible exact below_app _ _ _ _) | (with_reducible refine below_pre ?_; (simp only [List.append_assoc, List.prefix_append, List.prefix_refl, List.prefix_append_right_inj])) | (with_reducible refine Below.alloc ?_ ?_ _) | (with_reducible refine below_ext ?_ ?_ _) | (with_reducible refine Below.drew ?_) | (with_reducible refine below_drewN ?_ _) | (with_reducible refine Below.setCell ?_ ?_ _) | go_size | (simp only [w_size_ext, List.length_append, World.alloc_size]; omega) | (simp; done) | (simp; omega))))); rintro e1 w1 ⟨U, cU, rfl, kU, j1, rfl, hU⟩; (try simp only [w_ext_ext] at hU); have HU := Lib.hid hU; clear hU) | (go_at_call 55; (with_reducible refine (equal_gen T U cT cU (stampR l t0 u0) _ ?_ kT ?_ kU).mono ?_); (· exact Kd.C_below HT.out (by (repeat' (first | (with_reducible exact Below.refl _ _) | (with_reducible assumption) | (with_reducible exact below_app _ _ _ _) | (with_reducible refine below_pre ?_; (simp only [List.append_assoc, List.prefix_append, List.prefix_refl, List.prefix_append_right_inj])) | (with_reducible refine Below.alloc ?_ ?_ _) | (with_reducible refine below_ext ?_ ?_ _) | (with_reducible refine Below.drew ?_) | (with_reducible refine below_drewN ?_ _) | (with_reducible refine Below.setCell ?_ ?_ _) | go_size | (simp only [w_size_ext, List.length_append, World.alloc_size]; omega) | (simp; done) | (simp; omega))))); (· exact Kd.C_below HU.out (by (repeat' (first | (with_reducible exact Below.refl _ _) | (with_reducible assumption) | (with_reducible exact below_app _ _ _ _) | (with_reducible refine below_pre ?_; (simp only [List.append_assoc, List.prefix_append, List.prefix_refl, List.prefix_append_right_inj])) | (with_reducible refine Below.alloc ?_ ?_ _) | (with_reducible refine below_ext ?_ ?_ _) | (with_reducible refine Below.drew ?_) | (with_reducible refine below_drewN ?_ _) | (with_reducible refine Below.setCell ?_ ?_ _) | go_size | (simp only [w_size_ext, List.length_append, World.alloc_size]; omega) | (simp; done) | (simp; omega))))); rintro e1 w1 ⟨rfl, j1, rfl⟩))); refine ⟨w_ext_of_below (by (repeat' (first | (with_reducible exact Below.refl _ _) | (with_reducible assumption) | (with_reducible exact below_app _ _ _ _) | (with_reducible refine below_pre ?_; (simp only [List.append_assoc, List.prefix_append, List.prefix_refl, List.prefix_append_right_inj])) | (with_reducible refine Below.alloc ?_ ?_ _) | (with_reducible refine below_ext ?_ ?_ _) | (with_reducible refine Below.drew ?_) | (with_reducible refine below_drewN ?_ _) | (with_reducible refine Below.setCell ?_ ?_ _) | go_size | (simp only [w_size_ext, List.length_append, World.alloc_size]; omega) | (simp; done) | (simp; omega)))), ?_⟩))); refine wpMix_nil ?_
  go_wp2_with (first | (go_at_call 48; (with_reducible refine (read81_no B d li _ _ s0 _ ?_ sI (HTH.out _ _)).mono ?_); (· exact Kd.C_below hB.out (by (repeat' (first | (with_reducible exact Below.refl _ _) | (with_reducible assumption) | (with_reducible exact below_app _ _ _ _) | (with_reducible refine below_pre ?_; (simp only [List.append_assoc, List.prefix_append, List.prefix_refl, List.prefix_append_right_inj])) | (with_reducible refine Below.alloc ?_ ?_ _) | (with_reducible refine below_ext ?_ ?_ _) | (with_reducible refine Below.drew ?_) | (with_reducible refine below_drewN ?_ _) | (with_reducible refine Below.setCell ?_ ?_ _) | go_size | (simp only [w_size_ext, List.length_append, World.alloc_size]; omega) | (simp; done) | (simp; omega))))); rintro e1 w1 ⟨rfl, j1, rfl⟩) | (go_at_call 82; (with_reducible refine (rseeS_any _ s0 s0 0 a 0 b t who false q _ ?_ RS.out).mono ?_); (· (repeat' (first | (with_reducible assumption) | (with_reducible refine EyeAt.ext ?_ _) | (with_reducible refine EyeAt.new_at _ _ ?_ _ _ _ _; first | rfl | (simp; done) | (simp; omega) | go_size) | (with_reducible refine EyeAt.alloc ?_ _) | (with_reducible refine EyeAt.drew ?_)))); rintro e1 w1 ⟨rfl, j1, rfl⟩) | (go_at_call 83; refine (RV.out _ _ ?_).mono ?_; (· (repeat' (first | (with_reducible assumption) | (with_reducible refine EyeAt.ext ?_ _) | (with_reducible refine EyeAt.new_at _ _ ?_ _ _ _ _; first | rfl | (simp; done) | (simp; omega) | go_size) | (with_reducible refine EyeAt.alloc ?_ _) | (with_reducible refine EyeAt.drew ?_)))); rintro e1 w1 ⟨p0, p1, p2, p3, p4, p5, p6, p7, a9, rfl, j1, rfl⟩) | (go_at_call 72; refine (rend_any _ s0 s0 a9 a9 201 201 201 true true _ ?_ (end_done s0 a9 201)).mono ?_; (· (repeat' (first | (with_reducible assumption) | (with_reducible refine EyeAt.ext ?_ _) | (with_reducible refine EyeAt.new_at _ _ ?_ _ _ _ _; first | rfl | (simp; done) | (simp; omega) | go_size) | (with_reducible refine EyeAt.alloc ?_ _) | (with_reducible refine EyeAt.drew ?_)))); rintro e1 w1 ⟨rfl, j1, rfl⟩) | (go_at_call 20; (with_reducible refine (awake_any _).mono ?_); rintro e1 w1 ⟨rfl, j1, rfl⟩))
  go_ret
  exact Ret.mk (by first | rfl | simp) (by (repeat' (first | (with_reducible exact Below.refl _ _) | (with_reducible assumption) | (with_reducible exact below_app _ _ _ _) | (with_reducible refine below_pre ?_; (simp only [List.append_assoc, List.prefix_append, List.prefix_refl, List.prefix_append_right_inj])) | (with_reducible refine Below.alloc ?_ ?_ _) | (with_reducible refine below_ext ?_ ?_ _) | (with_reducible refine Below.drew ?_) | (with_reducible refine below_drewN ?_ _) | (with_reducible refine Below.setCell ?_ ?_ _) | go_size | (simp only [w_size_ext, List.length_append, World.alloc_size]; omega) | (simp; done) | (simp; omega))))

set_option maxHeartbeats 8000000 in
set_option maxRecDepth 100000 in
theorem bytes_more (A : Option Addr) (c : Nat) (l : List Int) (n0 n1 n2 n3 n4 n5 n6 n7 t0 u0 : Int) (B : Option Addr) (d : Nat) (li : List Int) (w : World) (hA0 : ReadsB w A l) (hc : l.length ≤ c) (hB0 : ReadsB w B li) (hd : li.length ≤ d) (h1 : ¬ (4096 : Int) < (l.length : Int)) (h2 : ¬ (4096 : Int) < (li.length : Int)) (s0 s1 s2 s3 s4 s5 s6 s7 s8 s9 s10 : ByteArray) (m0 m1 m2 m3 m4 m5 m6 m7 t who : Nat) (sI : strOfNums li = s0) (y0 : Hid (Nx s0 6 t s1)) (y1 : Hid (Nx s1 1 who s2)) (x0 : Hid (Nx s2 6 m0 s3)) (x1 : Hid (Nx s3 6 m1 s4)) (x2 : Hid (Nx s4 6 m2 s5)) (x3 : Hid (Nx s5 6 m3 s6)) (x4 : Hid (Nx s6 6 m4 s7)) (x5 : Hid (Nx s7 6 m5 s8)) (x6 : Hid (Nx s8 6 m6 s9)) (x7 : Hid (Nx s9 6 m7 s10)) (hg0 : goodB (m0 : Int) (m1 : Int) (m2 : Int) (m3 : Int) (m4 : Int) (m5 : Int) (m6 : Int) (m7 : Int) = true) (hs0 : (isB (t : Int) (who : Int) = true ∨ (isB (t : Int) (who : Int) = false ∧ t = 0 ∧ who = 0))) (hs6 : Hid (s0.size ≤ 1000000 ∧ 7 ≤ s0.size)) (ES : Hid (s2 = s0.extract 7 s0.size)) (RS : Hid (PSeeStamp.crannogref09_SeeStamp.f 20 s0 0 false 0 = some ((t : Int), (who : Int), s0, 7, false, 0))) (h10 : Hid (¬ s10.size = 0)) (RE : Hid ((55 : Int) < (s0.size : Int))) : Calls Try.prog 17 #[.slice A l.length c, vec n0 n1 n2 n3 n4 n5 n6 n7, stamp t0 u0, .slice B li.length d] w (Ret (.bool true) w) := by
  have hg := Lib.hid hg0
  have hs := Lib.hid hs0
  clear hg0 hs0
  have hl6 := Lib.hid (show l.length ≤ 1000000 by omega)
  have hA := Lib.hid hA0
  have hB := Lib.hid hB0
  have hmf : ∀ (fn : Fn) (first cap : Array Value) (w : World), (Instr.makeFunc fn first cap).run Try.prog w = .ok (.func fn first cap) w := fun _ _ _ _ => rfl
  have hcv : ∀ (j j' : Junk) (x y : Obj), (convert 43 9 (.slice B li.length d)).run Try.prog (wext (((wext ((w.alloc (.cells #[.int .i64 n0, .int .i64 n1, .int .i64 n2, .int .i64 n3, .int .i64 n4, .int .i64 n5, .int .i64 n6, .int .i64 n7] 23)).alloc (.cells #[.int .i64 t0, .int .i64 u0] 25)) j).alloc x).alloc y) j') = .ok (.string s0) (wext (((wext ((w.alloc (.cells #[.int .i64 n0, .int .i64 n1, .int .i64 n2, .int .i64 n3, .int .i64 n4, .int .i64 n5, .int .i64 n6, .int .i64 n7] 23)).alloc (.cells #[.int .i64 t0, .int .i64 u0] 25)) j).alloc x).alloc y) j') := fun j j' x y => by
    rw [← sI]
    exact conv_read hB0 d _ (by (repeat' (first | (with_reducible exact Below.refl _ _) | (with_reducible assumption) | (with_reducible exact below_app _ _ _ _) | (with_reducible refine below_pre ?_; (simp only [List.append_assoc, List.prefix_append, List.prefix_refl, List.prefix_append_right_inj])) | (with_reducible refine Below.alloc ?_ ?_ _) | (with_reducible refine below_ext ?_ ?_ _) | (with_reducible refine Below.drew ?_) | (with_reducible refine below_drewN ?_ _) | (with_reducible refine Below.setCell ?_ ?_ _) | go_size | (simp only [w_size_ext, List.length_append, World.alloc_size]; omega) | (simp; done) | (simp; omega))))
  clear hA0 hB0
  go_enter Try.func17, Try.ntmps17
  go_wp2_with fail
  refine wp_region_mix [(0, true), (1, true), (3, true), (4, true), (2, false), (5, false), (6, false), (7, true), (8, true), (9, true), (10, true), (12, true), (13, true), (11, false), (14, false), (15, false), (16, true), (17, true)] (by kernel_rfl) (by kernel_rfl) rfl (by kernel_rfl) (by intro _ _ d _ _ h; cases d <;> exact h) ?_; intro j1; (repeat (first | (refine wpMix_skip rfl rfl ?_; simp only [Act.put, List.setIfInBounds_toArray, List.set_cons_zero, List.set_cons_succ]) | (refine wpMix_light rfl rfl ?_; intro K hK; go_simp; refine hK _ ?_; clear hK K) | (refine wpMix_heavy rfl rfl ?_; intro K hK; go_wp2_with ((first | (go_at_call 75; (with_reducible refine (vput_any A c l n0 n1 n2 n3 n4 n5 n6 n7 _ ?_ hc hl6.out).mono ?_); (· exact Kd.C_below hA.out (by (repeat' (first | (with_reducible exact Below.refl _ _) | (with_reducible assumption) | (with_reducible exact below_app _ _ _ _) | (with_reducible refine below_pre ?_; (simp only [List.append_assoc, List.prefix_append, List.prefix_refl, List.prefix_append_right_inj])) | (with_reducible refine Below.alloc ?_ ?_ _) | (with_reducible refine below_ext ?_ ?_ _) | (with_reducible refine Below.drew ?_) | (with_reducible refine below_drewN ?_ _) | (with_reducible refine Below.setCell ?_ ?_ _) | go_size | (simp only [w_size_ext, List.length_append, World.alloc_size]; omega) | (simp; done) | (simp; omega))))); rintro e1 w1 ⟨P, cP, rfl, kP, j1, rfl, hP⟩; (try simp only [w_ext_ext] at hP); have HP := Lib.hid hP; clear hP) | (go_at_call 79; (with_reducible refine (rvput_any A c l n0 n1 n2 n3 n4 n5 n6 n7 _ ?_ hc hl6.out).mono ?_); (· exact Kd.C_below hA.out (by (repeat' (first | (with_reducible exact Below.refl _ _) | (with_reducible assumption) | (with_reducible exact below_app _ _ _ _) | (with_reducible refine below_pre ?_; (simp only [List.append_assoc, List.prefix_append, List.prefix_refl, List.prefix_append_right_inj])) | (with_reducible refine Below.alloc ?_ ?_ _) | (with_reducible refine below_ext ?_ ?_ _) | (with_reducible refine Below.drew ?_) | (with_reducible refine below_drewN ?_ _) | (with_reducible refine Below.setCell ?_ ?_ _) | go_size | (simp only [w_size_ext, List.length_append, World.alloc_size]; omega) | (simp; done) | (simp; omega))))); rintro e1 w1 ⟨R, cR, rfl, kR, j1, rfl, hR⟩; (try simp only [w_ext_ext] at hR); have HR := Lib.hid hR; clear hR) | (go_at_call 55; (with_reducible refine (equal_gen P R cP cR (vecR l n0 n1 n2 n3 n4 n5 n6 n7) _ ?_ kP ?_ kR).mono ?_); (· exact Kd.C_below HP.out (by (repeat' (first | (with_reducible exact Below.refl _ _) | (with_reducible assumption) | (with_reducible exact below_app _ _ _ _) | (with_reducible refine below_pre ?_; (simp only [List.append_assoc, List.prefix_append, List.prefix_refl, List.prefix_append_right_inj])) | (with_reducible refine Below.alloc ?_ ?_ _) | (with_reducible refine below_ext ?_ ?_ _) | (with_reducible refine Below.drew ?_) | (with_reducible refine below_drewN ?_ _) | (with_reducible refine Below.setCell ?_ ?_ _) | go_size | (simp only [w_size_ext, List.length_append, World.alloc_size]; omega) | (simp; done) | (simp; omega))))); (· exact Kd.C_below HR.out (by (repeat' (first | (with_reducible exact Below.refl _ _) | (with_reducible assumption) | (with_reducible exact below_app _ _ _ _) | (with_reducible refine below_pre ?_; (simp only [List.append_assoc, List.prefix_append, List.prefix_refl, List.prefix_append_right_inj])) | (with_reducible refine Below.alloc ?_ ?_ _) | (with_reducible refine below_ext ?_ ?_ _) | (with_reducible refine Below.drew ?_) | (with_reducible refine below_drewN ?_ _) | (with_reducible refine Below.setCell ?_ ?_ _) | go_size | (simp only [w_size_ext, List.length_append, World.alloc_size]; omega) | (simp; done) | (simp; omega))))); rintro e1 w1 ⟨rfl, j1, rfl⟩) | (go_at_call 41; (with_reducible refine (pstamp_any A c l t0 u0 _ ?_ hc hl6.out).mono ?_); (· exact Kd.C_below hA.out (by (repeat' (first | (with_reducible exact Below.refl _ _) | (with_reducible assumption) | (with_reducible exact below_app _ _ _ _) | (with_reducible refine below_pre ?_; (simp only [List.append_assoc, List.prefix_append, List.prefix_refl, List.prefix_append_right_inj])) | (with_reducible refine Below.alloc ?_ ?_ _) | (with_reducible refine below_ext ?_ ?_ _) | (with_reducible refine Below.drew ?_) | (with_reducible refine below_drewN ?_ _) | (with_reducible refine Below.setCell ?_ ?_ _) | go_size | (simp only [w_size_ext, List.length_append, World.alloc_size]; omega) | (simp; done) | (simp; omega))))); rintro e1 w1 ⟨T, cT, rfl, kT, j1, rfl, hT⟩; (try simp only [w_ext_ext] at hT); have HT := Lib.hid hT; clear hT) | (go_at_call 80; (with_reducible refine (rpstamp_any A c l t0 u0 _ ?_ hc hl6.out).mono ?_); (· exact Kd.C_below hA.out (by (repeat' (first | (with_reducible exact Below.refl _ _) | (with_reducible assumption) | (with_reducible exact below_app _ _ _ _) | (with_reducible refine below_pre ?_; (simp only [List.append_assoc, List.prefix_append, List.prefix_refl, List.prefix_append_right_inj])) | (with_reducible refine Below.alloc ?_ ?_ _) | (with_reducible refine below_ext ?_ ?_ _) | (with_reducible refine Below.drew ?_) | (with_reducible refine below_drewN ?_ _) | (with_reducible refine Below.setCell ?_ ?_ _) | go_size | (simp only [w_size_ext, List.length_append, World.alloc_size]; omega) | (simp; done) | (simp; omega))))); rintro e1 w1 ⟨U, cU, rfl, kU, j1, rfl, hU⟩; (try simp only [w_ext_ext] at hU); have HU := Lib.hid hU; clear hU) | (go_at_call 55; (with_reducible refine (equal_gen T U cT cU (stampR l t0 u0) _ ?_ kT ?_ kU).mono ?_); (· exact Kd.C_below HT.out (by (repeat' (first | (with_reducible exact Below.refl _ _) | (with_reducible assumption) | (with_reducible exact below_app _ _ _ _) | (with_reducible refine below_pre ?_; (simp only [List.append_assoc, List.prefix_append, List.prefix_refl, List.prefix_append_right_inj])) | (with_reducible refine Below.alloc ?_ ?_ _) | (with_reducible refine below_ext ?_ ?_ _) | (with_reducible refine Below.drew ?_) | (with_reducible refine below_drewN ?_ _) | (with_reducible refine Below.setCell ?_ ?_ _) | go_size | (simp only [w_size_ext, List.length_append, World.alloc_size]; omega) | (simp; done) | (simp; omega))))); (· exact Kd.C_below HU.out (by (repeat' (first | (with_reducible exact Below.refl _ _) | (with_reducible assumption) | (with_reducible exact below_app _ _ _ _) | (with_reducible refine below_pre ?_; (simp only [List.append_assoc, List.prefix_append, List.prefix_refl, List.prefix_append_right_inj])) | (with_reducible refine Below.alloc ?_ ?_ _) | (with_reducible refine below_ext ?_ ?_ _) | (with_reducible refine Below.drew ?_) | (with_reducible refine below_drewN ?_ _) | (with_reducible refine Below.setCell ?_ ?_ _) | go_size | (simp only [w_size_ext, List.length_append, World.alloc_size]; omega) | (simp; done) | (simp; omega))))); rintro e1 w1 ⟨rfl, j1, rfl⟩))); refine ⟨w_ext_of_below (by (repeat' (first | (with_reducible exact Below.refl _ _) | (with_reducible assumption) | (with_reducible exact below_app _ _ _ _) | (with_reducible refine below_pre ?_; (simp only [List.append_assoc, List.prefix_append, List.prefix_refl, List.prefix_append_right_inj])) | (with_reducible refine Below.alloc ?_ ?_ _) | (with_reducible refine below_ext ?_ ?_ _) | (with_reducible refine Below.drew ?_) | (with_reducible refine below_drewN ?_ _) | (with_reducible refine Below.setCell ?_ ?_ _) | go_size | (simp only [w_size_ext, List.length_append, World.alloc_size]; omega) | (simp; done) | (simp; omega)))), ?_⟩))); refine wpMix_nil ?_
  go_wp2_with (first | (go_at_call 48; refine (read81_more B d li _ _ s0 s1 s2 s3 s4 s5 s6 s7 s8 s9 s10 m0 m1 m2 m3 m4 m5 m6 m7 t who _ (Kd.C_below hB.out (by (repeat' (first | (with_reducible exact Below.refl _ _) | (with_reducible assumption) | (with_reducible exact below_app _ _ _ _) | (with_reducible refine below_pre ?_; (simp only [List.append_assoc, List.prefix_append, List.prefix_refl, List.prefix_append_right_inj])) | (with_reducible refine Below.alloc ?_ ?_ _) | (with_reducible refine below_ext ?_ ?_ _) | (with_reducible refine Below.drew ?_) | (with_reducible refine below_drewN ?_ _) | (with_reducible refine Below.setCell ?_ ?_ _) | go_size | (simp only [w_size_ext, List.length_append, World.alloc_size]; omega) | (simp; done) | (simp; omega))))) sI (by simp [go_sem]) (by simp [go_sem]) (by simp [go_sem]) (by simp [go_sem]) (by simp [go_sem]) (by simp [go_sem]) (by simp [go_sem]) (by simp [go_sem]) (by simp [go_sem]) (by simp [go_sem]) (by simp [go_sem]) (by simp [go_sem]) (by simp [go_sem]) (by simp [go_sem]) (by simp [go_sem]) (by simp [go_sem]) (by simp [go_sem]) (by simp [go_sem]) (by simp [go_sem]) (by simp [go_sem]) (by omega) y0 y1 x0 x1 x2 x3 x4 x5 x6 x7 h10.out hg.out hs.out).mono ?_; rintro e1 w1 ⟨rfl, j1, rfl⟩) | (go_at_call 82; (with_reducible refine (rseeS_any _ s0 s0 0 7 0 0 (t : Int) (who : Int) false false _ ?_ RS.out).mono ?_); (· (repeat' (first | (with_reducible assumption) | (with_reducible refine EyeAt.ext ?_ _) | (with_reducible refine EyeAt.new_at _ _ ?_ _ _ _ _; first | rfl | (simp; done) | (simp; omega) | go_size) | (with_reducible refine EyeAt.alloc ?_ _) | (with_reducible refine EyeAt.drew ?_)))); rintro e1 w1 ⟨rfl, j1, rfl⟩) | (go_at_call 83; refine (rsee_ok s0 s2 s3 s4 s5 s6 s7 s8 s9 s10 m0 m1 m2 m3 m4 m5 m6 m7 hs6.out.1 hs6.out.2 ES.out x0 x1 x2 x3 x4 x5 x6 x7 hg.out _ _ ?_).mono ?_; (· (repeat' (first | (with_reducible assumption) | (with_reducible refine EyeAt.ext ?_ _) | (with_reducible refine EyeAt.new_at _ _ ?_ _ _ _ _; first | rfl | (simp; done) | (simp; omega) | go_size) | (with_reducible refine EyeAt.alloc ?_ _) | (with_reducible refine EyeAt.drew ?_)))); rintro e1 w1 ⟨rfl, j1, rfl⟩) | (go_at_call 72; refine (rend_any _ s0 s0 55 55 0 201 201 false true _ ?_ (end_more s0 55 0 RE.out)).mono ?_; (· (repeat' (first | (with_reducible assumption) | (with_reducible refine EyeAt.ext ?_ _) | (with_reducible refine EyeAt.new_at _ _ ?_ _ _ _ _; first | rfl | (simp; done) | (simp; omega) | go_size) | (with_reducible refine EyeAt.alloc ?_ _) | (with_reducible refine EyeAt.drew ?_)))); rintro e1 w1 ⟨rfl, j1, rfl⟩) | (go_at_call 20; (with_reducible refine (awake_any _).mono ?_); rintro e1 w1 ⟨rfl, j1, rfl⟩))
  go_ret
  exact Ret.mk (by first | rfl | simp) (by (repeat' (first | (with_reducible exact Below.refl _ _) | (with_reducible assumption) | (with_reducible exact below_app _ _ _ _) | (with_reducible refine below_pre ?_; (simp only [List.append_assoc, List.prefix_append, List.prefix_refl, List.prefix_append_right_inj])) | (with_reducible refine Below.alloc ?_ ?_ _) | (with_reducible refine below_ext ?_ ?_ _) | (with_reducible refine Below.drew ?_) | (with_reducible refine below_drewN ?_ _) | (with_reducible refine Below.setCell ?_ ?_ _) | go_size | (simp only [w_size_ext, List.length_append, World.alloc_size]; omega) | (simp; done) | (simp; omega))))

set_option maxHeartbeats 8000000 in
set_option maxRecDepth 100000 in
theorem bytes_ok (A : Option Addr) (c : Nat) (l : List Int) (n0 n1 n2 n3 n4 n5 n6 n7 t0 u0 : Int) (B : Option Addr) (d : Nat) (li : List Int) (w : World) (hA0 : ReadsB w A l) (hc : l.length ≤ c) (hB0 : ReadsB w B li) (hd : li.length ≤ d) (h1 : ¬ (4096 : Int) < (l.length : Int)) (h2 : ¬ (4096 : Int) < (li.length : Int)) (s0 s1 s2 s3 s4 s5 s6 s7 s8 s9 s10 : ByteArray) (m0 m1 m2 m3 m4 m5 m6 m7 t who : Nat) (sI : strOfNums li = s0) (y0 : Hid (Nx s0 6 t s1)) (y1 : Hid (Nx s1 1 who s2)) (x0 : Hid (Nx s2 6 m0 s3)) (x1 : Hid (Nx s3 6 m1 s4)) (x2 : Hid (Nx s4 6 m2 s5)) (x3 : Hid (Nx s5 6 m3 s6)) (x4 : Hid (Nx s6 6 m4 s7)) (x5 : Hid (Nx s7 6 m5 s8)) (x6 : Hid (Nx s8 6 m6 s9)) (x7 : Hid (Nx s9 6 m7 s10)) (hg0 : goodB (m0 : Int) (m1 : Int) (m2 : Int) (m3 : Int) (m4 : Int) (m5 : Int) (m6 : Int) (m7 : Int) = true) (hs0 : (isB (t : Int) (who : Int) = true ∨ (isB (t : Int) (who : Int) = false ∧ t = 0 ∧ who = 0))) (hs6 : Hid (s0.size ≤ 1000000 ∧ 7 ≤ s0.size)) (ES : Hid (s2 = s0.extract 7 s0.size)) (RS : Hid (PSeeStamp.crannogref09_SeeStamp.f 20 s0 0 false 0 = some ((t : Int), (who : Int), s0, 7, false, 0))) (h10 : Hid (s10 = ⟨#[]⟩)) (RE : Hid ((s0.size : Int) ≤ 55)) : Calls Try.prog 17 #[.slice A l.length c, vec n0 n1 n2 n3 n4 n5 n6 n7, stamp t0 u0, .slice B li.length d] w (Ret (.bool true) w) := by
  have hg := Lib.hid hg0
  have hs := Lib.hid hs0
  clear hg0 hs0
  have qv := eql_vec_same (m0 : Int) (m1 : Int) (m2 : Int) (m3 : Int) (m4 : Int) (m5 : Int) (m6 : Int) (m7 : Int)
  have qs := eql_st_same (t : Int) (who : Int)
  have hl6 := Lib.hid (show l.length ≤ 1000000 by omega)
  have hA := Lib.hid hA0
  have hB := Lib.hid hB0
  have hmf : ∀ (fn : Fn) (first cap : Array Value) (w : World), (Instr.makeFunc fn first cap).run Try.prog w = .ok (.func fn first cap) w := fun _ _ _ _ => rfl
  have hcv : ∀ (j j' : Junk) (x y : Obj), (convert 43 9 (.slice B li.length d)).run Try.prog (wext (((wext ((w.alloc (.cells #[.int .i64 n0, .int .i64 n1, .int .i64 n2, .int .i64 n3, .int .i64 n4, .int .i64 n5, .int .i64 n6, .int .i64 n7] 23)).alloc (.cells #[.int .i64 t0, .int .i64 u0] 25)) j).alloc x).alloc y) j') = .ok (.string s0) (wext (((wext ((w.alloc (.cells #[.int .i64 n0, .int .i64 n1, .int .i64 n2, .int .i64 n3, .int .i64 n4, .int .i64 n5, .int .i64 n6, .int .i64 n7] 23)).alloc (.cells #[.int .i64 t0, .int .i64 u0] 25)) j).alloc x).alloc y) j') := fun j j' x y => by
    rw [← sI]
    exact conv_read hB0 d _ (by (repeat' (first | (with_reducible exact Below.refl _ _) | (with_reducible assumption) | (with_reducible exact below_app _ _ _ _) | (with_reducible refine below_pre ?_; (simp only [List.append_assoc, List.prefix_append, List.prefix_refl, List.prefix_append_right_inj])) | (with_reducible refine Below.alloc ?_ ?_ _) | (with_reducible refine below_ext ?_ ?_ _) | (with_reducible refine Below.drew ?_) | (with_reducible refine below_drewN ?_ _) | (with_reducible refine Below.setCell ?_ ?_ _) | go_size | (simp only [w_size_ext, List.length_append, World.alloc_size]; omega) | (simp; done) | (simp; omega))))
  clear hA0 hB0
  go_enter Try.func17, Try.ntmps17
  go_wp2_with fail
  refine wp_region_mix [(0, true), (1, true), (3, true), (4, true), (2, false), (5, false), (6, false), (7, true), (8, true), (9, true), (10, true), (12, true), (13, true), (11, false), (14, false), (15, false), (16, true), (17, true)] (by kernel_rfl) (by kernel_rfl) rfl (by kernel_rfl) (by intro _ _ d _ _ h; cases d <;> exact h) ?_; intro j1; (repeat (first | (refine wpMix_skip rfl rfl ?_; simp only [Act.put, List.setIfInBounds_toArray, List.set_cons_zero, List.set_cons_succ]) | (refine wpMix_light rfl rfl ?_; intro K hK; go_simp; refine hK _ ?_; clear hK K) | (refine wpMix_heavy rfl rfl ?_; intro K hK; go_wp2_with ((first | (go_at_call 75; (with_reducible refine (vput_any A c l n0 n1 n2 n3 n4 n5 n6 n7 _ ?_ hc hl6.out).mono ?_); (· exact Kd.C_below hA.out (by (repeat' (first | (with_reducible exact Below.refl _ _) | (with_reducible assumption) | (with_reducible exact below_app _ _ _ _) | (with_reducible refine below_pre ?_; (simp only [List.append_assoc, List.prefix_append, List.prefix_refl, List.prefix_append_right_inj])) | (with_reducible refine Below.alloc ?_ ?_ _) | (with_reducible refine below_ext ?_ ?_ _) | (with_reducible refine Below.drew ?_) | (with_reducible refine below_drewN ?_ _) | (with_reducible refine Below.setCell ?_ ?_ _) | go_size | (simp only [w_size_ext, List.length_append, World.alloc_size]; omega) | (simp; done) | (simp; omega))))); rintro e1 w1 ⟨P, cP, rfl, kP, j1, rfl, hP⟩; (try simp only [w_ext_ext] at hP); have HP := Lib.hid hP; clear hP) | (go_at_call 79; (with_reducible refine (rvput_any A c l n0 n1 n2 n3 n4 n5 n6 n7 _ ?_ hc hl6.out).mono ?_); (· exact Kd.C_below hA.out (by (repeat' (first | (with_reducible exact Below.refl _ _) | (with_reducible assumption) | (with_reducible exact below_app _ _ _ _) | (with_reducible refine below_pre ?_; (simp only [List.append_assoc, List.prefix_append, List.prefix_refl, List.prefix_append_right_inj])) | (with_reducible refine Below.alloc ?_ ?_ _) | (with_reducible refine below_ext ?_ ?_ _) | (with_reducible refine Below.drew ?_) | (with_reducible refine below_drewN ?_ _) | (with_reducible refine Below.setCell ?_ ?_ _) | go_size | (simp only [w_size_ext, List.length_append, World.alloc_size]; omega) | (simp; done) | (simp; omega))))); rintro e1 w1 ⟨R, cR, rfl, kR, j1, rfl, hR⟩; (try simp only [w_ext_ext] at hR); have HR := Lib.hid hR; clear hR) | (go_at_call 55; (with_reducible refine (equal_gen P R cP cR (vecR l n0 n1 n2 n3 n4 n5 n6 n7) _ ?_ kP ?_ kR).mono ?_); (· exact Kd.C_below HP.out (by (repeat' (first | (with_reducible exact Below.refl _ _) | (with_reducible assumption) | (with_reducible exact below_app _ _ _ _) | (with_reducible refine below_pre ?_; (simp only [List.append_assoc, List.prefix_append, List.prefix_refl, List.prefix_append_right_inj])) | (with_reducible refine Below.alloc ?_ ?_ _) | (with_reducible refine below_ext ?_ ?_ _) | (with_reducible refine Below.drew ?_) | (with_reducible refine below_drewN ?_ _) | (with_reducible refine Below.setCell ?_ ?_ _) | go_size | (simp only [w_size_ext, List.length_append, World.alloc_size]; omega) | (simp; done) | (simp; omega))))); (· exact Kd.C_below HR.out (by (repeat' (first | (with_reducible exact Below.refl _ _) | (with_reducible assumption) | (with_reducible exact below_app _ _ _ _) | (with_reducible refine below_pre ?_; (simp only [List.append_assoc, List.prefix_append, List.prefix_refl, List.prefix_append_right_inj])) | (with_reducible refine Below.alloc ?_ ?_ _) | (with_reducible refine below_ext ?_ ?_ _) | (with_reducible refine Below.drew ?_) | (with_reducible refine below_drewN ?_ _) | (with_reducible refine Below.setCell ?_ ?_ _) | go_size | (simp only [w_size_ext, List.length_append, World.alloc_size]; omega) | (simp; done) | (simp; omega))))); rintro e1 w1 ⟨rfl, j1, rfl⟩) | (go_at_call 41; (with_reducible refine (pstamp_any A c l t0 u0 _ ?_ hc hl6.out).mono ?_); (· exact Kd.C_below hA.out (by (repeat' (first | (with_reducible exact Below.refl _ _) | (with_reducible assumption) | (with_reducible exact below_app _ _ _ _) | (with_reducible refine below_pre ?_; (simp only [List.append_assoc, List.prefix_append, List.prefix_refl, List.prefix_append_right_inj])) | (with_reducible refine Below.alloc ?_ ?_ _) | (with_reducible refine below_ext ?_ ?_ _) | (with_reducible refine Below.drew ?_) | (with_reducible refine below_drewN ?_ _) | (with_reducible refine Below.setCell ?_ ?_ _) | go_size | (simp only [w_size_ext, List.length_append, World.alloc_size]; omega) | (simp; done) | (simp; omega))))); rintro e1 w1 ⟨T, cT, rfl, kT, j1, rfl, hT⟩; (try simp only [w_ext_ext] at hT); have HT := Lib.hid hT; clear hT) | (go_at_call 80; (with_reducible refine (rpstamp_any A c l t0 u0 _ ?_ hc hl6.out).mono ?_); (· exact Kd.C_below hA.out (by (repeat' (first | (with_reducible exact Below.refl _ _) | (with_reducible assumption) | (with_reducible exact below_app _ _ _ _) | (with_reducible refine below_pre ?_; (simp only [List.append_assoc, List.prefix_append, List.prefix_refl, List.prefix_append_right_inj])) | (with_reducible refine Below.alloc ?_ ?_ _) | (with_reducible refine below_ext ?_ ?_ _) | (with_reducible refine Below.drew ?_) | (with_reducible refine below_drewN ?_ _) | (with_reducible refine Below.setCell ?_ ?_ _) | go_size | (simp only [w_size_ext, List.length_append, World.alloc_size]; omega) | (simp; done) | (simp; omega))))); rintro e1 w1 ⟨U, cU, rfl, kU, j1, rfl, hU⟩; (try simp only [w_ext_ext] at hU); have HU := Lib.hid hU; clear hU) | (go_at_call 55; (with_reducible refine (equal_gen T U cT cU (stampR l t0 u0) _ ?_ kT ?_ kU).mono ?_); (· exact Kd.C_below HT.out (by (repeat' (first | (with_reducible exact Below.refl _ _) | (with_reducible assumption) | (with_reducible exact below_app _ _ _ _) | (with_reducible refine below_pre ?_; (simp only [List.append_assoc, List.prefix_append, List.prefix_refl, List.prefix_append_right_inj])) | (with_reducible refine Below.alloc ?_ ?_ _) | (with_reducible refine below_ext ?_ ?_ _) | (with_reducible refine Below.drew ?_) | (with_reducible refine below_drewN ?_ _) | (with_reducible refine Below.setCell ?_ ?_ _) | go_size | (simp only [w_size_ext, List.length_append, World.alloc_size]; omega) | (simp; done) | (simp; omega))))); (· exact Kd.C_below HU.out (by (repeat' (first | (with_reducible exact Below.refl _ _) | (with_reducible assumption) | (with_reducible exact below_app _ _ _ _) | (with_reducible refine below_pre ?_; (simp only [List.append_assoc, List.prefix_append, List.prefix_refl, List.prefix_append_right_inj])) | (with_reducible refine Below.alloc ?_ ?_ _) | (with_reducible refine below_ext ?_ ?_ _) | (with_reducible refine Below.drew ?_) | (with_reducible refine below_drewN ?_ _) | (with_reducible refine Below.setCell ?_ ?_ _) | go_size | (simp only [w_size_ext, List.length_append, World.alloc_size]; omega) | (simp; done) | (simp; omega))))); rintro e1 w1 ⟨rfl, j1, rfl⟩))); refine ⟨w_ext_of_below (by (repeat' (first | (with_reducible exact Below.refl _ _) | (with_reducible assumption) | (with_reducible exact below_app _ _ _ _) | (with_reducible refine below_pre ?_; (simp only [List.append_assoc, List.prefix_append, List.prefix_refl, List.prefix_append_right_inj])) | (with_reducible refine Below.alloc ?_ ?_ _) | (with_reducible refine below_ext ?_ ?_ _) | (with_reducible refine Below.drew ?_) | (with_reducible refine below_drewN ?_ _) | (with_reducible refine Below.setCell ?_ ?_ _) | go_size | (simp only [w_size_ext, List.length_append, World.alloc_size]; omega) | (simp; done) | (simp; omega)))), ?_⟩))); refine wpMix_nil ?_
  go_wp2_with (first | (go_at_call 48; refine (read81_ok B d li _ _ s0 s1 s2 s3 s4 s5 s6 s7 s8 s9 s10 m0 m1 m2 m3 m4 m5 m6 m7 t who _ (Kd.C_below hB.out (by (repeat' (first | (with_reducible exact Below.refl _ _) | (with_reducible assumption) | (with_reducible exact below_app _ _ _ _) | (with_reducible refine below_pre ?_; (simp only [List.append_assoc, List.prefix_append, List.prefix_refl, List.prefix_append_right_inj])) | (with_reducible refine Below.alloc ?_ ?_ _) | (with_reducible refine below_ext ?_ ?_ _) | (with_reducible refine Below.drew ?_) | (with_reducible refine below_drewN ?_ _) | (with_reducible refine Below.setCell ?_ ?_ _) | go_size | (simp only [w_size_ext, List.length_append, World.alloc_size]; omega) | (simp; done) | (simp; omega))))) sI (by simp [go_sem]) (by simp [go_sem]) (by simp [go_sem]) (by simp [go_sem]) (by simp [go_sem]) (by simp [go_sem]) (by simp [go_sem]) (by simp [go_sem]) (by simp [go_sem]) (by simp [go_sem]) (by simp [go_sem]) (by simp [go_sem]) (by simp [go_sem]) (by simp [go_sem]) (by simp [go_sem]) (by simp [go_sem]) (by simp [go_sem]) (by simp [go_sem]) (by simp [go_sem]) (by simp [go_sem]) (by omega) y0 y1 x0 x1 x2 x3 x4 x5 x6 x7 h10.out hg.out hs.out).mono ?_; rintro e1 w1 ⟨rfl, j1, rfl⟩) | (go_at_call 82; (with_reducible refine (rseeS_any _ s0 s0 0 7 0 0 (t : Int) (who : Int) false false _ ?_ RS.out).mono ?_); (· (repeat' (first | (with_reducible assumption) | (with_reducible refine EyeAt.ext ?_ _) | (with_reducible refine EyeAt.new_at _ _ ?_ _ _ _ _; first | rfl | (simp; done) | (simp; omega) | go_size) | (with_reducible refine EyeAt.alloc ?_ _) | (with_reducible refine EyeAt.drew ?_)))); rintro e1 w1 ⟨rfl, j1, rfl⟩) | (go_at_call 83; refine (rsee_ok s0 s2 s3 s4 s5 s6 s7 s8 s9 s10 m0 m1 m2 m3 m4 m5 m6 m7 hs6.out.1 hs6.out.2 ES.out x0 x1 x2 x3 x4 x5 x6 x7 hg.out _ _ ?_).mono ?_; (· (repeat' (first | (with_reducible assumption) | (with_reducible refine EyeAt.ext ?_ _) | (with_reducible refine EyeAt.new_at _ _ ?_ _ _ _ _; first | rfl | (simp; done) | (simp; omega) | go_size) | (with_reducible refine EyeAt.alloc ?_ _) | (with_reducible refine EyeAt.drew ?_)))); rintro e1 w1 ⟨rfl, j1, rfl⟩) | (go_at_call 72; refine (rend_any _ s0 s0 55 55 0 0 0 false false _ ?_ (end_all s0 55 0 (Int.not_lt.mpr RE.out))).mono ?_; (· (repeat' (first | (with_reducible assumption) | (with_reducible refine EyeAt.ext ?_ _) | (with_reducible refine EyeAt.new_at _ _ ?_ _ _ _ _; first | rfl | (simp; done) | (simp; omega) | go_size) | (with_reducible refine EyeAt.alloc ?_ _) | (with_reducible refine EyeAt.drew ?_)))); rintro e1 w1 ⟨rfl, j1, rfl⟩) | (go_at_call 20; (with_reducible refine (awake_any _).mono ?_); rintro e1 w1 ⟨rfl, j1, rfl⟩))
  go_ret
  exact Ret.mk (by first | rfl | simp) (by (repeat' (first | (with_reducible exact Below.refl _ _) | (with_reducible assumption) | (with_reducible exact below_app _ _ _ _) | (with_reducible refine below_pre ?_; (simp only [List.append_assoc, List.prefix_append, List.prefix_refl, List.prefix_append_right_inj])) | (with_reducible refine Below.alloc ?_ ?_ _) | (with_reducible refine below_ext ?_ ?_ _) | (with_reducible refine Below.drew ?_) | (with_reducible refine below_drewN ?_ _) | (with_reducible refine Below.setCell ?_ ?_ _) | go_size | (simp only [w_size_ext, List.length_append, World.alloc_size]; omega) | (simp; done) | (simp; omega))))

end Go.Proofs.Ytdjmpedfeahajaa
