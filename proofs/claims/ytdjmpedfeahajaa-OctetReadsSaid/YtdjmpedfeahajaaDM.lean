/- Helper lemmas: what questions tell, asked of the eye of the program and of the eye of the reference, and the walk of the law that compares them. No condition. -/
import Derived.Test.YtdjmpedfeahajaaR2
import Derived.Test.YtdjmpedfeahajaaL
import Derived.SliceStrings
import Derived.Test.YtdjmpedfeahajaaR4
import Derived.Test.YtdjmpedfeahajaaN3
import Derived.Test.YtdjmpedfeahajaaM
import Derived.OrdersHeld
import Derived.Test.YtdjmpedfeahajaaPalsox2
import Derived.Test.YtdjmpedfeahajaaPEndx1
set_option linter.unusedSimpArgs false
set_option linter.unusedVariables false
namespace Go.Proofs.Ytdjmpedfeahajaa
open Go.RowKit Go.Proofs.YtdjmpedfeahajaaW.PrintWords Go.Proofs.YtdjmpedfeahajaaW.PrintLast Go.Proofs.YtdjmpedfeahajaaW.PrintMore

set_option maxHeartbeats 1000000 in
theorem left_on (b : Nat) (s : ByteArray) (w : World) (hr : w.cell? ⟨b, 0, none⟩ = some (.string s)) (ho : w.cell? ⟨b, 1, none⟩ = some (.bool true)) : Calls Try.prog 62 #[eyeP b] w (Ret (.int .i64 (s.size : Int)) w) := by
  have hlt := leB_of_cell ho
  go_enter Try.func62, Try.ntmps62
  go_wp2_with (go_at_call 90; refine (dead_on _ _ (by go_cell)).mono ?_; rintro e1 w1 ⟨rfl, j1, rfl⟩)
  go_ret
  exact Ret.mk rfl (w_ext_below _ _)
theorem num_nx2 (b : Nat) (s t : ByteArray) (m : Nat) (w : World) (hr : w.cell? ⟨b, 0, none⟩ = some (.string s)) (ho : w.cell? ⟨b, 1, none⟩ = some (.bool true)) (hf : w.frozen? ⟨b, 0, none⟩ = false) (h : Nx s 2 m t) :
    Calls Try.prog 50 #[eyeP b, .int .i64 2] w fun e w' => e = .returned (.int .i64 (m : Int)) ∧ ∃ j, w' = wext (eyeSet w b t) j := num_nx b s t 2 m w hr ho hf (by decide) (by decide) h
theorem raw_nx (b : Nat) (s : ByteArray) (n : Nat) (k : Int) (hk : (n : Int) = k) (w : World) (hr : w.cell? ⟨b, 0, none⟩ = some (.string s)) (ho : w.cell? ⟨b, 1, none⟩ = some (.bool true)) (hf : w.frozen? ⟨b, 0, none⟩ = false) (hn : n ≤ s.size) :
    Calls Try.prog 60 #[eyeP b, .int .i64 k] w fun e w' => e = .returned (.string (s.extract 0 n)) ∧ ∃ j, w' = wext (eyeSet w b (s.extract n s.size)) j := by
  subst hk
  exact raw_yes b s n w hr ho hf hn
set_option maxHeartbeats 2000000 in
theorem text_yes (b : Nat) (s t : ByteArray) (m most : Nat) (w : World) (hr : w.cell? ⟨b, 0, none⟩ = some (.string s)) (ho : w.cell? ⟨b, 1, none⟩ = some (.bool true)) (hf : w.frozen? ⟨b, 0, none⟩ = false) (h : Nx s 2 m t) (hm : m ≤ most) (ht : m ≤ t.size) :
    Calls Try.prog 61 #[eyeP b, .int .i64 (most : Int)] w fun e w' => e = .returned (.string (t.extract 0 m)) ∧ ∃ j, w' = wext (eyeSet w b (t.extract m t.size)) j := by
  have hlt := leB_of_cell ho
  have H := Lib.hid h
  have hmm : ¬ (most : Int) < (m : Int) := by omega
  clear h
  go_enter Try.func61, Try.ntmps61
  go_wp2_with (first | (go_at_call 50; (with_reducible refine (num_nx2 b s t m _ ?_ ?_ ?_ H.out).mono ?_); (· go_cell); (· go_cell); (· simp [go_sem, hlt, hf]); rintro e1 w1 ⟨rfl, j1, rfl⟩) | (go_at_call 60; (with_reducible refine (raw_nx b t m _ rfl _ ?_ ?_ ?_ ht).mono ?_); (· go_cell); (· go_cell); (· simp [go_sem, hlt, hf]); rintro e1 w1 ⟨rfl, j1, rfl⟩))
  go_ret
  exact ⟨rfl, w_grown (by (repeat' (first | (with_reducible exact Below.refl _ _) | (with_reducible assumption) | (with_reducible exact below_app _ _ _ _) | (with_reducible refine below_pre ?_; (simp only [List.append_assoc, List.prefix_append, List.prefix_refl, List.prefix_append_right_inj])) | (with_reducible refine Below.alloc ?_ ?_ _) | (with_reducible refine below_ext ?_ ?_ _) | (with_reducible refine Below.drew ?_) | (with_reducible refine below_drewN ?_ _) | (with_reducible refine Below.setCell ?_ ?_ _) | go_size | (simp only [w_size_ext, List.length_append, World.alloc_size]; omega) | (simp; done) | (simp; omega))))⟩
open Go.ChangeShapes Go.WideShapes Go.ChangeAt in
/-- A slice of numbers that came in. -/
theorem open_nums {H : Type} {enc : TypeId × Value → H} {W : World} {base : Nat} {v : Value} {d : DataW H} {p : List MemPlace} (hval : Value.okWide Try.prog W .any base 62 v) (h : DataW.Trod enc Try.prog W 0 (fun _ => true) true 62 v d p) :
    ∃ (A : Option Addr) (c : Nat) (l : List Int), v = .slice A l.length c ∧ (Kd.int .i64).C W A l.length l ∧ l.length ≤ c ∧ l.length ≤ maxLen := by
  obtain ⟨a0, len0, cap0, rfl⟩ := okWide_slice Try.underlying62 hval
  obtain ⟨fuel, hf⟩ := h
  have : ∃ zs : List Int, (a0 = none ∧ len0 = 0 ∧ cap0 = 0 ∧ zs = []) ∨ ∃ x, a0 = some x ∧ len0 ≤ cap0 ∧ cap0 ≤ maxLen ∧ zs.length = cap0 ∧ (∀ i, i < zs.length → W.cell? (x.add i) = some (.int .i64 (zs.getD i 0))) ∧ ∀ n ∈ zs, (Lit.int .i64 n).wf = true := by
    rcases open_ints Try.underlying62 Try.underlying3 (by kernel_rfl) hf with ⟨hcs, _⟩ | ⟨x, l, c, zs, hcs, _, hl, hm, hz, _, hcell, hwz⟩
    · simp [Value.cells] at hcs
      obtain ⟨rfl, rfl, rfl⟩ := hcs
      exact ⟨[], .inl ⟨rfl, rfl, rfl, rfl⟩⟩
    · simp [Value.cells] at hcs
      obtain ⟨rfl, rfl, rfl⟩ := hcs
      exact ⟨zs, .inr ⟨_, rfl, hl, hm, by simpa using hz, hcell, hwz⟩⟩
  obtain ⟨zs, hz⟩ := this
  obtain ⟨l, rfl, hr, hm, hw, hc⟩ := ReadsInt.ofRowC hz
  exact ⟨a0, cap0, l, rfl, Kd.C_of_reads (d := (0 : Int)) (h1 := fun _ => rfl) hr, hc, hm⟩
open Go.ChangeShapes Go.WideShapes Go.ChangeAt in
/-- A slice of texts that came in. -/
theorem open_texts {H : Type} {enc : TypeId × Value → H} {W : World} {base : Nat} {v : Value} {d : DataW H} {p : List MemPlace} (hval : Value.okWide Try.prog W .any base 63 v) (h : DataW.Trod enc Try.prog W 0 (fun _ => true) true 63 v d p) :
    ∃ (A : Option Addr) (c : Nat) (l : List ByteArray), v = .slice A l.length c ∧ Kd.string.C W A l.length l ∧ l.length ≤ c ∧ l.length ≤ maxLen := by
  obtain ⟨a0, len0, cap0, rfl⟩ := okWide_slice Try.underlying63 hval
  obtain ⟨fuel, hf⟩ := h
  rcases open_strings Try.underlying63 Try.underlying9 (by kernel_rfl) hf with ⟨hcs, _⟩ | ⟨x, len, c, ss, hcs, _, hl, hm, hz, _, hcell, hwz⟩
  · simp [Value.cells] at hcs
    obtain ⟨rfl, rfl, rfl⟩ := hcs
    exact ⟨none, 0, [], rfl, Kd.C_of_reads (enc := Value.string) (d := ByteArray.empty) (h1 := fun _ => rfl) ⟨rfl, by simp, fun h => absurd h (by simp)⟩, Nat.le_refl _, Nat.zero_le _⟩
  · simp [Value.cells] at hcs
    obtain ⟨rfl, rfl, rfl⟩ := hcs
    simp only [if_true] at hz
    have hlen : (ss.take len0).length = len0 := by rw [List.length_take]; omega
    refine ⟨some x, cap0, ss.take len0, by rw [hlen], ?_, by omega, by omega⟩
    rw [hlen]
    refine Kd.C_of_reads (enc := Value.string) (d := ByteArray.empty) (h1 := fun _ => rfl) ⟨hlen, by simp only [maxLen] at hm; omega, fun _ => ⟨x, rfl, fun j hj => ?_⟩⟩
    rw [hcell j (by omega), List.getD_eq_getElem?_getD, List.getD_eq_getElem?_getD, List.getElem?_take_of_lt hj]
end Go.Proofs.Ytdjmpedfeahajaa

set_option linter.unusedSimpArgs false
set_option linter.unusedVariables false
namespace Go.Proofs.Ytdjmpedfeahajaa
open Go.RowKit Go.Proofs.YtdjmpedfeahajaaW.PrintWords Go.Proofs.YtdjmpedfeahajaaW.PrintLast Go.Proofs.YtdjmpedfeahajaaW.PrintMore

theorem set_self (w : World) (b o : Nat) (v : Value) (h : w.cell? ⟨b, o, none⟩ = some v) : w.setCell ⟨b, o, none⟩ v = w := by
  have key : ∀ f : Obj → Obj, (∀ x, w.heap[b]? = some x → f x = x) → w.heap.modify b f = w.heap := by
    intro f hf
    apply Array.ext_getElem?
    intro i
    rw [Array.getElem?_modify]
    split
    · rename_i hi
      subst hi
      cases hx : w.heap[b]? with
      | none => rfl
      | some x => simp [hf x hx]
    · rfl
  unfold World.setCell
  rw [key]
  intro x hx
  unfold World.cell? at h
  simp only at h
  rw [hx] at h
  cases x with
  | cells c e fr =>
    simp at h ⊢
    apply Array.ext_getElem?
    intro i
    rw [Array.getElem?_setIfInBounds]
    split
    · rename_i hi
      subst hi
      rw [h]
      obtain ⟨hlt, _⟩ := Array.getElem?_eq_some_iff.1 h
      rw [if_pos hlt]
    · rfl
  | _ => rfl
theorem nx_get (s : ByteArray) (n : Nat) (h : n ≤ s.size) (hn : n ≤ 6) : ∃ m t, Nx s n m t ∧ t.size = s.size - n := by
  have hb : numOf s n < 256 ^ n := by
    have h1 := beNat_lt (s.extract 0 n).data.toList
    have h2 : (s.extract 0 n).data.toList.length = n := by
      have : (s.extract 0 n).size = n := by simp; omega
      exact this
    rw [h2] at h1
    exact h1
  have hp : 256 ^ n ≤ 256 ^ 6 := Nat.pow_le_pow_right (by omega) hn
  refine ⟨numOf s n, s.extract n s.size, ⟨h, rfl, ?_, rfl⟩, by simp⟩
  have : (256 : Nat) ^ 6 < 9223372036854775808 := by decide
  omega
theorem nx_size {s t : ByteArray} {n m : Nat} (h : Nx s n m t) : t.size = s.size - n := by
  obtain ⟨_, _, _, rfl⟩ := h
  simp
theorem num_short6 (b : Nat) (s : ByteArray) (w : World) (hr : w.cell? ⟨b, 0, none⟩ = some (.string s)) (ho : w.cell? ⟨b, 1, none⟩ = some (.bool true)) (hn : s.size < 6) : Calls Try.prog 50 #[eyeP b, .int .i64 6] w (Throws 201 w) :=
  num_short b s 6 w hr ho (by omega) (by omega) (by omega)
theorem num_short1 (b : Nat) (s : ByteArray) (w : World) (hr : w.cell? ⟨b, 0, none⟩ = some (.string s)) (ho : w.cell? ⟨b, 1, none⟩ = some (.bool true)) (hn : s.size < 1) : Calls Try.prog 50 #[eyeP b, .int .i64 1] w (Throws 201 w) :=
  num_short b s 1 w hr ho (by omega) (by omega) (by omega)
set_option maxHeartbeats 8000000 in
set_option maxRecDepth 100000 in
theorem seeS_short (b : Nat) (s0 : ByteArray) (w : World) (hr : w.cell? ⟨b, 0, none⟩ = some (.string s0)) (ho : w.cell? ⟨b, 1, none⟩ = some (.bool true)) (hf : w.frozen? ⟨b, 0, none⟩ = false) (h : s0.size < 7) : Calls Try.prog 78 #[eyeP b] w fun e w' => e = .panicked [fault 201] ∧ ∃ s' j, w' = wext (eyeSet w b s') j := by
  have hlt := leB_of_cell ho
  by_cases h6 : s0.size < 6
  · have HS := Lib.hid h6
    clear h h6
    go_enter Try.func78, Try.ntmps78
    go_wp2_with (go_at_call 50; (with_reducible refine (num_short6 b s0 _ ?_ ?_ HS.out).mono ?_); (· go_cell); (· go_cell); rintro e1 w1 ⟨rfl, j1, rfl⟩)
    exact ⟨rfl, rfl, s0, by rw [eyeSet, set_self w b 0 _ hr]; exact w_grown (by (repeat' (first | (with_reducible exact Below.refl _ _) | (with_reducible assumption) | (with_reducible exact below_app _ _ _ _) | (with_reducible refine below_pre ?_; (simp only [List.append_assoc, List.prefix_append, List.prefix_refl, List.prefix_append_right_inj])) | (with_reducible refine Below.alloc ?_ ?_ _) | (with_reducible refine below_ext ?_ ?_ _) | (with_reducible refine Below.drew ?_) | (with_reducible refine below_drewN ?_ _) | (with_reducible refine Below.setCell ?_ ?_ _) | go_size | (simp only [w_size_ext, List.length_append, World.alloc_size]; omega) | (simp; done) | (simp; omega))))⟩
  · obtain ⟨t, s1, hx, hsz⟩ := nx_get s0 6 (by omega) (by omega)
    have HS := Lib.hid (show s1.size < 1 by omega)
    have x0 := Lib.hid hx
    clear h h6 hx hsz
    go_enter Try.func78, Try.ntmps78
    go_wp2_with (first | (go_at_call 50; (with_reducible refine (num_nx6 b s0 s1 t _ ?_ ?_ ?_ x0.out).mono ?_); (· go_cell); (· go_cell); (· simp [go_sem, hlt, hf]); rintro e1 w1 ⟨rfl, j1, rfl⟩) | (go_at_call 50; (with_reducible refine (num_short1 b s1 _ ?_ ?_ HS.out).mono ?_); (· go_cell); (· go_cell); rintro e1 w1 ⟨rfl, j1, rfl⟩))
    exact ⟨rfl, rfl, s1, w_grown (by (repeat' (first | (with_reducible exact Below.refl _ _) | (with_reducible assumption) | (with_reducible exact below_app _ _ _ _) | (with_reducible refine below_pre ?_; (simp only [List.append_assoc, List.prefix_append, List.prefix_refl, List.prefix_append_right_inj])) | (with_reducible refine Below.alloc ?_ ?_ _) | (with_reducible refine below_ext ?_ ?_ _) | (with_reducible refine Below.drew ?_) | (with_reducible refine below_drewN ?_ _) | (with_reducible refine Below.setCell ?_ ?_ _) | go_size | (simp only [w_size_ext, List.length_append, World.alloc_size]; omega) | (simp; done) | (simp; omega))))⟩
set_option maxHeartbeats 8000000 in
set_option maxRecDepth 100000 in
theorem see_short0 (b : Nat) (s0 : ByteArray) (w : World) (hr : w.cell? ⟨b, 0, none⟩ = some (.string s0)) (ho : w.cell? ⟨b, 1, none⟩ = some (.bool true)) (hf : w.frozen? ⟨b, 0, none⟩ = false)  (HS : Hid (s0.size < 6)) : Calls Try.prog 77 #[eyeP b] w fun e w' => e = .panicked [fault 201] ∧ ∃ s' j, w' = wext (eyeSet w b s') j := by
  have hlt := leB_of_cell ho
  go_enter Try.func77, Try.ntmps77
  go_wp2
  refine wp_loop_rounds 9 ?_
  repeat any_goals (rw [rounds_succ]; go_wp2_with (first | (go_at_call 50; (with_reducible refine (num_short6 b s0 _ ?_ ?_ HS.out).mono ?_); (· go_cell); (· go_cell); rintro e1 w1 ⟨rfl, j1, rfl⟩)))
  exact ⟨rfl, rfl, s0, by rw [eyeSet, set_self w b 0 _ hr]; exact w_grown (by (repeat' (first | (with_reducible exact Below.refl _ _) | (with_reducible assumption) | (with_reducible exact below_app _ _ _ _) | (with_reducible refine below_pre ?_; (simp only [List.append_assoc, List.prefix_append, List.prefix_refl, List.prefix_append_right_inj])) | (with_reducible refine Below.alloc ?_ ?_ _) | (with_reducible refine below_ext ?_ ?_ _) | (with_reducible refine Below.drew ?_) | (with_reducible refine below_drewN ?_ _) | (with_reducible refine Below.setCell ?_ ?_ _) | go_size | (simp only [w_size_ext, List.length_append, World.alloc_size]; omega) | (simp; done) | (simp; omega))))⟩
set_option maxHeartbeats 8000000 in
set_option maxRecDepth 100000 in
theorem see_short1 (b : Nat) (s0 s1 : ByteArray) (m0 : Nat) (w : World) (hr : w.cell? ⟨b, 0, none⟩ = some (.string s0)) (ho : w.cell? ⟨b, 1, none⟩ = some (.bool true)) (hf : w.frozen? ⟨b, 0, none⟩ = false) (x0 : Hid (Nx s0 6 m0 s1)) (HS : Hid (s1.size < 6)) : Calls Try.prog 77 #[eyeP b] w fun e w' => e = .panicked [fault 201] ∧ ∃ s' j, w' = wext (eyeSet w b s') j := by
  have hlt := leB_of_cell ho
  go_enter Try.func77, Try.ntmps77
  go_wp2
  refine wp_loop_rounds 9 ?_
  repeat any_goals (rw [rounds_succ]; go_wp2_with (first | (go_at_call 50; (with_reducible refine (num_nx6 b s0 s1 m0 _ ?_ ?_ ?_ x0.out).mono ?_); (· go_cell); (· go_cell); (· simp [go_sem, hlt, hf]); rintro e1 w1 ⟨rfl, j1, rfl⟩) | (go_at_call 50; (with_reducible refine (num_short6 b s1 _ ?_ ?_ HS.out).mono ?_); (· go_cell); (· go_cell); rintro e1 w1 ⟨rfl, j1, rfl⟩)))
  exact ⟨rfl, rfl, s1, w_grown (by (repeat' (first | (with_reducible exact Below.refl _ _) | (with_reducible assumption) | (with_reducible exact below_app _ _ _ _) | (with_reducible refine below_pre ?_; (simp only [List.append_assoc, List.prefix_append, List.prefix_refl, List.prefix_append_right_inj])) | (with_reducible refine Below.alloc ?_ ?_ _) | (with_reducible refine below_ext ?_ ?_ _) | (with_reducible refine Below.drew ?_) | (with_reducible refine below_drewN ?_ _) | (with_reducible refine Below.setCell ?_ ?_ _) | go_size | (simp only [w_size_ext, List.length_append, World.alloc_size]; omega) | (simp; done) | (simp; omega))))⟩
set_option maxHeartbeats 8000000 in
set_option maxRecDepth 100000 in
theorem see_short2 (b : Nat) (s0 s1 s2 : ByteArray) (m0 m1 : Nat) (w : World) (hr : w.cell? ⟨b, 0, none⟩ = some (.string s0)) (ho : w.cell? ⟨b, 1, none⟩ = some (.bool true)) (hf : w.frozen? ⟨b, 0, none⟩ = false) (x0 : Hid (Nx s0 6 m0 s1)) (x1 : Hid (Nx s1 6 m1 s2)) (HS : Hid (s2.size < 6)) : Calls Try.prog 77 #[eyeP b] w fun e w' => e = .panicked [fault 201] ∧ ∃ s' j, w' = wext (eyeSet w b s') j := by
  have hlt := leB_of_cell ho
  go_enter Try.func77, Try.ntmps77
  go_wp2
  refine wp_loop_rounds 9 ?_
  repeat any_goals (rw [rounds_succ]; go_wp2_with (first | (go_at_call 50; (with_reducible refine (num_nx6 b s0 s1 m0 _ ?_ ?_ ?_ x0.out).mono ?_); (· go_cell); (· go_cell); (· simp [go_sem, hlt, hf]); rintro e1 w1 ⟨rfl, j1, rfl⟩) | (go_at_call 50; (with_reducible refine (num_nx6 b s1 s2 m1 _ ?_ ?_ ?_ x1.out).mono ?_); (· go_cell); (· go_cell); (· simp [go_sem, hlt, hf]); rintro e1 w1 ⟨rfl, j1, rfl⟩) | (go_at_call 50; (with_reducible refine (num_short6 b s2 _ ?_ ?_ HS.out).mono ?_); (· go_cell); (· go_cell); rintro e1 w1 ⟨rfl, j1, rfl⟩)))
  exact ⟨rfl, rfl, s2, w_grown (by (repeat' (first | (with_reducible exact Below.refl _ _) | (with_reducible assumption) | (with_reducible exact below_app _ _ _ _) | (with_reducible refine below_pre ?_; (simp only [List.append_assoc, List.prefix_append, List.prefix_refl, List.prefix_append_right_inj])) | (with_reducible refine Below.alloc ?_ ?_ _) | (with_reducible refine below_ext ?_ ?_ _) | (with_reducible refine Below.drew ?_) | (with_reducible refine below_drewN ?_ _) | (with_reducible refine Below.setCell ?_ ?_ _) | go_size | (simp only [w_size_ext, List.length_append, World.alloc_size]; omega) | (simp; done) | (simp; omega))))⟩
set_option maxHeartbeats 8000000 in
set_option maxRecDepth 100000 in
theorem see_short3 (b : Nat) (s0 s1 s2 s3 : ByteArray) (m0 m1 m2 : Nat) (w : World) (hr : w.cell? ⟨b, 0, none⟩ = some (.string s0)) (ho : w.cell? ⟨b, 1, none⟩ = some (.bool true)) (hf : w.frozen? ⟨b, 0, none⟩ = false) (x0 : Hid (Nx s0 6 m0 s1)) (x1 : Hid (Nx s1 6 m1 s2)) (x2 : Hid (Nx s2 6 m2 s3)) (HS : Hid (s3.size < 6)) : Calls Try.prog 77 #[eyeP b] w fun e w' => e = .panicked [fault 201] ∧ ∃ s' j, w' = wext (eyeSet w b s') j := by
  have hlt := leB_of_cell ho
  go_enter Try.func77, Try.ntmps77
  go_wp2
  refine wp_loop_rounds 9 ?_
  repeat any_goals (rw [rounds_succ]; go_wp2_with (first | (go_at_call 50; (with_reducible refine (num_nx6 b s0 s1 m0 _ ?_ ?_ ?_ x0.out).mono ?_); (· go_cell); (· go_cell); (· simp [go_sem, hlt, hf]); rintro e1 w1 ⟨rfl, j1, rfl⟩) | (go_at_call 50; (with_reducible refine (num_nx6 b s1 s2 m1 _ ?_ ?_ ?_ x1.out).mono ?_); (· go_cell); (· go_cell); (· simp [go_sem, hlt, hf]); rintro e1 w1 ⟨rfl, j1, rfl⟩) | (go_at_call 50; (with_reducible refine (num_nx6 b s2 s3 m2 _ ?_ ?_ ?_ x2.out).mono ?_); (· go_cell); (· go_cell); (· simp [go_sem, hlt, hf]); rintro e1 w1 ⟨rfl, j1, rfl⟩) | (go_at_call 50; (with_reducible refine (num_short6 b s3 _ ?_ ?_ HS.out).mono ?_); (· go_cell); (· go_cell); rintro e1 w1 ⟨rfl, j1, rfl⟩)))
  exact ⟨rfl, rfl, s3, w_grown (by (repeat' (first | (with_reducible exact Below.refl _ _) | (with_reducible assumption) | (with_reducible exact below_app _ _ _ _) | (with_reducible refine below_pre ?_; (simp only [List.append_assoc, List.prefix_append, List.prefix_refl, List.prefix_append_right_inj])) | (with_reducible refine Below.alloc ?_ ?_ _) | (with_reducible refine below_ext ?_ ?_ _) | (with_reducible refine Below.drew ?_) | (with_reducible refine below_drewN ?_ _) | (with_reducible refine Below.setCell ?_ ?_ _) | go_size | (simp only [w_size_ext, List.length_append, World.alloc_size]; omega) | (simp; done) | (simp; omega))))⟩
set_option maxHeartbeats 8000000 in
set_option maxRecDepth 100000 in
theorem see_short4 (b : Nat) (s0 s1 s2 s3 s4 : ByteArray) (m0 m1 m2 m3 : Nat) (w : World) (hr : w.cell? ⟨b, 0, none⟩ = some (.string s0)) (ho : w.cell? ⟨b, 1, none⟩ = some (.bool true)) (hf : w.frozen? ⟨b, 0, none⟩ = false) (x0 : Hid (Nx s0 6 m0 s1)) (x1 : Hid (Nx s1 6 m1 s2)) (x2 : Hid (Nx s2 6 m2 s3)) (x3 : Hid (Nx s3 6 m3 s4)) (HS : Hid (s4.size < 6)) : Calls Try.prog 77 #[eyeP b] w fun e w' => e = .panicked [fault 201] ∧ ∃ s' j, w' = wext (eyeSet w b s') j := by
  have hlt := leB_of_cell ho
  go_enter Try.func77, Try.ntmps77
  go_wp2
  refine wp_loop_rounds 9 ?_
  repeat any_goals (rw [rounds_succ]; go_wp2_with (first | (go_at_call 50; (with_reducible refine (num_nx6 b s0 s1 m0 _ ?_ ?_ ?_ x0.out).mono ?_); (· go_cell); (· go_cell); (· simp [go_sem, hlt, hf]); rintro e1 w1 ⟨rfl, j1, rfl⟩) | (go_at_call 50; (with_reducible refine (num_nx6 b s1 s2 m1 _ ?_ ?_ ?_ x1.out).mono ?_); (· go_cell); (· go_cell); (· simp [go_sem, hlt, hf]); rintro e1 w1 ⟨rfl, j1, rfl⟩) | (go_at_call 50; (with_reducible refine (num_nx6 b s2 s3 m2 _ ?_ ?_ ?_ x2.out).mono ?_); (· go_cell); (· go_cell); (· simp [go_sem, hlt, hf]); rintro e1 w1 ⟨rfl, j1, rfl⟩) | (go_at_call 50; (with_reducible refine (num_nx6 b s3 s4 m3 _ ?_ ?_ ?_ x3.out).mono ?_); (· go_cell); (· go_cell); (· simp [go_sem, hlt, hf]); rintro e1 w1 ⟨rfl, j1, rfl⟩) | (go_at_call 50; (with_reducible refine (num_short6 b s4 _ ?_ ?_ HS.out).mono ?_); (· go_cell); (· go_cell); rintro e1 w1 ⟨rfl, j1, rfl⟩)))
  exact ⟨rfl, rfl, s4, w_grown (by (repeat' (first | (with_reducible exact Below.refl _ _) | (with_reducible assumption) | (with_reducible exact below_app _ _ _ _) | (with_reducible refine below_pre ?_; (simp only [List.append_assoc, List.prefix_append, List.prefix_refl, List.prefix_append_right_inj])) | (with_reducible refine Below.alloc ?_ ?_ _) | (with_reducible refine below_ext ?_ ?_ _) | (with_reducible refine Below.drew ?_) | (with_reducible refine below_drewN ?_ _) | (with_reducible refine Below.setCell ?_ ?_ _) | go_size | (simp only [w_size_ext, List.length_append, World.alloc_size]; omega) | (simp; done) | (simp; omega))))⟩
set_option maxHeartbeats 8000000 in
set_option maxRecDepth 100000 in
theorem see_short5 (b : Nat) (s0 s1 s2 s3 s4 s5 : ByteArray) (m0 m1 m2 m3 m4 : Nat) (w : World) (hr : w.cell? ⟨b, 0, none⟩ = some (.string s0)) (ho : w.cell? ⟨b, 1, none⟩ = some (.bool true)) (hf : w.frozen? ⟨b, 0, none⟩ = false) (x0 : Hid (Nx s0 6 m0 s1)) (x1 : Hid (Nx s1 6 m1 s2)) (x2 : Hid (Nx s2 6 m2 s3)) (x3 : Hid (Nx s3 6 m3 s4)) (x4 : Hid (Nx s4 6 m4 s5)) (HS : Hid (s5.size < 6)) : Calls Try.prog 77 #[eyeP b] w fun e w' => e = .panicked [fault 201] ∧ ∃ s' j, w' = wext (eyeSet w b s') j := by
  have hlt := leB_of_cell ho
  go_enter Try.func77, Try.ntmps77
  go_wp2
  refine wp_loop_rounds 9 ?_
  repeat any_goals (rw [rounds_succ]; go_wp2_with (first | (go_at_call 50; (with_reducible refine (num_nx6 b s0 s1 m0 _ ?_ ?_ ?_ x0.out).mono ?_); (· go_cell); (· go_cell); (· simp [go_sem, hlt, hf]); rintro e1 w1 ⟨rfl, j1, rfl⟩) | (go_at_call 50; (with_reducible refine (num_nx6 b s1 s2 m1 _ ?_ ?_ ?_ x1.out).mono ?_); (· go_cell); (· go_cell); (· simp [go_sem, hlt, hf]); rintro e1 w1 ⟨rfl, j1, rfl⟩) | (go_at_call 50; (with_reducible refine (num_nx6 b s2 s3 m2 _ ?_ ?_ ?_ x2.out).mono ?_); (· go_cell); (· go_cell); (· simp [go_sem, hlt, hf]); rintro e1 w1 ⟨rfl, j1, rfl⟩) | (go_at_call 50; (with_reducible refine (num_nx6 b s3 s4 m3 _ ?_ ?_ ?_ x3.out).mono ?_); (· go_cell); (· go_cell); (· simp [go_sem, hlt, hf]); rintro e1 w1 ⟨rfl, j1, rfl⟩) | (go_at_call 50; (with_reducible refine (num_nx6 b s4 s5 m4 _ ?_ ?_ ?_ x4.out).mono ?_); (· go_cell); (· go_cell); (· simp [go_sem, hlt, hf]); rintro e1 w1 ⟨rfl, j1, rfl⟩) | (go_at_call 50; (with_reducible refine (num_short6 b s5 _ ?_ ?_ HS.out).mono ?_); (· go_cell); (· go_cell); rintro e1 w1 ⟨rfl, j1, rfl⟩)))
  exact ⟨rfl, rfl, s5, w_grown (by (repeat' (first | (with_reducible exact Below.refl _ _) | (with_reducible assumption) | (with_reducible exact below_app _ _ _ _) | (with_reducible refine below_pre ?_; (simp only [List.append_assoc, List.prefix_append, List.prefix_refl, List.prefix_append_right_inj])) | (with_reducible refine Below.alloc ?_ ?_ _) | (with_reducible refine below_ext ?_ ?_ _) | (with_reducible refine Below.drew ?_) | (with_reducible refine below_drewN ?_ _) | (with_reducible refine Below.setCell ?_ ?_ _) | go_size | (simp only [w_size_ext, List.length_append, World.alloc_size]; omega) | (simp; done) | (simp; omega))))⟩
set_option maxHeartbeats 8000000 in
set_option maxRecDepth 100000 in
theorem see_short6 (b : Nat) (s0 s1 s2 s3 s4 s5 s6 : ByteArray) (m0 m1 m2 m3 m4 m5 : Nat) (w : World) (hr : w.cell? ⟨b, 0, none⟩ = some (.string s0)) (ho : w.cell? ⟨b, 1, none⟩ = some (.bool true)) (hf : w.frozen? ⟨b, 0, none⟩ = false) (x0 : Hid (Nx s0 6 m0 s1)) (x1 : Hid (Nx s1 6 m1 s2)) (x2 : Hid (Nx s2 6 m2 s3)) (x3 : Hid (Nx s3 6 m3 s4)) (x4 : Hid (Nx s4 6 m4 s5)) (x5 : Hid (Nx s5 6 m5 s6)) (HS : Hid (s6.size < 6)) : Calls Try.prog 77 #[eyeP b] w fun e w' => e = .panicked [fault 201] ∧ ∃ s' j, w' = wext (eyeSet w b s') j := by
  have hlt := leB_of_cell ho
  go_enter Try.func77, Try.ntmps77
  go_wp2
  refine wp_loop_rounds 9 ?_
  repeat any_goals (rw [rounds_succ]; go_wp2_with (first | (go_at_call 50; (with_reducible refine (num_nx6 b s0 s1 m0 _ ?_ ?_ ?_ x0.out).mono ?_); (· go_cell); (· go_cell); (· simp [go_sem, hlt, hf]); rintro e1 w1 ⟨rfl, j1, rfl⟩) | (go_at_call 50; (with_reducible refine (num_nx6 b s1 s2 m1 _ ?_ ?_ ?_ x1.out).mono ?_); (· go_cell); (· go_cell); (· simp [go_sem, hlt, hf]); rintro e1 w1 ⟨rfl, j1, rfl⟩) | (go_at_call 50; (with_reducible refine (num_nx6 b s2 s3 m2 _ ?_ ?_ ?_ x2.out).mono ?_); (· go_cell); (· go_cell); (· simp [go_sem, hlt, hf]); rintro e1 w1 ⟨rfl, j1, rfl⟩) | (go_at_call 50; (with_reducible refine (num_nx6 b s3 s4 m3 _ ?_ ?_ ?_ x3.out).mono ?_); (· go_cell); (· go_cell); (· simp [go_sem, hlt, hf]); rintro e1 w1 ⟨rfl, j1, rfl⟩) | (go_at_call 50; (with_reducible refine (num_nx6 b s4 s5 m4 _ ?_ ?_ ?_ x4.out).mono ?_); (· go_cell); (· go_cell); (· simp [go_sem, hlt, hf]); rintro e1 w1 ⟨rfl, j1, rfl⟩) | (go_at_call 50; (with_reducible refine (num_nx6 b s5 s6 m5 _ ?_ ?_ ?_ x5.out).mono ?_); (· go_cell); (· go_cell); (· simp [go_sem, hlt, hf]); rintro e1 w1 ⟨rfl, j1, rfl⟩) | (go_at_call 50; (with_reducible refine (num_short6 b s6 _ ?_ ?_ HS.out).mono ?_); (· go_cell); (· go_cell); rintro e1 w1 ⟨rfl, j1, rfl⟩)))
  exact ⟨rfl, rfl, s6, w_grown (by (repeat' (first | (with_reducible exact Below.refl _ _) | (with_reducible assumption) | (with_reducible exact below_app _ _ _ _) | (with_reducible refine below_pre ?_; (simp only [List.append_assoc, List.prefix_append, List.prefix_refl, List.prefix_append_right_inj])) | (with_reducible refine Below.alloc ?_ ?_ _) | (with_reducible refine below_ext ?_ ?_ _) | (with_reducible refine Below.drew ?_) | (with_reducible refine below_drewN ?_ _) | (with_reducible refine Below.setCell ?_ ?_ _) | go_size | (simp only [w_size_ext, List.length_append, World.alloc_size]; omega) | (simp; done) | (simp; omega))))⟩
set_option maxHeartbeats 8000000 in
set_option maxRecDepth 100000 in
theorem see_short7 (b : Nat) (s0 s1 s2 s3 s4 s5 s6 s7 : ByteArray) (m0 m1 m2 m3 m4 m5 m6 : Nat) (w : World) (hr : w.cell? ⟨b, 0, none⟩ = some (.string s0)) (ho : w.cell? ⟨b, 1, none⟩ = some (.bool true)) (hf : w.frozen? ⟨b, 0, none⟩ = false) (x0 : Hid (Nx s0 6 m0 s1)) (x1 : Hid (Nx s1 6 m1 s2)) (x2 : Hid (Nx s2 6 m2 s3)) (x3 : Hid (Nx s3 6 m3 s4)) (x4 : Hid (Nx s4 6 m4 s5)) (x5 : Hid (Nx s5 6 m5 s6)) (x6 : Hid (Nx s6 6 m6 s7)) (HS : Hid (s7.size < 6)) : Calls Try.prog 77 #[eyeP b] w fun e w' => e = .panicked [fault 201] ∧ ∃ s' j, w' = wext (eyeSet w b s') j := by
  have hlt := leB_of_cell ho
  go_enter Try.func77, Try.ntmps77
  go_wp2
  refine wp_loop_rounds 9 ?_
  repeat any_goals (rw [rounds_succ]; go_wp2_with (first | (go_at_call 50; (with_reducible refine (num_nx6 b s0 s1 m0 _ ?_ ?_ ?_ x0.out).mono ?_); (· go_cell); (· go_cell); (· simp [go_sem, hlt, hf]); rintro e1 w1 ⟨rfl, j1, rfl⟩) | (go_at_call 50; (with_reducible refine (num_nx6 b s1 s2 m1 _ ?_ ?_ ?_ x1.out).mono ?_); (· go_cell); (· go_cell); (· simp [go_sem, hlt, hf]); rintro e1 w1 ⟨rfl, j1, rfl⟩) | (go_at_call 50; (with_reducible refine (num_nx6 b s2 s3 m2 _ ?_ ?_ ?_ x2.out).mono ?_); (· go_cell); (· go_cell); (· simp [go_sem, hlt, hf]); rintro e1 w1 ⟨rfl, j1, rfl⟩) | (go_at_call 50; (with_reducible refine (num_nx6 b s3 s4 m3 _ ?_ ?_ ?_ x3.out).mono ?_); (· go_cell); (· go_cell); (· simp [go_sem, hlt, hf]); rintro e1 w1 ⟨rfl, j1, rfl⟩) | (go_at_call 50; (with_reducible refine (num_nx6 b s4 s5 m4 _ ?_ ?_ ?_ x4.out).mono ?_); (· go_cell); (· go_cell); (· simp [go_sem, hlt, hf]); rintro e1 w1 ⟨rfl, j1, rfl⟩) | (go_at_call 50; (with_reducible refine (num_nx6 b s5 s6 m5 _ ?_ ?_ ?_ x5.out).mono ?_); (· go_cell); (· go_cell); (· simp [go_sem, hlt, hf]); rintro e1 w1 ⟨rfl, j1, rfl⟩) | (go_at_call 50; (with_reducible refine (num_nx6 b s6 s7 m6 _ ?_ ?_ ?_ x6.out).mono ?_); (· go_cell); (· go_cell); (· simp [go_sem, hlt, hf]); rintro e1 w1 ⟨rfl, j1, rfl⟩) | (go_at_call 50; (with_reducible refine (num_short6 b s7 _ ?_ ?_ HS.out).mono ?_); (· go_cell); (· go_cell); rintro e1 w1 ⟨rfl, j1, rfl⟩)))
  exact ⟨rfl, rfl, s7, w_grown (by (repeat' (first | (with_reducible exact Below.refl _ _) | (with_reducible assumption) | (with_reducible exact below_app _ _ _ _) | (with_reducible refine below_pre ?_; (simp only [List.append_assoc, List.prefix_append, List.prefix_refl, List.prefix_append_right_inj])) | (with_reducible refine Below.alloc ?_ ?_ _) | (with_reducible refine below_ext ?_ ?_ _) | (with_reducible refine Below.drew ?_) | (with_reducible refine below_drewN ?_ _) | (with_reducible refine Below.setCell ?_ ?_ _) | go_size | (simp only [w_size_ext, List.length_append, World.alloc_size]; omega) | (simp; done) | (simp; omega))))⟩
theorem see_short (b : Nat) (s0 : ByteArray) (w : World) (hr : w.cell? ⟨b, 0, none⟩ = some (.string s0)) (ho : w.cell? ⟨b, 1, none⟩ = some (.bool true)) (hf : w.frozen? ⟨b, 0, none⟩ = false) (h : s0.size < 48) : Calls Try.prog 77 #[eyeP b] w fun e w' => e = .panicked [fault 201] ∧ ∃ s' j, w' = wext (eyeSet w b s') j := by
  by_cases h0 : s0.size < 6
  · exact see_short0 b s0  w hr ho hf  (Lib.hid h0)
  obtain ⟨m0, s1, y0, z0⟩ := nx_get s0 6 (by omega) (by omega)
  have x0 := Lib.hid y0
  by_cases h1 : s1.size < 6
  · exact see_short1 b s0 s1 m0 w hr ho hf x0 (Lib.hid h1)
  obtain ⟨m1, s2, y1, z1⟩ := nx_get s1 6 (by omega) (by omega)
  have x1 := Lib.hid y1
  by_cases h2 : s2.size < 6
  · exact see_short2 b s0 s1 s2 m0 m1 w hr ho hf x0 x1 (Lib.hid h2)
  obtain ⟨m2, s3, y2, z2⟩ := nx_get s2 6 (by omega) (by omega)
  have x2 := Lib.hid y2
  by_cases h3 : s3.size < 6
  · exact see_short3 b s0 s1 s2 s3 m0 m1 m2 w hr ho hf x0 x1 x2 (Lib.hid h3)
  obtain ⟨m3, s4, y3, z3⟩ := nx_get s3 6 (by omega) (by omega)
  have x3 := Lib.hid y3
  by_cases h4 : s4.size < 6
  · exact see_short4 b s0 s1 s2 s3 s4 m0 m1 m2 m3 w hr ho hf x0 x1 x2 x3 (Lib.hid h4)
  obtain ⟨m4, s5, y4, z4⟩ := nx_get s4 6 (by omega) (by omega)
  have x4 := Lib.hid y4
  by_cases h5 : s5.size < 6
  · exact see_short5 b s0 s1 s2 s3 s4 s5 m0 m1 m2 m3 m4 w hr ho hf x0 x1 x2 x3 x4 (Lib.hid h5)
  obtain ⟨m5, s6, y5, z5⟩ := nx_get s5 6 (by omega) (by omega)
  have x5 := Lib.hid y5
  by_cases h6 : s6.size < 6
  · exact see_short6 b s0 s1 s2 s3 s4 s5 s6 m0 m1 m2 m3 m4 m5 w hr ho hf x0 x1 x2 x3 x4 x5 (Lib.hid h6)
  obtain ⟨m6, s7, y6, z6⟩ := nx_get s6 6 (by omega) (by omega)
  have x6 := Lib.hid y6
  by_cases h7 : s7.size < 6
  · exact see_short7 b s0 s1 s2 s3 s4 s5 s6 s7 m0 m1 m2 m3 m4 m5 m6 w hr ho hf x0 x1 x2 x3 x4 x5 x6 (Lib.hid h7)
  obtain ⟨m7, s8, y7, z7⟩ := nx_get s7 6 (by omega) (by omega)
  have x7 := Lib.hid y7
  omega
end Go.Proofs.Ytdjmpedfeahajaa

set_option linter.unusedSimpArgs false
set_option linter.unusedVariables false
namespace Go.Proofs.Ytdjmpedfeahajaa
open Go.RowKit Go.Proofs.YtdjmpedfeahajaaW.PrintWords Go.Proofs.YtdjmpedfeahajaaW.PrintLast Go.Proofs.YtdjmpedfeahajaaW.PrintMore

/-- The next number, and what is left; or the error. -/
def numP (s : ByteArray) (n : Int) : Except Int (Nat × ByteArray) :=
  if 1 ≤ n ∧ n ≤ 8 then (if (s.size : Int) < n then .error 201 else if numOf s n.toNat < 9223372036854775808 then .ok (numOf s n.toNat, s.extract n.toNat s.size) else .error 201) else .error 22
def rawP (s : ByteArray) (n : Int) : Except Int (ByteArray × ByteArray) := if n < 0 ∨ (s.size : Int) < n then .error 201 else .ok (s.extract 0 n.toNat, s.extract n.toNat s.size)
def textP (s : ByteArray) (n : Int) : Except Int (ByteArray × ByteArray) := match numP s 2 with
  | .error c => .error c
  | .ok q => if n < (q.1 : Int) then .error 203 else rawP q.2 (q.1 : Int)
/-- What one look tells: numbers, texts, what is left; or the error that ends the looking. -/
def ask (s : ByteArray) (m n : Int) : Except Int (List Int × List ByteArray × ByteArray) :=
  if m = 0 then (match numP s n with | .error c => .error c | .ok q => .ok ([(q.1 : Int)], [], q.2))
  else if m = 1 then (match textP s n with | .error c => .error c | .ok q => .ok ([], [q.1], q.2))
  else if m = 2 then (match rawP s n with | .error c => .error c | .ok q => .ok ([], [q.1], q.2))
  else if m = 3 then .ok ([(s.size : Int)], [], s)
  else if m = 4 then .error n
  else .ok ([], [], s)
theorem thr_of {b : Nat} {s : ByteArray} {c : Int} {w : World} (hr : w.cell? ⟨b, 0, none⟩ = some (.string s)) {e : Ending} {w' : World} (h : Throws c w e w') : e = .panicked [fault c] ∧ ∃ s' j, w' = wext (eyeSet w b s') j := by
  obtain ⟨he, j, rfl⟩ := h
  exact ⟨he, s, j, by rw [eyeSet, set_self w b 0 _ hr]⟩
theorem num_ok (b : Nat) (s t : ByteArray) (n : Int) (m : Nat) (w : World) (hr : w.cell? ⟨b, 0, none⟩ = some (.string s)) (ho : w.cell? ⟨b, 1, none⟩ = some (.bool true)) (hf : w.frozen? ⟨b, 0, none⟩ = false) (h : numP s n = .ok (m, t)) :
    Calls Try.prog 50 #[eyeP b, .int .i64 n] w fun e w' => e = .returned (.int .i64 (m : Int)) ∧ ∃ j, w' = wext (eyeSet w b t) j := by
  unfold numP at h
  split at h
  · rename_i hn
    split at h
    · cases h
    · rename_i hs
      split at h
      · rename_i hv
        injection h with h
        injection h with h1 h2
        subst h1; subst h2
        obtain ⟨k, rfl⟩ : ∃ k : Nat, n = (k : Int) := ⟨n.toNat, by omega⟩
        rw [Int.toNat_natCast] at hv ⊢
        exact num_yes b s k w hr ho hf (by omega) (by omega) (by omega) hv
      · cases h
  · cases h
theorem num_err (b : Nat) (s : ByteArray) (n c : Int) (w : World) (hr : w.cell? ⟨b, 0, none⟩ = some (.string s)) (ho : w.cell? ⟨b, 1, none⟩ = some (.bool true)) (hf : w.frozen? ⟨b, 0, none⟩ = false) (h : numP s n = .error c) : Calls Try.prog 50 #[eyeP b, .int .i64 n] w fun e w' => e = .panicked [fault c] ∧ ∃ s' j, w' = wext (eyeSet w b s') j := by
  unfold numP at h
  split at h
  · rename_i hn
    split at h
    · rename_i hs
      injection h with h
      subst h
      exact (num_short b s n w hr ho (by omega) (by omega) hs).mono fun e w' h => thr_of hr h
    · rename_i hs
      split at h
      · cases h
      · rename_i hv
        injection h with h
        subst h
        obtain ⟨k, rfl⟩ : ∃ k : Nat, n = (k : Int) := ⟨n.toNat, by omega⟩
        rw [Int.toNat_natCast] at hv
        exact num_neg b s k w hr ho hf (by omega) (by omega) (by omega) hv
  · rename_i hn
    injection h with h
    subst h
    exact (num_wide b n w ho hn).mono fun e w' h => thr_of hr h
theorem raw_ok (b : Nat) (s x t : ByteArray) (n : Int) (w : World) (hr : w.cell? ⟨b, 0, none⟩ = some (.string s)) (ho : w.cell? ⟨b, 1, none⟩ = some (.bool true)) (hf : w.frozen? ⟨b, 0, none⟩ = false) (h : rawP s n = .ok (x, t)) :
    Calls Try.prog 60 #[eyeP b, .int .i64 n] w fun e w' => e = .returned (.string x) ∧ ∃ j, w' = wext (eyeSet w b t) j := by
  unfold rawP at h
  split at h
  · cases h
  · rename_i hn
    injection h with h
    injection h with h1 h2
    subst h1; subst h2
    obtain ⟨k, rfl⟩ : ∃ k : Nat, n = (k : Int) := ⟨n.toNat, by omega⟩
    rw [Int.toNat_natCast]
    exact raw_yes b s k w hr ho hf (by omega)
theorem raw_err (b : Nat) (s : ByteArray) (n c : Int) (w : World) (hr : w.cell? ⟨b, 0, none⟩ = some (.string s)) (ho : w.cell? ⟨b, 1, none⟩ = some (.bool true)) (hf : w.frozen? ⟨b, 0, none⟩ = false) (h : rawP s n = .error c) : Calls Try.prog 60 #[eyeP b, .int .i64 n] w fun e w' => e = .panicked [fault c] ∧ ∃ s' j, w' = wext (eyeSet w b s') j := by
  unfold rawP at h
  split at h
  · rename_i hn
    injection h with h
    subst h
    exact (raw_no b s n w hr ho hn).mono fun e w' h => thr_of hr h
  · cases h
set_option maxHeartbeats 4000000 in
set_option maxRecDepth 100000 in
theorem text_e1 (b : Nat) (s : ByteArray) (n : Int) (c : Int) (w : World) (hr : w.cell? ⟨b, 0, none⟩ = some (.string s)) (ho : w.cell? ⟨b, 1, none⟩ = some (.bool true)) (hf : w.frozen? ⟨b, 0, none⟩ = false) (h : Hid (numP s 2 = .error c)) : Calls Try.prog 61 #[eyeP b, .int .i64 n] w fun e w' => e = .panicked [fault c] ∧ ∃ s' j, w' = wext (eyeSet w b s') j := by
  have hlt := leB_of_cell ho
  go_enter Try.func61, Try.ntmps61
  go_wp2_with (go_at_call 50; (with_reducible refine (num_err b s 2 c _ ?_ ?_ ?_ h.out).mono ?_); (· go_cell); (· go_cell); (· simp [go_sem, hlt, hf]); rintro e1 w1 ⟨rfl, s', j1, rfl⟩)
  exact ⟨rfl, rfl, s', w_grown (by (repeat' (first | (with_reducible exact Below.refl _ _) | (with_reducible assumption) | (with_reducible exact below_app _ _ _ _) | (with_reducible refine below_pre ?_; (simp only [List.append_assoc, List.prefix_append, List.prefix_refl, List.prefix_append_right_inj])) | (with_reducible refine Below.alloc ?_ ?_ _) | (with_reducible refine below_ext ?_ ?_ _) | (with_reducible refine Below.drew ?_) | (with_reducible refine below_drewN ?_ _) | (with_reducible refine Below.setCell ?_ ?_ _) | go_size | (simp only [w_size_ext, List.length_append, World.alloc_size]; omega) | (simp; done) | (simp; omega))))⟩
set_option maxHeartbeats 4000000 in
set_option maxRecDepth 100000 in
theorem text_e2 (b : Nat) (s : ByteArray) (n : Int) (m : Nat) (t : ByteArray) (w : World) (hr : w.cell? ⟨b, 0, none⟩ = some (.string s)) (ho : w.cell? ⟨b, 1, none⟩ = some (.bool true)) (hf : w.frozen? ⟨b, 0, none⟩ = false) (h : Hid (numP s 2 = .ok (m, t))) (hm : n < (m : Int)) : Calls Try.prog 61 #[eyeP b, .int .i64 n] w fun e w' => e = .panicked [fault 203] ∧ ∃ s' j, w' = wext (eyeSet w b s') j := by
  have hlt := leB_of_cell ho
  go_enter Try.func61, Try.ntmps61
  go_wp2_with (first | (go_at_call 50; (with_reducible refine (num_ok b s t 2 m _ ?_ ?_ ?_ h.out).mono ?_); (· go_cell); (· go_cell); (· simp [go_sem, hlt, hf]); rintro e1 w1 ⟨rfl, j1, rfl⟩) | (go_at_call 89; refine (fail_on _ _ _ (by go_cell)).mono ?_; rintro e1 w1 ⟨rfl, j1, rfl⟩))
  exact ⟨rfl, rfl, t, w_grown (by (repeat' (first | (with_reducible exact Below.refl _ _) | (with_reducible assumption) | (with_reducible exact below_app _ _ _ _) | (with_reducible refine below_pre ?_; (simp only [List.append_assoc, List.prefix_append, List.prefix_refl, List.prefix_append_right_inj])) | (with_reducible refine Below.alloc ?_ ?_ _) | (with_reducible refine below_ext ?_ ?_ _) | (with_reducible refine Below.drew ?_) | (with_reducible refine below_drewN ?_ _) | (with_reducible refine Below.setCell ?_ ?_ _) | go_size | (simp only [w_size_ext, List.length_append, World.alloc_size]; omega) | (simp; done) | (simp; omega))))⟩
set_option maxHeartbeats 4000000 in
set_option maxRecDepth 100000 in
theorem text_e3 (b : Nat) (s : ByteArray) (n : Int) (m : Nat) (t : ByteArray) (c : Int) (w : World) (hr : w.cell? ⟨b, 0, none⟩ = some (.string s)) (ho : w.cell? ⟨b, 1, none⟩ = some (.bool true)) (hf : w.frozen? ⟨b, 0, none⟩ = false) (h : Hid (numP s 2 = .ok (m, t))) (hm : ¬ n < (m : Int)) (h2 : Hid (rawP t (m : Int) = .error c)) : Calls Try.prog 61 #[eyeP b, .int .i64 n] w fun e w' => e = .panicked [fault c] ∧ ∃ s' j, w' = wext (eyeSet w b s') j := by
  have hlt := leB_of_cell ho
  go_enter Try.func61, Try.ntmps61
  go_wp2_with (first | (go_at_call 50; (with_reducible refine (num_ok b s t 2 m _ ?_ ?_ ?_ h.out).mono ?_); (· go_cell); (· go_cell); (· simp [go_sem, hlt, hf]); rintro e1 w1 ⟨rfl, j1, rfl⟩) | (go_at_call 60; (with_reducible refine (raw_err b t (m : Int) c _ ?_ ?_ ?_ h2.out).mono ?_); (· go_cell); (· go_cell); (· simp [go_sem, hlt, hf]); rintro e1 w1 ⟨rfl, s', j1, rfl⟩))
  exact ⟨rfl, rfl, s', w_grown (by (repeat' (first | (with_reducible exact Below.refl _ _) | (with_reducible assumption) | (with_reducible exact below_app _ _ _ _) | (with_reducible refine below_pre ?_; (simp only [List.append_assoc, List.prefix_append, List.prefix_refl, List.prefix_append_right_inj])) | (with_reducible refine Below.alloc ?_ ?_ _) | (with_reducible refine below_ext ?_ ?_ _) | (with_reducible refine Below.drew ?_) | (with_reducible refine below_drewN ?_ _) | (with_reducible refine Below.setCell ?_ ?_ _) | go_size | (simp only [w_size_ext, List.length_append, World.alloc_size]; omega) | (simp; done) | (simp; omega))))⟩
set_option maxHeartbeats 4000000 in
set_option maxRecDepth 100000 in
theorem text_e0 (b : Nat) (s : ByteArray) (n : Int) (m : Nat) (t x u : ByteArray) (w : World) (hr : w.cell? ⟨b, 0, none⟩ = some (.string s)) (ho : w.cell? ⟨b, 1, none⟩ = some (.bool true)) (hf : w.frozen? ⟨b, 0, none⟩ = false) (h : Hid (numP s 2 = .ok (m, t))) (hm : ¬ n < (m : Int)) (h2 : Hid (rawP t (m : Int) = .ok (x, u))) : Calls Try.prog 61 #[eyeP b, .int .i64 n] w fun e w' => e = .returned (.string x) ∧ ∃ j, w' = wext (eyeSet w b u) j := by
  have hlt := leB_of_cell ho
  go_enter Try.func61, Try.ntmps61
  go_wp2_with (first | (go_at_call 50; (with_reducible refine (num_ok b s t 2 m _ ?_ ?_ ?_ h.out).mono ?_); (· go_cell); (· go_cell); (· simp [go_sem, hlt, hf]); rintro e1 w1 ⟨rfl, j1, rfl⟩) | (go_at_call 60; (with_reducible refine (raw_ok b t x u (m : Int) _ ?_ ?_ ?_ h2.out).mono ?_); (· go_cell); (· go_cell); (· simp [go_sem, hlt, hf]); rintro e1 w1 ⟨rfl, j1, rfl⟩))
  go_ret
  exact ⟨rfl, w_grown (by (repeat' (first | (with_reducible exact Below.refl _ _) | (with_reducible assumption) | (with_reducible exact below_app _ _ _ _) | (with_reducible refine below_pre ?_; (simp only [List.append_assoc, List.prefix_append, List.prefix_refl, List.prefix_append_right_inj])) | (with_reducible refine Below.alloc ?_ ?_ _) | (with_reducible refine below_ext ?_ ?_ _) | (with_reducible refine Below.drew ?_) | (with_reducible refine below_drewN ?_ _) | (with_reducible refine Below.setCell ?_ ?_ _) | go_size | (simp only [w_size_ext, List.length_append, World.alloc_size]; omega) | (simp; done) | (simp; omega))))⟩
theorem text_ok (b : Nat) (s x u : ByteArray) (n : Int) (w : World) (hr : w.cell? ⟨b, 0, none⟩ = some (.string s)) (ho : w.cell? ⟨b, 1, none⟩ = some (.bool true)) (hf : w.frozen? ⟨b, 0, none⟩ = false) (h : textP s n = .ok (x, u)) :
    Calls Try.prog 61 #[eyeP b, .int .i64 n] w fun e w' => e = .returned (.string x) ∧ ∃ j, w' = wext (eyeSet w b u) j := by
  unfold textP at h
  split at h
  · cases h
  · rename_i q hq
    obtain ⟨m, t⟩ := q
    simp only at h
    split at h
    · cases h
    · rename_i hm
      exact text_e0 b s n m t x u w hr ho hf (Lib.hid hq) hm (Lib.hid h)
theorem text_err (b : Nat) (s : ByteArray) (n c : Int) (w : World) (hr : w.cell? ⟨b, 0, none⟩ = some (.string s)) (ho : w.cell? ⟨b, 1, none⟩ = some (.bool true)) (hf : w.frozen? ⟨b, 0, none⟩ = false) (h : textP s n = .error c) : Calls Try.prog 61 #[eyeP b, .int .i64 n] w fun e w' => e = .panicked [fault c] ∧ ∃ s' j, w' = wext (eyeSet w b s') j := by
  unfold textP at h
  split at h
  · rename_i c' hq
    injection h with h
    subst h
    exact text_e1 b s n c' w hr ho hf (Lib.hid hq)
  · rename_i q hq
    obtain ⟨m, t⟩ := q
    simp only at h
    split at h
    · rename_i hm
      injection h with h
      subst h
      exact text_e2 b s n m t w hr ho hf (Lib.hid hq) hm
    · rename_i hm
      exact text_e3 b s n m t c w hr ho hf (Lib.hid hq) hm (Lib.hid h)
end Go.Proofs.Ytdjmpedfeahajaa

set_option linter.unusedSimpArgs false
set_option linter.unusedVariables false
namespace Go.Proofs.Ytdjmpedfeahajaa
open Go.RowKit Go.Proofs.YtdjmpedfeahajaaW.PrintWords Go.Proofs.YtdjmpedfeahajaaW.PrintLast Go.Proofs.YtdjmpedfeahajaaW.PrintMore

set_option maxHeartbeats 4000000 in
set_option maxRecDepth 100000 in
theorem ask0_ok (b k : Nat) (s : ByteArray) (op n : Int) (m : Nat) (t : ByteArray) (w : World) (hr : w.cell? ⟨b, 0, none⟩ = some (.string s)) (ho : w.cell? ⟨b, 1, none⟩ = some (.bool true)) (hf : w.frozen? ⟨b, 0, none⟩ = false) (c0 : w.cell? ⟨k, 0, none⟩ = some (.int .i64 op)) (c1 : w.cell? ⟨k, 1, none⟩ = some (.int .i64 n)) (hkb : ¬ k = b) (hm : bits .and .i64 op 7 = 0) (h : Hid (numP s n = .ok (m, t))) : Calls Try.prog 63 #[eyeP b, .slice (some ⟨k, 0, none⟩) 1 1] w fun e w' => ∃ (vx vy : Value) (B1 B2 : Nat), e = .returned (.tuple #[vx, vy]) ∧ ∃ j, w' = wext (eyeSet w b t) j ∧ (Kd.int .i64).R 3 w' B1 (fun _ => True) vx [(m : Int)] ∧ Kd.string.R 9 w' B2 (fun _ => True) vy [] := by
  have hlt := leB_of_cell ho
  have hlk := leB_of_cell c0
  go_enter Try.func63, Try.ntmps63
  go_wp2
  refine wp_loop_rounds 2 ?_
  rw [rounds_succ]
  go_wp2_with (first | (go_at_call 50; (with_reducible refine (num_ok b s t n m _ ?_ ?_ ?_ h.out).mono ?_); (· go_cell); (· go_cell); (· simp [go_sem, hlt, hf]); rintro e1 w1 ⟨rfl, j1, rfl⟩) | ((with_reducible refine gate_builtin (b := .append) (xs := #[.tmp 19, .tmp 24]) rfl ?_); at_builtin; go_loud (refine Kd.R_append (Kd.int .i64) (w0 := (eyeSet w b t)) ((eyeSet w b t)).heap.size rfl (.tmp 19) (.tmp 24) 62 3 (.int .i64 0) 8 rfl Try.underlying62 info3 rfl (by decide) (by omega) (.slice none 0 0) [] (m : Int) [.int .i64 (m : Int)] (fun _ => True) (fun _ => False) rfl (by simp [go_sem]) rfl (fun _ hk => hk.elim) (fun _ _ => trivial) (Kd.R_nil _ _ _ _ _) (by (repeat' (first | (with_reducible exact Below.refl _ _) | (with_reducible assumption) | (with_reducible exact below_app _ _ _ _) | (with_reducible refine below_pre ?_; (simp only [List.append_assoc, List.prefix_append, List.prefix_refl, List.prefix_append_right_inj])) | (with_reducible refine Below.alloc ?_ ?_ _) | (with_reducible refine below_ext ?_ ?_ _) | (with_reducible refine Below.drew ?_) | (with_reducible refine below_drewN ?_ _) | (with_reducible refine Below.setCell ?_ ?_ _) | go_size | (simp only [w_size_ext, List.length_append, World.alloc_size]; omega) | (simp; done) | (simp; omega)))) (below_size (by (repeat' (first | (with_reducible exact Below.refl _ _) | (with_reducible assumption) | (with_reducible exact below_app _ _ _ _) | (with_reducible refine below_pre ?_; (simp only [List.append_assoc, List.prefix_append, List.prefix_refl, List.prefix_append_right_inj])) | (with_reducible refine Below.alloc ?_ ?_ _) | (with_reducible refine below_ext ?_ ?_ _) | (with_reducible refine Below.drew ?_) | (with_reducible refine below_drewN ?_ _) | (with_reducible refine Below.setCell ?_ ?_ _) | go_size | (simp only [w_size_ext, List.length_append, World.alloc_size]; omega) | (simp; done) | (simp; omega))))) (by simp) ?_); intro v1 w1 hown hb hg hat))
  obtain ⟨j, rfl⟩ := w_ext_of_below hb
  rw [rounds_succ]
  go_wp2
  go_ret2
  exact ⟨v1, .slice none 0 0, _, 0, rfl, j, rfl, hown, Kd.R_nil _ _ _ _ _⟩
set_option maxHeartbeats 4000000 in
set_option maxRecDepth 100000 in
theorem ask0_err (b k : Nat) (s : ByteArray) (op n : Int) (c : Int) (w : World) (hr : w.cell? ⟨b, 0, none⟩ = some (.string s)) (ho : w.cell? ⟨b, 1, none⟩ = some (.bool true)) (hf : w.frozen? ⟨b, 0, none⟩ = false) (c0 : w.cell? ⟨k, 0, none⟩ = some (.int .i64 op)) (c1 : w.cell? ⟨k, 1, none⟩ = some (.int .i64 n)) (hkb : ¬ k = b) (hm : bits .and .i64 op 7 = 0) (h : Hid (numP s n = .error c)) : Calls Try.prog 63 #[eyeP b, .slice (some ⟨k, 0, none⟩) 1 1] w fun e w' => e = .panicked [fault c] ∧ ∃ s' j, w' = wext (eyeSet w b s') j := by
  have hlt := leB_of_cell ho
  have hlk := leB_of_cell c0
  go_enter Try.func63, Try.ntmps63
  go_wp2
  refine wp_loop_rounds 2 ?_
  rw [rounds_succ]
  go_wp2_with (go_at_call 50; (with_reducible refine (num_err b s n c _ ?_ ?_ ?_ h.out).mono ?_); (· go_cell); (· go_cell); (· simp [go_sem, hlt, hf]); rintro e1 w1 ⟨rfl, s', j1, rfl⟩)
  exact ⟨rfl, rfl, s', w_grown (by (repeat' (first | (with_reducible exact Below.refl _ _) | (with_reducible assumption) | (with_reducible exact below_app _ _ _ _) | (with_reducible refine below_pre ?_; (simp only [List.append_assoc, List.prefix_append, List.prefix_refl, List.prefix_append_right_inj])) | (with_reducible refine Below.alloc ?_ ?_ _) | (with_reducible refine below_ext ?_ ?_ _) | (with_reducible refine Below.drew ?_) | (with_reducible refine below_drewN ?_ _) | (with_reducible refine Below.setCell ?_ ?_ _) | go_size | (simp only [w_size_ext, List.length_append, World.alloc_size]; omega) | (simp; done) | (simp; omega))))⟩
set_option maxHeartbeats 4000000 in
set_option maxRecDepth 100000 in
theorem ask1_ok (b k : Nat) (s : ByteArray) (op n : Int) (x t : ByteArray) (w : World) (hr : w.cell? ⟨b, 0, none⟩ = some (.string s)) (ho : w.cell? ⟨b, 1, none⟩ = some (.bool true)) (hf : w.frozen? ⟨b, 0, none⟩ = false) (c0 : w.cell? ⟨k, 0, none⟩ = some (.int .i64 op)) (c1 : w.cell? ⟨k, 1, none⟩ = some (.int .i64 n)) (hkb : ¬ k = b) (hm : bits .and .i64 op 7 = 1) (h : Hid (textP s n = .ok (x, t))) : Calls Try.prog 63 #[eyeP b, .slice (some ⟨k, 0, none⟩) 1 1] w fun e w' => ∃ (vx vy : Value) (B1 B2 : Nat), e = .returned (.tuple #[vx, vy]) ∧ ∃ j, w' = wext (eyeSet w b t) j ∧ (Kd.int .i64).R 3 w' B1 (fun _ => True) vx [] ∧ Kd.string.R 9 w' B2 (fun _ => True) vy [x] := by
  have hlt := leB_of_cell ho
  have hlk := leB_of_cell c0
  go_enter Try.func63, Try.ntmps63
  go_wp2
  refine wp_loop_rounds 2 ?_
  rw [rounds_succ]
  go_wp2_with (first | (go_at_call 61; (with_reducible refine (text_ok b s x t n _ ?_ ?_ ?_ h.out).mono ?_); (· go_cell); (· go_cell); (· simp [go_sem, hlt, hf]); rintro e1 w1 ⟨rfl, j1, rfl⟩) | ((with_reducible refine gate_builtin (b := .append) (xs := #[.tmp 28, .tmp 33]) rfl ?_); at_builtin; go_loud (refine Kd.R_append Kd.string (w0 := (eyeSet w b t)) ((eyeSet w b t)).heap.size rfl (.tmp 28) (.tmp 33) 63 9 (.string ⟨#[]⟩) 16 rfl Try.underlying63 info9 rfl (by decide) (by omega) (.slice none 0 0) [] x [.string x] (fun _ => True) (fun _ => False) rfl (by simp [go_sem]) rfl (fun _ hk => hk.elim) (fun _ _ => trivial) (Kd.R_nil _ _ _ _ _) (by (repeat' (first | (with_reducible exact Below.refl _ _) | (with_reducible assumption) | (with_reducible exact below_app _ _ _ _) | (with_reducible refine below_pre ?_; (simp only [List.append_assoc, List.prefix_append, List.prefix_refl, List.prefix_append_right_inj])) | (with_reducible refine Below.alloc ?_ ?_ _) | (with_reducible refine below_ext ?_ ?_ _) | (with_reducible refine Below.drew ?_) | (with_reducible refine below_drewN ?_ _) | (with_reducible refine Below.setCell ?_ ?_ _) | go_size | (simp only [w_size_ext, List.length_append, World.alloc_size]; omega) | (simp; done) | (simp; omega)))) (below_size (by (repeat' (first | (with_reducible exact Below.refl _ _) | (with_reducible assumption) | (with_reducible exact below_app _ _ _ _) | (with_reducible refine below_pre ?_; (simp only [List.append_assoc, List.prefix_append, List.prefix_refl, List.prefix_append_right_inj])) | (with_reducible refine Below.alloc ?_ ?_ _) | (with_reducible refine below_ext ?_ ?_ _) | (with_reducible refine Below.drew ?_) | (with_reducible refine below_drewN ?_ _) | (with_reducible refine Below.setCell ?_ ?_ _) | go_size | (simp only [w_size_ext, List.length_append, World.alloc_size]; omega) | (simp; done) | (simp; omega))))) (by simp) ?_); intro v1 w1 hown hb hg hat))
  obtain ⟨j, rfl⟩ := w_ext_of_below hb
  rw [rounds_succ]
  go_wp2
  go_ret2
  exact ⟨.slice none 0 0, v1, 0, _, rfl, j, rfl, Kd.R_nil _ _ _ _ _, hown⟩
set_option maxHeartbeats 4000000 in
set_option maxRecDepth 100000 in
theorem ask1_err (b k : Nat) (s : ByteArray) (op n : Int) (c : Int) (w : World) (hr : w.cell? ⟨b, 0, none⟩ = some (.string s)) (ho : w.cell? ⟨b, 1, none⟩ = some (.bool true)) (hf : w.frozen? ⟨b, 0, none⟩ = false) (c0 : w.cell? ⟨k, 0, none⟩ = some (.int .i64 op)) (c1 : w.cell? ⟨k, 1, none⟩ = some (.int .i64 n)) (hkb : ¬ k = b) (hm : bits .and .i64 op 7 = 1) (h : Hid (textP s n = .error c)) : Calls Try.prog 63 #[eyeP b, .slice (some ⟨k, 0, none⟩) 1 1] w fun e w' => e = .panicked [fault c] ∧ ∃ s' j, w' = wext (eyeSet w b s') j := by
  have hlt := leB_of_cell ho
  have hlk := leB_of_cell c0
  go_enter Try.func63, Try.ntmps63
  go_wp2
  refine wp_loop_rounds 2 ?_
  rw [rounds_succ]
  go_wp2_with (go_at_call 61; (with_reducible refine (text_err b s n c _ ?_ ?_ ?_ h.out).mono ?_); (· go_cell); (· go_cell); (· simp [go_sem, hlt, hf]); rintro e1 w1 ⟨rfl, s', j1, rfl⟩)
  exact ⟨rfl, rfl, s', w_grown (by (repeat' (first | (with_reducible exact Below.refl _ _) | (with_reducible assumption) | (with_reducible exact below_app _ _ _ _) | (with_reducible refine below_pre ?_; (simp only [List.append_assoc, List.prefix_append, List.prefix_refl, List.prefix_append_right_inj])) | (with_reducible refine Below.alloc ?_ ?_ _) | (with_reducible refine below_ext ?_ ?_ _) | (with_reducible refine Below.drew ?_) | (with_reducible refine below_drewN ?_ _) | (with_reducible refine Below.setCell ?_ ?_ _) | go_size | (simp only [w_size_ext, List.length_append, World.alloc_size]; omega) | (simp; done) | (simp; omega))))⟩
set_option maxHeartbeats 4000000 in
set_option maxRecDepth 100000 in
theorem ask2_ok (b k : Nat) (s : ByteArray) (op n : Int) (x t : ByteArray) (w : World) (hr : w.cell? ⟨b, 0, none⟩ = some (.string s)) (ho : w.cell? ⟨b, 1, none⟩ = some (.bool true)) (hf : w.frozen? ⟨b, 0, none⟩ = false) (c0 : w.cell? ⟨k, 0, none⟩ = some (.int .i64 op)) (c1 : w.cell? ⟨k, 1, none⟩ = some (.int .i64 n)) (hkb : ¬ k = b) (hm : bits .and .i64 op 7 = 2) (h : Hid (rawP s n = .ok (x, t))) : Calls Try.prog 63 #[eyeP b, .slice (some ⟨k, 0, none⟩) 1 1] w fun e w' => ∃ (vx vy : Value) (B1 B2 : Nat), e = .returned (.tuple #[vx, vy]) ∧ ∃ j, w' = wext (eyeSet w b t) j ∧ (Kd.int .i64).R 3 w' B1 (fun _ => True) vx [] ∧ Kd.string.R 9 w' B2 (fun _ => True) vy [x] := by
  have hlt := leB_of_cell ho
  have hlk := leB_of_cell c0
  go_enter Try.func63, Try.ntmps63
  go_wp2
  refine wp_loop_rounds 2 ?_
  rw [rounds_succ]
  go_wp2_with (first | (go_at_call 60; (with_reducible refine (raw_ok b s x t n _ ?_ ?_ ?_ h.out).mono ?_); (· go_cell); (· go_cell); (· simp [go_sem, hlt, hf]); rintro e1 w1 ⟨rfl, j1, rfl⟩) | ((with_reducible refine gate_builtin (b := .append) (xs := #[.tmp 37, .tmp 42]) rfl ?_); at_builtin; go_loud (refine Kd.R_append Kd.string (w0 := (eyeSet w b t)) ((eyeSet w b t)).heap.size rfl (.tmp 37) (.tmp 42) 63 9 (.string ⟨#[]⟩) 16 rfl Try.underlying63 info9 rfl (by decide) (by omega) (.slice none 0 0) [] x [.string x] (fun _ => True) (fun _ => False) rfl (by simp [go_sem]) rfl (fun _ hk => hk.elim) (fun _ _ => trivial) (Kd.R_nil _ _ _ _ _) (by (repeat' (first | (with_reducible exact Below.refl _ _) | (with_reducible assumption) | (with_reducible exact below_app _ _ _ _) | (with_reducible refine below_pre ?_; (simp only [List.append_assoc, List.prefix_append, List.prefix_refl, List.prefix_append_right_inj])) | (with_reducible refine Below.alloc ?_ ?_ _) | (with_reducible refine below_ext ?_ ?_ _) | (with_reducible refine Below.drew ?_) | (with_reducible refine below_drewN ?_ _) | (with_reducible refine Below.setCell ?_ ?_ _) | go_size | (simp only [w_size_ext, List.length_append, World.alloc_size]; omega) | (simp; done) | (simp; omega)))) (below_size (by (repeat' (first | (with_reducible exact Below.refl _ _) | (with_reducible assumption) | (with_reducible exact below_app _ _ _ _) | (with_reducible refine below_pre ?_; (simp only [List.append_assoc, List.prefix_append, List.prefix_refl, List.prefix_append_right_inj])) | (with_reducible refine Below.alloc ?_ ?_ _) | (with_reducible refine below_ext ?_ ?_ _) | (with_reducible refine Below.drew ?_) | (with_reducible refine below_drewN ?_ _) | (with_reducible refine Below.setCell ?_ ?_ _) | go_size | (simp only [w_size_ext, List.length_append, World.alloc_size]; omega) | (simp; done) | (simp; omega))))) (by simp) ?_); intro v1 w1 hown hb hg hat))
  obtain ⟨j, rfl⟩ := w_ext_of_below hb
  rw [rounds_succ]
  go_wp2
  go_ret2
  exact ⟨.slice none 0 0, v1, 0, _, rfl, j, rfl, Kd.R_nil _ _ _ _ _, hown⟩
set_option maxHeartbeats 4000000 in
set_option maxRecDepth 100000 in
theorem ask2_err (b k : Nat) (s : ByteArray) (op n : Int) (c : Int) (w : World) (hr : w.cell? ⟨b, 0, none⟩ = some (.string s)) (ho : w.cell? ⟨b, 1, none⟩ = some (.bool true)) (hf : w.frozen? ⟨b, 0, none⟩ = false) (c0 : w.cell? ⟨k, 0, none⟩ = some (.int .i64 op)) (c1 : w.cell? ⟨k, 1, none⟩ = some (.int .i64 n)) (hkb : ¬ k = b) (hm : bits .and .i64 op 7 = 2) (h : Hid (rawP s n = .error c)) : Calls Try.prog 63 #[eyeP b, .slice (some ⟨k, 0, none⟩) 1 1] w fun e w' => e = .panicked [fault c] ∧ ∃ s' j, w' = wext (eyeSet w b s') j := by
  have hlt := leB_of_cell ho
  have hlk := leB_of_cell c0
  go_enter Try.func63, Try.ntmps63
  go_wp2
  refine wp_loop_rounds 2 ?_
  rw [rounds_succ]
  go_wp2_with (go_at_call 60; (with_reducible refine (raw_err b s n c _ ?_ ?_ ?_ h.out).mono ?_); (· go_cell); (· go_cell); (· simp [go_sem, hlt, hf]); rintro e1 w1 ⟨rfl, s', j1, rfl⟩)
  exact ⟨rfl, rfl, s', w_grown (by (repeat' (first | (with_reducible exact Below.refl _ _) | (with_reducible assumption) | (with_reducible exact below_app _ _ _ _) | (with_reducible refine below_pre ?_; (simp only [List.append_assoc, List.prefix_append, List.prefix_refl, List.prefix_append_right_inj])) | (with_reducible refine Below.alloc ?_ ?_ _) | (with_reducible refine below_ext ?_ ?_ _) | (with_reducible refine Below.drew ?_) | (with_reducible refine below_drewN ?_ _) | (with_reducible refine Below.setCell ?_ ?_ _) | go_size | (simp only [w_size_ext, List.length_append, World.alloc_size]; omega) | (simp; done) | (simp; omega))))⟩
set_option maxHeartbeats 4000000 in
set_option maxRecDepth 100000 in
theorem ask3_ok (b k : Nat) (s : ByteArray) (op n : Int) (w : World) (hr : w.cell? ⟨b, 0, none⟩ = some (.string s)) (ho : w.cell? ⟨b, 1, none⟩ = some (.bool true)) (hf : w.frozen? ⟨b, 0, none⟩ = false) (c0 : w.cell? ⟨k, 0, none⟩ = some (.int .i64 op)) (c1 : w.cell? ⟨k, 1, none⟩ = some (.int .i64 n)) (hkb : ¬ k = b) (hm : bits .and .i64 op 7 = 3) : Calls Try.prog 63 #[eyeP b, .slice (some ⟨k, 0, none⟩) 1 1] w fun e w' => ∃ (vx vy : Value) (B1 B2 : Nat), e = .returned (.tuple #[vx, vy]) ∧ ∃ j, w' = wext w j ∧ (Kd.int .i64).R 3 w' B1 (fun _ => True) vx [(s.size : Int)] ∧ Kd.string.R 9 w' B2 (fun _ => True) vy [] := by
  have hlt := leB_of_cell ho
  have hlk := leB_of_cell c0
  go_enter Try.func63, Try.ntmps63
  go_wp2
  refine wp_loop_rounds 2 ?_
  rw [rounds_succ]
  go_wp2_with (first | (go_at_call 62; (with_reducible refine (left_on b s _ ?_ ?_).mono ?_); (· go_cell); (· go_cell); rintro e1 w1 ⟨rfl, j1, rfl⟩) | ((with_reducible refine gate_builtin (b := .append) (xs := #[.tmp 46, .tmp 49]) rfl ?_); at_builtin; go_loud (refine Kd.R_append (Kd.int .i64) (w0 := w) (w).heap.size rfl (.tmp 46) (.tmp 49) 62 3 (.int .i64 0) 8 rfl Try.underlying62 info3 rfl (by decide) (by omega) (.slice none 0 0) [] (s.size : Int) [.int .i64 (s.size : Int)] (fun _ => True) (fun _ => False) rfl (by simp [go_sem]) rfl (fun _ hk => hk.elim) (fun _ _ => trivial) (Kd.R_nil _ _ _ _ _) (by (repeat' (first | (with_reducible exact Below.refl _ _) | (with_reducible assumption) | (with_reducible exact below_app _ _ _ _) | (with_reducible refine below_pre ?_; (simp only [List.append_assoc, List.prefix_append, List.prefix_refl, List.prefix_append_right_inj])) | (with_reducible refine Below.alloc ?_ ?_ _) | (with_reducible refine below_ext ?_ ?_ _) | (with_reducible refine Below.drew ?_) | (with_reducible refine below_drewN ?_ _) | (with_reducible refine Below.setCell ?_ ?_ _) | go_size | (simp only [w_size_ext, List.length_append, World.alloc_size]; omega) | (simp; done) | (simp; omega)))) (below_size (by (repeat' (first | (with_reducible exact Below.refl _ _) | (with_reducible assumption) | (with_reducible exact below_app _ _ _ _) | (with_reducible refine below_pre ?_; (simp only [List.append_assoc, List.prefix_append, List.prefix_refl, List.prefix_append_right_inj])) | (with_reducible refine Below.alloc ?_ ?_ _) | (with_reducible refine below_ext ?_ ?_ _) | (with_reducible refine Below.drew ?_) | (with_reducible refine below_drewN ?_ _) | (with_reducible refine Below.setCell ?_ ?_ _) | go_size | (simp only [w_size_ext, List.length_append, World.alloc_size]; omega) | (simp; done) | (simp; omega))))) (by simp) ?_); intro v1 w1 hown hb hg hat))
  obtain ⟨j, rfl⟩ := w_ext_of_below hb
  rw [rounds_succ]
  go_wp2
  go_ret2
  exact ⟨v1, .slice none 0 0, _, 0, rfl, j, rfl, hown, Kd.R_nil _ _ _ _ _⟩
set_option maxHeartbeats 4000000 in
set_option maxRecDepth 100000 in
theorem ask4_err (b k : Nat) (s : ByteArray) (op n : Int) (w : World) (hr : w.cell? ⟨b, 0, none⟩ = some (.string s)) (ho : w.cell? ⟨b, 1, none⟩ = some (.bool true)) (hf : w.frozen? ⟨b, 0, none⟩ = false) (c0 : w.cell? ⟨k, 0, none⟩ = some (.int .i64 op)) (c1 : w.cell? ⟨k, 1, none⟩ = some (.int .i64 n)) (hkb : ¬ k = b) (hm : bits .and .i64 op 7 = 4) : Calls Try.prog 63 #[eyeP b, .slice (some ⟨k, 0, none⟩) 1 1] w fun e w' => e = .panicked [fault n] ∧ ∃ s' j, w' = wext (eyeSet w b s') j := by
  have hlt := leB_of_cell ho
  have hlk := leB_of_cell c0
  go_enter Try.func63, Try.ntmps63
  go_wp2
  refine wp_loop_rounds 2 ?_
  rw [rounds_succ]
  go_wp2_with (go_at_call 89; (with_reducible refine (fail_on b n _ ?_).mono ?_); (· go_cell); rintro e1 w1 ⟨rfl, j1, rfl⟩)
  exact ⟨rfl, rfl, s, by rw [eyeSet, set_self w b 0 _ hr]; exact w_grown (by (repeat' (first | (with_reducible exact Below.refl _ _) | (with_reducible assumption) | (with_reducible exact below_app _ _ _ _) | (with_reducible refine below_pre ?_; (simp only [List.append_assoc, List.prefix_append, List.prefix_refl, List.prefix_append_right_inj])) | (with_reducible refine Below.alloc ?_ ?_ _) | (with_reducible refine below_ext ?_ ?_ _) | (with_reducible refine Below.drew ?_) | (with_reducible refine below_drewN ?_ _) | (with_reducible refine Below.setCell ?_ ?_ _) | go_size | (simp only [w_size_ext, List.length_append, World.alloc_size]; omega) | (simp; done) | (simp; omega))))⟩
set_option maxHeartbeats 4000000 in
set_option maxRecDepth 100000 in
theorem ask5_ok (b k : Nat) (s : ByteArray) (op n : Int) (mm : Int) (w : World) (hr : w.cell? ⟨b, 0, none⟩ = some (.string s)) (ho : w.cell? ⟨b, 1, none⟩ = some (.bool true)) (hf : w.frozen? ⟨b, 0, none⟩ = false) (c0 : w.cell? ⟨k, 0, none⟩ = some (.int .i64 op)) (c1 : w.cell? ⟨k, 1, none⟩ = some (.int .i64 n)) (hkb : ¬ k = b) (hm : bits .and .i64 op 7 = mm) (h0 : ¬ mm = 0) (h1 : ¬ mm = 1) (h2 : ¬ mm = 2) (h3 : ¬ mm = 3) (h4 : ¬ mm = 4) : Calls Try.prog 63 #[eyeP b, .slice (some ⟨k, 0, none⟩) 1 1] w fun e w' => ∃ (vx vy : Value) (B1 B2 : Nat), e = .returned (.tuple #[vx, vy]) ∧ ∃ j, w' = wext w j ∧ (Kd.int .i64).R 3 w' B1 (fun _ => True) vx [] ∧ Kd.string.R 9 w' B2 (fun _ => True) vy [] := by
  have hlt := leB_of_cell ho
  have hlk := leB_of_cell c0
  go_enter Try.func63, Try.ntmps63
  go_wp2
  refine wp_loop_rounds 2 ?_
  rw [rounds_succ]
  go_wp2_with fail
  rw [rounds_succ]
  go_wp2
  go_ret2
  obtain ⟨j, hj⟩ := w_grown (w := w) (w' := w.alloc (.cells #[.int .i64 op, .int .i64 n] 84)) (by (repeat' (first | (with_reducible exact Below.refl _ _) | (with_reducible assumption) | (with_reducible exact below_app _ _ _ _) | (with_reducible refine below_pre ?_; (simp only [List.append_assoc, List.prefix_append, List.prefix_refl, List.prefix_append_right_inj])) | (with_reducible refine Below.alloc ?_ ?_ _) | (with_reducible refine below_ext ?_ ?_ _) | (with_reducible refine Below.drew ?_) | (with_reducible refine below_drewN ?_ _) | (with_reducible refine Below.setCell ?_ ?_ _) | go_size | (simp only [w_size_ext, List.length_append, World.alloc_size]; omega) | (simp; done) | (simp; omega))))
  exact ⟨.slice none 0 0, .slice none 0 0, 0, 0, rfl, j, hj, Kd.R_nil _ _ _ _ _, Kd.R_nil _ _ _ _ _⟩

theorem ask_ok (b k : Nat) (s : ByteArray) (op n : Int) (x : List Int) (y : List ByteArray) (t : ByteArray) (w : World) (hr : w.cell? ⟨b, 0, none⟩ = some (.string s)) (ho : w.cell? ⟨b, 1, none⟩ = some (.bool true)) (hf : w.frozen? ⟨b, 0, none⟩ = false) (c0 : w.cell? ⟨k, 0, none⟩ = some (.int .i64 op)) (c1 : w.cell? ⟨k, 1, none⟩ = some (.int .i64 n)) (hkb : ¬ k = b) (h : ask s (bits .and .i64 op 7) n = .ok (x, y, t)) : Calls Try.prog 63 #[eyeP b, .slice (some ⟨k, 0, none⟩) 1 1] w fun e w' => ∃ (vx vy : Value) (B1 B2 : Nat), e = .returned (.tuple #[vx, vy]) ∧ ∃ j, w' = wext (eyeSet w b t) j ∧ (Kd.int .i64).R 3 w' B1 (fun _ => True) vx x ∧ Kd.string.R 9 w' B2 (fun _ => True) vy y := by
  unfold ask at h
  split at h
  · rename_i hm
    split at h
    · cases h
    · rename_i r hr'
      obtain ⟨m, u⟩ := r
      injection h with h
      simp only [Prod.mk.injEq] at h
      obtain ⟨rfl, rfl, rfl⟩ := h
      exact ask0_ok b k s op n m u w hr ho hf c0 c1 hkb hm (Lib.hid hr')
  split at h
  · rename_i hm
    split at h
    · cases h
    · rename_i r hr'
      obtain ⟨m, u⟩ := r
      injection h with h
      simp only [Prod.mk.injEq] at h
      obtain ⟨rfl, rfl, rfl⟩ := h
      exact ask1_ok b k s op n m u w hr ho hf c0 c1 hkb hm (Lib.hid hr')
  split at h
  · rename_i hm
    split at h
    · cases h
    · rename_i r hr'
      obtain ⟨m, u⟩ := r
      injection h with h
      simp only [Prod.mk.injEq] at h
      obtain ⟨rfl, rfl, rfl⟩ := h
      exact ask2_ok b k s op n m u w hr ho hf c0 c1 hkb hm (Lib.hid hr')
  split at h
  · rename_i hm
    injection h with h
    simp only [Prod.mk.injEq] at h
    obtain ⟨rfl, rfl, rfl⟩ := h
    refine (ask3_ok b k s op n w hr ho hf c0 c1 hkb hm).mono ?_
    rw [eyeSet, set_self w b 0 _ hr]
    exact fun _ _ h => h
  split at h
  · cases h
  · rename_i h0 h1 h2 h3 h4
    injection h with h
    simp only [Prod.mk.injEq] at h
    obtain ⟨rfl, rfl, rfl⟩ := h
    refine (ask5_ok b k s op n _ w hr ho hf c0 c1 hkb rfl h0 h1 h2 h3 h4).mono ?_
    rw [eyeSet, set_self w b 0 _ hr]
    exact fun _ _ h => h
theorem ask_err (b k : Nat) (s : ByteArray) (op n c : Int) (w : World) (hr : w.cell? ⟨b, 0, none⟩ = some (.string s)) (ho : w.cell? ⟨b, 1, none⟩ = some (.bool true)) (hf : w.frozen? ⟨b, 0, none⟩ = false) (c0 : w.cell? ⟨k, 0, none⟩ = some (.int .i64 op)) (c1 : w.cell? ⟨k, 1, none⟩ = some (.int .i64 n)) (hkb : ¬ k = b) (h : ask s (bits .and .i64 op 7) n = .error c) : Calls Try.prog 63 #[eyeP b, .slice (some ⟨k, 0, none⟩) 1 1] w fun e w' => e = .panicked [fault c] ∧ ∃ s' j, w' = wext (eyeSet w b s') j := by
  unfold ask at h
  split at h
  · rename_i hm
    split at h
    · rename_i c' hr'
      injection h with h
      subst h
      exact ask0_err b k s op n c' w hr ho hf c0 c1 hkb hm (Lib.hid hr')
    · cases h
  split at h
  · rename_i hm
    split at h
    · rename_i c' hr'
      injection h with h
      subst h
      exact ask1_err b k s op n c' w hr ho hf c0 c1 hkb hm (Lib.hid hr')
    · cases h
  split at h
  · rename_i hm
    split at h
    · rename_i c' hr'
      injection h with h
      subst h
      exact ask2_err b k s op n c' w hr ho hf c0 c1 hkb hm (Lib.hid hr')
    · cases h
  split at h
  · cases h
  split at h
  · rename_i hm
    injection h with h
    subst h
    exact ask4_err b k s op n w hr ho hf c0 c1 hkb hm
  · cases h
theorem ask_len {s : ByteArray} {m n : Int} {x : List Int} {y : List ByteArray} {t : ByteArray} (h : ask s m n = .ok (x, y, t)) : x.length ≤ 1 ∧ y.length ≤ 1 := by
  unfold ask at h
  repeat' split at h
  all_goals first | (injection h with h; simp only [Prod.mk.injEq] at h; obtain ⟨rfl, rfl, rfl⟩ := h; constructor <;> first | exact Nat.le_refl _ | exact Nat.zero_le _) | cases h
end Go.Proofs.Ytdjmpedfeahajaa

set_option linter.unusedSimpArgs false
set_option linter.unusedVariables false
namespace Go.Proofs.Ytdjmpedfeahajaa
open Go.RowKit Go.Proofs.YtdjmpedfeahajaaW.PrintWords Go.Proofs.YtdjmpedfeahajaaW.PrintLast Go.Proofs.YtdjmpedfeahajaaW.PrintMore

theorem wext_same (W : World) : W = wext W ⟨[], W.drawn⟩ := by simp [wext]
set_option maxHeartbeats 1000000 in
theorem other2_ints (w : World) : Calls Try.prog 73 #[.int .i64 0] w (Ret (.bool false) w) := by
  go_enter Try.func73, Try.ntmps73
  go_wp2
  go_ret
  exact Ret.mk rfl (Below.refl _ _)
theorem cellof_ints (w : World) (A : Option Addr) (x : List Int) (hC : (Kd.int .i64).C w A x.length x) (i : Nat) (hi : i < x.length) : ∃ b o : Nat, A = some ⟨b, o, none⟩ ∧ w.cell? ⟨b, o + i, none⟩ = some (Value.int .i64 (x.getD i (0 : Int))) := by
  have hr := Kd.reads_of_C (enc := Value.int .i64) (d := (0 : Int)) (h1 := fun _ => rfl) hC
  obtain ⟨ad, e, hc⟩ := hr.2.2 (by omega)
  have h := hc i hi
  obtain ⟨ab, ao, sp⟩ := ad
  have hs : sp = none := by simpa [Addr.add] using World.cell?_spot (hc 0 (by omega))
  subst hs
  rw [Addr.add_lit] at h
  exact ⟨ab, ao, e, h⟩
set_option maxHeartbeats 2000000 in
set_option maxRecDepth 100000 in
theorem index2_ints (A : Option Addr) (c : Nat) (x : List Int) (w : World) (hC : (Kd.int .i64).C w A x.length x) (hz : ∀ a ∈ x, a = (0 : Int)) (hm : x.length ≤ 100) : Calls Try.prog 91 #[.slice A x.length c, .func (.func 73) #[] #[]] w (Ret (.int .i64 (-1)) w) := by
  have HC := Lib.hid (cell_ints w A x hC hz)
  clear hC hz
  generalize x.length = n at *
  go_enter Try.func91, Try.ntmps91
  go_wp2
  go_loopw [8] (fun v8 wr => ∃ (i : Nat) (j : Junk), i ≤ n ∧ v8 = .int .i64 (i : Int) ∧ wr = wext w j) (fun i _ => ((n : Int) - intOf i).toNat)
  case atStart => exact ⟨0, ⟨[], w.drawn⟩, Nat.zero_le _, rfl, by simp [wext]⟩
  case round =>
    obtain ⟨i, j, hi, rfl, rfl⟩ := hrel
    by_cases h0 : i = n
    · subst h0
      go_wp2
      go_ret
      exact Ret.mk rfl (w_ext_below _ _)
    · obtain ⟨b, o, eA, hc⟩ := HC.out i (by omega)
      subst eA
      have hlb := leB_of_cell hc
      have hlt : (i : Int) < (n : Int) := by omega
      have hge : (0 : Int) ≤ (i : Int) := by omega
      have hnl : ¬ (i : Int) < 0 := by omega
      have hwr : wrap64 ((i : Int) + 1) = ((i + 1 : Nat) : Int) := by rw [wrap64_eq]; omega
      go_wp2_with (go_at_call 73; (with_reducible refine (other2_ints _).mono ?_); rintro e1 w1 ⟨rfl, j1, rfl⟩)
      go_roundw
      case rel => exact ⟨i + 1, ⟨j.l ++ j1.l, j1.m⟩, by omega, rfl, rfl⟩
      case measure => simp [intOf]; omega
set_option maxHeartbeats 1000000 in
theorem none2_ints (A : Option Addr) (c : Nat) (x : List Int) (w : World) (hC : (Kd.int .i64).C w A x.length x) (hz : ∀ a ∈ x, a = (0 : Int)) (hm : x.length ≤ 100) : Calls Try.prog 64 #[.slice A x.length c, .func (.func 73) #[] #[]] w (Ret (.bool false) w) := by
  have HI := Lib.hid (fun c => index2_ints A c x w hC hz hm)
  clear hC hz
  go_enter Try.func64, Try.ntmps64
  go_wp2_with (go_at_call 91; (with_reducible refine (HI.out _).mono ?_); rintro e1 w1 ⟨rfl, j1, rfl⟩)
  go_ret
  exact Ret.mk rfl (w_ext_below _ _)
set_option maxHeartbeats 2000000 in
set_option maxRecDepth 100000 in
theorem same_ints (A B : Option Addr) (c d : Nat) (x : List Int) (w : World) (hA : (Kd.int .i64).C w A x.length x) (hB : (Kd.int .i64).C w B x.length x) (hm : x.length ≤ 100) : Calls Try.prog 70 #[.slice A x.length c, .slice B x.length d] w (Ret (.bool true) w) := by
  have HA := Lib.hid (cellof_ints w A x hA)
  have HB := Lib.hid (cellof_ints w B x hB)
  clear hA hB
  obtain ⟨n, hn⟩ : ∃ n, x.length = n := ⟨_, rfl⟩
  rw [hn] at HA HB hm ⊢
  clear hn
  go_enter Try.func70, Try.ntmps70
  go_wp2
  go_loopw [13] (fun v13 wr => ∃ (i : Nat) (j : Junk), i ≤ n ∧ v13 = .int .i64 (i : Int) ∧ wr = wext w j) (fun i _ => ((n : Int) - intOf i).toNat)
  case atStart => exact ⟨0, ⟨[], w.drawn⟩, Nat.zero_le _, rfl, by simp [wext]⟩
  case round =>
    obtain ⟨i, j, hi, rfl, rfl⟩ := hrel
    by_cases h0 : i = n
    · subst h0
      go_wp2
      go_ret
      exact Ret.mk rfl (w_ext_below _ _)
    · obtain ⟨b, o, eA, hc⟩ := HA.out i (by omega)
      obtain ⟨b', o', eB, hc'⟩ := HB.out i (by omega)
      subst eA
      subst eB
      generalize x.getD i (0 : Int) = q at *
      have hlb := leB_of_cell hc
      have hlb' := leB_of_cell hc'
      have hlt : (i : Int) < (n : Int) := by omega
      have hge : (0 : Int) ≤ (i : Int) := by omega
      have hnl : ¬ (i : Int) < 0 := by omega
      have hwr : wrap64 ((i : Int) + 1) = ((i + 1 : Nat) : Int) := by rw [wrap64_eq]; omega
      go_wp2
      refine wp_region_mix [(0, true), (1, true), (2, true), (3, true), (4, true), (5, true), (6, true), (7, true), (8, true)] (by kernel_rfl) (by kernel_rfl) rfl (by kernel_rfl) (by intro _ _ d _ _ h; cases d <;> exact h) ?_; intro j1; (repeat (first | (refine wpMix_skip rfl rfl ?_; simp only [Act.put, List.setIfInBounds_toArray, List.set_cons_zero, List.set_cons_succ]) | (refine wpMix_light rfl rfl ?_; intro K hK; go_simp; refine hK _ ?_; clear hK K) | (refine wpMix_heavy rfl rfl ?_; intro K hK; go_wp2_with (fail); refine ⟨w_ext_of_below (by (repeat' (first | (with_reducible exact Below.refl _ _) | (with_reducible assumption) | (with_reducible exact below_app _ _ _ _) | (with_reducible refine below_pre ?_; (simp only [List.append_assoc, List.prefix_append, List.prefix_refl, List.prefix_append_right_inj])) | (with_reducible refine Below.alloc ?_ ?_ _) | (with_reducible refine below_ext ?_ ?_ _) | (with_reducible refine Below.drew ?_) | (with_reducible refine below_drewN ?_ _) | (with_reducible refine Below.setCell ?_ ?_ _) | go_size | (simp only [w_size_ext, List.length_append, World.alloc_size]; omega) | (simp; done) | (simp; omega)))), ?_⟩))); refine wpMix_nil ?_
      go_wp2
      go_roundw
      case rel => exact ⟨i + 1, _, by omega, rfl, rfl⟩
      case measure => simp [intOf]; omega
set_option maxHeartbeats 1000000 in
theorem other2_strs (w : World) : Calls Try.prog 74 #[.string ⟨#[]⟩] w (Ret (.bool false) w) := by
  go_enter Try.func74, Try.ntmps74
  go_wp2
  go_ret
  exact Ret.mk rfl (Below.refl _ _)
theorem cellof_strs (w : World) (A : Option Addr) (x : List ByteArray) (hC : Kd.string.C w A x.length x) (i : Nat) (hi : i < x.length) : ∃ b o : Nat, A = some ⟨b, o, none⟩ ∧ w.cell? ⟨b, o + i, none⟩ = some (Value.string (x.getD i (⟨#[]⟩ : ByteArray))) := by
  have hr := Kd.reads_of_C (enc := Value.string) (d := (⟨#[]⟩ : ByteArray)) (h1 := fun _ => rfl) hC
  obtain ⟨ad, e, hc⟩ := hr.2.2 (by omega)
  have h := hc i hi
  obtain ⟨ab, ao, sp⟩ := ad
  have hs : sp = none := by simpa [Addr.add] using World.cell?_spot (hc 0 (by omega))
  subst hs
  rw [Addr.add_lit] at h
  exact ⟨ab, ao, e, h⟩
set_option maxHeartbeats 2000000 in
set_option maxRecDepth 100000 in
theorem index2_strs (A : Option Addr) (c : Nat) (x : List ByteArray) (w : World) (hC : Kd.string.C w A x.length x) (hz : ∀ a ∈ x, a = (⟨#[]⟩ : ByteArray)) (hm : x.length ≤ 100) : Calls Try.prog 92 #[.slice A x.length c, .func (.func 74) #[] #[]] w (Ret (.int .i64 (-1)) w) := by
  have HC := Lib.hid (cell_strs w A x hC hz)
  clear hC hz
  generalize x.length = n at *
  go_enter Try.func92, Try.ntmps92
  go_wp2
  go_loopw [8] (fun v8 wr => ∃ (i : Nat) (j : Junk), i ≤ n ∧ v8 = .int .i64 (i : Int) ∧ wr = wext w j) (fun i _ => ((n : Int) - intOf i).toNat)
  case atStart => exact ⟨0, ⟨[], w.drawn⟩, Nat.zero_le _, rfl, by simp [wext]⟩
  case round =>
    obtain ⟨i, j, hi, rfl, rfl⟩ := hrel
    by_cases h0 : i = n
    · subst h0
      go_wp2
      go_ret
      exact Ret.mk rfl (w_ext_below _ _)
    · obtain ⟨b, o, eA, hc⟩ := HC.out i (by omega)
      subst eA
      have hlb := leB_of_cell hc
      have hlt : (i : Int) < (n : Int) := by omega
      have hge : (0 : Int) ≤ (i : Int) := by omega
      have hnl : ¬ (i : Int) < 0 := by omega
      have hwr : wrap64 ((i : Int) + 1) = ((i + 1 : Nat) : Int) := by rw [wrap64_eq]; omega
      go_wp2_with (go_at_call 74; (with_reducible refine (other2_strs _).mono ?_); rintro e1 w1 ⟨rfl, j1, rfl⟩)
      go_roundw
      case rel => exact ⟨i + 1, ⟨j.l ++ j1.l, j1.m⟩, by omega, rfl, rfl⟩
      case measure => simp [intOf]; omega
set_option maxHeartbeats 1000000 in
theorem none2_strs (A : Option Addr) (c : Nat) (x : List ByteArray) (w : World) (hC : Kd.string.C w A x.length x) (hz : ∀ a ∈ x, a = (⟨#[]⟩ : ByteArray)) (hm : x.length ≤ 100) : Calls Try.prog 66 #[.slice A x.length c, .func (.func 74) #[] #[]] w (Ret (.bool false) w) := by
  have HI := Lib.hid (fun c => index2_strs A c x w hC hz hm)
  clear hC hz
  go_enter Try.func66, Try.ntmps66
  go_wp2_with (go_at_call 92; (with_reducible refine (HI.out _).mono ?_); rintro e1 w1 ⟨rfl, j1, rfl⟩)
  go_ret
  exact Ret.mk rfl (w_ext_below _ _)
set_option maxHeartbeats 2000000 in
set_option maxRecDepth 100000 in
theorem same_strs (A B : Option Addr) (c d : Nat) (x : List ByteArray) (w : World) (hA : Kd.string.C w A x.length x) (hB : Kd.string.C w B x.length x) (hm : x.length ≤ 100) : Calls Try.prog 71 #[.slice A x.length c, .slice B x.length d] w (Ret (.bool true) w) := by
  have HA := Lib.hid (cellof_strs w A x hA)
  have HB := Lib.hid (cellof_strs w B x hB)
  clear hA hB
  obtain ⟨n, hn⟩ : ∃ n, x.length = n := ⟨_, rfl⟩
  rw [hn] at HA HB hm ⊢
  clear hn
  go_enter Try.func71, Try.ntmps71
  go_wp2
  go_loopw [13] (fun v13 wr => ∃ (i : Nat) (j : Junk), i ≤ n ∧ v13 = .int .i64 (i : Int) ∧ wr = wext w j) (fun i _ => ((n : Int) - intOf i).toNat)
  case atStart => exact ⟨0, ⟨[], w.drawn⟩, Nat.zero_le _, rfl, by simp [wext]⟩
  case round =>
    obtain ⟨i, j, hi, rfl, rfl⟩ := hrel
    by_cases h0 : i = n
    · subst h0
      go_wp2
      go_ret
      exact Ret.mk rfl (w_ext_below _ _)
    · obtain ⟨b, o, eA, hc⟩ := HA.out i (by omega)
      obtain ⟨b', o', eB, hc'⟩ := HB.out i (by omega)
      subst eA
      subst eB
      generalize x.getD i (⟨#[]⟩ : ByteArray) = q at *
      have hlb := leB_of_cell hc
      have hlb' := leB_of_cell hc'
      have hlt : (i : Int) < (n : Int) := by omega
      have hge : (0 : Int) ≤ (i : Int) := by omega
      have hnl : ¬ (i : Int) < 0 := by omega
      have hwr : wrap64 ((i : Int) + 1) = ((i + 1 : Nat) : Int) := by rw [wrap64_eq]; omega
      go_wp2
      refine wp_region_mix [(0, true), (1, true), (2, true), (3, true), (4, true), (5, true), (6, true), (7, true), (8, true)] (by kernel_rfl) (by kernel_rfl) rfl (by kernel_rfl) (by intro _ _ d _ _ h; cases d <;> exact h) ?_; intro j1; (repeat (first | (refine wpMix_skip rfl rfl ?_; simp only [Act.put, List.setIfInBounds_toArray, List.set_cons_zero, List.set_cons_succ]) | (refine wpMix_light rfl rfl ?_; intro K hK; go_simp; refine hK _ ?_; clear hK K) | (refine wpMix_heavy rfl rfl ?_; intro K hK; go_wp2_with (fail); refine ⟨w_ext_of_below (by (repeat' (first | (with_reducible exact Below.refl _ _) | (with_reducible assumption) | (with_reducible exact below_app _ _ _ _) | (with_reducible refine below_pre ?_; (simp only [List.append_assoc, List.prefix_append, List.prefix_refl, List.prefix_append_right_inj])) | (with_reducible refine Below.alloc ?_ ?_ _) | (with_reducible refine below_ext ?_ ?_ _) | (with_reducible refine Below.drew ?_) | (with_reducible refine below_drewN ?_ _) | (with_reducible refine Below.setCell ?_ ?_ _) | go_size | (simp only [w_size_ext, List.length_append, World.alloc_size]; omega) | (simp; done) | (simp; omega)))), ?_⟩))); refine wpMix_nil ?_
      go_wp2
      go_roundw
      case rel => exact ⟨i + 1, _, by omega, rfl, rfl⟩
      case measure => simp [intOf]; omega
end Go.Proofs.Ytdjmpedfeahajaa

set_option linter.unusedSimpArgs false
set_option linter.unusedVariables false
namespace Go.Proofs.Ytdjmpedfeahajaa
open Go.RowKit Go.Proofs.YtdjmpedfeahajaaW.PrintWords Go.Proofs.YtdjmpedfeahajaaW.PrintLast Go.Proofs.YtdjmpedfeahajaaW.PrintMore

/-- The orders of a statement: some operation is taken first, one alone may come, or one of two. -/
inductive Ord where
  | done
  | take (i : Nat) (t : Ord)
  | one (i : Nat) (t : Ord)
  | two (i j : Nat) (t u : Ord)
def wpOrd (P : Program) (ops : Array Oper) (Q : Exit → Act → World → Prop) : Ord → Act → World → Prop
  | .done, a, w => Q .normal a w
  | .take i t, a, w => ∃ o v, ops[i]? = some o ∧ Region.wanted o (yielded ops a.tmps) = true ∧ (∀ w, (execOp a.eval o).run P w = .ok (.value v) w) ∧ wpOrd P ops Q t (a.put o.dst v) w
  | .one i t, a, w => ∃ o, ops[i]? = some o ∧ Region.wanted o (yielded ops a.tmps) = true ∧ o.wp P a w (fun a' w' => wpOrd P ops Q t a' w') Q
  | .two i j t u, a, w => (∃ o, ops[i]? = some o ∧ Region.wanted o (yielded ops a.tmps) = true ∧ o.wp P a w (fun a' w' => wpOrd P ops Q t a' w') Q) ∧
      (∃ o, ops[j]? = some o ∧ Region.wanted o (yielded ops a.tmps) = true ∧ o.wp P a w (fun a' w' => wpOrd P ops Q u a' w') Q)
def ordOk (ops : Array Oper) : Ord → Array Bool → Bool
  | .done, l => (Region.ready .any ops l).isEmpty
  | .take i t, l => ((Region.ready .any ops l).contains i && Region.free .any ops l i) && ordOk ops t (l.setIfInBounds i true)
  | .one i t, l => (Region.ready .any ops l == [i]) && ordOk ops t (l.setIfInBounds i true)
  | .two i j t u, l => (Region.ready .any ops l == [i, j]) && (ordOk ops t (l.setIfInBounds i true) && ordOk ops u (l.setIfInBounds j true))
def Ord.deep : Ord → Nat
  | .done => 0
  | .take _ t => t.deep + 1
  | .one _ t => t.deep + 1
  | .two _ _ t u => max t.deep u.deep + 1
section
variable {P : Program} {ops : Array Oper} {Q : Exit → Act → World → Prop}
theorem wpAnyH_of_ord (hs : Region.noSelect ops = true) (hQ : ∀ (c : List PanicEntry) (a : Act) (d : Option Tmp) (v : Value) (w : World), Q (.panic c) (a.put d v) w → Q (.panic c) a w) :
    ∀ (t : Ord) (n : Nat) (listed : Array Bool) (a : Act) (w : World), t.deep ≤ n → ordOk ops t listed = true → wpOrd P ops Q t a w → wpAnyH P .any ops Q (fun _ => True) n listed a w
  | .done, n, listed, a, w, _, hok, h => by
    simp only [ordOk, List.isEmpty_iff] at hok
    exact wpAnyH_done hok h _
  | .take i t, n, listed, a, w, hn, hok, h => by
    obtain ⟨n, rfl⟩ : ∃ m, n = m + 1 := ⟨n - 1, by simp only [Ord.deep] at hn; omega⟩
    simp only [ordOk, Bool.and_eq_true] at hok
    obtain ⟨⟨hr, hf⟩, hok⟩ := hok
    obtain ⟨o, v, ho, hw, hv, h⟩ := h
    exact wpAnyH_take ho hs hf hr (fun c a w => hQ c a _ _ w) (.inl ⟨hw, fun w _ => hv w⟩) trivial (wpAnyH_of_ord hs hQ t n _ _ _ (by simp only [Ord.deep] at hn; omega) hok h)
  | .one i t, n, listed, a, w, hn, hok, h => by
    obtain ⟨n, rfl⟩ : ∃ m, n = m + 1 := ⟨n - 1, by simp only [Ord.deep] at hn; omega⟩
    simp only [ordOk, Bool.and_eq_true, beq_iff_eq] at hok
    obtain ⟨hr, hok⟩ := hok
    obtain ⟨o, ho, hw, h⟩ := h
    refine wpAnyH_all hr (by simp) fun k hk => ?_
    obtain rfl : k = i := by simpa using hk
    unfold Go.wpOp
    simp only [ho]
    rw [if_pos hw]
    exact .inl (Oper.wp_mono (fun a' w' h' => ⟨trivial, wpAnyH_of_ord hs hQ t n _ _ _ (by simp only [Ord.deep] at hn; omega) hok h'⟩) h)
  | .two i j t u, n, listed, a, w, hn, hok, h => by
    obtain ⟨n, rfl⟩ : ∃ m, n = m + 1 := ⟨n - 1, by simp only [Ord.deep] at hn; omega⟩
    simp only [ordOk, Bool.and_eq_true, beq_iff_eq] at hok
    obtain ⟨hr, hok1, hok2⟩ := hok
    obtain ⟨⟨o, ho, hw, h1⟩, ⟨o', ho', hw', h2⟩⟩ := h
    refine wpAnyH_all hr (by simp) fun k hk => ?_
    have hk' : k = i ∨ k = j := by simpa using hk
    rcases hk' with rfl | rfl
    · unfold Go.wpOp
      simp only [ho]
      rw [if_pos hw]
      exact .inl (Oper.wp_mono (fun a' w' h' => ⟨trivial, wpAnyH_of_ord hs hQ t n _ _ _ (by simp only [Ord.deep] at hn; omega) hok1 h'⟩) h1)
    · unfold Go.wpOp
      simp only [ho']
      rw [if_pos hw']
      exact .inl (Oper.wp_mono (fun a' w' h' => ⟨trivial, wpAnyH_of_ord hs hQ u n _ _ _ (by simp only [Ord.deep] at hn; omega) hok2 h'⟩) h2)

theorem wp_region_ord {id : Nat} {a : Act} {l : List Oper} {w : World} (t : Ord) (hm : P.follows .mixedOrders = true) (hs : Region.noSelect l.toArray = true) (hn : t.deep ≤ l.length)
    (hok : ordOk l.toArray t (Array.replicate l.length false) = true) (hQ : ∀ (c : List PanicEntry) (a : Act) (d : Option Tmp) (v : Value) (w : World), Q (.panic c) (a.put d v) w → Q (.panic c) a w)
    (h : wpOrd P l.toArray Q t a w.drew) : (Code.region id l.toArray true).wp P Q a w := by
  refine wp_region_held (S := fun _ => True) hm ?_
  have h1 := wpAnyH_of_ord hs hQ t l.length (Array.replicate l.length false) a _ hn hok h
  simpa using h1
theorem wpOrd_done {a : Act} {w : World} (h : Q .normal a w) : wpOrd P ops Q .done a w := h
theorem wpOrd_take {i : Nat} {t : Ord} {o : Oper} {a : Act} {w : World} (ho : ops[i]? = some o) (hw : Region.wanted o (yielded ops a.tmps) = true)
    (h : ∀ K : Act → Prop, (∀ a', wpOrd P ops Q t a' w → K a') → ∃ v, (∀ w, (execOp a.eval o).run P w = .ok (.value v) w) ∧ K (a.put o.dst v)) : wpOrd P ops Q (.take i t) a w := by
  obtain ⟨v, h1, h2⟩ := h _ (fun _ h => h)
  exact ⟨o, v, ho, hw, h1, h2⟩
theorem wpOrd_one {i : Nat} {t : Ord} {o : Oper} {a : Act} {w : World} (ho : ops[i]? = some o) (hw : Region.wanted o (yielded ops a.tmps) = true)
    (h : ∀ K : Act → World → Prop, (∀ a' w', wpOrd P ops Q t a' w' → K a' w') → o.wp P a w K Q) : wpOrd P ops Q (.one i t) a w := ⟨o, ho, hw, h _ (fun _ _ h => h)⟩
theorem wpOrd_oneIf {i : Nat} {t : Ord} {o : Oper} {a : Act} {w : World} (ho : ops[i]? = some o) (hw : Region.wanted o (yielded ops a.tmps) = true)
    (h : ∀ K : Act → World → Prop, (∀ a' w', wpOrd P ops Q t a' w' → K a' w') → if Region.wanted o (yielded ops a.tmps) = true then o.wp P a w K Q else K (a.put o.dst undef) w) : wpOrd P ops Q (.one i t) a w := ⟨o, ho, hw, by
  have := h _ (fun _ _ h => h)
  rwa [if_pos hw] at this⟩
theorem wpOrd_two {i j : Nat} {t u : Ord} {a : Act} {w : World} (h1 : wpOrd P ops Q (.one i t) a w) (h2 : wpOrd P ops Q (.one j u) a w) : wpOrd P ops Q (.two i j t u) a w := ⟨h1, h2⟩
end

/-- A row stands while cells that are older than it turn. -/
theorem R_swap {α : Type} {d : Kd α} {e : Nat} {K1 K2 : World} {j : Junk} {base : Nat} {v : Value} {xs : List α} (h : d.R e (wext K1 j) base (fun k => base ≤ k) v xs) (hs : K1.heap.size = base) (hs2 : K2.heap.size = base) : d.R e (wext K2 j) base (fun k => base ≤ k) v xs := by
  refine Kd.R_step h fun k hk _ => ?_
  unfold wext
  simp only
  rw [Array.getElem?_append_right (by omega), Array.getElem?_append_right (by omega), hs, hs2]

/-- The questions that lie in a slice. -/
def LooksL (w : World) (A : Option Addr) (q : List (Int × Int)) : Prop := ∀ i, i < q.length → ∃ (b o : Nat), A = some ⟨b, o, none⟩ ∧ w.cell? ⟨b, o + i * 2, none⟩ = some (.int .i64 (q.getD i (0, 0)).1) ∧ w.cell? ⟨b, o + i * 2 + 1, none⟩ = some (.int .i64 (q.getD i (0, 0)).2)
theorem looksL_of (w : World) (A : Option Addr) (n : Nat) (h : LooksIn w A n) : ∃ q : List (Int × Int), q.length = n ∧ LooksL w A q := by
  induction n with
  | zero => exact ⟨[], rfl, fun i hi => by simp at hi⟩
  | succ n ih =>
    obtain ⟨q, hq, hL⟩ := ih (fun i hi => h i (by omega))
    obtain ⟨b, o, f0, f1, e, h0, h1⟩ := h n (by omega)
    refine ⟨q ++ [(f0, f1)], by simp [hq], fun i hi => ?_⟩
    rw [List.length_append] at hi
    simp only [List.length_cons, List.length_nil] at hi
    by_cases hin : i < q.length
    · obtain ⟨b', o', e', h0', h1'⟩ := hL i hin
      have : (q ++ [(f0, f1)]).getD i (0, 0) = q.getD i (0, 0) := by
        rw [List.getD_eq_getElem?_getD, List.getD_eq_getElem?_getD, List.getElem?_append_left hin]
      rw [this]
      exact ⟨b', o', e', h0', h1'⟩
    · obtain rfl : i = n := by omega
      have : (q ++ [(f0, f1)]).getD i (0, 0) = (f0, f1) := by
        rw [List.getD_eq_getElem?_getD, List.getElem?_append_right (by omega), ← hq]
        simp
      rw [this]
      exact ⟨b, o, e, h0, h1⟩
theorem LooksL.in {w : World} {A : Option Addr} {q : List (Int × Int)} (h : LooksL w A q) : LooksIn w A q.length := fun i hi => by
  obtain ⟨b, o, e, h0, h1⟩ := h i hi
  exact ⟨b, o, _, _, e, h0, h1⟩
/-- What questions tell, one behind the other: numbers, texts, and what is left, or the error that ends the looking. -/
def runQ : List (Int × Int) → ByteArray → List Int → List ByteArray → List Int × List ByteArray × (ByteArray ⊕ Int)
  | [], s, x, y => (x, y, .inl s)
  | p :: l, s, x, y => match ask s (bits .and .i64 p.1 7) p.2 with
    | .error c => (x, y, .inr c)
    | .ok r => runQ l r.2.2 (x ++ r.1) (y ++ r.2.1)
theorem runQ_drop (q : List (Int × Int)) (i : Nat) (hi : i < q.length) (s : ByteArray) (x : List Int) (y : List ByteArray) :
    runQ (q.drop i) s x y = match ask s (bits .and .i64 (q.getD i (0, 0)).1 7) (q.getD i (0, 0)).2 with
    | .error c => (x, y, .inr c)
    | .ok r => runQ (q.drop (i + 1)) r.2.2 (x ++ r.1) (y ++ r.2.1) := by
  rw [List.drop_eq_getElem_cons hi, List.getD_eq_getElem?_getD, List.getElem?_eq_getElem hi]
  rfl
end Go.Proofs.Ytdjmpedfeahajaa

set_option linter.unusedSimpArgs false
set_option linter.unusedVariables false
namespace Go.Proofs.Ytdjmpedfeahajaa
open Go.RowKit Go.Proofs.YtdjmpedfeahajaaW.PrintWords Go.Proofs.YtdjmpedfeahajaaW.PrintLast Go.Proofs.YtdjmpedfeahajaaW.PrintMore

theorem wext_same5 (W : World) : W = wext W ⟨[], W.drawn⟩ := by simp [wext]
theorem intOf_lit5 (k : IntKind) (x : Int) : intOf (.int k x) = x := rfl
theorem meas5 (i m : Nat) (h : (i : Int) < (m : Int)) : ((m : Int) - ((i + 1 : Nat) : Int)).toNat < ((m : Int) - (i : Int)).toNat := by omega
theorem kw_size (W : World) (j1 : Junk) (vn vs vk : Value) (bk : Bool) (s : ByteArray) : ((((wext ((((W.alloc (.cells #[vn] 62)).alloc (.cells #[vs] 63)).alloc (.cells #[.bool bk] 4)).alloc (.cells #[vk] 53)) j1).alloc (.cells #[.int .i64 0] 26)).alloc (.cells #[.string s, .bool true] 69)).alloc (.cells #[.pointer (some ⟨W.heap.size + 1 + 1 + 1 + 1 + j1.l.length + 1, 0, none⟩)] 53)).heap.size = (W.heap.size + 1 + 1 + 1 + 1 + j1.l.length + 1 + 1 + 1) := by simp
theorem kw_set (W : World) (j1 j : Junk) (vn vs : Value) (s t : ByteArray) (o1 o2 : Obj) : eyeSet (((wext ((((wext ((((W.alloc (.cells #[vn] 62)).alloc (.cells #[vs] 63)).alloc (.cells #[.bool false] 4)).alloc (.cells #[(eyeP (W.heap.size + 1 + 1 + 1 + 1 + j1.l.length + 1))] 53)) j1).alloc (.cells #[.int .i64 0] 26)).alloc (.cells #[.string s, .bool true] 69)).alloc (.cells #[.pointer (some ⟨W.heap.size + 1 + 1 + 1 + 1 + j1.l.length + 1, 0, none⟩)] 53)) j).alloc o1).alloc o2) (W.heap.size + 1 + 1 + 1 + 1 + j1.l.length + 1) t = ((wext ((((wext ((((W.alloc (.cells #[vn] 62)).alloc (.cells #[vs] 63)).alloc (.cells #[.bool false] 4)).alloc (.cells #[(eyeP (W.heap.size + 1 + 1 + 1 + 1 + j1.l.length + 1))] 53)) j1).alloc (.cells #[.int .i64 0] 26)).alloc (.cells #[.string t, .bool true] 69)).alloc (.cells #[.pointer (some ⟨W.heap.size + 1 + 1 + 1 + 1 + j1.l.length + 1, 0, none⟩)] 53)) j).alloc o1).alloc o2 := by
  simp [go_sem]
set_option maxHeartbeats 8000000 in
set_option maxRecDepth 100000 in
theorem look69 (W : World) (pl : Nat) (A : Option Addr) (c : Nat) (q : List (Int × Int)) (s0 : ByteArray) (j1 : Junk) (hL : LooksL W A q) (hq : q.length ≤ 100) (cl : W.cell? ⟨pl, 0, none⟩ = some (.slice A q.length c)) :
    Calls Try.prog 69 #[(eyeP (W.heap.size + 1 + 1 + 1 + 1 + j1.l.length + 1)), .pointer (some ⟨W.heap.size + 1 + 1 + 1, 0, none⟩), .pointer (some ⟨pl, 0, none⟩), .pointer (some ⟨W.heap.size, 0, none⟩), .pointer (some ⟨W.heap.size + 1, 0, none⟩), .pointer (some ⟨W.heap.size + 1 + 1, 0, none⟩)] ((((wext ((((W.alloc (.cells #[.slice none 0 0] 62)).alloc (.cells #[.slice none 0 0] 63)).alloc (.cells #[.bool false] 4)).alloc (.cells #[.pointer none] 53)) j1).alloc (.cells #[.int .i64 0] 26)).alloc (.cells #[.string s0, .bool true] 69)).alloc (.cells #[.pointer (some ⟨W.heap.size + 1 + 1 + 1 + 1 + j1.l.length + 1, 0, none⟩)] 53)) (fun e w' => ∃ (vn vs : Value) (x : List Int) (y : List ByteArray) (s : ByteArray) (bk : Bool) (j : Junk), w' = wext ((((wext ((((W.alloc (.cells #[vn] 62)).alloc (.cells #[vs] 63)).alloc (.cells #[.bool bk] 4)).alloc (.cells #[(eyeP (W.heap.size + 1 + 1 + 1 + 1 + j1.l.length + 1))] 53)) j1).alloc (.cells #[.int .i64 0] 26)).alloc (.cells #[.string s, .bool true] 69)).alloc (.cells #[.pointer (some ⟨W.heap.size + 1 + 1 + 1 + 1 + j1.l.length + 1, 0, none⟩)] 53)) j ∧ Kd.R (Kd.int .i64) 3 w' (W.heap.size + 1 + 1 + 1 + 1 + j1.l.length + 1 + 1 + 1) (fun k => (W.heap.size + 1 + 1 + 1 + 1 + j1.l.length + 1 + 1 + 1) ≤ k) vn x ∧ Kd.R Kd.string 9 w' (W.heap.size + 1 + 1 + 1 + 1 + j1.l.length + 1 + 1 + 1) (fun k => (W.heap.size + 1 + 1 + 1 + 1 + j1.l.length + 1 + 1 + 1) ≤ k) vs y ∧ x.length ≤ 100 ∧ y.length ≤ 100 ∧ ((e = .returned (.tuple #[]) ∧ bk = true ∧ runQ q s0 [] [] = (x, y, .inl s)) ∨ (∃ cc, e = .panicked [fault cc] ∧ bk = false ∧ runQ q s0 [] [] = (x, y, .inr cc)))) := by
  have hlp := leB_of_cell cl
  have HL := Lib.hid hL
  obtain ⟨m, hm⟩ : ∃ m, q.length = m := ⟨_, rfl⟩
  rw [hm] at cl hq
  have HM := Lib.hid hm
  clear hL hm
  go_enter Try.func69, Try.ntmps69
  go_wp2
  go_loopw [14] (fun v14 wr => ∃ (i : Nat) (x : List Int) (y : List ByteArray) (s : ByteArray) (vn vs : Value) (j : Junk), i ≤ m ∧ v14 = .int .i64 (i : Int) ∧ wr = wext ((((wext ((((W.alloc (.cells #[vn] 62)).alloc (.cells #[vs] 63)).alloc (.cells #[.bool false] 4)).alloc (.cells #[(eyeP (W.heap.size + 1 + 1 + 1 + 1 + j1.l.length + 1))] 53)) j1).alloc (.cells #[.int .i64 0] 26)).alloc (.cells #[.string s, .bool true] 69)).alloc (.cells #[.pointer (some ⟨W.heap.size + 1 + 1 + 1 + 1 + j1.l.length + 1, 0, none⟩)] 53)) j ∧ Hid (Kd.R (Kd.int .i64) 3 wr (W.heap.size + 1 + 1 + 1 + 1 + j1.l.length + 1 + 1 + 1) (fun k => (W.heap.size + 1 + 1 + 1 + 1 + j1.l.length + 1 + 1 + 1) ≤ k) vn x) ∧ Hid (Kd.R Kd.string 9 wr (W.heap.size + 1 + 1 + 1 + 1 + j1.l.length + 1 + 1 + 1) (fun k => (W.heap.size + 1 + 1 + 1 + 1 + j1.l.length + 1 + 1 + 1) ≤ k) vs y) ∧ Hid (runQ (q.drop i) s x y = runQ q s0 [] []) ∧ Hid (x.length ≤ i) ∧ Hid (y.length ≤ i)) (fun i _ => ((m : Int) - intOf i).toNat)
  case atStart => exact ⟨0, [], [], s0, .slice none 0 0, .slice none 0 0, ⟨[], _⟩, Nat.zero_le _, rfl, wext_same5 _, Kd.R_nil _ _ _ _ _, Kd.R_nil _ _ _ _ _, Lib.hid rfl, Nat.le_refl _, Nat.le_refl _⟩
  case round =>
    obtain ⟨i, x, y, s, vn, vs, j, hi, rfl, rfl, HX, HY, HR, HLX, HLY⟩ := hrel
    by_cases h0 : i = m
    · subst h0
      go_wp2
      go_end0
      exact ⟨vn, vs, x, y, s, true, j, rfl, (R_swap (K2 := _) HX.out (kw_size _ _ _ _ _ _ _) (kw_size _ _ _ _ _ _ _)), (R_swap (K2 := _) HY.out (kw_size _ _ _ _ _ _ _) (kw_size _ _ _ _ _ _ _)), Nat.le_trans HLX.out hq, Nat.le_trans HLY.out hq, Or.inl ⟨rfl, rfl, by rw [← HR.out, List.drop_of_length_le (by rw [HM.out]; exact Nat.le_refl _)]; rfl⟩⟩
    · obtain ⟨b', o', eA, hc0, hc1⟩ := HL.out i (by have := HM.out; omega)
      subst eA
      have hrun := runQ_drop q i (by have := HM.out; omega) s x y
      generalize (q.getD i (0, 0)).1 = op at *
      generalize (q.getD i (0, 0)).2 = nn at *
      have hlb := leB_of_cell hc0
      have hlt : (i : Int) < (m : Int) := by omega
      have hge : (0 : Int) ≤ (i : Int) := by omega
      have hnl : ¬ (i : Int) < 0 := by omega
      have hwr : wrap64 ((i : Int) + 1) = ((i + 1 : Nat) : Int) := by rw [wrap64_eq]; omega
      cases ha : ask s (bits .and .i64 op 7) nn with
      | error cc =>
        rw [ha] at hrun
        have hask := Lib.hid ha
        have HR2 := Lib.hid (HR.out.symm.trans hrun)
        clear ha hrun
        go_wp2_with (go_at_call 63; (refine (ask_err _ _ s op nn cc _ (by go_cell) (by go_cell) (by simp [go_sem]) (by go_cell) (by go_cell) (by omega) hask.out).mono ?_); rintro e1 w1 ⟨rfl, s', j2, hw⟩; rw [kw_set] at hw; subst hw)
        obtain ⟨j3, hj3⟩ := w_grown (w := ((((wext ((((W.alloc (.cells #[vn] 62)).alloc (.cells #[vs] 63)).alloc (.cells #[.bool false] 4)).alloc (.cells #[(eyeP (W.heap.size + 1 + 1 + 1 + 1 + j1.l.length + 1))] 53)) j1).alloc (.cells #[.int .i64 0] 26)).alloc (.cells #[.string s', .bool true] 69)).alloc (.cells #[.pointer (some ⟨W.heap.size + 1 + 1 + 1 + 1 + j1.l.length + 1, 0, none⟩)] 53))) (w' := wext (((wext ((((wext ((((W.alloc (.cells #[vn] 62)).alloc (.cells #[vs] 63)).alloc (.cells #[.bool false] 4)).alloc (.cells #[(eyeP (W.heap.size + 1 + 1 + 1 + 1 + j1.l.length + 1))] 53)) j1).alloc (.cells #[.int .i64 0] 26)).alloc (.cells #[.string s', .bool true] 69)).alloc (.cells #[.pointer (some ⟨W.heap.size + 1 + 1 + 1 + 1 + j1.l.length + 1, 0, none⟩)] 53)) j).alloc (.cells #[.int .i64 op, .int .i64 nn] 84)).alloc (.cells #[.int .i64 op, .int .i64 nn] 84)) j2) (by (repeat' (first | (with_reducible exact Below.refl _ _) | (with_reducible assumption) | (with_reducible exact below_app _ _ _ _) | (with_reducible refine below_pre ?_; (simp only [List.append_assoc, List.prefix_append, List.prefix_refl, List.prefix_append_right_inj])) | (with_reducible refine Below.alloc ?_ ?_ _) | (with_reducible refine below_ext ?_ ?_ _) | (with_reducible refine Below.drew ?_) | (with_reducible refine below_drewN ?_ _) | (with_reducible refine Below.setCell ?_ ?_ _) | go_size | (simp only [w_size_ext, List.length_append, World.alloc_size]; omega) | (simp; done) | (simp; omega))))
        exact ⟨rfl, vn, vs, x, y, s', false, j3, hj3, Kd.R_below (R_swap (K2 := ((((wext ((((W.alloc (.cells #[vn] 62)).alloc (.cells #[vs] 63)).alloc (.cells #[.bool false] 4)).alloc (.cells #[(eyeP (W.heap.size + 1 + 1 + 1 + 1 + j1.l.length + 1))] 53)) j1).alloc (.cells #[.int .i64 0] 26)).alloc (.cells #[.string s', .bool true] 69)).alloc (.cells #[.pointer (some ⟨W.heap.size + 1 + 1 + 1 + 1 + j1.l.length + 1, 0, none⟩)] 53))) HX.out (kw_size _ _ _ _ _ _ _) (kw_size _ _ _ _ _ _ _)) (by (repeat' (first | (with_reducible exact Below.refl _ _) | (with_reducible assumption) | (with_reducible exact below_app _ _ _ _) | (with_reducible refine below_pre ?_; (simp only [List.append_assoc, List.prefix_append, List.prefix_refl, List.prefix_append_right_inj])) | (with_reducible refine Below.alloc ?_ ?_ _) | (with_reducible refine below_ext ?_ ?_ _) | (with_reducible refine Below.drew ?_) | (with_reducible refine below_drewN ?_ _) | (with_reducible refine Below.setCell ?_ ?_ _) | go_size | (simp only [w_size_ext, List.length_append, World.alloc_size]; omega) | (simp; done) | (simp; omega)))), Kd.R_below (R_swap (K2 := ((((wext ((((W.alloc (.cells #[vn] 62)).alloc (.cells #[vs] 63)).alloc (.cells #[.bool false] 4)).alloc (.cells #[(eyeP (W.heap.size + 1 + 1 + 1 + 1 + j1.l.length + 1))] 53)) j1).alloc (.cells #[.int .i64 0] 26)).alloc (.cells #[.string s', .bool true] 69)).alloc (.cells #[.pointer (some ⟨W.heap.size + 1 + 1 + 1 + 1 + j1.l.length + 1, 0, none⟩)] 53))) HY.out (kw_size _ _ _ _ _ _ _) (kw_size _ _ _ _ _ _ _)) (by (repeat' (first | (with_reducible exact Below.refl _ _) | (with_reducible assumption) | (with_reducible exact below_app _ _ _ _) | (with_reducible refine below_pre ?_; (simp only [List.append_assoc, List.prefix_append, List.prefix_refl, List.prefix_append_right_inj])) | (with_reducible refine Below.alloc ?_ ?_ _) | (with_reducible refine below_ext ?_ ?_ _) | (with_reducible refine Below.drew ?_) | (with_reducible refine below_drewN ?_ _) | (with_reducible refine Below.setCell ?_ ?_ _) | go_size | (simp only [w_size_ext, List.length_append, World.alloc_size]; omega) | (simp; done) | (simp; omega)))), Nat.le_trans HLX.out (by omega), Nat.le_trans HLY.out (by omega), Or.inr ⟨cc, rfl, rfl, HR2.out⟩⟩
      | ok r =>
        obtain ⟨x1, y1, t⟩ := r
        rw [ha] at hrun
        have hask := Lib.hid ha
        have HR2 := Lib.hid (hrun.symm.trans HR.out)
        have HL1 := Lib.hid (ask_len ha)
        clear ha hrun
        go_wp2_with (go_at_call 63; (refine (ask_ok _ _ s op nn x1 y1 t _ (by go_cell) (by go_cell) (by simp [go_sem]) (by go_cell) (by go_cell) (by omega) hask.out).mono ?_); rintro e1 w1 ⟨vx, vy, B1, B2, rfl, j2, hw, hx1, hy1⟩; rw [kw_set] at hw; subst hw; obtain ⟨A1, d1, rfl, -, -⟩ := Kd.R_reads hx1; obtain ⟨A2, d2, rfl, -, -⟩ := Kd.R_reads hy1; have HX1 := Lib.hid hx1; have HY1 := Lib.hid hy1; clear hx1 hy1)
        refine wp_region_ord (.take 1 (.take 4 (.two 0 3 (.two 2 3 (.one 3 (.one 5 (.one 6 (.one 7 .done)))) (.one 2 (.one 5 (.one 6 (.one 7 .done))))) (.one 0 (.one 2 (.one 5 (.one 6 (.one 7 .done)))))))) (by kernel_rfl) (by kernel_rfl) (by decide) (by kernel_rfl) (by intro _ _ d _ _ h; cases d <;> exact h) ?_
        rw [w_ext_drew]
        refine wpOrd_take rfl rfl ?_; intro K hK; go_simp; refine hK _ ?_; clear hK K
        refine wpOrd_take rfl rfl ?_; intro K hK; go_simp; refine hK _ ?_; clear hK K
        refine wpOrd_two ?_ ?_
        · refine wpOrd_one rfl rfl ?_; intro K hK; go_wp2
          refine wpOrd_two ?_ ?_
          · refine wpOrd_oneIf rfl rfl ?_; intro K hK; refine Kd.R_append_rows_step (Kd.int .i64) (w0 := ((((wext ((((W.alloc (.cells #[vn] 62)).alloc (.cells #[vs] 63)).alloc (.cells #[.bool false] 4)).alloc (.cells #[(eyeP (W.heap.size + 1 + 1 + 1 + 1 + j1.l.length + 1))] 53)) j1).alloc (.cells #[.int .i64 0] 26)).alloc (.cells #[.string t, .bool true] 69)).alloc (.cells #[.pointer (some ⟨W.heap.size + 1 + 1 + 1 + 1 + j1.l.length + 1, 0, none⟩)] 53))) (W.heap.size + 1 + 1 + 1 + 1 + j1.l.length + 1 + 1 + 1) rfl (.tmp 25) (.tmp 26) 62 3 (.int .i64 0) 8 rfl Try.underlying62 info3 rfl (by decide) (by omega) vn x x1 A1 _ _ (fun k => (W.heap.size + 1 + 1 + 1 + 1 + j1.l.length + 1 + 1 + 1) ≤ k) (fun _ => False) rfl rfl (Kd.R_below (R_swap (K2 := ((((wext ((((W.alloc (.cells #[vn] 62)).alloc (.cells #[vs] 63)).alloc (.cells #[.bool false] 4)).alloc (.cells #[(eyeP (W.heap.size + 1 + 1 + 1 + 1 + j1.l.length + 1))] 53)) j1).alloc (.cells #[.int .i64 0] 26)).alloc (.cells #[.string t, .bool true] 69)).alloc (.cells #[.pointer (some ⟨W.heap.size + 1 + 1 + 1 + 1 + j1.l.length + 1, 0, none⟩)] 53))) HX.out (kw_size _ _ _ _ _ _ _) (kw_size _ _ _ _ _ _ _)) (by (repeat' (first | (with_reducible exact Below.refl _ _) | (with_reducible assumption) | (with_reducible exact below_app _ _ _ _) | (with_reducible refine below_pre ?_; (simp only [List.append_assoc, List.prefix_append, List.prefix_refl, List.prefix_append_right_inj])) | (with_reducible refine Below.alloc ?_ ?_ _) | (with_reducible refine below_ext ?_ ?_ _) | (with_reducible refine Below.drew ?_) | (with_reducible refine below_drewN ?_ _) | (with_reducible refine Below.setCell ?_ ?_ _) | go_size | (simp only [w_size_ext, List.length_append, World.alloc_size]; omega) | (simp; done) | (simp; omega))))) (Kd.R_reads' (Kd.R_below HX1.out (by (repeat' (first | (with_reducible exact Below.refl _ _) | (with_reducible assumption) | (with_reducible exact below_app _ _ _ _) | (with_reducible refine below_pre ?_; (simp only [List.append_assoc, List.prefix_append, List.prefix_refl, List.prefix_append_right_inj])) | (with_reducible refine Below.alloc ?_ ?_ _) | (with_reducible refine below_ext ?_ ?_ _) | (with_reducible refine Below.drew ?_) | (with_reducible refine below_drewN ?_ _) | (with_reducible refine Below.setCell ?_ ?_ _) | go_size | (simp only [w_size_ext, List.length_append, World.alloc_size]; omega) | (simp; done) | (simp; omega)))))).2.2 (fun _ _ h => h) (fun _ h => h.elim) (fun k hk => Nat.le_trans (by first | (simp; done) | (simp; omega)) hk) (by (repeat' (first | (with_reducible exact Below.refl _ _) | (with_reducible assumption) | (with_reducible exact below_app _ _ _ _) | (with_reducible refine below_pre ?_; (simp only [List.append_assoc, List.prefix_append, List.prefix_refl, List.prefix_append_right_inj])) | (with_reducible refine Below.alloc ?_ ?_ _) | (with_reducible refine below_ext ?_ ?_ _) | (with_reducible refine Below.drew ?_) | (with_reducible refine below_drewN ?_ _) | (with_reducible refine Below.setCell ?_ ?_ _) | go_size | (simp only [w_size_ext, List.length_append, World.alloc_size]; omega) | (simp; done) | (simp; omega)))) (by first | (simp; done) | (simp; omega)) (by have := HLX.out; have := HL1.out; omega) ?_; intro v1 w1 hown hb hg hat; refine hK _ _ ?_; clear hK K hat; obtain ⟨j5, rfl⟩ := w_ext_of_below (w := ((((wext ((((W.alloc (.cells #[vn] 62)).alloc (.cells #[vs] 63)).alloc (.cells #[.bool false] 4)).alloc (.cells #[(eyeP (W.heap.size + 1 + 1 + 1 + 1 + j1.l.length + 1))] 53)) j1).alloc (.cells #[.int .i64 0] 26)).alloc (.cells #[.string t, .bool true] 69)).alloc (.cells #[.pointer (some ⟨W.heap.size + 1 + 1 + 1 + 1 + j1.l.length + 1, 0, none⟩)] 53))) (by rw [kw_size]; exact hb); obtain ⟨A3, c3, rfl, -, -⟩ := Kd.R_reads hown; have HN := Lib.hid hown; have HSy := Lib.hid (Kd.R_over' (Kd.R_below (R_swap (K2 := ((((wext ((((W.alloc (.cells #[vn] 62)).alloc (.cells #[vs] 63)).alloc (.cells #[.bool false] 4)).alloc (.cells #[(eyeP (W.heap.size + 1 + 1 + 1 + 1 + j1.l.length + 1))] 53)) j1).alloc (.cells #[.int .i64 0] 26)).alloc (.cells #[.string t, .bool true] 69)).alloc (.cells #[.pointer (some ⟨W.heap.size + 1 + 1 + 1 + 1 + j1.l.length + 1, 0, none⟩)] 53))) HY.out (kw_size _ _ _ _ _ _ _) (kw_size _ _ _ _ _ _ _)) (by (repeat' (first | (with_reducible exact Below.refl _ _) | (with_reducible assumption) | (with_reducible exact below_app _ _ _ _) | (with_reducible refine below_pre ?_; (simp only [List.append_assoc, List.prefix_append, List.prefix_refl, List.prefix_append_right_inj])) | (with_reducible refine Below.alloc ?_ ?_ _) | (with_reducible refine below_ext ?_ ?_ _) | (with_reducible refine Below.drew ?_) | (with_reducible refine below_drewN ?_ _) | (with_reducible refine Below.setCell ?_ ?_ _) | go_size | (simp only [w_size_ext, List.length_append, World.alloc_size]; omega) | (simp; done) | (simp; omega))))) (Kd.R_typed (Kd.R_below (R_swap (K2 := ((((wext ((((W.alloc (.cells #[vn] 62)).alloc (.cells #[vs] 63)).alloc (.cells #[.bool false] 4)).alloc (.cells #[(eyeP (W.heap.size + 1 + 1 + 1 + 1 + j1.l.length + 1))] 53)) j1).alloc (.cells #[.int .i64 0] 26)).alloc (.cells #[.string t, .bool true] 69)).alloc (.cells #[.pointer (some ⟨W.heap.size + 1 + 1 + 1 + 1 + j1.l.length + 1, 0, none⟩)] 53))) HX.out (kw_size _ _ _ _ _ _ _) (kw_size _ _ _ _ _ _ _)) (by (repeat' (first | (with_reducible exact Below.refl _ _) | (with_reducible assumption) | (with_reducible exact below_app _ _ _ _) | (with_reducible refine below_pre ?_; (simp only [List.append_assoc, List.prefix_append, List.prefix_refl, List.prefix_append_right_inj])) | (with_reducible refine Below.alloc ?_ ?_ _) | (with_reducible refine below_ext ?_ ?_ _) | (with_reducible refine Below.drew ?_) | (with_reducible refine below_drewN ?_ _) | (with_reducible refine Below.setCell ?_ ?_ _) | go_size | (simp only [w_size_ext, List.length_append, World.alloc_size]; omega) | (simp; done) | (simp; omega)))))) (by decide) hg); have HY2 := Lib.hid (Kd.R_over' (Kd.R_below HY1.out (by (repeat' (first | (with_reducible exact Below.refl _ _) | (with_reducible assumption) | (with_reducible exact below_app _ _ _ _) | (with_reducible refine below_pre ?_; (simp only [List.append_assoc, List.prefix_append, List.prefix_refl, List.prefix_append_right_inj])) | (with_reducible refine Below.alloc ?_ ?_ _) | (with_reducible refine below_ext ?_ ?_ _) | (with_reducible refine Below.drew ?_) | (with_reducible refine below_drewN ?_ _) | (with_reducible refine Below.setCell ?_ ?_ _) | go_size | (simp only [w_size_ext, List.length_append, World.alloc_size]; omega) | (simp; done) | (simp; omega))))) (Kd.R_typed (Kd.R_below (R_swap (K2 := ((((wext ((((W.alloc (.cells #[vn] 62)).alloc (.cells #[vs] 63)).alloc (.cells #[.bool false] 4)).alloc (.cells #[(eyeP (W.heap.size + 1 + 1 + 1 + 1 + j1.l.length + 1))] 53)) j1).alloc (.cells #[.int .i64 0] 26)).alloc (.cells #[.string t, .bool true] 69)).alloc (.cells #[.pointer (some ⟨W.heap.size + 1 + 1 + 1 + 1 + j1.l.length + 1, 0, none⟩)] 53))) HX.out (kw_size _ _ _ _ _ _ _) (kw_size _ _ _ _ _ _ _)) (by (repeat' (first | (with_reducible exact Below.refl _ _) | (with_reducible assumption) | (with_reducible exact below_app _ _ _ _) | (with_reducible refine below_pre ?_; (simp only [List.append_assoc, List.prefix_append, List.prefix_refl, List.prefix_append_right_inj])) | (with_reducible refine Below.alloc ?_ ?_ _) | (with_reducible refine below_ext ?_ ?_ _) | (with_reducible refine Below.drew ?_) | (with_reducible refine below_drewN ?_ _) | (with_reducible refine Below.setCell ?_ ?_ _) | go_size | (simp only [w_size_ext, List.length_append, World.alloc_size]; omega) | (simp; done) | (simp; omega)))))) (by decide) hg); clear hown hb hg
            refine wpOrd_one rfl rfl ?_; intro K hK; go_wp2
            refine wpOrd_oneIf rfl rfl ?_; intro K hK; refine Kd.R_append_rows_step Kd.string (w0 := ((((wext ((((W.alloc (.cells #[vn] 62)).alloc (.cells #[vs] 63)).alloc (.cells #[.bool false] 4)).alloc (.cells #[(eyeP (W.heap.size + 1 + 1 + 1 + 1 + j1.l.length + 1))] 53)) j1).alloc (.cells #[.int .i64 0] 26)).alloc (.cells #[.string t, .bool true] 69)).alloc (.cells #[.pointer (some ⟨W.heap.size + 1 + 1 + 1 + 1 + j1.l.length + 1, 0, none⟩)] 53))) (W.heap.size + 1 + 1 + 1 + 1 + j1.l.length + 1 + 1 + 1) rfl (.tmp 28) (.tmp 29) 63 9 (.string ⟨#[]⟩) 16 rfl Try.underlying63 info9 rfl (by decide) (by omega) vs y y1 A2 _ _ (fun k => (W.heap.size + 1 + 1 + 1 + 1 + j1.l.length + 1 + 1 + 1) ≤ k) (fun _ => False) rfl rfl HSy.out (Kd.R_reads' HY2.out).2.2 (fun _ _ h => h) (fun _ h => h.elim) (fun k hk => Nat.le_trans (by first | (simp; done) | (simp; omega)) hk) (by (repeat' (first | (with_reducible exact Below.refl _ _) | (with_reducible assumption) | (with_reducible exact below_app _ _ _ _) | (with_reducible refine below_pre ?_; (simp only [List.append_assoc, List.prefix_append, List.prefix_refl, List.prefix_append_right_inj])) | (with_reducible refine Below.alloc ?_ ?_ _) | (with_reducible refine below_ext ?_ ?_ _) | (with_reducible refine Below.drew ?_) | (with_reducible refine below_drewN ?_ _) | (with_reducible refine Below.setCell ?_ ?_ _) | go_size | (simp only [w_size_ext, List.length_append, World.alloc_size]; omega) | (simp; done) | (simp; omega)))) (by first | (simp; done) | (simp; omega)) (by have := HLY.out; have := HL1.out; omega) ?_; intro v2 w2 hown hb hg hat; refine hK _ _ ?_; clear hK K hat; obtain ⟨j6, rfl⟩ := w_ext_of_below (w := ((((wext ((((W.alloc (.cells #[vn] 62)).alloc (.cells #[vs] 63)).alloc (.cells #[.bool false] 4)).alloc (.cells #[(eyeP (W.heap.size + 1 + 1 + 1 + 1 + j1.l.length + 1))] 53)) j1).alloc (.cells #[.int .i64 0] 26)).alloc (.cells #[.string t, .bool true] 69)).alloc (.cells #[.pointer (some ⟨W.heap.size + 1 + 1 + 1 + 1 + j1.l.length + 1, 0, none⟩)] 53))) (by rw [kw_size]; exact hb); obtain ⟨A4, c4, rfl, -, -⟩ := Kd.R_reads hown; have HS := Lib.hid hown; have HN2 := Lib.hid (Kd.R_over' HN.out (Kd.R_typed HSy.out) (by decide) hg); clear hown hb hg
            refine wpOrd_one rfl rfl ?_; intro K hK; go_wp2
            refine wpOrd_one rfl rfl ?_; intro K hK; go_wp2
            refine wpOrd_done ?_; go_wp2
            go_roundw
            case rel => exact ⟨i + 1, x ++ x1, y ++ y1, t, .slice A3 (x ++ x1).length c3, .slice A4 (y ++ y1).length c4, j6, by omega, by first | rfl | rw [hwr], by rw [List.length_append, List.length_append], Lib.hid (R_swap (K2 := _) HN2.out (kw_size _ _ _ _ _ _ _) (kw_size _ _ _ _ _ _ _)), Lib.hid (R_swap (K2 := _) HS.out (kw_size _ _ _ _ _ _ _) (kw_size _ _ _ _ _ _ _)), Lib.hid (HR2.out), Lib.hid (by have := HLX.out; have := HL1.out; rw [List.length_append]; omega), Lib.hid (by have := HLY.out; have := HL1.out; rw [List.length_append]; omega)⟩
            case measure => first | (simp [intOf]; omega) | (rw [intOf_lit5, intOf_lit5, hwr]; exact meas5 _ _ hlt)

          · refine wpOrd_one rfl rfl ?_; intro K hK; go_wp2
            refine wpOrd_oneIf rfl rfl ?_; intro K hK; refine Kd.R_append_rows_step (Kd.int .i64) (w0 := ((((wext ((((W.alloc (.cells #[vn] 62)).alloc (.cells #[vs] 63)).alloc (.cells #[.bool false] 4)).alloc (.cells #[(eyeP (W.heap.size + 1 + 1 + 1 + 1 + j1.l.length + 1))] 53)) j1).alloc (.cells #[.int .i64 0] 26)).alloc (.cells #[.string t, .bool true] 69)).alloc (.cells #[.pointer (some ⟨W.heap.size + 1 + 1 + 1 + 1 + j1.l.length + 1, 0, none⟩)] 53))) (W.heap.size + 1 + 1 + 1 + 1 + j1.l.length + 1 + 1 + 1) rfl (.tmp 25) (.tmp 26) 62 3 (.int .i64 0) 8 rfl Try.underlying62 info3 rfl (by decide) (by omega) vn x x1 A1 _ _ (fun k => (W.heap.size + 1 + 1 + 1 + 1 + j1.l.length + 1 + 1 + 1) ≤ k) (fun _ => False) rfl rfl (Kd.R_below (R_swap (K2 := ((((wext ((((W.alloc (.cells #[vn] 62)).alloc (.cells #[vs] 63)).alloc (.cells #[.bool false] 4)).alloc (.cells #[(eyeP (W.heap.size + 1 + 1 + 1 + 1 + j1.l.length + 1))] 53)) j1).alloc (.cells #[.int .i64 0] 26)).alloc (.cells #[.string t, .bool true] 69)).alloc (.cells #[.pointer (some ⟨W.heap.size + 1 + 1 + 1 + 1 + j1.l.length + 1, 0, none⟩)] 53))) HX.out (kw_size _ _ _ _ _ _ _) (kw_size _ _ _ _ _ _ _)) (by (repeat' (first | (with_reducible exact Below.refl _ _) | (with_reducible assumption) | (with_reducible exact below_app _ _ _ _) | (with_reducible refine below_pre ?_; (simp only [List.append_assoc, List.prefix_append, List.prefix_refl, List.prefix_append_right_inj])) | (with_reducible refine Below.alloc ?_ ?_ _) | (with_reducible refine below_ext ?_ ?_ _) | (with_reducible refine Below.drew ?_) | (with_reducible refine below_drewN ?_ _) | (with_reducible refine Below.setCell ?_ ?_ _) | go_size | (simp only [w_size_ext, List.length_append, World.alloc_size]; omega) | (simp; done) | (simp; omega))))) (Kd.R_reads' (Kd.R_below HX1.out (by (repeat' (first | (with_reducible exact Below.refl _ _) | (with_reducible assumption) | (with_reducible exact below_app _ _ _ _) | (with_reducible refine below_pre ?_; (simp only [List.append_assoc, List.prefix_append, List.prefix_refl, List.prefix_append_right_inj])) | (with_reducible refine Below.alloc ?_ ?_ _) | (with_reducible refine below_ext ?_ ?_ _) | (with_reducible refine Below.drew ?_) | (with_reducible refine below_drewN ?_ _) | (with_reducible refine Below.setCell ?_ ?_ _) | go_size | (simp only [w_size_ext, List.length_append, World.alloc_size]; omega) | (simp; done) | (simp; omega)))))).2.2 (fun _ _ h => h) (fun _ h => h.elim) (fun k hk => Nat.le_trans (by first | (simp; done) | (simp; omega)) hk) (by (repeat' (first | (with_reducible exact Below.refl _ _) | (with_reducible assumption) | (with_reducible exact below_app _ _ _ _) | (with_reducible refine below_pre ?_; (simp only [List.append_assoc, List.prefix_append, List.prefix_refl, List.prefix_append_right_inj])) | (with_reducible refine Below.alloc ?_ ?_ _) | (with_reducible refine below_ext ?_ ?_ _) | (with_reducible refine Below.drew ?_) | (with_reducible refine below_drewN ?_ _) | (with_reducible refine Below.setCell ?_ ?_ _) | go_size | (simp only [w_size_ext, List.length_append, World.alloc_size]; omega) | (simp; done) | (simp; omega)))) (by first | (simp; done) | (simp; omega)) (by have := HLX.out; have := HL1.out; omega) ?_; intro v1 w1 hown hb hg hat; refine hK _ _ ?_; clear hK K hat; obtain ⟨j5, rfl⟩ := w_ext_of_below (w := ((((wext ((((W.alloc (.cells #[vn] 62)).alloc (.cells #[vs] 63)).alloc (.cells #[.bool false] 4)).alloc (.cells #[(eyeP (W.heap.size + 1 + 1 + 1 + 1 + j1.l.length + 1))] 53)) j1).alloc (.cells #[.int .i64 0] 26)).alloc (.cells #[.string t, .bool true] 69)).alloc (.cells #[.pointer (some ⟨W.heap.size + 1 + 1 + 1 + 1 + j1.l.length + 1, 0, none⟩)] 53))) (by rw [kw_size]; exact hb); obtain ⟨A3, c3, rfl, -, -⟩ := Kd.R_reads hown; have HN := Lib.hid hown; have HSy := Lib.hid (Kd.R_over' (Kd.R_below (R_swap (K2 := ((((wext ((((W.alloc (.cells #[vn] 62)).alloc (.cells #[vs] 63)).alloc (.cells #[.bool false] 4)).alloc (.cells #[(eyeP (W.heap.size + 1 + 1 + 1 + 1 + j1.l.length + 1))] 53)) j1).alloc (.cells #[.int .i64 0] 26)).alloc (.cells #[.string t, .bool true] 69)).alloc (.cells #[.pointer (some ⟨W.heap.size + 1 + 1 + 1 + 1 + j1.l.length + 1, 0, none⟩)] 53))) HY.out (kw_size _ _ _ _ _ _ _) (kw_size _ _ _ _ _ _ _)) (by (repeat' (first | (with_reducible exact Below.refl _ _) | (with_reducible assumption) | (with_reducible exact below_app _ _ _ _) | (with_reducible refine below_pre ?_; (simp only [List.append_assoc, List.prefix_append, List.prefix_refl, List.prefix_append_right_inj])) | (with_reducible refine Below.alloc ?_ ?_ _) | (with_reducible refine below_ext ?_ ?_ _) | (with_reducible refine Below.drew ?_) | (with_reducible refine below_drewN ?_ _) | (with_reducible refine Below.setCell ?_ ?_ _) | go_size | (simp only [w_size_ext, List.length_append, World.alloc_size]; omega) | (simp; done) | (simp; omega))))) (Kd.R_typed (Kd.R_below (R_swap (K2 := ((((wext ((((W.alloc (.cells #[vn] 62)).alloc (.cells #[vs] 63)).alloc (.cells #[.bool false] 4)).alloc (.cells #[(eyeP (W.heap.size + 1 + 1 + 1 + 1 + j1.l.length + 1))] 53)) j1).alloc (.cells #[.int .i64 0] 26)).alloc (.cells #[.string t, .bool true] 69)).alloc (.cells #[.pointer (some ⟨W.heap.size + 1 + 1 + 1 + 1 + j1.l.length + 1, 0, none⟩)] 53))) HX.out (kw_size _ _ _ _ _ _ _) (kw_size _ _ _ _ _ _ _)) (by (repeat' (first | (with_reducible exact Below.refl _ _) | (with_reducible assumption) | (with_reducible exact below_app _ _ _ _) | (with_reducible refine below_pre ?_; (simp only [List.append_assoc, List.prefix_append, List.prefix_refl, List.prefix_append_right_inj])) | (with_reducible refine Below.alloc ?_ ?_ _) | (with_reducible refine below_ext ?_ ?_ _) | (with_reducible refine Below.drew ?_) | (with_reducible refine below_drewN ?_ _) | (with_reducible refine Below.setCell ?_ ?_ _) | go_size | (simp only [w_size_ext, List.length_append, World.alloc_size]; omega) | (simp; done) | (simp; omega)))))) (by decide) hg); have HY2 := Lib.hid (Kd.R_over' (Kd.R_below HY1.out (by (repeat' (first | (with_reducible exact Below.refl _ _) | (with_reducible assumption) | (with_reducible exact below_app _ _ _ _) | (with_reducible refine below_pre ?_; (simp only [List.append_assoc, List.prefix_append, List.prefix_refl, List.prefix_append_right_inj])) | (with_reducible refine Below.alloc ?_ ?_ _) | (with_reducible refine below_ext ?_ ?_ _) | (with_reducible refine Below.drew ?_) | (with_reducible refine below_drewN ?_ _) | (with_reducible refine Below.setCell ?_ ?_ _) | go_size | (simp only [w_size_ext, List.length_append, World.alloc_size]; omega) | (simp; done) | (simp; omega))))) (Kd.R_typed (Kd.R_below (R_swap (K2 := ((((wext ((((W.alloc (.cells #[vn] 62)).alloc (.cells #[vs] 63)).alloc (.cells #[.bool false] 4)).alloc (.cells #[(eyeP (W.heap.size + 1 + 1 + 1 + 1 + j1.l.length + 1))] 53)) j1).alloc (.cells #[.int .i64 0] 26)).alloc (.cells #[.string t, .bool true] 69)).alloc (.cells #[.pointer (some ⟨W.heap.size + 1 + 1 + 1 + 1 + j1.l.length + 1, 0, none⟩)] 53))) HX.out (kw_size _ _ _ _ _ _ _) (kw_size _ _ _ _ _ _ _)) (by (repeat' (first | (with_reducible exact Below.refl _ _) | (with_reducible assumption) | (with_reducible exact below_app _ _ _ _) | (with_reducible refine below_pre ?_; (simp only [List.append_assoc, List.prefix_append, List.prefix_refl, List.prefix_append_right_inj])) | (with_reducible refine Below.alloc ?_ ?_ _) | (with_reducible refine below_ext ?_ ?_ _) | (with_reducible refine Below.drew ?_) | (with_reducible refine below_drewN ?_ _) | (with_reducible refine Below.setCell ?_ ?_ _) | go_size | (simp only [w_size_ext, List.length_append, World.alloc_size]; omega) | (simp; done) | (simp; omega)))))) (by decide) hg); clear hown hb hg
            refine wpOrd_oneIf rfl rfl ?_; intro K hK; refine Kd.R_append_rows_step Kd.string (w0 := ((((wext ((((W.alloc (.cells #[vn] 62)).alloc (.cells #[vs] 63)).alloc (.cells #[.bool false] 4)).alloc (.cells #[(eyeP (W.heap.size + 1 + 1 + 1 + 1 + j1.l.length + 1))] 53)) j1).alloc (.cells #[.int .i64 0] 26)).alloc (.cells #[.string t, .bool true] 69)).alloc (.cells #[.pointer (some ⟨W.heap.size + 1 + 1 + 1 + 1 + j1.l.length + 1, 0, none⟩)] 53))) (W.heap.size + 1 + 1 + 1 + 1 + j1.l.length + 1 + 1 + 1) rfl (.tmp 28) (.tmp 29) 63 9 (.string ⟨#[]⟩) 16 rfl Try.underlying63 info9 rfl (by decide) (by omega) vs y y1 A2 _ _ (fun k => (W.heap.size + 1 + 1 + 1 + 1 + j1.l.length + 1 + 1 + 1) ≤ k) (fun _ => False) rfl rfl HSy.out (Kd.R_reads' HY2.out).2.2 (fun _ _ h => h) (fun _ h => h.elim) (fun k hk => Nat.le_trans (by first | (simp; done) | (simp; omega)) hk) (by (repeat' (first | (with_reducible exact Below.refl _ _) | (with_reducible assumption) | (with_reducible exact below_app _ _ _ _) | (with_reducible refine below_pre ?_; (simp only [List.append_assoc, List.prefix_append, List.prefix_refl, List.prefix_append_right_inj])) | (with_reducible refine Below.alloc ?_ ?_ _) | (with_reducible refine below_ext ?_ ?_ _) | (with_reducible refine Below.drew ?_) | (with_reducible refine below_drewN ?_ _) | (with_reducible refine Below.setCell ?_ ?_ _) | go_size | (simp only [w_size_ext, List.length_append, World.alloc_size]; omega) | (simp; done) | (simp; omega)))) (by first | (simp; done) | (simp; omega)) (by have := HLY.out; have := HL1.out; omega) ?_; intro v2 w2 hown hb hg hat; refine hK _ _ ?_; clear hK K hat; obtain ⟨j6, rfl⟩ := w_ext_of_below (w := ((((wext ((((W.alloc (.cells #[vn] 62)).alloc (.cells #[vs] 63)).alloc (.cells #[.bool false] 4)).alloc (.cells #[(eyeP (W.heap.size + 1 + 1 + 1 + 1 + j1.l.length + 1))] 53)) j1).alloc (.cells #[.int .i64 0] 26)).alloc (.cells #[.string t, .bool true] 69)).alloc (.cells #[.pointer (some ⟨W.heap.size + 1 + 1 + 1 + 1 + j1.l.length + 1, 0, none⟩)] 53))) (by rw [kw_size]; exact hb); obtain ⟨A4, c4, rfl, -, -⟩ := Kd.R_reads hown; have HS := Lib.hid hown; have HN2 := Lib.hid (Kd.R_over' HN.out (Kd.R_typed HSy.out) (by decide) hg); clear hown hb hg
            refine wpOrd_one rfl rfl ?_; intro K hK; go_wp2
            refine wpOrd_one rfl rfl ?_; intro K hK; go_wp2
            refine wpOrd_done ?_; go_wp2
            go_roundw
            case rel => exact ⟨i + 1, x ++ x1, y ++ y1, t, .slice A3 (x ++ x1).length c3, .slice A4 (y ++ y1).length c4, j6, by omega, by first | rfl | rw [hwr], by rw [List.length_append, List.length_append], Lib.hid (R_swap (K2 := _) HN2.out (kw_size _ _ _ _ _ _ _) (kw_size _ _ _ _ _ _ _)), Lib.hid (R_swap (K2 := _) HS.out (kw_size _ _ _ _ _ _ _) (kw_size _ _ _ _ _ _ _)), Lib.hid (HR2.out), Lib.hid (by have := HLX.out; have := HL1.out; rw [List.length_append]; omega), Lib.hid (by have := HLY.out; have := HL1.out; rw [List.length_append]; omega)⟩
            case measure => first | (simp [intOf]; omega) | (rw [intOf_lit5, intOf_lit5, hwr]; exact meas5 _ _ hlt)

        · refine wpOrd_one rfl rfl ?_; intro K hK; go_wp2
          refine wpOrd_one rfl rfl ?_; intro K hK; go_wp2
          refine wpOrd_oneIf rfl rfl ?_; intro K hK; refine Kd.R_append_rows_step (Kd.int .i64) (w0 := ((((wext ((((W.alloc (.cells #[vn] 62)).alloc (.cells #[vs] 63)).alloc (.cells #[.bool false] 4)).alloc (.cells #[(eyeP (W.heap.size + 1 + 1 + 1 + 1 + j1.l.length + 1))] 53)) j1).alloc (.cells #[.int .i64 0] 26)).alloc (.cells #[.string t, .bool true] 69)).alloc (.cells #[.pointer (some ⟨W.heap.size + 1 + 1 + 1 + 1 + j1.l.length + 1, 0, none⟩)] 53))) (W.heap.size + 1 + 1 + 1 + 1 + j1.l.length + 1 + 1 + 1) rfl (.tmp 25) (.tmp 26) 62 3 (.int .i64 0) 8 rfl Try.underlying62 info3 rfl (by decide) (by omega) vn x x1 A1 _ _ (fun k => (W.heap.size + 1 + 1 + 1 + 1 + j1.l.length + 1 + 1 + 1) ≤ k) (fun _ => False) rfl rfl (Kd.R_below (R_swap (K2 := ((((wext ((((W.alloc (.cells #[vn] 62)).alloc (.cells #[vs] 63)).alloc (.cells #[.bool false] 4)).alloc (.cells #[(eyeP (W.heap.size + 1 + 1 + 1 + 1 + j1.l.length + 1))] 53)) j1).alloc (.cells #[.int .i64 0] 26)).alloc (.cells #[.string t, .bool true] 69)).alloc (.cells #[.pointer (some ⟨W.heap.size + 1 + 1 + 1 + 1 + j1.l.length + 1, 0, none⟩)] 53))) HX.out (kw_size _ _ _ _ _ _ _) (kw_size _ _ _ _ _ _ _)) (by (repeat' (first | (with_reducible exact Below.refl _ _) | (with_reducible assumption) | (with_reducible exact below_app _ _ _ _) | (with_reducible refine below_pre ?_; (simp only [List.append_assoc, List.prefix_append, List.prefix_refl, List.prefix_append_right_inj])) | (with_reducible refine Below.alloc ?_ ?_ _) | (with_reducible refine below_ext ?_ ?_ _) | (with_reducible refine Below.drew ?_) | (with_reducible refine below_drewN ?_ _) | (with_reducible refine Below.setCell ?_ ?_ _) | go_size | (simp only [w_size_ext, List.length_append, World.alloc_size]; omega) | (simp; done) | (simp; omega))))) (Kd.R_reads' (Kd.R_below HX1.out (by (repeat' (first | (with_reducible exact Below.refl _ _) | (with_reducible assumption) | (with_reducible exact below_app _ _ _ _) | (with_reducible refine below_pre ?_; (simp only [List.append_assoc, List.prefix_append, List.prefix_refl, List.prefix_append_right_inj])) | (with_reducible refine Below.alloc ?_ ?_ _) | (with_reducible refine below_ext ?_ ?_ _) | (with_reducible refine Below.drew ?_) | (with_reducible refine below_drewN ?_ _) | (with_reducible refine Below.setCell ?_ ?_ _) | go_size | (simp only [w_size_ext, List.length_append, World.alloc_size]; omega) | (simp; done) | (simp; omega)))))).2.2 (fun _ _ h => h) (fun _ h => h.elim) (fun k hk => Nat.le_trans (by first | (simp; done) | (simp; omega)) hk) (by (repeat' (first | (with_reducible exact Below.refl _ _) | (with_reducible assumption) | (with_reducible exact below_app _ _ _ _) | (with_reducible refine below_pre ?_; (simp only [List.append_assoc, List.prefix_append, List.prefix_refl, List.prefix_append_right_inj])) | (with_reducible refine Below.alloc ?_ ?_ _) | (with_reducible refine below_ext ?_ ?_ _) | (with_reducible refine Below.drew ?_) | (with_reducible refine below_drewN ?_ _) | (with_reducible refine Below.setCell ?_ ?_ _) | go_size | (simp only [w_size_ext, List.length_append, World.alloc_size]; omega) | (simp; done) | (simp; omega)))) (by first | (simp; done) | (simp; omega)) (by have := HLX.out; have := HL1.out; omega) ?_; intro v1 w1 hown hb hg hat; refine hK _ _ ?_; clear hK K hat; obtain ⟨j5, rfl⟩ := w_ext_of_below (w := ((((wext ((((W.alloc (.cells #[vn] 62)).alloc (.cells #[vs] 63)).alloc (.cells #[.bool false] 4)).alloc (.cells #[(eyeP (W.heap.size + 1 + 1 + 1 + 1 + j1.l.length + 1))] 53)) j1).alloc (.cells #[.int .i64 0] 26)).alloc (.cells #[.string t, .bool true] 69)).alloc (.cells #[.pointer (some ⟨W.heap.size + 1 + 1 + 1 + 1 + j1.l.length + 1, 0, none⟩)] 53))) (by rw [kw_size]; exact hb); obtain ⟨A3, c3, rfl, -, -⟩ := Kd.R_reads hown; have HN := Lib.hid hown; have HSy := Lib.hid (Kd.R_over' (Kd.R_below (R_swap (K2 := ((((wext ((((W.alloc (.cells #[vn] 62)).alloc (.cells #[vs] 63)).alloc (.cells #[.bool false] 4)).alloc (.cells #[(eyeP (W.heap.size + 1 + 1 + 1 + 1 + j1.l.length + 1))] 53)) j1).alloc (.cells #[.int .i64 0] 26)).alloc (.cells #[.string t, .bool true] 69)).alloc (.cells #[.pointer (some ⟨W.heap.size + 1 + 1 + 1 + 1 + j1.l.length + 1, 0, none⟩)] 53))) HY.out (kw_size _ _ _ _ _ _ _) (kw_size _ _ _ _ _ _ _)) (by (repeat' (first | (with_reducible exact Below.refl _ _) | (with_reducible assumption) | (with_reducible exact below_app _ _ _ _) | (with_reducible refine below_pre ?_; (simp only [List.append_assoc, List.prefix_append, List.prefix_refl, List.prefix_append_right_inj])) | (with_reducible refine Below.alloc ?_ ?_ _) | (with_reducible refine below_ext ?_ ?_ _) | (with_reducible refine Below.drew ?_) | (with_reducible refine below_drewN ?_ _) | (with_reducible refine Below.setCell ?_ ?_ _) | go_size | (simp only [w_size_ext, List.length_append, World.alloc_size]; omega) | (simp; done) | (simp; omega))))) (Kd.R_typed (Kd.R_below (R_swap (K2 := ((((wext ((((W.alloc (.cells #[vn] 62)).alloc (.cells #[vs] 63)).alloc (.cells #[.bool false] 4)).alloc (.cells #[(eyeP (W.heap.size + 1 + 1 + 1 + 1 + j1.l.length + 1))] 53)) j1).alloc (.cells #[.int .i64 0] 26)).alloc (.cells #[.string t, .bool true] 69)).alloc (.cells #[.pointer (some ⟨W.heap.size + 1 + 1 + 1 + 1 + j1.l.length + 1, 0, none⟩)] 53))) HX.out (kw_size _ _ _ _ _ _ _) (kw_size _ _ _ _ _ _ _)) (by (repeat' (first | (with_reducible exact Below.refl _ _) | (with_reducible assumption) | (with_reducible exact below_app _ _ _ _) | (with_reducible refine below_pre ?_; (simp only [List.append_assoc, List.prefix_append, List.prefix_refl, List.prefix_append_right_inj])) | (with_reducible refine Below.alloc ?_ ?_ _) | (with_reducible refine below_ext ?_ ?_ _) | (with_reducible refine Below.drew ?_) | (with_reducible refine below_drewN ?_ _) | (with_reducible refine Below.setCell ?_ ?_ _) | go_size | (simp only [w_size_ext, List.length_append, World.alloc_size]; omega) | (simp; done) | (simp; omega)))))) (by decide) hg); have HY2 := Lib.hid (Kd.R_over' (Kd.R_below HY1.out (by (repeat' (first | (with_reducible exact Below.refl _ _) | (with_reducible assumption) | (with_reducible exact below_app _ _ _ _) | (with_reducible refine below_pre ?_; (simp only [List.append_assoc, List.prefix_append, List.prefix_refl, List.prefix_append_right_inj])) | (with_reducible refine Below.alloc ?_ ?_ _) | (with_reducible refine below_ext ?_ ?_ _) | (with_reducible refine Below.drew ?_) | (with_reducible refine below_drewN ?_ _) | (with_reducible refine Below.setCell ?_ ?_ _) | go_size | (simp only [w_size_ext, List.length_append, World.alloc_size]; omega) | (simp; done) | (simp; omega))))) (Kd.R_typed (Kd.R_below (R_swap (K2 := ((((wext ((((W.alloc (.cells #[vn] 62)).alloc (.cells #[vs] 63)).alloc (.cells #[.bool false] 4)).alloc (.cells #[(eyeP (W.heap.size + 1 + 1 + 1 + 1 + j1.l.length + 1))] 53)) j1).alloc (.cells #[.int .i64 0] 26)).alloc (.cells #[.string t, .bool true] 69)).alloc (.cells #[.pointer (some ⟨W.heap.size + 1 + 1 + 1 + 1 + j1.l.length + 1, 0, none⟩)] 53))) HX.out (kw_size _ _ _ _ _ _ _) (kw_size _ _ _ _ _ _ _)) (by (repeat' (first | (with_reducible exact Below.refl _ _) | (with_reducible assumption) | (with_reducible exact below_app _ _ _ _) | (with_reducible refine below_pre ?_; (simp only [List.append_assoc, List.prefix_append, List.prefix_refl, List.prefix_append_right_inj])) | (with_reducible refine Below.alloc ?_ ?_ _) | (with_reducible refine below_ext ?_ ?_ _) | (with_reducible refine Below.drew ?_) | (with_reducible refine below_drewN ?_ _) | (with_reducible refine Below.setCell ?_ ?_ _) | go_size | (simp only [w_size_ext, List.length_append, World.alloc_size]; omega) | (simp; done) | (simp; omega)))))) (by decide) hg); clear hown hb hg
          refine wpOrd_oneIf rfl rfl ?_; intro K hK; refine Kd.R_append_rows_step Kd.string (w0 := ((((wext ((((W.alloc (.cells #[vn] 62)).alloc (.cells #[vs] 63)).alloc (.cells #[.bool false] 4)).alloc (.cells #[(eyeP (W.heap.size + 1 + 1 + 1 + 1 + j1.l.length + 1))] 53)) j1).alloc (.cells #[.int .i64 0] 26)).alloc (.cells #[.string t, .bool true] 69)).alloc (.cells #[.pointer (some ⟨W.heap.size + 1 + 1 + 1 + 1 + j1.l.length + 1, 0, none⟩)] 53))) (W.heap.size + 1 + 1 + 1 + 1 + j1.l.length + 1 + 1 + 1) rfl (.tmp 28) (.tmp 29) 63 9 (.string ⟨#[]⟩) 16 rfl Try.underlying63 info9 rfl (by decide) (by omega) vs y y1 A2 _ _ (fun k => (W.heap.size + 1 + 1 + 1 + 1 + j1.l.length + 1 + 1 + 1) ≤ k) (fun _ => False) rfl rfl HSy.out (Kd.R_reads' HY2.out).2.2 (fun _ _ h => h) (fun _ h => h.elim) (fun k hk => Nat.le_trans (by first | (simp; done) | (simp; omega)) hk) (by (repeat' (first | (with_reducible exact Below.refl _ _) | (with_reducible assumption) | (with_reducible exact below_app _ _ _ _) | (with_reducible refine below_pre ?_; (simp only [List.append_assoc, List.prefix_append, List.prefix_refl, List.prefix_append_right_inj])) | (with_reducible refine Below.alloc ?_ ?_ _) | (with_reducible refine below_ext ?_ ?_ _) | (with_reducible refine Below.drew ?_) | (with_reducible refine below_drewN ?_ _) | (with_reducible refine Below.setCell ?_ ?_ _) | go_size | (simp only [w_size_ext, List.length_append, World.alloc_size]; omega) | (simp; done) | (simp; omega)))) (by first | (simp; done) | (simp; omega)) (by have := HLY.out; have := HL1.out; omega) ?_; intro v2 w2 hown hb hg hat; refine hK _ _ ?_; clear hK K hat; obtain ⟨j6, rfl⟩ := w_ext_of_below (w := ((((wext ((((W.alloc (.cells #[vn] 62)).alloc (.cells #[vs] 63)).alloc (.cells #[.bool false] 4)).alloc (.cells #[(eyeP (W.heap.size + 1 + 1 + 1 + 1 + j1.l.length + 1))] 53)) j1).alloc (.cells #[.int .i64 0] 26)).alloc (.cells #[.string t, .bool true] 69)).alloc (.cells #[.pointer (some ⟨W.heap.size + 1 + 1 + 1 + 1 + j1.l.length + 1, 0, none⟩)] 53))) (by rw [kw_size]; exact hb); obtain ⟨A4, c4, rfl, -, -⟩ := Kd.R_reads hown; have HS := Lib.hid hown; have HN2 := Lib.hid (Kd.R_over' HN.out (Kd.R_typed HSy.out) (by decide) hg); clear hown hb hg
          refine wpOrd_one rfl rfl ?_; intro K hK; go_wp2
          refine wpOrd_one rfl rfl ?_; intro K hK; go_wp2
          refine wpOrd_done ?_; go_wp2
          go_roundw
          case rel => exact ⟨i + 1, x ++ x1, y ++ y1, t, .slice A3 (x ++ x1).length c3, .slice A4 (y ++ y1).length c4, j6, by omega, by first | rfl | rw [hwr], by rw [List.length_append, List.length_append], Lib.hid (R_swap (K2 := _) HN2.out (kw_size _ _ _ _ _ _ _) (kw_size _ _ _ _ _ _ _)), Lib.hid (R_swap (K2 := _) HS.out (kw_size _ _ _ _ _ _ _) (kw_size _ _ _ _ _ _ _)), Lib.hid (HR2.out), Lib.hid (by have := HLX.out; have := HL1.out; rw [List.length_append]; omega), Lib.hid (by have := HLY.out; have := HL1.out; rw [List.length_append]; omega)⟩
          case measure => first | (simp [intOf]; omega) | (rw [intOf_lit5, intOf_lit5, hwr]; exact meas5 _ _ hlt)

end Go.Proofs.Ytdjmpedfeahajaa

set_option linter.unusedSimpArgs false
set_option linter.unusedVariables false
namespace Go.Proofs.Ytdjmpedfeahajaa
open Go.RowKit Go.Proofs.YtdjmpedfeahajaaW.PrintWords Go.Proofs.YtdjmpedfeahajaaW.PrintLast Go.Proofs.YtdjmpedfeahajaaW.PrintMore

theorem not_empty6 (s : ByteArray) (h : ¬ s.size = 0) : s.toList.isEmpty = false := by
  cases he : s.toList.isEmpty with
  | false => rfl
  | true =>
    rw [List.isEmpty_iff, Lib.toList_data] at he
    have := congrArg List.length he
    exact absurd (by simpa using this) h
theorem look69_ok (W : World) (pl : Nat) (A : Option Addr) (c : Nat) (q : List (Int × Int)) (s0 : ByteArray) (j1 : Junk) (hL : LooksL W A q) (hq : q.length ≤ 100) (cl : W.cell? ⟨pl, 0, none⟩ = some (.slice A q.length c)) (x : List Int) (y : List ByteArray) (s : ByteArray) (h : runQ q s0 [] [] = (x, y, .inl s)) :
    Calls Try.prog 69 #[(eyeP (W.heap.size + 1 + 1 + 1 + 1 + j1.l.length + 1)), .pointer (some ⟨W.heap.size + 1 + 1 + 1, 0, none⟩), .pointer (some ⟨pl, 0, none⟩), .pointer (some ⟨W.heap.size, 0, none⟩), .pointer (some ⟨W.heap.size + 1, 0, none⟩), .pointer (some ⟨W.heap.size + 1 + 1, 0, none⟩)] ((((wext ((((W.alloc (.cells #[.slice none 0 0] 62)).alloc (.cells #[.slice none 0 0] 63)).alloc (.cells #[.bool false] 4)).alloc (.cells #[.pointer none] 53)) j1).alloc (.cells #[.int .i64 0] 26)).alloc (.cells #[.string s0, .bool true] 69)).alloc (.cells #[.pointer (some ⟨W.heap.size + 1 + 1 + 1 + 1 + j1.l.length + 1, 0, none⟩)] 53)) (fun e w' => e = .returned (.tuple #[]) ∧ ∃ (vn vs : Value) (j : Junk), w' = wext ((((wext ((((W.alloc (.cells #[vn] 62)).alloc (.cells #[vs] 63)).alloc (.cells #[.bool true] 4)).alloc (.cells #[(eyeP (W.heap.size + 1 + 1 + 1 + 1 + j1.l.length + 1))] 53)) j1).alloc (.cells #[.int .i64 0] 26)).alloc (.cells #[.string s, .bool true] 69)).alloc (.cells #[.pointer (some ⟨W.heap.size + 1 + 1 + 1 + 1 + j1.l.length + 1, 0, none⟩)] 53)) j ∧ Kd.R (Kd.int .i64) 3 w' (W.heap.size + 1 + 1 + 1 + 1 + j1.l.length + 1 + 1 + 1) (fun k => (W.heap.size + 1 + 1 + 1 + 1 + j1.l.length + 1 + 1 + 1) ≤ k) vn x ∧ Kd.R Kd.string 9 w' (W.heap.size + 1 + 1 + 1 + 1 + j1.l.length + 1 + 1 + 1) (fun k => (W.heap.size + 1 + 1 + 1 + 1 + j1.l.length + 1 + 1 + 1) ≤ k) vs y) := by
  refine (look69 W pl A c q s0 j1 hL hq cl).mono ?_
  rintro e w' ⟨vn, vs, x', y', s', bk, j, hw, hx, hy, _, _, (⟨he, rfl, hr⟩ | ⟨cc, _, _, hr⟩)⟩
  · rw [h] at hr
    simp only [Prod.mk.injEq, Sum.inl.injEq] at hr
    obtain ⟨rfl, rfl, rfl⟩ := hr
    exact ⟨he, vn, vs, j, hw, hx, hy⟩
  · rw [h] at hr
    simp at hr
theorem look69_err (W : World) (pl : Nat) (A : Option Addr) (c : Nat) (q : List (Int × Int)) (s0 : ByteArray) (j1 : Junk) (hL : LooksL W A q) (hq : q.length ≤ 100) (cl : W.cell? ⟨pl, 0, none⟩ = some (.slice A q.length c)) (x : List Int) (y : List ByteArray) (cc : Int) (h : runQ q s0 [] [] = (x, y, .inr cc)) :
    Calls Try.prog 69 #[(eyeP (W.heap.size + 1 + 1 + 1 + 1 + j1.l.length + 1)), .pointer (some ⟨W.heap.size + 1 + 1 + 1, 0, none⟩), .pointer (some ⟨pl, 0, none⟩), .pointer (some ⟨W.heap.size, 0, none⟩), .pointer (some ⟨W.heap.size + 1, 0, none⟩), .pointer (some ⟨W.heap.size + 1 + 1, 0, none⟩)] ((((wext ((((W.alloc (.cells #[.slice none 0 0] 62)).alloc (.cells #[.slice none 0 0] 63)).alloc (.cells #[.bool false] 4)).alloc (.cells #[.pointer none] 53)) j1).alloc (.cells #[.int .i64 0] 26)).alloc (.cells #[.string s0, .bool true] 69)).alloc (.cells #[.pointer (some ⟨W.heap.size + 1 + 1 + 1 + 1 + j1.l.length + 1, 0, none⟩)] 53)) (fun e w' => e = .panicked [fault cc] ∧ ∃ (vn vs : Value) (s : ByteArray) (j : Junk), w' = wext ((((wext ((((W.alloc (.cells #[vn] 62)).alloc (.cells #[vs] 63)).alloc (.cells #[.bool false] 4)).alloc (.cells #[(eyeP (W.heap.size + 1 + 1 + 1 + 1 + j1.l.length + 1))] 53)) j1).alloc (.cells #[.int .i64 0] 26)).alloc (.cells #[.string s, .bool true] 69)).alloc (.cells #[.pointer (some ⟨W.heap.size + 1 + 1 + 1 + 1 + j1.l.length + 1, 0, none⟩)] 53)) j ∧ Kd.R (Kd.int .i64) 3 w' (W.heap.size + 1 + 1 + 1 + 1 + j1.l.length + 1 + 1 + 1) (fun k => (W.heap.size + 1 + 1 + 1 + 1 + j1.l.length + 1 + 1 + 1) ≤ k) vn x ∧ Kd.R Kd.string 9 w' (W.heap.size + 1 + 1 + 1 + 1 + j1.l.length + 1 + 1 + 1) (fun k => (W.heap.size + 1 + 1 + 1 + 1 + j1.l.length + 1 + 1 + 1) ≤ k) vs y) := by
  refine (look69 W pl A c q s0 j1 hL hq cl).mono ?_
  rintro e w' ⟨vn, vs, x', y', s', bk, j, hw, hx, hy, _, _, (⟨he, _, hr⟩ | ⟨cc', he, rfl, hr⟩)⟩
  · rw [h] at hr
    simp at hr
  · rw [h] at hr
    simp only [Prod.mk.injEq, Sum.inr.injEq] at hr
    obtain ⟨rfl, rfl, rfl⟩ := hr
    exact ⟨he, vn, vs, s', j, hw, hx, hy⟩
/-- What Read leaves: the answers, whether all was asked, the eye that is shut. -/
def Done69 (W : World) (x : List Int) (y : List ByteArray) (bk : Bool) (ec : Int) (e : Ending) (w' : World) : Prop :=
  ∃ (vn vs : Value) (b : Nat) (j : Junk) (B : Nat) (ok : Nat → Prop), e = .returned (.int .i64 ec) ∧ w' = wext ((((W.alloc (.cells #[vn] 62)).alloc (.cells #[vs] 63)).alloc (.cells #[.bool bk] 4)).alloc (.cells #[eyeP b] 53)) j ∧ Kd.R (Kd.int .i64) 3 w' B ok vn x ∧ Kd.R Kd.string 9 w' B ok vs y ∧ w'.cell? ⟨b, 1, none⟩ = some (.bool false) ∧ W.heap.size + 4 ≤ b
theorem done69_mk (W : World) (j1 j : Junk) (x : List Int) (y : List ByteArray) (bk : Bool) (ec ce : Int) (vn vs : Value) (s s' : ByteArray) (e : Ending) (he : e = .returned (.int .i64 ec)) (hx : Kd.R (Kd.int .i64) 3 (wext ((((wext ((((W.alloc (.cells #[vn] 62)).alloc (.cells #[vs] 63)).alloc (.cells #[.bool bk] 4)).alloc (.cells #[(eyeP (W.heap.size + 1 + 1 + 1 + 1 + j1.l.length + 1))] 53)) j1).alloc (.cells #[.int .i64 0] 26)).alloc (.cells #[.string s, .bool true] 69)).alloc (.cells #[.pointer (some ⟨W.heap.size + 1 + 1 + 1 + 1 + j1.l.length + 1, 0, none⟩)] 53)) j) (W.heap.size + 1 + 1 + 1 + 1 + j1.l.length + 1 + 1 + 1) (fun k => (W.heap.size + 1 + 1 + 1 + 1 + j1.l.length + 1 + 1 + 1) ≤ k) vn x) (hy : Kd.R Kd.string 9 (wext ((((wext ((((W.alloc (.cells #[vn] 62)).alloc (.cells #[vs] 63)).alloc (.cells #[.bool bk] 4)).alloc (.cells #[(eyeP (W.heap.size + 1 + 1 + 1 + 1 + j1.l.length + 1))] 53)) j1).alloc (.cells #[.int .i64 0] 26)).alloc (.cells #[.string s, .bool true] 69)).alloc (.cells #[.pointer (some ⟨W.heap.size + 1 + 1 + 1 + 1 + j1.l.length + 1, 0, none⟩)] 53)) j) (W.heap.size + 1 + 1 + 1 + 1 + j1.l.length + 1 + 1 + 1) (fun k => (W.heap.size + 1 + 1 + 1 + 1 + j1.l.length + 1 + 1 + 1) ≤ k) vs y) (m : Nat) : Done69 W x y bk ec e (wext ((((wext ((((W.alloc (.cells #[vn] 62)).alloc (.cells #[vs] 63)).alloc (.cells #[.bool bk] 4)).alloc (.cells #[(eyeP (W.heap.size + 1 + 1 + 1 + 1 + j1.l.length + 1))] 53)) j1).alloc (.cells #[.int .i64 ce] 26)).alloc (.cells #[.string s', .bool false] 69)).alloc (.cells #[.pointer (some ⟨W.heap.size + 1 + 1 + 1 + 1 + j1.l.length + 1, 0, none⟩)] 53)) ⟨j.l, m⟩) := by
  obtain ⟨j9, hj9⟩ := w_grown (w := ((((W.alloc (.cells #[vn] 62)).alloc (.cells #[vs] 63)).alloc (.cells #[.bool bk] 4)).alloc (.cells #[(eyeP (W.heap.size + 1 + 1 + 1 + 1 + j1.l.length + 1))] 53))) (w' := wext ((((wext ((((W.alloc (.cells #[vn] 62)).alloc (.cells #[vs] 63)).alloc (.cells #[.bool bk] 4)).alloc (.cells #[(eyeP (W.heap.size + 1 + 1 + 1 + 1 + j1.l.length + 1))] 53)) j1).alloc (.cells #[.int .i64 ce] 26)).alloc (.cells #[.string s', .bool false] 69)).alloc (.cells #[.pointer (some ⟨W.heap.size + 1 + 1 + 1 + 1 + j1.l.length + 1, 0, none⟩)] 53)) ⟨j.l, m⟩) (by (repeat' (first | (with_reducible exact Below.refl _ _) | (with_reducible assumption) | (with_reducible exact below_app _ _ _ _) | (with_reducible refine below_pre ?_; (simp only [List.append_assoc, List.prefix_append, List.prefix_refl, List.prefix_append_right_inj])) | (with_reducible refine Below.alloc ?_ ?_ _) | (with_reducible refine below_ext ?_ ?_ _) | (with_reducible refine Below.drew ?_) | (with_reducible refine below_drewN ?_ _) | (with_reducible refine Below.setCell ?_ ?_ _) | go_size | (simp only [w_size_ext, List.length_append, World.alloc_size]; omega) | (simp; done) | (simp; omega))))
  refine ⟨vn, vs, (W.heap.size + 1 + 1 + 1 + 1 + j1.l.length + 1), j9, (W.heap.size + 1 + 1 + 1 + 1 + j1.l.length + 1 + 1 + 1), (fun k => (W.heap.size + 1 + 1 + 1 + 1 + j1.l.length + 1 + 1 + 1) ≤ k), he, hj9, ?_, ?_, by simp [go_sem], by omega⟩
  · exact Kd.R_below (R_swap (K2 := ((((wext ((((W.alloc (.cells #[vn] 62)).alloc (.cells #[vs] 63)).alloc (.cells #[.bool bk] 4)).alloc (.cells #[(eyeP (W.heap.size + 1 + 1 + 1 + 1 + j1.l.length + 1))] 53)) j1).alloc (.cells #[.int .i64 ce] 26)).alloc (.cells #[.string s', .bool false] 69)).alloc (.cells #[.pointer (some ⟨W.heap.size + 1 + 1 + 1 + 1 + j1.l.length + 1, 0, none⟩)] 53))) hx (kw_size _ _ _ _ _ _ _) (by simp)) (by (repeat' (first | (with_reducible exact Below.refl _ _) | (with_reducible assumption) | (with_reducible exact below_app _ _ _ _) | (with_reducible refine below_pre ?_; (simp only [List.append_assoc, List.prefix_append, List.prefix_refl, List.prefix_append_right_inj])) | (with_reducible refine Below.alloc ?_ ?_ _) | (with_reducible refine below_ext ?_ ?_ _) | (with_reducible refine Below.drew ?_) | (with_reducible refine below_drewN ?_ _) | (with_reducible refine Below.setCell ?_ ?_ _) | go_size | (simp only [w_size_ext, List.length_append, World.alloc_size]; omega) | (simp; done) | (simp; omega))))
  · exact Kd.R_below (R_swap (K2 := ((((wext ((((W.alloc (.cells #[vn] 62)).alloc (.cells #[vs] 63)).alloc (.cells #[.bool bk] 4)).alloc (.cells #[(eyeP (W.heap.size + 1 + 1 + 1 + 1 + j1.l.length + 1))] 53)) j1).alloc (.cells #[.int .i64 ce] 26)).alloc (.cells #[.string s', .bool false] 69)).alloc (.cells #[.pointer (some ⟨W.heap.size + 1 + 1 + 1 + 1 + j1.l.length + 1, 0, none⟩)] 53))) hy (kw_size _ _ _ _ _ _ _) (by simp)) (by (repeat' (first | (with_reducible exact Below.refl _ _) | (with_reducible assumption) | (with_reducible exact below_app _ _ _ _) | (with_reducible refine below_pre ?_; (simp only [List.append_assoc, List.prefix_append, List.prefix_refl, List.prefix_append_right_inj])) | (with_reducible refine Below.alloc ?_ ?_ _) | (with_reducible refine below_ext ?_ ?_ _) | (with_reducible refine Below.drew ?_) | (with_reducible refine below_drewN ?_ _) | (with_reducible refine Below.setCell ?_ ?_ _) | go_size | (simp only [w_size_ext, List.length_append, World.alloc_size]; omega) | (simp; done) | (simp; omega))))
theorem done69_mk2 (W : World) (j1 j : Junk) (x : List Int) (y : List ByteArray) (bk : Bool) (ec ce : Int) (vn vs : Value) (s s' : ByteArray) (e : Ending) (he : e = .returned (.int .i64 ec)) (hx : Kd.R (Kd.int .i64) 3 (wext ((((wext ((((W.alloc (.cells #[vn] 62)).alloc (.cells #[vs] 63)).alloc (.cells #[.bool bk] 4)).alloc (.cells #[(eyeP (W.heap.size + 1 + 1 + 1 + 1 + j1.l.length + 1))] 53)) j1).alloc (.cells #[.int .i64 0] 26)).alloc (.cells #[.string s, .bool true] 69)).alloc (.cells #[.pointer (some ⟨W.heap.size + 1 + 1 + 1 + 1 + j1.l.length + 1, 0, none⟩)] 53)) j) (W.heap.size + 1 + 1 + 1 + 1 + j1.l.length + 1 + 1 + 1) (fun k => (W.heap.size + 1 + 1 + 1 + 1 + j1.l.length + 1 + 1 + 1) ≤ k) vn x) (hy : Kd.R Kd.string 9 (wext ((((wext ((((W.alloc (.cells #[vn] 62)).alloc (.cells #[vs] 63)).alloc (.cells #[.bool bk] 4)).alloc (.cells #[(eyeP (W.heap.size + 1 + 1 + 1 + 1 + j1.l.length + 1))] 53)) j1).alloc (.cells #[.int .i64 0] 26)).alloc (.cells #[.string s, .bool true] 69)).alloc (.cells #[.pointer (some ⟨W.heap.size + 1 + 1 + 1 + 1 + j1.l.length + 1, 0, none⟩)] 53)) j) (W.heap.size + 1 + 1 + 1 + 1 + j1.l.length + 1 + 1 + 1) (fun k => (W.heap.size + 1 + 1 + 1 + 1 + j1.l.length + 1 + 1 + 1) ≤ k) vs y) (l2 : List Obj) (m : Nat) : Done69 W x y bk ec e (wext ((((wext ((((W.alloc (.cells #[vn] 62)).alloc (.cells #[vs] 63)).alloc (.cells #[.bool bk] 4)).alloc (.cells #[(eyeP (W.heap.size + 1 + 1 + 1 + 1 + j1.l.length + 1))] 53)) j1).alloc (.cells #[.int .i64 ce] 26)).alloc (.cells #[.string s', .bool false] 69)).alloc (.cells #[.pointer (some ⟨W.heap.size + 1 + 1 + 1 + 1 + j1.l.length + 1, 0, none⟩)] 53)) ⟨j.l ++ l2, m⟩) := by
  obtain ⟨j9, hj9⟩ := w_grown (w := ((((W.alloc (.cells #[vn] 62)).alloc (.cells #[vs] 63)).alloc (.cells #[.bool bk] 4)).alloc (.cells #[(eyeP (W.heap.size + 1 + 1 + 1 + 1 + j1.l.length + 1))] 53))) (w' := wext ((((wext ((((W.alloc (.cells #[vn] 62)).alloc (.cells #[vs] 63)).alloc (.cells #[.bool bk] 4)).alloc (.cells #[(eyeP (W.heap.size + 1 + 1 + 1 + 1 + j1.l.length + 1))] 53)) j1).alloc (.cells #[.int .i64 ce] 26)).alloc (.cells #[.string s', .bool false] 69)).alloc (.cells #[.pointer (some ⟨W.heap.size + 1 + 1 + 1 + 1 + j1.l.length + 1, 0, none⟩)] 53)) ⟨j.l ++ l2, m⟩) (by (repeat' (first | (with_reducible exact Below.refl _ _) | (with_reducible assumption) | (with_reducible exact below_app _ _ _ _) | (with_reducible refine below_pre ?_; (simp only [List.append_assoc, List.prefix_append, List.prefix_refl, List.prefix_append_right_inj])) | (with_reducible refine Below.alloc ?_ ?_ _) | (with_reducible refine below_ext ?_ ?_ _) | (with_reducible refine Below.drew ?_) | (with_reducible refine below_drewN ?_ _) | (with_reducible refine Below.setCell ?_ ?_ _) | go_size | (simp only [w_size_ext, List.length_append, World.alloc_size]; omega) | (simp; done) | (simp; omega))))
  refine ⟨vn, vs, (W.heap.size + 1 + 1 + 1 + 1 + j1.l.length + 1), j9, (W.heap.size + 1 + 1 + 1 + 1 + j1.l.length + 1 + 1 + 1), (fun k => (W.heap.size + 1 + 1 + 1 + 1 + j1.l.length + 1 + 1 + 1) ≤ k), he, hj9, ?_, ?_, by simp [go_sem], by omega⟩
  · exact Kd.R_below (R_swap (K2 := ((((wext ((((W.alloc (.cells #[vn] 62)).alloc (.cells #[vs] 63)).alloc (.cells #[.bool bk] 4)).alloc (.cells #[(eyeP (W.heap.size + 1 + 1 + 1 + 1 + j1.l.length + 1))] 53)) j1).alloc (.cells #[.int .i64 ce] 26)).alloc (.cells #[.string s', .bool false] 69)).alloc (.cells #[.pointer (some ⟨W.heap.size + 1 + 1 + 1 + 1 + j1.l.length + 1, 0, none⟩)] 53))) hx (kw_size _ _ _ _ _ _ _) (by simp)) (by (repeat' (first | (with_reducible exact Below.refl _ _) | (with_reducible assumption) | (with_reducible exact below_app _ _ _ _) | (with_reducible refine below_pre ?_; (simp only [List.append_assoc, List.prefix_append, List.prefix_refl, List.prefix_append_right_inj])) | (with_reducible refine Below.alloc ?_ ?_ _) | (with_reducible refine below_ext ?_ ?_ _) | (with_reducible refine Below.drew ?_) | (with_reducible refine below_drewN ?_ _) | (with_reducible refine Below.setCell ?_ ?_ _) | go_size | (simp only [w_size_ext, List.length_append, World.alloc_size]; omega) | (simp; done) | (simp; omega))))
  · exact Kd.R_below (R_swap (K2 := ((((wext ((((W.alloc (.cells #[vn] 62)).alloc (.cells #[vs] 63)).alloc (.cells #[.bool bk] 4)).alloc (.cells #[(eyeP (W.heap.size + 1 + 1 + 1 + 1 + j1.l.length + 1))] 53)) j1).alloc (.cells #[.int .i64 ce] 26)).alloc (.cells #[.string s', .bool false] 69)).alloc (.cells #[.pointer (some ⟨W.heap.size + 1 + 1 + 1 + 1 + j1.l.length + 1, 0, none⟩)] 53))) hy (kw_size _ _ _ _ _ _ _) (by simp)) (by (repeat' (first | (with_reducible exact Below.refl _ _) | (with_reducible assumption) | (with_reducible exact below_app _ _ _ _) | (with_reducible refine below_pre ?_; (simp only [List.append_assoc, List.prefix_append, List.prefix_refl, List.prefix_append_right_inj])) | (with_reducible refine Below.alloc ?_ ?_ _) | (with_reducible refine below_ext ?_ ?_ _) | (with_reducible refine Below.drew ?_) | (with_reducible refine below_drewN ?_ _) | (with_reducible refine Below.setCell ?_ ?_ _) | go_size | (simp only [w_size_ext, List.length_append, World.alloc_size]; omega) | (simp; done) | (simp; omega))))
set_option maxHeartbeats 8000000 in
set_option maxRecDepth 100000 in
theorem read69_a (W : World) (pl : Nat) (A : Option Addr) (c : Nat) (q : List (Int × Int)) (s0 : ByteArray) (j1 : Junk) (hL : LooksL W A q) (hq : q.length ≤ 100) (cl : W.cell? ⟨pl, 0, none⟩ = some (.slice A q.length c)) (B : Option Addr) (cB : Nat) (l : List Int) (hC : ReadsB (wext ((((W.alloc (.cells #[.slice none 0 0] 62)).alloc (.cells #[.slice none 0 0] 63)).alloc (.cells #[.bool false] 4)).alloc (.cells #[.pointer none] 53)) j1) B l) (hl : strOfNums l = s0) (x : List Int) (y : List ByteArray) (h : runQ q s0 [] [] = (x, y, .inl ⟨#[]⟩)) : Calls Try.prog 48 #[.slice B l.length cB, .func (.func 69) #[] #[.pointer (some ⟨W.heap.size + 1 + 1 + 1, 0, none⟩), .pointer (some ⟨pl, 0, none⟩), .pointer (some ⟨W.heap.size, 0, none⟩), .pointer (some ⟨W.heap.size + 1, 0, none⟩), .pointer (some ⟨W.heap.size + 1 + 1, 0, none⟩)]] (wext ((((W.alloc (.cells #[.slice none 0 0] 62)).alloc (.cells #[.slice none 0 0] 63)).alloc (.cells #[.bool false] 4)).alloc (.cells #[.pointer none] 53)) j1) (Done69 W x y true 0) := by
  have hmf : ∀ (fn : Fn) (first cap : Array Value) (w : World), (Instr.makeFunc fn first cap).run Try.prog w = .ok (.func fn first cap) w := fun _ _ _ _ => rfl
  have hcv : ∀ o, (convert 43 9 (.slice B l.length cB)).run Try.prog ((wext ((((W.alloc (.cells #[.slice none 0 0] 62)).alloc (.cells #[.slice none 0 0] 63)).alloc (.cells #[.bool false] 4)).alloc (.cells #[.pointer none] 53)) j1).alloc o) = .ok (.string s0) ((wext ((((W.alloc (.cells #[.slice none 0 0] 62)).alloc (.cells #[.slice none 0 0] 63)).alloc (.cells #[.bool false] 4)).alloc (.cells #[.pointer none] 53)) j1).alloc o) := fun o => by rw [← hl]; exact conv_read hC cB _ ((Below.refl _ _).alloc (Nat.le_refl _) o)
  have htn := toList_nil
  have hnq : ∀ W', (binOp .neq 55 (.func (.func 69) #[] #[.pointer (some ⟨W.heap.size + 1 + 1 + 1, 0, none⟩), .pointer (some ⟨pl, 0, none⟩), .pointer (some ⟨W.heap.size, 0, none⟩), .pointer (some ⟨W.heap.size + 1, 0, none⟩), .pointer (some ⟨W.heap.size + 1 + 1, 0, none⟩)]) .nilFunc).run Try.prog W' = .ok (.bool true) W' := fun _ => by kernel_rfl
  have HL := Lib.hid hL
  have HQ := Lib.hid h
  generalize l.length = n at *
  clear hC hl hL h
  go_enter_defers Try.func48, Try.ntmps48
  go_wp2_with (go_at_call 69; (with_reducible refine (look69_ok W pl A c q s0 j1 HL.out hq cl x y ⟨#[]⟩ HQ.out).mono ?_); rintro e1 w1 ⟨rfl, vn, vs, j, rfl, hx, hy⟩; have HX := Lib.hid hx; have HY := Lib.hid hy; clear hx hy)
  refine leaves_cons (f := 88) (args := #[.pointer (some ⟨(W.heap.size + 1 + 1 + 1 + 1 + j1.l.length + 1 + 1), 0, none⟩), .pointer (some ⟨(W.heap.size + 1 + 1 + 1 + 1 + j1.l.length), 0, none⟩)]) (by simp) (by simp [go_sem]) ?_
  refine (catch_idle (W.heap.size + 1 + 1 + 1 + 1 + j1.l.length + 1 + 1) (W.heap.size + 1 + 1 + 1 + 1 + j1.l.length) (W.heap.size + 1 + 1 + 1 + 1 + j1.l.length + 1) _ (by simp [go_sem]) (by simp [go_sem]) (by simp [go_sem])).mono ?_
  rintro e u' w'' ⟨rfl, rfl, rfl⟩
  simp [Leaves, settle, results, Try.results48, go_sem]
  exact done69_mk W j1 j x y true 0 _ vn vs ⟨#[]⟩ _ _ rfl HX.out HY.out _
set_option maxHeartbeats 8000000 in
set_option maxRecDepth 100000 in
theorem read69_b (W : World) (pl : Nat) (A : Option Addr) (c : Nat) (q : List (Int × Int)) (s0 : ByteArray) (j1 : Junk) (hL : LooksL W A q) (hq : q.length ≤ 100) (cl : W.cell? ⟨pl, 0, none⟩ = some (.slice A q.length c)) (B : Option Addr) (cB : Nat) (l : List Int) (hC : ReadsB (wext ((((W.alloc (.cells #[.slice none 0 0] 62)).alloc (.cells #[.slice none 0 0] 63)).alloc (.cells #[.bool false] 4)).alloc (.cells #[.pointer none] 53)) j1) B l) (hl : strOfNums l = s0) (x : List Int) (y : List ByteArray) (s : ByteArray) (hs : ¬ s.size = 0) (h : runQ q s0 [] [] = (x, y, .inl s)) : Calls Try.prog 48 #[.slice B l.length cB, .func (.func 69) #[] #[.pointer (some ⟨W.heap.size + 1 + 1 + 1, 0, none⟩), .pointer (some ⟨pl, 0, none⟩), .pointer (some ⟨W.heap.size, 0, none⟩), .pointer (some ⟨W.heap.size + 1, 0, none⟩), .pointer (some ⟨W.heap.size + 1 + 1, 0, none⟩)]] (wext ((((W.alloc (.cells #[.slice none 0 0] 62)).alloc (.cells #[.slice none 0 0] 63)).alloc (.cells #[.bool false] 4)).alloc (.cells #[.pointer none] 53)) j1) (Done69 W x y true 201) := by
  have hmf : ∀ (fn : Fn) (first cap : Array Value) (w : World), (Instr.makeFunc fn first cap).run Try.prog w = .ok (.func fn first cap) w := fun _ _ _ _ => rfl
  have hcv : ∀ o, (convert 43 9 (.slice B l.length cB)).run Try.prog ((wext ((((W.alloc (.cells #[.slice none 0 0] 62)).alloc (.cells #[.slice none 0 0] 63)).alloc (.cells #[.bool false] 4)).alloc (.cells #[.pointer none] 53)) j1).alloc o) = .ok (.string s0) ((wext ((((W.alloc (.cells #[.slice none 0 0] 62)).alloc (.cells #[.slice none 0 0] 63)).alloc (.cells #[.bool false] 4)).alloc (.cells #[.pointer none] 53)) j1).alloc o) := fun o => by rw [← hl]; exact conv_read hC cB _ ((Below.refl _ _).alloc (Nat.le_refl _) o)
  have htn := toList_nil
  have hnq : ∀ W', (binOp .neq 55 (.func (.func 69) #[] #[.pointer (some ⟨W.heap.size + 1 + 1 + 1, 0, none⟩), .pointer (some ⟨pl, 0, none⟩), .pointer (some ⟨W.heap.size, 0, none⟩), .pointer (some ⟨W.heap.size + 1, 0, none⟩), .pointer (some ⟨W.heap.size + 1 + 1, 0, none⟩)]) .nilFunc).run Try.prog W' = .ok (.bool true) W' := fun _ => by kernel_rfl
  have HL := Lib.hid hL
  have HQ := Lib.hid h
  generalize l.length = n at *
  clear hC hl hL h
  have hne := not_empty6 s hs
  clear hs
  go_enter_defers Try.func48, Try.ntmps48
  go_wp2_with (first | (go_at_call 69; (with_reducible refine (look69_ok W pl A c q s0 j1 HL.out hq cl x y s HQ.out).mono ?_); rintro e1 w1 ⟨rfl, vn, vs, j, rfl, hx, hy⟩; have HX := Lib.hid hx; have HY := Lib.hid hy; clear hx hy) | (go_at_call 89; refine (fail_on _ _ _ (by go_cell)).mono ?_; rintro e1 w1 ⟨rfl, j3, rfl⟩))
  refine leaves_cons (f := 88) (args := #[.pointer (some ⟨(W.heap.size + 1 + 1 + 1 + 1 + j1.l.length + 1 + 1), 0, none⟩), .pointer (some ⟨(W.heap.size + 1 + 1 + 1 + 1 + j1.l.length), 0, none⟩)]) (by simp) (by simp [go_sem]) ?_
  refine (catch_fault (W.heap.size + 1 + 1 + 1 + 1 + j1.l.length + 1 + 1) (W.heap.size + 1 + 1 + 1 + 1 + j1.l.length) (W.heap.size + 1 + 1 + 1 + 1 + j1.l.length + 1) 201 _ _ (by simp [go_sem]) (by simp [go_sem]) (by simp [go_sem]) (by simp [go_sem]; rfl) (by simp [go_sem])).mono ?_
  rintro e u' w'' ⟨rfl, rfl, j2, rfl⟩
  simp [Leaves, settle, results, Try.results48, go_sem]
  exact done69_mk2 W j1 j x y true 201 _ vn vs s _ _ rfl HX.out HY.out _ _
set_option maxHeartbeats 8000000 in
set_option maxRecDepth 100000 in
theorem read69_c (W : World) (pl : Nat) (A : Option Addr) (c : Nat) (q : List (Int × Int)) (s0 : ByteArray) (j1 : Junk) (hL : LooksL W A q) (hq : q.length ≤ 100) (cl : W.cell? ⟨pl, 0, none⟩ = some (.slice A q.length c)) (B : Option Addr) (cB : Nat) (l : List Int) (hC : ReadsB (wext ((((W.alloc (.cells #[.slice none 0 0] 62)).alloc (.cells #[.slice none 0 0] 63)).alloc (.cells #[.bool false] 4)).alloc (.cells #[.pointer none] 53)) j1) B l) (hl : strOfNums l = s0) (x : List Int) (y : List ByteArray) (cc : Int) (h : runQ q s0 [] [] = (x, y, .inr cc)) : Calls Try.prog 48 #[.slice B l.length cB, .func (.func 69) #[] #[.pointer (some ⟨W.heap.size + 1 + 1 + 1, 0, none⟩), .pointer (some ⟨pl, 0, none⟩), .pointer (some ⟨W.heap.size, 0, none⟩), .pointer (some ⟨W.heap.size + 1, 0, none⟩), .pointer (some ⟨W.heap.size + 1 + 1, 0, none⟩)]] (wext ((((W.alloc (.cells #[.slice none 0 0] 62)).alloc (.cells #[.slice none 0 0] 63)).alloc (.cells #[.bool false] 4)).alloc (.cells #[.pointer none] 53)) j1) (Done69 W x y false cc) := by
  have hmf : ∀ (fn : Fn) (first cap : Array Value) (w : World), (Instr.makeFunc fn first cap).run Try.prog w = .ok (.func fn first cap) w := fun _ _ _ _ => rfl
  have hcv : ∀ o, (convert 43 9 (.slice B l.length cB)).run Try.prog ((wext ((((W.alloc (.cells #[.slice none 0 0] 62)).alloc (.cells #[.slice none 0 0] 63)).alloc (.cells #[.bool false] 4)).alloc (.cells #[.pointer none] 53)) j1).alloc o) = .ok (.string s0) ((wext ((((W.alloc (.cells #[.slice none 0 0] 62)).alloc (.cells #[.slice none 0 0] 63)).alloc (.cells #[.bool false] 4)).alloc (.cells #[.pointer none] 53)) j1).alloc o) := fun o => by rw [← hl]; exact conv_read hC cB _ ((Below.refl _ _).alloc (Nat.le_refl _) o)
  have htn := toList_nil
  have hnq : ∀ W', (binOp .neq 55 (.func (.func 69) #[] #[.pointer (some ⟨W.heap.size + 1 + 1 + 1, 0, none⟩), .pointer (some ⟨pl, 0, none⟩), .pointer (some ⟨W.heap.size, 0, none⟩), .pointer (some ⟨W.heap.size + 1, 0, none⟩), .pointer (some ⟨W.heap.size + 1 + 1, 0, none⟩)]) .nilFunc).run Try.prog W' = .ok (.bool true) W' := fun _ => by kernel_rfl
  have HL := Lib.hid hL
  have HQ := Lib.hid h
  generalize l.length = n at *
  clear hC hl hL h
  go_enter_defers Try.func48, Try.ntmps48
  go_wp2_with (go_at_call 69; (with_reducible refine (look69_err W pl A c q s0 j1 HL.out hq cl x y cc HQ.out).mono ?_); rintro e1 w1 ⟨rfl, vn, vs, s, j, rfl, hx, hy⟩; have HX := Lib.hid hx; have HY := Lib.hid hy; clear hx hy)
  refine leaves_cons (f := 88) (args := #[.pointer (some ⟨(W.heap.size + 1 + 1 + 1 + 1 + j1.l.length + 1 + 1), 0, none⟩), .pointer (some ⟨(W.heap.size + 1 + 1 + 1 + 1 + j1.l.length), 0, none⟩)]) (by simp) (by simp [go_sem]) ?_
  refine (catch_fault (W.heap.size + 1 + 1 + 1 + 1 + j1.l.length + 1 + 1) (W.heap.size + 1 + 1 + 1 + 1 + j1.l.length) (W.heap.size + 1 + 1 + 1 + 1 + j1.l.length + 1) cc _ _ (by simp [go_sem]) (by simp [go_sem]) (by simp [go_sem]) (by simp [go_sem]; rfl) (by simp [go_sem])).mono ?_
  rintro e u' w'' ⟨rfl, rfl, j2, rfl⟩
  simp [Leaves, settle, results, Try.results48, go_sem]
  exact done69_mk2 W j1 j x y false cc _ vn vs s _ _ rfl HX.out HY.out _ _
end Go.Proofs.Ytdjmpedfeahajaa

set_option linter.unusedSimpArgs false
set_option linter.unusedVariables false
namespace Go.Proofs.Ytdjmpedfeahajaa
open Go.RowKit Go.Proofs.YtdjmpedfeahajaaW.PrintWords Go.Proofs.YtdjmpedfeahajaaW.PrintLast Go.Proofs.YtdjmpedfeahajaaW.PrintMore

theorem ptake_snoc (l : List UInt8) (i : Nat) (h : i < l.length) : l.take (i + 1) = l.take i ++ [l[i]] := by
  rw [List.take_succ_eq_append_getElem h]
theorem pbt_byte (x : ByteArray) (i : Nat) (h : i < x.data.toList.length) : bt x (i : Int) = ((x.data.toList[i]).toNat : Int) := by
  have h' : i < x.size := by simpa using h
  unfold bt
  rw [dif_pos (by simpa using h')]
  simp [ByteArray.getElem_eq_getElem_data]
theorem pref_l0 (x s : ByteArray) (a b : Int) (d : Bool) (h8 : x.size ≤ 8) : ∀ r i k, i + r = x.size → r + 1 ≤ k →
    Palso.crannogref01_Eye_Num.l0 k x (beNat (x.data.toList.take i) : Int) (x.size : Int) (i : Int) s a d b =
      if (beNat x.data.toList : Int) ≥ 9223372036854775808 then (Palso.crannogref01_Eye_Fail.f s a d b 201).bind fun q => some (0, q.1, q.2.1, q.2.2.1, q.2.2.2) else some (wrap64 (beNat x.data.toList : Int), s, a, d, b) := by
  intro r
  induction r with
  | zero =>
    intro i k hi hk
    obtain ⟨k, rfl⟩ : ∃ k', k = k' + 1 := ⟨k - 1, by omega⟩
    unfold Palso.crannogref01_Eye_Num.l0
    rw [if_neg (by omega), List.take_of_length_le (by simp; omega)]
  | succ r ih =>
    intro i k hi hk
    obtain ⟨k, rfl⟩ : ∃ k', k = k' + 1 := ⟨k - 1, by omega⟩
    have hl : i < x.data.toList.length := by simp; omega
    have hb := beNat_lt (x.data.toList.take i)
    rw [List.length_take_of_le (by omega)] at hb
    have hp : 256 ^ i ≤ 256 ^ 7 := Nat.pow_le_pow_right (by omega) (by omega)
    have h7 : (256 : Nat) ^ 7 = 72057594037927936 := by decide
    have hc := (x.data.toList[i]).toNat_lt
    unfold Palso.crannogref01_Eye_Num.l0
    rw [if_pos (by omega), if_pos (by omega), if_pos (by omega), pbt_byte x i hl]
    have e1 : IntKind.u64.wrap (IntKind.u64.wrap ((beNat (x.data.toList.take i) : Int) * 256) + IntKind.u64.wrap ((x.data.toList[i]).toNat : Int)) = (beNat (x.data.toList.take (i + 1)) : Int) := by
      rw [ptake_snoc _ _ hl, beNat_snoc, IntKind.wrap_u64, IntKind.wrap_u64, IntKind.wrap_u64]
      omega
    have e2 : wrap64 ((i : Int) + 1) = ((i + 1 : Nat) : Int) := by rw [wrap64_eq]; omega
    rw [e1, e2]
    exact ih (i + 1) k (by omega) (by omega)

theorem pref_raw (s : ByteArray) (a n : Nat) (b : Int) (hs : s.size ≤ 1000000) (h : a + n ≤ s.size) : Palso.crannogref01_Eye_Raw.f s (a : Int) false b (n : Int) = some (s.extract a (a + n), s, ((a + n : Nat) : Int), false, b) := by
  have e1 : wrap64 ((s.size : Int) - (a : Int)) = ((s.size - a : Nat) : Int) := by rw [wrap64_eq]; omega
  have e2 : wrap64 ((a : Int) + (n : Int)) = ((a + n : Nat) : Int) := by rw [wrap64_eq]; omega
  have e3 : wrap64 (((a + n : Nat) : Int) - (n : Int)) = (a : Int) := by rw [wrap64_eq]; omega
  unfold Palso.crannogref01_Eye_Raw.f
  rw [if_neg (by simp), if_neg (by omega), e1, if_neg (by omega), e2, e3, if_pos (by omega), if_pos (by omega), if_pos (by omega), Int.toNat_natCast, Int.toNat_natCast]
theorem pref_raw_short (s : ByteArray) (a n : Nat) (b : Int) (hs : s.size ≤ 1000000) (ha : a ≤ s.size) (h : s.size < a + n) : Palso.crannogref01_Eye_Raw.f s (a : Int) false b (n : Int) = some (⟨#[]⟩, s, (a : Int), true, 201) := by
  have e1 : wrap64 ((s.size : Int) - (a : Int)) = ((s.size - a : Nat) : Int) := by rw [wrap64_eq]; omega
  unfold Palso.crannogref01_Eye_Raw.f Palso.crannogref01_Eye_Fail.f
  rw [if_neg (by simp), if_neg (by omega), e1, if_pos (by omega), if_neg (by simp)]
  rfl
theorem pref_num_j (k : Nat) (s : ByteArray) (a b : Int) (d : Bool) (n : Nat) (hd : d = false) (h1 : 1 ≤ n) (h8 : n ≤ 8) : Palso.crannogref01_Eye_Num.f (k + 1) s a d b (n : Int) = (Palso.crannogref01_Eye_Raw.f s a d b (n : Int)).bind fun q => Palso.crannogref01_Eye_Num.l0 k q.1 0 (q.1.size : Int) 0 q.2.1 q.2.2.1 q.2.2.2.1 q.2.2.2.2 := by
  subst hd
  have e : decide ((n : Int) > 8) = false := decide_eq_false (by omega)
  unfold Palso.crannogref01_Eye_Num.f
  rw [if_neg (by simp), if_neg (by omega), e]
  rw [Palso.crannogref01_Eye_Num.j0]
  rfl
theorem pextract_at (s : ByteArray) (a n : Nat) (h : a + n ≤ s.size) : (s.extract a s.size).extract 0 n = s.extract a (a + n) := by
  rw [ByteArray.extract_extract]
  congr 1
  omega
theorem pextract_on (s : ByteArray) (a n : Nat) (h : a + n ≤ s.size) : (s.extract a s.size).extract n (s.extract a s.size).size = s.extract (a + n) s.size := by
  rw [ByteArray.extract_extract]
  congr 1
  simp; omega
theorem pref_l0_nil (k : Nat) (s : ByteArray) (a b : Int) (d : Bool) : Palso.crannogref01_Eye_Num.l0 (k + 18 + 1) ⟨#[]⟩ 0 0 0 s a d b = some (0, s, a, d, b) := by
  have hw : wrap64 0 = 0 := by rw [wrap64_eq]; omega
  unfold Palso.crannogref01_Eye_Num.l0
  rw [if_neg (by omega), if_neg (by omega), hw]
theorem pref_num_short (k : Nat) (s : ByteArray) (a n : Nat) (b : Int) (hs : s.size ≤ 1000000) (ha : a ≤ s.size) (h1 : 1 ≤ n) (h8 : n ≤ 8) (h : s.size < a + n) :
    Palso.crannogref01_Eye_Num.f (k + 20) s (a : Int) false b (n : Int) = some (0, s, (a : Int), true, 201) := by
  rw [pref_num_j (k + 19) s a b false n rfl h1 h8, pref_raw_short s a n b hs ha h]
  show Palso.crannogref01_Eye_Num.l0 (k + 19) ⟨#[]⟩ 0 ((⟨#[]⟩ : ByteArray).size : Int) 0 s (a : Int) true 201 = _
  exact pref_l0_nil k s (a : Int) 201 true
theorem pref_num_done (k : Nat) (s : ByteArray) (a b n : Int) : Palso.crannogref01_Eye_Num.f k s a true b n = some (0, s, a, true, b) := by
  unfold Palso.crannogref01_Eye_Num.f
  rw [if_pos rfl]
theorem pnum_ok (s t : ByteArray) (a m : Nat) (n b : Int) (hs : s.size ≤ 1000000) (ha : a ≤ s.size) (h : numP (s.extract a s.size) n = .ok (m, t)) :
    ∃ a', (∀ k, Palso.crannogref01_Eye_Num.f (k + 20) s (a : Int) false b n = some ((m : Int), s, ((a' : Nat) : Int), false, b)) ∧ t = s.extract a' s.size ∧ a' ≤ s.size := by
  unfold numP at h
  split at h
  · rename_i hn
    obtain ⟨j, rfl⟩ : ∃ j : Nat, n = (j : Int) := ⟨n.toNat, by omega⟩
    split at h
    · cases h
    · rename_i hz
      have hsz : a + j ≤ s.size := by simp at hz; omega
      split at h
      · rename_i hv
        injection h with h
        injection h with h1 h2
        rw [Int.toNat_natCast] at h1 h2 hv
        rw [pextract_on s a j hsz] at h2
        unfold numOf at h1 hv
        rw [pextract_at s a j hsz] at h1 hv
        have hx : (s.extract a (a + j)).size = j := by simp; omega
        refine ⟨a + j, fun k => ?_, h2.symm, hsz⟩
        rw [pref_num_j (k + 19) s a b false j rfl (by omega) (by omega), pref_raw s a j b hs hsz]
        show Palso.crannogref01_Eye_Num.l0 (k + 19) (s.extract a (a + j)) 0 ((s.extract a (a + j)).size : Int) 0 s ((a + j : Nat) : Int) false b = _
        have := pref_l0 (s.extract a (a + j)) s ((a + j : Nat) : Int) b false (by omega) j 0 (k + 19) (by omega) (by omega)
        simp only [List.take_zero, beNat_nil] at this
        refine this.trans ?_
        rw [h1] at hv
        rw [h1, if_neg (by omega)]
        have e : wrap64 (m : Int) = (m : Int) := by rw [wrap64_eq]; omega
        rw [e]
      · cases h
  · cases h
theorem pfail_live (s : ByteArray) (a b c : Int) : Palso.crannogref01_Eye_Fail.f s a false b c = some (s, a, true, c) := by unfold Palso.crannogref01_Eye_Fail.f; rw [if_neg (by simp)]
theorem pnum_err (s : ByteArray) (a : Nat) (n b c : Int) (hs : s.size ≤ 1000000) (ha : a ≤ s.size) (h : numP (s.extract a s.size) n = .error c) :
    ∃ a' : Nat, ∀ k, Palso.crannogref01_Eye_Num.f (k + 20) s (a : Int) false b n = some (0, s, (a' : Int), true, c) := by
  unfold numP at h
  split at h
  · rename_i hn
    obtain ⟨j, rfl⟩ : ∃ j : Nat, n = (j : Int) := ⟨n.toNat, by omega⟩
    split at h
    · rename_i hz
      injection h with h
      subst h
      have hsz : s.size < a + j := by simp at hz; omega
      exact ⟨a, fun k => pref_num_short k s a j b hs ha (by omega) (by omega) hsz⟩
    · rename_i hz
      have hsz : a + j ≤ s.size := by simp at hz; omega
      split at h
      · cases h
      · rename_i hv
        injection h with h
        subst h
        rw [Int.toNat_natCast] at hv
        unfold numOf at hv
        rw [pextract_at s a j hsz] at hv
        have hx : (s.extract a (a + j)).size = j := by simp; omega
        refine ⟨a + j, fun k => ?_⟩
        rw [pref_num_j (k + 19) s a b false j rfl (by omega) (by omega), pref_raw s a j b hs hsz]
        show Palso.crannogref01_Eye_Num.l0 (k + 19) (s.extract a (a + j)) 0 ((s.extract a (a + j)).size : Int) 0 s ((a + j : Nat) : Int) false b = _
        have := pref_l0 (s.extract a (a + j)) s ((a + j : Nat) : Int) b false (by omega) j 0 (k + 19) (by omega) (by omega)
        simp only [List.take_zero, beNat_nil] at this
        refine this.trans ?_
        rw [if_pos (by omega), pfail_live]
        rfl
  · rename_i hn
    injection h with h
    subst h
    refine ⟨a, fun k => ?_⟩
    unfold Palso.crannogref01_Eye_Num.f
    rw [if_neg (by simp)]
    by_cases h1 : n < 1
    · rw [if_pos h1, Palso.crannogref01_Eye_Num.j0]
      rw [if_pos rfl, pfail_live]
      rfl
    · have e : decide (n > 8) = true := decide_eq_true (by omega)
      rw [if_neg h1, e, Palso.crannogref01_Eye_Num.j0]
      rw [if_pos rfl, pfail_live]
      rfl
theorem praw_ok (s x t : ByteArray) (a : Nat) (n b : Int) (hs : s.size ≤ 1000000) (ha : a ≤ s.size) (h : rawP (s.extract a s.size) n = .ok (x, t)) :
    ∃ a', Palso.crannogref01_Eye_Raw.f s (a : Int) false b n = some (x, s, ((a' : Nat) : Int), false, b) ∧ t = s.extract a' s.size ∧ a' ≤ s.size := by
  unfold rawP at h
  split at h
  · cases h
  · rename_i hz
    obtain ⟨j, rfl⟩ : ∃ j : Nat, n = (j : Int) := ⟨n.toNat, by omega⟩
    have hsz : a + j ≤ s.size := by simp at hz; omega
    injection h with h
    injection h with h1 h2
    rw [Int.toNat_natCast] at h1 h2
    rw [pextract_at s a j hsz] at h1
    rw [pextract_on s a j hsz] at h2
    subst h1; subst h2
    exact ⟨a + j, pref_raw s a j b hs hsz, rfl, hsz⟩
theorem praw_err (s : ByteArray) (a : Nat) (n b c : Int) (hs : s.size ≤ 1000000) (ha : a ≤ s.size) (h : rawP (s.extract a s.size) n = .error c) :
    Palso.crannogref01_Eye_Raw.f s (a : Int) false b n = some (⟨#[]⟩, s, (a : Int), true, c) := by
  unfold rawP at h
  split at h
  · rename_i hz
    injection h with h
    subst h
    by_cases h0 : n < 0
    · unfold Palso.crannogref01_Eye_Raw.f
      rw [if_neg (by simp), if_pos h0, pfail_live]
      rfl
    · obtain ⟨j, rfl⟩ : ∃ j : Nat, n = (j : Int) := ⟨n.toNat, by omega⟩
      exact pref_raw_short s a j b hs ha (by simp at hz; omega)
  · cases h
theorem praw_done (s : ByteArray) (a b n : Int) : Palso.crannogref01_Eye_Raw.f s a true b n = some (⟨#[]⟩, s, a, true, b) := by
  unfold Palso.crannogref01_Eye_Raw.f
  rw [if_pos rfl]
theorem ptext_ok (s x t : ByteArray) (a : Nat) (n b : Int) (hs : s.size ≤ 1000000) (ha : a ≤ s.size) (h : textP (s.extract a s.size) n = .ok (x, t)) :
    ∃ a', (∀ k, Palso.crannogref01_Eye_Text.f (k + 20) s (a : Int) false b n = some (x, s, ((a' : Nat) : Int), false, b)) ∧ t = s.extract a' s.size ∧ a' ≤ s.size := by
  unfold textP at h
  split at h
  · cases h
  · rename_i q hq
    obtain ⟨m, u⟩ := q
    obtain ⟨a1, e1, rfl, l1⟩ := pnum_ok s u a m 2 b hs ha hq
    simp only at h
    split at h
    · cases h
    · rename_i hm
      obtain ⟨a2, e2, h2, l2⟩ := praw_ok s x t a1 (m : Int) b hs l1 h
      refine ⟨a2, fun k => ?_, h2, l2⟩
      unfold Palso.crannogref01_Eye_Text.f
      rw [e1]
      simp only [Option.bind_some]
      rw [if_neg (by omega), e2]
      rfl
theorem ptext_err (s : ByteArray) (a : Nat) (n b c : Int) (hs : s.size ≤ 1000000) (ha : a ≤ s.size) (h : textP (s.extract a s.size) n = .error c) :
    ∃ a' : Nat, ∀ k, Palso.crannogref01_Eye_Text.f (k + 20) s (a : Int) false b n = some (⟨#[]⟩, s, (a' : Int), true, c) := by
  unfold textP at h
  split at h
  · rename_i c' hq
    injection h with h
    subst h
    obtain ⟨a1, e1⟩ := pnum_err s a 2 b c' hs ha hq
    refine ⟨a1, fun k => ?_⟩
    unfold Palso.crannogref01_Eye_Text.f
    rw [e1]
    simp only [Option.bind_some]
    have hf : Palso.crannogref01_Eye_Fail.f s (a1 : Int) true c' 203 = some (s, (a1 : Int), true, c') := by unfold Palso.crannogref01_Eye_Fail.f; rw [if_pos rfl]
    split
    · rw [hf]
      simp only [Option.bind_some]
      rw [praw_done]
      rfl
    · rw [praw_done]
      rfl
  · rename_i q hq
    obtain ⟨m, u⟩ := q
    obtain ⟨a1, e1, rfl, l1⟩ := pnum_ok s u a m 2 b hs ha hq
    simp only at h
    split at h
    · rename_i hm
      injection h with h
      subst h
      refine ⟨a1, fun k => ?_⟩
      unfold Palso.crannogref01_Eye_Text.f
      rw [e1]
      simp only [Option.bind_some]
      rw [if_pos (by omega), pfail_live]
      simp only [Option.bind_some]
      rw [praw_done]
      rfl
    · rename_i hm
      have e2 := praw_err s a1 (m : Int) b c hs l1 h
      refine ⟨a1, fun k => ?_⟩
      unfold Palso.crannogref01_Eye_Text.f
      rw [e1]
      simp only [Option.bind_some]
      rw [if_neg (by omega), e2]
      rfl
theorem pleft_live (s : ByteArray) (a : Nat) (b : Int) (hs : s.size ≤ 1000000) (ha : a ≤ s.size) : Palso.crannogref01_Eye_Left.f s (a : Int) false b = some (((s.extract a s.size).size : Int), s, (a : Int), false, b) := by
  have e1 : wrap64 ((s.size : Int) - (a : Int)) = ((s.extract a s.size).size : Int) := by rw [wrap64_eq]; simp; omega
  unfold Palso.crannogref01_Eye_Left.f
  rw [if_neg (by simp), e1]
end Go.Proofs.Ytdjmpedfeahajaa

set_option linter.unusedSimpArgs false
set_option linter.unusedVariables false
namespace Go.Proofs.Ytdjmpedfeahajaa
open Go.RowKit Go.Proofs.YtdjmpedfeahajaaW.PrintWords Go.Proofs.YtdjmpedfeahajaaW.PrintLast Go.Proofs.YtdjmpedfeahajaaW.PrintMore

theorem also_ok (s : ByteArray) (L : List Palso.S84) (i a : Nat) (x : List Int) (y : List ByteArray) (b m n : Int) (x1 : List Int) (y1 : List ByteArray) (t : ByteArray) (hs : s.size ≤ 1000000) (ha : a ≤ s.size) (hi : i < L.length) (hi2 : i ≤ 1000) (hx : x.length ≤ 1000) (hy : y.length ≤ 1000) (hm : Go.bits .and .i64 (Palso.rd_T84 L (i : Int)).f0 7 = m) (hn : (Palso.rd_T84 L (i : Int)).f1 = n) (h : ask (s.extract a s.size) m n = .ok (x1, y1, t)) :
    ∃ a' : Nat, t = s.extract a' s.size ∧ a' ≤ s.size ∧ ∀ k r, (∀ K, k ≤ K → Palso.crannoglaw01_also.l0 K (x ++ x1) (y ++ y1) L (L.length : Int) ((i + 1 : Nat) : Int) s (a' : Int) false b = some r) → Palso.crannoglaw01_also.l0 (k + 24) x y L (L.length : Int) (i : Int) s (a : Int) false b = some r := by
  have c1 : (i : Int) < (L.length : Int) := by omega
  have c2 : (0 : Int) ≤ (i : Int) := by omega
  have hw : wrap64 ((i : Int) + 1) = ((i + 1 : Nat) : Int) := by rw [wrap64_eq]; omega
  unfold ask at h
  split at h
  · rename_i h0
    split at h
    · cases h
    · rename_i q hq
      obtain ⟨v, u⟩ := q
      injection h with h
      simp only [Prod.mk.injEq] at h
      obtain ⟨rfl, rfl, rfl⟩ := h
      obtain ⟨a', e, h2, l2⟩ := pnum_ok s u a v n b hs ha hq
      refine ⟨a', h2, l2, fun k r Hc => ?_⟩
      have e' : Palso.crannogref01_Eye_Num.f (k + 23) s (a : Int) false b n = some ((v : Int), s, (a' : Int), false, b) := e (k + 3)
      have b0 : ((m == 0) : Bool) = true := by rw [h0]; rfl
      rw [List.append_nil] at Hc
      rw [show k + 24 = (k + 23) + 1 from rfl, Palso.crannoglaw01_also.l0, if_pos c1, if_pos c2, if_pos c1, hm, if_pos h0, hn, e']
      rw [Option.bind_some]
      rw [show k + 23 = (k + 22) + 1 from rfl, Palso.crannoglaw01_also.j2, if_neg (by simp), hm, if_pos h0, show k + 22 = (k + 21) + 1 from rfl, Palso.crannoglaw01_also.j3, if_pos b0, if_pos (by omega), hw]
      exact Hc (k + 21) (by omega)
  split at h
  · rename_i h0 h1
    split at h
    · cases h
    · rename_i q hq
      obtain ⟨v, u⟩ := q
      injection h with h
      simp only [Prod.mk.injEq] at h
      obtain ⟨rfl, rfl, rfl⟩ := h
      obtain ⟨a', e, h2, l2⟩ := ptext_ok s v u a n b hs ha hq
      refine ⟨a', h2, l2, fun k r Hc => ?_⟩
      rw [List.append_nil] at Hc
      have e' : Palso.crannogref01_Eye_Text.f (k + 22) s (a : Int) false b n = some (v, s, (a' : Int), false, b) := e (k + 2)
      have b1 : ((m == 1) : Bool) = true := by rw [h1]; rfl
      have b3 : ¬ ((m == 3) : Bool) = true := by rw [h1]; decide
      rw [show k + 24 = (k + 23) + 1 from rfl, Palso.crannoglaw01_also.l0, if_pos c1, if_pos c2, if_pos c1, hm, if_neg h0, if_pos h1, hn]
      rw [show k + 23 = (k + 22) + 1 from rfl, Palso.crannoglaw01_also.j1, if_pos b1, hm, if_pos h1, e']
      rw [Option.bind_some]
      rw [show k + 22 = (k + 21) + 1 from rfl, Palso.crannoglaw01_also.j2, if_neg (by simp), hm, if_neg h0, show k + 21 = (k + 20) + 1 from rfl, Palso.crannoglaw01_also.j3, if_neg b3, if_pos h1, if_pos (by omega), hw]
      exact Hc (k + 20) (by omega)
  split at h
  · rename_i h0 h1' h1
    split at h
    · cases h
    · rename_i q hq
      obtain ⟨v, u⟩ := q
      injection h with h
      simp only [Prod.mk.injEq] at h
      obtain ⟨rfl, rfl, rfl⟩ := h
      obtain ⟨a', e, h2, l2⟩ := praw_ok s v u a n b hs ha hq
      refine ⟨a', h2, l2, fun k r Hc => ?_⟩
      rw [List.append_nil] at Hc
      have b2 : ((m == 2) : Bool) = true := by rw [h1]; rfl
      have b3 : ¬ ((m == 3) : Bool) = true := by rw [h1]; decide
      rw [show k + 24 = (k + 23) + 1 from rfl, Palso.crannoglaw01_also.l0, if_pos c1, if_pos c2, if_pos c1, hm, if_neg h0, if_neg h1', hn]
      rw [show k + 23 = (k + 22) + 1 from rfl, Palso.crannoglaw01_also.j1, if_pos b2, hm, if_neg h1', e]
      rw [Option.bind_some]
      rw [show k + 22 = (k + 21) + 1 from rfl, Palso.crannoglaw01_also.j2, if_neg (by simp), hm, if_neg h0, show k + 21 = (k + 20) + 1 from rfl, Palso.crannoglaw01_also.j3, if_neg b3, if_neg h1', if_pos h1, if_pos (by omega), hw]
      exact Hc (k + 20) (by omega)
  split at h
  · rename_i h0 h1 h2 h3
    injection h with h
    simp only [Prod.mk.injEq] at h
    obtain ⟨rfl, rfl, rfl⟩ := h
    refine ⟨a, rfl, ha, fun k r Hc => ?_⟩
    rw [List.append_nil] at Hc
    have b2 : ¬ ((m == 2) : Bool) = true := by rw [h3]; decide
    have b3 : ((m == 3) : Bool) = true := by rw [h3]; decide
    rw [show k + 24 = (k + 23) + 1 from rfl, Palso.crannoglaw01_also.l0, if_pos c1, if_pos c2, if_pos c1, hm, if_neg h0, if_neg h1, hn]
    rw [show k + 23 = (k + 22) + 1 from rfl, Palso.crannoglaw01_also.j1, if_neg b2, if_pos h3, pleft_live s a b hs ha]
    rw [Option.bind_some]
    rw [show k + 22 = (k + 21) + 1 from rfl, Palso.crannoglaw01_also.j2, if_neg (by simp), hm, if_neg h0, show k + 21 = (k + 20) + 1 from rfl, Palso.crannoglaw01_also.j3, if_pos b3, if_pos (by omega), hw]
    exact Hc (k + 20) (by omega)
  split at h
  · cases h
  · rename_i h0 h1 h2 h3 h4
    injection h with h
    simp only [Prod.mk.injEq] at h
    obtain ⟨rfl, rfl, rfl⟩ := h
    refine ⟨a, rfl, ha, fun k r Hc => ?_⟩
    rw [List.append_nil, List.append_nil] at Hc
    have b2 : ¬ ((m == 2) : Bool) = true := by simpa using h2
    have b3 : ¬ ((m == 3) : Bool) = true := by simpa using h3
    rw [show k + 24 = (k + 23) + 1 from rfl, Palso.crannoglaw01_also.l0, if_pos c1, if_pos c2, if_pos c1, hm, if_neg h0, if_neg h1, hn]
    rw [show k + 23 = (k + 22) + 1 from rfl, Palso.crannoglaw01_also.j1, if_neg b2, if_neg h3, if_neg h4]
    rw [show k + 22 = (k + 21) + 1 from rfl, Palso.crannoglaw01_also.j2, if_neg (by simp), hm, if_neg h0, show k + 21 = (k + 20) + 1 from rfl, Palso.crannoglaw01_also.j3, if_neg b3, if_neg h1, if_neg h2, hw]
    exact Hc (k + 20) (by omega)
theorem also_err (s : ByteArray) (L : List Palso.S84) (i a : Nat) (x : List Int) (y : List ByteArray) (b m n : Int) (c : Int) (hs : s.size ≤ 1000000) (ha : a ≤ s.size) (hi : i < L.length) (hi2 : i ≤ 1000) (hx : x.length ≤ 1000) (hy : y.length ≤ 1000) (hm : Go.bits .and .i64 (Palso.rd_T84 L (i : Int)).f0 7 = m) (hn : (Palso.rd_T84 L (i : Int)).f1 = n) (h : ask (s.extract a s.size) m n = .error c) :
    ∃ a' : Nat, ∀ k, Palso.crannoglaw01_also.l0 (k + 24) x y L (L.length : Int) (i : Int) s (a : Int) false b = some (x, y, true, s, (a' : Int), true, c) := by
  have c1 : (i : Int) < (L.length : Int) := by omega
  have c2 : (0 : Int) ≤ (i : Int) := by omega
  have hw : wrap64 ((i : Int) + 1) = ((i + 1 : Nat) : Int) := by rw [wrap64_eq]; omega
  unfold ask at h
  split at h
  · rename_i h0
    split at h
    · rename_i c' hq
      injection h with h
      subst h
      obtain ⟨a', e⟩ := pnum_err s a n b c' hs ha hq
      refine ⟨a', fun k => ?_⟩
      have e' : Palso.crannogref01_Eye_Num.f (k + 23) s (a : Int) false b n = some (0, s, (a' : Int), true, c') := e (k + 3)
      rw [show k + 24 = (k + 23) + 1 from rfl, Palso.crannoglaw01_also.l0, if_pos c1, if_pos c2, if_pos c1, hm, if_pos h0, hn, e']
      rw [Option.bind_some]
      rw [show k + 23 = (k + 22) + 1 from rfl, Palso.crannoglaw01_also.j2, if_pos rfl]
    · cases h
  split at h
  · rename_i h0 h1
    split at h
    · rename_i c' hq
      injection h with h
      subst h
      obtain ⟨a', e⟩ := ptext_err s a n b c' hs ha hq
      refine ⟨a', fun k => ?_⟩
      have e' : Palso.crannogref01_Eye_Text.f (k + 22) s (a : Int) false b n = some (⟨#[]⟩, s, (a' : Int), true, c') := e (k + 2)
      have b1 : ((m == 1) : Bool) = true := by rw [h1]; rfl
      rw [show k + 24 = (k + 23) + 1 from rfl, Palso.crannoglaw01_also.l0, if_pos c1, if_pos c2, if_pos c1, hm, if_neg h0, if_pos h1, hn]
      rw [show k + 23 = (k + 22) + 1 from rfl, Palso.crannoglaw01_also.j1, if_pos b1, hm, if_pos h1, e']
      rw [Option.bind_some]
      rw [show k + 22 = (k + 21) + 1 from rfl, Palso.crannoglaw01_also.j2, if_pos rfl]
    · cases h
  split at h
  · rename_i h0 h1 h2
    split at h
    · rename_i c' hq
      injection h with h
      subst h
      refine ⟨a, fun k => ?_⟩
      have b2 : ((m == 2) : Bool) = true := by rw [h2]; rfl
      rw [show k + 24 = (k + 23) + 1 from rfl, Palso.crannoglaw01_also.l0, if_pos c1, if_pos c2, if_pos c1, hm, if_neg h0, if_neg h1, hn]
      rw [show k + 23 = (k + 22) + 1 from rfl, Palso.crannoglaw01_also.j1, if_pos b2, hm, if_neg h1, praw_err s a n b c' hs ha hq]
      rw [Option.bind_some]
      rw [show k + 22 = (k + 21) + 1 from rfl, Palso.crannoglaw01_also.j2, if_pos rfl]
    · cases h
  split at h
  · cases h
  split at h
  · rename_i h0 h1 h2 h3 h4
    injection h with h
    subst h
    refine ⟨a, fun k => ?_⟩
    have b2 : ¬ ((m == 2) : Bool) = true := by simpa using h2
    rw [show k + 24 = (k + 23) + 1 from rfl, Palso.crannoglaw01_also.l0, if_pos c1, if_pos c2, if_pos c1, hm, if_neg h0, if_neg h1, hn]
    rw [show k + 23 = (k + 22) + 1 from rfl, Palso.crannoglaw01_also.j1, if_neg b2, if_neg h3, if_pos h4, pfail_live]
    rw [Option.bind_some]
    rw [show k + 22 = (k + 21) + 1 from rfl, Palso.crannoglaw01_also.j2, if_pos rfl]
  · cases h
/-- The questions as the reference's list of them. -/
def lookS (q : List (Int × Int)) : List Palso.S84 := q.map fun p => ⟨p.1, p.2⟩
theorem lookS_at (q : List (Int × Int)) (i : Nat) (hi : i < q.length) : Palso.rd_T84 (lookS q) (i : Int) = ⟨(q.getD i (0, 0)).1, (q.getD i (0, 0)).2⟩ := by
  unfold Palso.rd_T84 lookS
  rw [Int.toNat_natCast, List.getD_eq_getElem?_getD, List.getElem?_map, List.getD_eq_getElem?_getD, List.getElem?_eq_getElem hi]
  rfl
theorem also_run (s : ByteArray) (q : List (Int × Int)) (b : Int) (hs : s.size ≤ 1000000) (hq : q.length ≤ 100) : ∀ r i a x y, i + r = q.length → a ≤ s.size → x.length ≤ i → y.length ≤ i →
    (∀ X Y t, runQ (q.drop i) (s.extract a s.size) x y = (X, Y, .inl t) → ∃ a' : Nat, t = s.extract a' s.size ∧ a' ≤ s.size ∧ ∀ K, 24 * r + 1 ≤ K → Palso.crannoglaw01_also.l0 K x y (lookS q) ((lookS q).length : Int) (i : Int) s (a : Int) false b = some (X, Y, false, s, (a' : Int), false, b)) ∧
    (∀ X Y c, runQ (q.drop i) (s.extract a s.size) x y = (X, Y, .inr c) → ∃ a' : Nat, ∀ K, 24 * r + 1 ≤ K → Palso.crannoglaw01_also.l0 K x y (lookS q) ((lookS q).length : Int) (i : Int) s (a : Int) false b = some (X, Y, true, s, (a' : Int), true, c)) := by
  intro r
  have hlen : (lookS q).length = q.length := by simp [lookS]
  induction r with
  | zero =>
    intro i a x y hi ha hx hy
    rw [List.drop_of_length_le (by omega)]
    refine ⟨fun X Y t h => ?_, fun X Y c h => ?_⟩
    · simp only [runQ, Prod.mk.injEq, Sum.inl.injEq] at h
      obtain ⟨rfl, rfl, rfl⟩ := h
      refine ⟨a, rfl, ha, fun K hK => ?_⟩
      obtain ⟨K, rfl⟩ : ∃ K', K = K' + 1 := ⟨K - 1, by omega⟩
      rw [Palso.crannoglaw01_also.l0, if_neg (by omega)]
    · simp [runQ] at h
  | succ r ih =>
    intro i a x y hi ha hx hy
    have hil : i < q.length := by omega
    have hr := runQ_drop q i hil (s.extract a s.size) x y
    have hat := lookS_at q i hil
    rw [hr]
    cases ha' : ask (s.extract a s.size) (bits .and .i64 (q.getD i (0, 0)).1 7) (q.getD i (0, 0)).2 with
    | error c =>
      obtain ⟨a', e⟩ := also_err s (lookS q) i a x y b _ _ c hs ha (by omega) (by omega) (by omega) (by omega) (by rw [hat]) (by rw [hat]) ha'
      refine ⟨fun X Y t h => ?_, fun X Y c' h => ?_⟩
      · simp at h
      · simp only [Prod.mk.injEq, Sum.inr.injEq] at h
        obtain ⟨rfl, rfl, rfl⟩ := h
        refine ⟨a', fun K hK => ?_⟩
        obtain ⟨K, rfl⟩ : ∃ K', K = K' + 24 := ⟨K - 24, by omega⟩
        exact e K
    | ok v =>
      obtain ⟨x1, y1, t⟩ := v
      obtain ⟨a1, rfl, l1, e⟩ := also_ok s (lookS q) i a x y b _ _ x1 y1 t hs ha (by omega) (by omega) (by omega) (by omega) (by rw [hat]) (by rw [hat]) ha'
      have hl := ask_len ha'
      obtain ⟨ih1, ih2⟩ := ih (i + 1) a1 (x ++ x1) (y ++ y1) (by omega) l1 (by rw [List.length_append]; omega) (by rw [List.length_append]; omega)
      refine ⟨fun X Y t h => ?_, fun X Y c h => ?_⟩
      · obtain ⟨a', h1, h2, h3⟩ := ih1 X Y t h
        refine ⟨a', h1, h2, fun K hK => ?_⟩
        obtain ⟨K, rfl⟩ : ∃ K', K = K' + 24 := ⟨K - 24, by omega⟩
        exact e K _ fun K' hK' => h3 K' (by omega)
      · obtain ⟨a', h3⟩ := ih2 X Y c h
        refine ⟨a', fun K hK => ?_⟩
        obtain ⟨K, rfl⟩ : ∃ K', K = K' + 24 := ⟨K - 24, by omega⟩
        exact e K _ fun K' hK' => h3 K' (by omega)
theorem runQ_len : ∀ (q : List (Int × Int)) (s : ByteArray) (x : List Int) (y : List ByteArray), (runQ q s x y).1.length ≤ x.length + q.length ∧ (runQ q s x y).2.1.length ≤ y.length + q.length
  | [], s, x, y => by simp [runQ]
  | p :: q, s, x, y => by
    unfold runQ
    split
    · constructor <;> simp
    · rename_i r hr
      obtain ⟨x1, y1, t⟩ := r
      have hl := ask_len hr
      have := runQ_len q t (x ++ x1) (y ++ y1)
      simp only [List.length_append, List.length_cons] at this ⊢
      omega
end Go.Proofs.Ytdjmpedfeahajaa

set_option linter.unusedSimpArgs false
set_option linter.unusedVariables false
namespace Go.Proofs.Ytdjmpedfeahajaa
open Go.RowKit Go.Proofs.YtdjmpedfeahajaaW.PrintWords Go.Proofs.YtdjmpedfeahajaaW.PrintLast Go.Proofs.YtdjmpedfeahajaaW.PrintMore

/-- The reference's eye as a block. -/
abbrev eyeO (s : ByteArray) (a : Int) (d : Bool) (b : Int) : Obj := .cells #[.string s, .int .i64 a, .bool d, .int .i64 b] 80
/-- The world with another eye in the place of one. -/
def putEye (w : World) (g : Nat) (s : ByteArray) (a : Int) (d : Bool) (b : Int) : World := { w with heap := w.heap.setIfInBounds g (eyeO s a d b) }
def EyeAt (W : World) (g : Nat) (s : ByteArray) (a : Int) (d : Bool) (b : Int) : Prop := W.heap[g]? = some (eyeO s a d b)
abbrev eyeQ (g : Nat) : Value := .pointer (some ⟨g, 0, none⟩)
theorem EyeAt.lt {W : World} {g : Nat} {s : ByteArray} {a b : Int} {d : Bool} (h : EyeAt W g s a d b) : g < W.heap.size := by
  obtain ⟨hlt, _⟩ := Array.getElem?_eq_some_iff.1 h
  exact hlt
theorem EyeAt.ext {W : World} {g : Nat} {s : ByteArray} {a b : Int} {d : Bool} (h : EyeAt W g s a d b) (j : Junk) : EyeAt (wext W j) g s a d b := by
  have hl := h.lt
  unfold EyeAt wext
  simp only
  rw [Array.getElem?_append_left hl]
  exact h
theorem EyeAt.alloc {W : World} {g : Nat} {s : ByteArray} {a b : Int} {d : Bool} (h : EyeAt W g s a d b) (o : Obj) : EyeAt (W.alloc o) g s a d b := by
  have hl := h.lt
  unfold EyeAt World.alloc
  simp only
  rw [Array.getElem?_push_lt hl]
  exact congrArg some (Array.getElem?_eq_some_iff.1 h).2
theorem EyeAt.drew {W : World} {g : Nat} {s : ByteArray} {a b : Int} {d : Bool} (h : EyeAt W g s a d b) : EyeAt W.drew g s a d b := h
theorem EyeAt.put {W : World} {g : Nat} (h : g < W.heap.size) (s : ByteArray) (a : Int) (d : Bool) (b : Int) : EyeAt (putEye W g s a d b) g s a d b := by
  unfold EyeAt putEye
  simp only
  rw [Array.getElem?_setIfInBounds, if_pos rfl, if_pos h]
theorem EyeAt.new (W : World) (s : ByteArray) (a : Int) (d : Bool) (b : Int) : EyeAt (W.alloc (eyeO s a d b)) W.heap.size s a d b := by
  unfold EyeAt World.alloc
  simp
@[go_sem, simp] theorem putEye_size (w : World) (g : Nat) (s : ByteArray) (a : Int) (d : Bool) (b : Int) : (putEye w g s a d b).heap.size = w.heap.size := by simp [putEye]
@[go_sem] theorem putEye_twice (w : World) (g : Nat) (s : ByteArray) (a : Int) (d : Bool) (b : Int) (s' : ByteArray) (a' : Int) (d' : Bool) (b' : Int) : putEye (putEye w g s a d b) g s' a' d' b' = putEye w g s' a' d' b' := by simp [putEye]
@[go_sem] theorem putEye_alloc (w : World) (o : Obj) (g : Nat) (s : ByteArray) (a : Int) (d : Bool) (b : Int) (h : leB (g + 1) w.heap.size = true) : putEye (w.alloc o) g s a d b = (putEye w g s a d b).alloc o := by
  have hl := of_leB h
  unfold putEye World.alloc
  simp only
  congr 1
  apply Array.ext_getElem?
  intro i
  simp only [Array.getElem?_setIfInBounds, Array.getElem?_push, Array.size_setIfInBounds, Array.size_push]
  repeat' split
  all_goals first | rfl | omega | simp_all
@[go_sem] theorem putEye_ext (w : World) (j : Junk) (g : Nat) (s : ByteArray) (a : Int) (d : Bool) (b : Int) (h : leB (g + 1) w.heap.size = true) : putEye (wext w j) g s a d b = wext (putEye w g s a d b) j := by
  have hl := of_leB h
  unfold putEye wext
  simp only
  congr 1
  rw [Array.setIfInBounds_append_left hl]
@[go_sem] theorem putEye_top (w : World) (C : Array Value) (t : TypeId) (f : Nat × Nat) (g : Nat) (s : ByteArray) (a : Int) (d : Bool) (b : Int) (h : g = w.heap.size) : putEye (w.alloc (.cells C t f)) g s a d b = w.alloc (eyeO s a d b) := by
  subst h
  unfold putEye World.alloc
  simp only
  congr 1
  apply Array.ext_getElem?
  intro i
  simp only [Array.getElem?_setIfInBounds, Array.getElem?_push, Array.size_setIfInBounds, Array.size_push]
  repeat' split
  all_goals first | rfl | omega | simp_all
theorem putEye_of {w w' : World} {g : Nat} {s : ByteArray} {a b : Int} {d : Bool} (hg : g < w.heap.size) (h : EyeAt w' g s a d b) (hk : KeepBut w w' g none) (ho : w'.os = w.os) (ht : w'.tape = w.tape) (hp : w'.output = w.output) : ∃ j, w' = wext (putEye w g s a d b) j := by
  refine w_ext_of_below ⟨ho, ht, hp, by rw [putEye_size]; exact hk.1, ?_⟩
  intro k hkk
  rw [putEye_size] at hkk
  by_cases e : k = g
  · subst e
    rw [h, EyeAt.put hg]
  · rw [hk.2 k hkk e (by simp)]
    unfold putEye
    simp only
    rw [Array.getElem?_setIfInBounds, if_neg (fun h => e h.symm)]
/-- The world of no blocks. -/
def bare (w : World) : World := { w with heap := #[] }
theorem bare_below (w : World) : Below (bare w).heap.size (bare w) w := ⟨rfl, rfl, rfl, Nat.zero_le _, fun k hk => absurd hk (Nat.not_lt_zero _)⟩
theorem rend_any (g : Nat) (s s' : ByteArray) (a a' b b' m : Int) (d d' : Bool) (w : World) (h : EyeAt w g s a d b) (hf : PEnd.crannogref01_Eye_End.f s a d b = some (m, s', a', d', b')) :
    Calls Try.prog 72 #[eyeQ g] w fun e w' => e = .returned (.int .i64 m) ∧ ∃ j, w' = wext (putEye w g s' a' d' b') j := by
  refine (PEnd.crannogref01_Eye_End.calls g s a d b m s' a' d' b' (bare w) w ⟨h, Nat.zero_le _⟩ (bare_below w) hf).mono ?_
  rintro e w' ⟨he, hi, hb, hk⟩
  exact ⟨he, putEye_of h.lt hi.1 hk hb.os hb.tape hb.output⟩
theorem EyeAt.new_at (W : World) (g : Nat) (hg : g = W.heap.size) (s : ByteArray) (a : Int) (d : Bool) (b : Int) : EyeAt (W.alloc (eyeO s a d b)) g s a d b := by
  subst hg
  exact EyeAt.new W s a d b
theorem fail_live (s : ByteArray) (a b c : Int) : Palso.crannogref01_Eye_Fail.f s a false b c = some (s, a, true, c) := pfail_live s a b c
theorem end_done (s : ByteArray) (a b : Int) : PEnd.crannogref01_Eye_End.f s a true b = some (b, s, a, true, b) := by unfold PEnd.crannogref01_Eye_End.f; rw [if_pos rfl]
theorem end_all (s : ByteArray) (a b : Int) (h : ¬ a < (s.size : Int)) : PEnd.crannogref01_Eye_End.f s a false b = some (b, s, a, false, b) := by unfold PEnd.crannogref01_Eye_End.f; rw [if_neg (by simp), if_neg h]
theorem end_more (s : ByteArray) (a b : Int) (h : a < (s.size : Int)) : PEnd.crannogref01_Eye_End.f s a false b = some (201, s, a, true, 201) := by
  unfold PEnd.crannogref01_Eye_End.f PEnd.crannogref01_Eye_Fail.f
  rw [if_neg (by simp), if_pos h, if_neg (by simp)]
  rfl
theorem LooksL.later {w w' : World} {A : Option Addr} {q : List (Int × Int)} (h : LooksL w A q) (hb : Below w.heap.size w w') : LooksL w' A q := fun i hi => by
  obtain ⟨b, o, e, h0, h1⟩ := h i hi
  refine ⟨b, o, e, ?_, ?_⟩
  · rw [hb.cell (p := ⟨b, o + i * 2, none⟩) (World.block_lt_of_cell? w _ h0)]; exact h0
  · rw [hb.cell (p := ⟨b, o + i * 2 + 1, none⟩) (World.block_lt_of_cell? w _ h1)]; exact h1
theorem LooksL.of_heap {w w' : World} {A : Option Addr} {q : List (Int × Int)} (h : LooksL w A q) (hb : ∀ k, k < w.heap.size → w'.heap[k]? = w.heap[k]?) : LooksL w' A q := fun i hi => by
  obtain ⟨b, o, e, h0, h1⟩ := h i hi
  have hlt : b < w.heap.size := World.block_lt_of_cell? w _ h0
  refine ⟨b, o, e, ?_, ?_⟩
  · rw [World.cell?_of_block (w := w) (hb b hlt)]; exact h0
  · rw [World.cell?_of_block (w := w) (hb b hlt)]; exact h1
theorem looksL_C {w : World} {A : Option Addr} {q : List (Int × Int)} (h : LooksL w A q) (hq : q.length ≤ 100) : Kd.C Palso.k84 w A (lookS q).length (lookS q) := by
  have hlen : (lookS q).length = q.length := by simp [lookS]
  refine ⟨rfl, by omega, fun hn => ?_⟩
  obtain ⟨b, o, e, _, _⟩ := h 0 (by omega)
  refine ⟨⟨b, o, none⟩, e, fun i p hp => ?_⟩
  have hi : i < q.length := by
    obtain ⟨hl, _⟩ := List.getElem?_eq_some_iff.1 hp
    omega
  obtain ⟨b', o', e', h0, h1⟩ := h i hi
  rw [e] at e'
  injection e' with e'
  injection e' with eb eo
  subst eb; subst eo
  have hpe : p = ⟨(q.getD i (0, 0)).1, (q.getD i (0, 0)).2⟩ := by
    unfold lookS at hp
    rw [List.getElem?_map, List.getElem?_eq_getElem hi] at hp
    simp only [Option.map_some, Option.some.injEq] at hp
    rw [List.getD_eq_getElem?_getD, List.getElem?_eq_getElem hi]
    exact hp.symm
  subst hpe
  refine ⟨_, rfl, Palso.k84_mk w _, fun m u hu => ?_⟩
  have hz : Palso.k84.sz = 2 := rfl
  match m, hu with
  | 0, hu =>
    simp only [List.getElem?_cons_zero, Option.some.injEq] at hu
    subst hu
    rw [hz, Addr.add_lit]
    exact h0
  | 1, hu =>
    simp only [List.getElem?_cons_succ, List.getElem?_cons_zero, Option.some.injEq] at hu
    subst hu
    rw [hz, Addr.add_lit]
    exact h1
  | m + 2, hu => simp at hu
theorem palso_any (g : Nat) (s : ByteArray) (A : Option Addr) (c : Nat) (q : List (Int × Int)) (x : List Int) (y : List ByteArray) (en d : Bool) (a b : Int) (w w0 : World) (h : EyeAt w g s 0 false 0) (hL : LooksL w0 A q) (hb : Below w0.heap.size w0 w) (hg : w0.heap.size ≤ g) (hq : q.length ≤ 100) (hc : q.length ≤ c)
    (hf : Palso.crannoglaw01_also.f 3000 s 0 false 0 (lookS q) = some (x, y, en, s, a, d, b)) :
    Calls Try.prog 68 #[eyeQ g, .slice A q.length c] w fun e w' => ∃ (v0 v1 : Value) (B : Nat), e = .returned (.tuple #[v0, v1, .bool en]) ∧ (∃ j, w' = wext (putEye w g s a d b) j) ∧ Kd.R (Kd.int .i64) 3 w' B (fun _ => True) v0 x ∧ Kd.R Kd.string 9 w' B (fun _ => True) v1 y := by
  have hlen : (lookS q).length = q.length := by simp [lookS]
  have := Palso.crannoglaw01_also.calls 3000 g s 0 false 0 A c (lookS q) x y en s a d b (bare w) w ⟨h, Nat.zero_le _⟩ (bare_below w) (fun W_ hk => looksL_C (hL.of_heap fun k hkk => (hk.2 k (Nat.lt_of_lt_of_le hkk hb.size) (by omega) (by simp)).trans (hb.block k hkk)) hq) (by omega) hf
  rw [hlen] at this
  refine this.mono ?_
  rintro e w' ⟨v0, v1, he, h0, h1, hi, hbb, hk⟩
  exact ⟨v0, v1, _, he, putEye_of h.lt hi.1 hk hbb.os hbb.tape hbb.output, h0, h1⟩
/-- Read with the law's closure, wherever the closure's own variables lie. -/
abbrev Reads69 (A : Option Addr) (c : Nat) (q : List (Int × Int)) (s0 : ByteArray) (x : List Int) (y : List ByteArray) (bk : Bool) (ec : Int) : Prop :=
  ∀ (W : World) (N pl : Nat) (j1 : Junk) (B : Option Addr) (cB : Nat) (l : List Int), W.heap.size = N → LooksL W A q → W.cell? ⟨pl, 0, none⟩ = some (.slice A q.length c) → ReadsB (wext ((((W.alloc (.cells #[.slice none 0 0] 62)).alloc (.cells #[.slice none 0 0] 63)).alloc (.cells #[.bool false] 4)).alloc (.cells #[.pointer none] 53)) j1) B l → strOfNums l = s0 →
    Calls Try.prog 48 #[.slice B l.length cB, .func (.func 69) #[] #[.pointer (some ⟨N + 1 + 1 + 1, 0, none⟩), .pointer (some ⟨pl, 0, none⟩), .pointer (some ⟨N, 0, none⟩), .pointer (some ⟨N + 1, 0, none⟩), .pointer (some ⟨N + 1 + 1, 0, none⟩)]] (wext ((((W.alloc (.cells #[.slice none 0 0] 62)).alloc (.cells #[.slice none 0 0] 63)).alloc (.cells #[.bool false] 4)).alloc (.cells #[.pointer none] 53)) j1) (Done69 W x y bk ec)
theorem reads69_a (A : Option Addr) (c : Nat) (q : List (Int × Int)) (s0 : ByteArray) (hq : q.length ≤ 100) (x : List Int) (y : List ByteArray) (h : runQ q s0 [] [] = (x, y, .inl ⟨#[]⟩)) : Reads69 A c q s0 x y true 0 := by
  intro W N pl j1 B cB l hN hL cl hC hl
  subst hN
  exact read69_a W pl A c q s0 j1 hL hq cl B cB l hC hl x y h
theorem reads69_b (A : Option Addr) (c : Nat) (q : List (Int × Int)) (s0 : ByteArray) (hq : q.length ≤ 100) (x : List Int) (y : List ByteArray) (s : ByteArray) (hs : ¬ s.size = 0) (h : runQ q s0 [] [] = (x, y, .inl s)) : Reads69 A c q s0 x y true 201 := by
  intro W N pl j1 B cB l hN hL cl hC hl
  subst hN
  exact read69_b W pl A c q s0 j1 hL hq cl B cB l hC hl x y s hs h
theorem reads69_c (A : Option Addr) (c : Nat) (q : List (Int × Int)) (s0 : ByteArray) (hq : q.length ≤ 100) (x : List Int) (y : List ByteArray) (cc : Int) (h : runQ q s0 [] [] = (x, y, .inr cc)) : Reads69 A c q s0 x y false cc := by
  intro W N pl j1 B cB l hN hL cl hC hl
  subst hN
  exact read69_c W pl A c q s0 j1 hL hq cl B cB l hC hl x y cc h
theorem looks_w9 (v : Value) (A : Option Addr) (n c : Nat) (w : World) (hn : n ≤ 100) (hD : DeadE w v) (hL : LooksIn w A n) : Calls Try.prog 63 #[v, .slice A n c] w fun e w' => ∃ (x : List Int) (y : List ByteArray) (A1 : Option Addr) (c1 : Nat) (A2 : Option Addr) (c2 : Nat), e = .returned (.tuple #[.slice A1 x.length c1, .slice A2 y.length c2]) ∧ ∃ j : Junk, w' = wext w j ∧
    (Kd.int .i64).C (wext w j) A1 x.length x ∧ Kd.string.C (wext w j) A2 y.length y ∧ (∀ a ∈ x, a = 0) ∧ (∀ s ∈ y, s = ⟨#[]⟩) ∧ x.length ≤ 100 ∧ y.length ≤ 100 := by
  refine (looks_dead v A n c w hn hD hL).mono ?_
  rintro e w' ⟨x, y, vx, vy, rfl, hx, hy, zx, zy, lx, ly, hb⟩
  obtain ⟨j, rfl⟩ := w_ext_of_below hb
  obtain ⟨A1, c1, rfl, _, h1⟩ := Kd.R_reads hx
  obtain ⟨A2, c2, rfl, _, h2⟩ := Kd.R_reads hy
  exact ⟨x, y, A1, c1, A2, c2, rfl, j, rfl, h1, h2, zx, zy, by omega, by omega⟩
/-- What also tells, where the questions come to an end, and where they do not. -/
theorem also_all (s : ByteArray) (q : List (Int × Int)) (hs : s.size ≤ 1000000) (hq : q.length ≤ 100) (x : List Int) (y : List ByteArray) (t : ByteArray) (h : runQ q s [] [] = (x, y, .inl t)) :
    ∃ a' : Nat, t.size = s.size - a' ∧ a' ≤ s.size ∧ Palso.crannoglaw01_also.f 3000 s 0 false 0 (lookS q) = some (x, y, false, s, (a' : Int), false, 0) := by
  have := (also_run s q 0 hs hq q.length 0 0 [] [] (by omega) (Nat.zero_le _) (Nat.le_refl _) (Nat.le_refl _)).1 x y t (by rw [List.drop_zero, ByteArray.extract_zero_size]; exact h)
  obtain ⟨a', rfl, l1, e⟩ := this
  exact ⟨a', by simp, l1, e 3000 (by omega)⟩
theorem also_end (s : ByteArray) (q : List (Int × Int)) (hs : s.size ≤ 1000000) (hq : q.length ≤ 100) (x : List Int) (y : List ByteArray) (c : Int) (h : runQ q s [] [] = (x, y, .inr c)) :
    ∃ a' : Nat, Palso.crannoglaw01_also.f 3000 s 0 false 0 (lookS q) = some (x, y, true, s, (a' : Int), true, c) := by
  have := (also_run s q 0 hs hq q.length 0 0 [] [] (by omega) (Nat.zero_le _) (Nat.le_refl _) (Nat.le_refl _)).2 x y c (by rw [List.drop_zero, ByteArray.extract_zero_size]; exact h)
  obtain ⟨a', e⟩ := this
  exact ⟨a', e 3000 (by omega)⟩
end Go.Proofs.Ytdjmpedfeahajaa

set_option linter.unusedSimpArgs false
set_option linter.unusedVariables false
namespace Go.Proofs.Ytdjmpedfeahajaa
open Go.RowKit Go.Proofs.YtdjmpedfeahajaaW.PrintWords Go.Proofs.YtdjmpedfeahajaaW.PrintLast Go.Proofs.YtdjmpedfeahajaaW.PrintMore

theorem cell_swap (K1 K2 : World) (j : Junk) (b i : Nat) (v : Option Value) (h : (wext K1 j).cell? ⟨b, i, none⟩ = v) (hs : K2.heap.size = K1.heap.size) (hb : K1.heap.size ≤ b) : (wext K2 j).cell? ⟨b, i, none⟩ = v := by
  rw [← h]
  refine World.cell?_of_block (w := wext K1 j) ?_
  unfold wext
  simp only
  rw [Array.getElem?_append_right (by omega), Array.getElem?_append_right (by omega), hs]
set_option maxHeartbeats 8000000 in
set_option maxRecDepth 100000 in
theorem reads_long (B : Option Addr) (d : Nat) (lb : List Int) (A : Option Addr) (c : Nat) (q : List (Int × Int)) (w : World) (hB0 : ReadsB w B lb) (hd : lb.length ≤ d) (hL0 : LooksL w A q) (hc : q.length ≤ c) (h1 : (8192 : Int) < (lb.length : Int)) : Calls Try.prog 15 #[.slice B lb.length d, .slice A q.length c] w (Ret (.bool true) w) := by
  clear hB0 hL0
  go_enter Try.func15, Try.ntmps15
  go_wp2_with (go_at_call 42; (with_reducible refine (awake01_any _).mono ?_); rintro e1 w1 ⟨rfl, j1, rfl⟩)
  go_ret
  exact Ret.mk (by first | rfl | simp) (by (repeat' (first | (with_reducible exact Below.refl _ _) | (with_reducible assumption) | (with_reducible exact below_app _ _ _ _) | (with_reducible refine below_pre ?_; (simp only [List.append_assoc, List.prefix_append, List.prefix_refl, List.prefix_append_right_inj])) | (with_reducible refine Below.alloc ?_ ?_ _) | (with_reducible refine below_ext ?_ ?_ _) | (with_reducible refine Below.drew ?_) | (with_reducible refine below_drewN ?_ _) | (with_reducible refine Below.setCell ?_ ?_ _) | go_size | (simp only [w_size_ext, List.length_append, World.alloc_size]; omega) | (simp; done) | (simp; omega))))

set_option maxHeartbeats 8000000 in
set_option maxRecDepth 100000 in
theorem reads_many (B : Option Addr) (d : Nat) (lb : List Int) (A : Option Addr) (c : Nat) (q : List (Int × Int)) (w : World) (hB0 : ReadsB w B lb) (hd : lb.length ≤ d) (hL0 : LooksL w A q) (hc : q.length ≤ c) (h1 : ¬ (8192 : Int) < (lb.length : Int)) (h2 : (100 : Int) < (q.length : Int)) : Calls Try.prog 15 #[.slice B lb.length d, .slice A q.length c] w (Ret (.bool true) w) := by
  clear hB0 hL0
  go_enter Try.func15, Try.ntmps15
  go_wp2_with (go_at_call 42; (with_reducible refine (awake01_any _).mono ?_); rintro e1 w1 ⟨rfl, j1, rfl⟩)
  go_ret
  exact Ret.mk (by first | rfl | simp) (by (repeat' (first | (with_reducible exact Below.refl _ _) | (with_reducible assumption) | (with_reducible exact below_app _ _ _ _) | (with_reducible refine below_pre ?_; (simp only [List.append_assoc, List.prefix_append, List.prefix_refl, List.prefix_append_right_inj])) | (with_reducible refine Below.alloc ?_ ?_ _) | (with_reducible refine below_ext ?_ ?_ _) | (with_reducible refine Below.drew ?_) | (with_reducible refine below_drewN ?_ _) | (with_reducible refine Below.setCell ?_ ?_ _) | go_size | (simp only [w_size_ext, List.length_append, World.alloc_size]; omega) | (simp; done) | (simp; omega))))

set_option maxHeartbeats 8000000 in
set_option maxRecDepth 100000 in
theorem reads_law (B : Option Addr) (d : Nat) (lb : List Int) (A : Option Addr) (c : Nat) (q : List (Int × Int)) (w : World) (hB0 : ReadsB w B lb) (hd : lb.length ≤ d) (hL0 : LooksL w A q) (hc : q.length ≤ c) (h1 : ¬ (8192 : Int) < (lb.length : Int)) (h2 : ¬ (100 : Int) < (q.length : Int)) (s0 : ByteArray) (sI : strOfNums lb = s0) (x : List Int) (y : List ByteArray) (en bk d2 d3 : Bool) (a2 b2 a3 b3 ec : Int) (hbe : (bk == en) = false)
    (AL : Hid (Palso.crannoglaw01_also.f 3000 s0 0 false 0 (lookS q) = some (x, y, en, s0, a2, d2, b2))) (RD : Hid (Reads69 A c q s0 x y bk ec)) (EN : Hid (PEnd.crannogref01_Eye_End.f s0 a2 d2 b2 = some (ec, s0, a3, d3, b3))) (lx : Hid (x.length ≤ 100)) (ly : Hid (y.length ≤ 100)) : Calls Try.prog 15 #[.slice B lb.length d, .slice A q.length c] w (Ret (.bool true) w) := by
  have hq := Lib.hid (show q.length ≤ 100 by omega)
  have hlb := Lib.hid (show lb.length < 140737488254000 by omega)
  have hB := Lib.hid hB0
  have hL := Lib.hid hL0
  have hmf : ∀ (fn : Fn) (first cap : Array Value) (w : World), (Instr.makeFunc fn first cap).run Try.prog w = .ok (.func fn first cap) w := fun _ _ _ _ => rfl
  have hcv : ∀ o, (convert 43 9 (.slice B lb.length d)).run Try.prog (w.alloc o) = .ok (.string s0) (w.alloc o) := fun o => by rw [← sI]; exact conv_read hB0 d _ ((Below.refl _ _).alloc (Nat.le_refl _) o)
  clear hB0 hL0
  go_enter Try.func15, Try.ntmps15
  go_wp2_with (first | (go_at_call 42; (with_reducible refine (awake01_any _).mono ?_); rintro e1 w1 ⟨rfl, j1, rfl⟩) | (go_at_call 68; (refine (palso_any _ s0 A c q x y en d2 a2 b2 _ w ?_ hL.out ?_ ?_ hq.out hc AL.out).mono ?_); (· (repeat' (first | (with_reducible assumption) | (with_reducible refine EyeAt.ext ?_ _) | (with_reducible refine EyeAt.new_at _ _ ?_ _ _ _ _; first | rfl | (simp; done) | (simp; omega) | go_size) | (with_reducible refine EyeAt.alloc ?_ _) | (with_reducible refine EyeAt.drew ?_)))); (· (repeat' (first | (with_reducible exact Below.refl _ _) | (with_reducible assumption) | (with_reducible exact below_app _ _ _ _) | (with_reducible refine below_pre ?_; (simp only [List.append_assoc, List.prefix_append, List.prefix_refl, List.prefix_append_right_inj])) | (with_reducible refine Below.alloc ?_ ?_ _) | (with_reducible refine below_ext ?_ ?_ _) | (with_reducible refine Below.drew ?_) | (with_reducible refine below_drewN ?_ _) | (with_reducible refine Below.setCell ?_ ?_ _) | go_size | (simp only [w_size_ext, List.length_append, World.alloc_size]; omega) | (simp; done) | (simp; omega)))); (· first | (simp; done) | (simp; omega)); rintro e1 w1 ⟨v0, v1, B0, rfl, ⟨ja, hw⟩, hx, hy⟩; rw [putEye_top _ _ _ _ _ _ _ _ _ (by simp)] at hw; subst hw; obtain ⟨X1, cx, rfl, -, hcx⟩ := Kd.R_reads hx; obtain ⟨X2, cy, rfl, -, hcy⟩ := Kd.R_reads hy; have HCX := Lib.hid hcx; have HCY := Lib.hid hcy; clear hx hy hcx hcy) | (go_at_call 54; (with_reducible refine (clone_gen B d lb _ (Kd.C_below hB.out (by (repeat' (first | (with_reducible exact Below.refl _ _) | (with_reducible assumption) | (with_reducible exact below_app _ _ _ _) | (with_reducible refine below_pre ?_; (simp only [List.append_assoc, List.prefix_append, List.prefix_refl, List.prefix_append_right_inj])) | (with_reducible refine Below.alloc ?_ ?_ _) | (with_reducible refine below_ext ?_ ?_ _) | (with_reducible refine Below.drew ?_) | (with_reducible refine below_drewN ?_ _) | (with_reducible refine Below.setCell ?_ ?_ _) | go_size | (simp only [w_size_ext, List.length_append, World.alloc_size]; omega) | (simp; done) | (simp; omega))))) hd hlb.out).mono ?_); rintro e1 w1 ⟨G, cG, rfl, kG, j1, rfl, hG⟩; (try simp only [w_ext_ext] at hG); have HG := Lib.hid hG; clear hG) | (go_at_call 48; (refine (RD.out _ _ _ _ G cG lb ?_ ?_ ?_ ?_ sI).mono ?_); (· first | rfl | (simp; done) | (simp; omega)); (· exact hL.out.later (by (repeat' (first | (with_reducible exact Below.refl _ _) | (with_reducible assumption) | (with_reducible exact below_app _ _ _ _) | (with_reducible refine below_pre ?_; (simp only [List.append_assoc, List.prefix_append, List.prefix_refl, List.prefix_append_right_inj])) | (with_reducible refine Below.alloc ?_ ?_ _) | (with_reducible refine below_ext ?_ ?_ _) | (with_reducible refine Below.drew ?_) | (with_reducible refine below_drewN ?_ _) | (with_reducible refine Below.setCell ?_ ?_ _) | go_size | (simp only [w_size_ext, List.length_append, World.alloc_size]; omega) | (simp; done) | (simp; omega))))); (· go_cell); (· exact Kd.C_below HG.out (by (repeat' (first | (with_reducible exact Below.refl _ _) | (with_reducible assumption) | (with_reducible exact below_app _ _ _ _) | (with_reducible refine below_pre ?_; (simp only [List.append_assoc, List.prefix_append, List.prefix_refl, List.prefix_append_right_inj])) | (with_reducible refine Below.alloc ?_ ?_ _) | (with_reducible refine below_ext ?_ ?_ _) | (with_reducible refine Below.drew ?_) | (with_reducible refine below_drewN ?_ _) | (with_reducible refine Below.setCell ?_ ?_ _) | go_size | (simp only [w_size_ext, List.length_append, World.alloc_size]; omega) | (simp; done) | (simp; omega))))); rintro e1 w1 ⟨vn, vs, bb, jr, Bb, okk, rfl, rfl, hx, hy, hdd, hbb⟩; obtain ⟨N1, n1, rfl, -, hn1⟩ := Kd.R_reads hx; obtain ⟨N2, n2, rfl, -, hn2⟩ := Kd.R_reads hy; have HN1 := Lib.hid hn1; have HN2 := Lib.hid hn2; have HDD := Lib.hid hdd; have HBB := Lib.hid hbb; clear hx hy hn1 hn2 hdd hbb) | (go_at_call 70; (with_reducible refine (same_ints N1 X1 n1 cx x _ ?_ ?_ lx.out).mono ?_); (· exact Kd.C_below HN1.out (by (repeat' (first | (with_reducible exact Below.refl _ _) | (with_reducible assumption) | (with_reducible exact below_app _ _ _ _) | (with_reducible refine below_pre ?_; (simp only [List.append_assoc, List.prefix_append, List.prefix_refl, List.prefix_append_right_inj])) | (with_reducible refine Below.alloc ?_ ?_ _) | (with_reducible refine below_ext ?_ ?_ _) | (with_reducible refine Below.drew ?_) | (with_reducible refine below_drewN ?_ _) | (with_reducible refine Below.setCell ?_ ?_ _) | go_size | (simp only [w_size_ext, List.length_append, World.alloc_size]; omega) | (simp; done) | (simp; omega))))); (· exact Kd.C_below HCX.out (by (repeat' (first | (with_reducible exact Below.refl _ _) | (with_reducible assumption) | (with_reducible exact below_app _ _ _ _) | (with_reducible refine below_pre ?_; (simp only [List.append_assoc, List.prefix_append, List.prefix_refl, List.prefix_append_right_inj])) | (with_reducible refine Below.alloc ?_ ?_ _) | (with_reducible refine below_ext ?_ ?_ _) | (with_reducible refine Below.drew ?_) | (with_reducible refine below_drewN ?_ _) | (with_reducible refine Below.setCell ?_ ?_ _) | go_size | (simp only [w_size_ext, List.length_append, World.alloc_size]; omega) | (simp; done) | (simp; omega))))); rintro e1 w1 ⟨rfl, j1, rfl⟩) | (go_at_call 71; (with_reducible refine (same_strs N2 X2 n2 cy y _ ?_ ?_ ly.out).mono ?_); (· exact Kd.C_below HN2.out (by (repeat' (first | (with_reducible exact Below.refl _ _) | (with_reducible assumption) | (with_reducible exact below_app _ _ _ _) | (with_reducible refine below_pre ?_; (simp only [List.append_assoc, List.prefix_append, List.prefix_refl, List.prefix_append_right_inj])) | (with_reducible refine Below.alloc ?_ ?_ _) | (with_reducible refine below_ext ?_ ?_ _) | (with_reducible refine Below.drew ?_) | (with_reducible refine below_drewN ?_ _) | (with_reducible refine Below.setCell ?_ ?_ _) | go_size | (simp only [w_size_ext, List.length_append, World.alloc_size]; omega) | (simp; done) | (simp; omega))))); (· exact Kd.C_below HCY.out (by (repeat' (first | (with_reducible exact Below.refl _ _) | (with_reducible assumption) | (with_reducible exact below_app _ _ _ _) | (with_reducible refine below_pre ?_; (simp only [List.append_assoc, List.prefix_append, List.prefix_refl, List.prefix_append_right_inj])) | (with_reducible refine Below.alloc ?_ ?_ _) | (with_reducible refine below_ext ?_ ?_ _) | (with_reducible refine Below.drew ?_) | (with_reducible refine below_drewN ?_ _) | (with_reducible refine Below.setCell ?_ ?_ _) | go_size | (simp only [w_size_ext, List.length_append, World.alloc_size]; omega) | (simp; done) | (simp; omega))))); rintro e1 w1 ⟨rfl, j1, rfl⟩) | (go_at_call 72; (refine (rend_any _ s0 s0 a2 a3 b2 b3 ec d2 d3 _ ?_ EN.out).mono ?_); (· (repeat' (first | (with_reducible assumption) | (with_reducible refine EyeAt.ext ?_ _) | (with_reducible refine EyeAt.new_at _ _ ?_ _ _ _ _; first | rfl | (simp; done) | (simp; omega) | go_size) | (with_reducible refine EyeAt.alloc ?_ _) | (with_reducible refine EyeAt.drew ?_)))); rintro e1 w1 ⟨rfl, j1, rfl⟩) | (go_at_call 63; (with_reducible refine (looks_w9 (eyeP bb) A q.length c _ hq.out ?_ ?_).mono ?_); (· exact (DeadE.off _ bb (cell_swap (((((wext ((w.alloc (.cells #[.slice A q.length c] 67)).alloc (eyeO s0 a2 d2 b2)) ja).alloc (.cells #[.slice N1 x.length n1] 62)).alloc (.cells #[.slice N2 y.length n2] 63)).alloc (.cells #[.bool bk] 4)).alloc (.cells #[eyeP bb] 53)) (((((wext ((w.alloc (.cells #[.slice A q.length c] 67)).alloc (eyeO s0 a3 d3 b3)) ja).alloc (.cells #[.slice N1 x.length n1] 62)).alloc (.cells #[.slice N2 y.length n2] 63)).alloc (.cells #[.bool bk] 4)).alloc (.cells #[eyeP bb] 53)) jr bb 1 _ HDD.out (by simp) (by have := HBB.out; simp at this ⊢; omega))).later (by (repeat' (first | (with_reducible exact Below.refl _ _) | (with_reducible assumption) | (with_reducible exact below_app _ _ _ _) | (with_reducible refine below_pre ?_; (simp only [List.append_assoc, List.prefix_append, List.prefix_refl, List.prefix_append_right_inj])) | (with_reducible refine Below.alloc ?_ ?_ _) | (with_reducible refine below_ext ?_ ?_ _) | (with_reducible refine Below.drew ?_) | (with_reducible refine below_drewN ?_ _) | (with_reducible refine Below.setCell ?_ ?_ _) | go_size | (simp only [w_size_ext, List.length_append, World.alloc_size]; omega) | (simp; done) | (simp; omega))))); (· exact (hL.out.later (by (repeat' (first | (with_reducible exact Below.refl _ _) | (with_reducible assumption) | (with_reducible exact below_app _ _ _ _) | (with_reducible refine below_pre ?_; (simp only [List.append_assoc, List.prefix_append, List.prefix_refl, List.prefix_append_right_inj])) | (with_reducible refine Below.alloc ?_ ?_ _) | (with_reducible refine below_ext ?_ ?_ _) | (with_reducible refine Below.drew ?_) | (with_reducible refine below_drewN ?_ _) | (with_reducible refine Below.setCell ?_ ?_ _) | go_size | (simp only [w_size_ext, List.length_append, World.alloc_size]; omega) | (simp; done) | (simp; omega))))).in); rintro e1 w1 ⟨zx, zy, A5, c5, A6, c6, rfl, j5, rfl, k1, k2, k3⟩; (try simp only [w_ext_ext] at k1 k2); have Z1 := Lib.hid k1; have Z2 := Lib.hid k2; have Z3 := Lib.hid k3; clear k1 k2 k3) | (go_at_call 64; (with_reducible refine (none2_ints A5 c5 zx _ ?_ Z3.out.1 Z3.out.2.2.1).mono ?_); (· exact Kd.C_below Z1.out (by (repeat' (first | (with_reducible exact Below.refl _ _) | (with_reducible assumption) | (with_reducible exact below_app _ _ _ _) | (with_reducible refine below_pre ?_; (simp only [List.append_assoc, List.prefix_append, List.prefix_refl, List.prefix_append_right_inj])) | (with_reducible refine Below.alloc ?_ ?_ _) | (with_reducible refine below_ext ?_ ?_ _) | (with_reducible refine Below.drew ?_) | (with_reducible refine below_drewN ?_ _) | (with_reducible refine Below.setCell ?_ ?_ _) | go_size | (simp only [w_size_ext, List.length_append, World.alloc_size]; omega) | (simp; done) | (simp; omega))))); rintro e1 w1 ⟨rfl, j1, rfl⟩) | (go_at_call 66; (with_reducible refine (none2_strs A6 c6 zy _ ?_ Z3.out.2.1 Z3.out.2.2.2).mono ?_); (· exact Kd.C_below Z2.out (by (repeat' (first | (with_reducible exact Below.refl _ _) | (with_reducible assumption) | (with_reducible exact below_app _ _ _ _) | (with_reducible refine below_pre ?_; (simp only [List.append_assoc, List.prefix_append, List.prefix_refl, List.prefix_append_right_inj])) | (with_reducible refine Below.alloc ?_ ?_ _) | (with_reducible refine below_ext ?_ ?_ _) | (with_reducible refine Below.drew ?_) | (with_reducible refine below_drewN ?_ _) | (with_reducible refine Below.setCell ?_ ?_ _) | go_size | (simp only [w_size_ext, List.length_append, World.alloc_size]; omega) | (simp; done) | (simp; omega))))); rintro e1 w1 ⟨rfl, j1, rfl⟩))
  go_ret
  exact Ret.mk (by first | rfl | simp) (by (repeat' (first | (with_reducible exact Below.refl _ _) | (with_reducible assumption) | (with_reducible exact below_app _ _ _ _) | (with_reducible refine below_pre ?_; (simp only [List.append_assoc, List.prefix_append, List.prefix_refl, List.prefix_append_right_inj])) | (with_reducible refine Below.alloc ?_ ?_ _) | (with_reducible refine below_ext ?_ ?_ _) | (with_reducible refine Below.drew ?_) | (with_reducible refine below_drewN ?_ _) | (with_reducible refine Below.setCell ?_ ?_ _) | go_size | (simp only [w_size_ext, List.length_append, World.alloc_size]; omega) | (simp; done) | (simp; omega))))

end Go.Proofs.Ytdjmpedfeahajaa
