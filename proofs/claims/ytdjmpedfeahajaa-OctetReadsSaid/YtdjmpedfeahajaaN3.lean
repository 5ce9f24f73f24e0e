/- Helper lemmas: no zero is other than zero, no empty text is other than that: of lists of such; Read of bytes by nobody. No condition. -/
import Derived.Test.YtdjmpedfeahajaaN2
set_option linter.unusedSimpArgs false
set_option linter.unusedVariables false
namespace Go.Proofs.Ytdjmpedfeahajaa
open Go.RowKit Go.Proofs.YtdjmpedfeahajaaW.PrintWords Go.Proofs.YtdjmpedfeahajaaW.PrintLast Go.Proofs.YtdjmpedfeahajaaW.PrintMore

set_option maxHeartbeats 1000000 in
theorem other_ints (w : World) : Calls Try.prog 65 #[.int .i64 0] w (Ret (.bool false) w) := by
  go_enter Try.func65, Try.ntmps65
  go_wp2
  go_ret
  exact Ret.mk rfl (Below.refl _ _)
theorem cell_ints (w : World) (A : Option Addr) (x : List Int) (hC : (Kd.int .i64).C w A x.length x) (hz : ∀ a ∈ x, a = (0 : Int)) (i : Nat) (hi : i < x.length) : ∃ b o : Nat, A = some ⟨b, o, none⟩ ∧ w.cell? ⟨b, o + i, none⟩ = some (.int .i64 0) := by
  have hr := Kd.reads_of_C (enc := Value.int .i64) (d := (0 : Int)) (h1 := fun _ => rfl) hC
  obtain ⟨ad, e, hc⟩ := hr.2.2 (by omega)
  have h := hc i hi
  have hx : x.getD i (0 : Int) = (0 : Int) := by
    rw [List.getD_eq_getElem?_getD, List.getElem?_eq_getElem hi]
    exact hz _ (List.getElem_mem hi)
  rw [hx] at h
  obtain ⟨ab, ao, sp⟩ := ad
  have hs : sp = none := by simpa [Addr.add] using World.cell?_spot (hc 0 (by omega))
  subst hs
  rw [Addr.add_lit] at h
  exact ⟨ab, ao, e, h⟩
set_option maxHeartbeats 2000000 in
set_option maxRecDepth 100000 in
theorem index_ints (A : Option Addr) (c : Nat) (x : List Int) (w : World) (hC : (Kd.int .i64).C w A x.length x) (hz : ∀ a ∈ x, a = (0 : Int)) (hm : x.length ≤ 100) : Calls Try.prog 91 #[.slice A x.length c, .func (.func 65) #[] #[]] w (Ret (.int .i64 (-1)) w) := by
  have HC := Lib.hid (cell_ints w A x hC hz)
  clear hC hz
  generalize x.length = n at *
  go_enter Try.func91, Try.ntmps91
  go_wp2
  go_loopw [8] (fun v8 wr => ∃ (i : Nat) (j : Junk), i ≤ n ∧ v8 = .int .i64 (i : Int) ∧ wr = wext w j) (fun i _ => ((n : Int) - intOf i).toNat)
  case atStart => exact ⟨0, ⟨[], w.drawn⟩, Nat.zero_le _, rfl, by simp [wext]⟩
  case round =>
    obtain ⟨i, j, hi, rfl, rfl⟩ := hrel
    by_cases h0 : i = n
    · subst h0
      go_wp2
      go_ret
      exact Ret.mk rfl (w_ext_below _ _)
    · obtain ⟨b, o, eA, hc⟩ := HC.out i (by omega)
      subst eA
      have hlb := leB_of_cell hc
      have hlt : (i : Int) < (n : Int) := by omega
      have hge : (0 : Int) ≤ (i : Int) := by omega
      have hnl : ¬ (i : Int) < 0 := by omega
      have hwr : wrap64 ((i : Int) + 1) = ((i + 1 : Nat) : Int) := by rw [wrap64_eq]; omega
      go_wp2_with (go_at_call 65; (with_reducible refine (other_ints _).mono ?_); rintro e1 w1 ⟨rfl, j1, rfl⟩)
      go_roundw
      case rel => exact ⟨i + 1, ⟨j.l ++ j1.l, j1.m⟩, by omega, rfl, rfl⟩
      case measure => simp [intOf]; omega
set_option maxHeartbeats 1000000 in
theorem none_ints (A : Option Addr) (c : Nat) (x : List Int) (w : World) (hC : (Kd.int .i64).C w A x.length x) (hz : ∀ a ∈ x, a = (0 : Int)) (hm : x.length ≤ 100) : Calls Try.prog 64 #[.slice A x.length c, .func (.func 65) #[] #[]] w (Ret (.bool false) w) := by
  have HI := Lib.hid (fun c => index_ints A c x w hC hz hm)
  clear hC hz
  go_enter Try.func64, Try.ntmps64
  go_wp2_with (go_at_call 91; (with_reducible refine (HI.out _).mono ?_); rintro e1 w1 ⟨rfl, j1, rfl⟩)
  go_ret
  exact Ret.mk rfl (w_ext_below _ _)

set_option maxHeartbeats 1000000 in
theorem other_strs (w : World) : Calls Try.prog 67 #[.string ⟨#[]⟩] w (Ret (.bool false) w) := by
  go_enter Try.func67, Try.ntmps67
  go_wp2
  go_ret
  exact Ret.mk rfl (Below.refl _ _)
theorem cell_strs (w : World) (A : Option Addr) (x : List ByteArray) (hC : Kd.string.C w A x.length x) (hz : ∀ a ∈ x, a = (⟨#[]⟩ : ByteArray)) (i : Nat) (hi : i < x.length) : ∃ b o : Nat, A = some ⟨b, o, none⟩ ∧ w.cell? ⟨b, o + i, none⟩ = some (.string ⟨#[]⟩) := by
  have hr := Kd.reads_of_C (enc := Value.string) (d := (⟨#[]⟩ : ByteArray)) (h1 := fun _ => rfl) hC
  obtain ⟨ad, e, hc⟩ := hr.2.2 (by omega)
  have h := hc i hi
  have hx : x.getD i (⟨#[]⟩ : ByteArray) = (⟨#[]⟩ : ByteArray) := by
    rw [List.getD_eq_getElem?_getD, List.getElem?_eq_getElem hi]
    exact hz _ (List.getElem_mem hi)
  rw [hx] at h
  obtain ⟨ab, ao, sp⟩ := ad
  have hs : sp = none := by simpa [Addr.add] using World.cell?_spot (hc 0 (by omega))
  subst hs
  rw [Addr.add_lit] at h
  exact ⟨ab, ao, e, h⟩
set_option maxHeartbeats 2000000 in
set_option maxRecDepth 100000 in
theorem index_strs (A : Option Addr) (c : Nat) (x : List ByteArray) (w : World) (hC : Kd.string.C w A x.length x) (hz : ∀ a ∈ x, a = (⟨#[]⟩ : ByteArray)) (hm : x.length ≤ 100) : Calls Try.prog 92 #[.slice A x.length c, .func (.func 67) #[] #[]] w (Ret (.int .i64 (-1)) w) := by
  have HC := Lib.hid (cell_strs w A x hC hz)
  clear hC hz
  generalize x.length = n at *
  go_enter Try.func92, Try.ntmps92
  go_wp2
  go_loopw [8] (fun v8 wr => ∃ (i : Nat) (j : Junk), i ≤ n ∧ v8 = .int .i64 (i : Int) ∧ wr = wext w j) (fun i _ => ((n : Int) - intOf i).toNat)
  case atStart => exact ⟨0, ⟨[], w.drawn⟩, Nat.zero_le _, rfl, by simp [wext]⟩
  case round =>
    obtain ⟨i, j, hi, rfl, rfl⟩ := hrel
    by_cases h0 : i = n
    · subst h0
      go_wp2
      go_ret
      exact Ret.mk rfl (w_ext_below _ _)
    · obtain ⟨b, o, eA, hc⟩ := HC.out i (by omega)
      subst eA
      have hlb := leB_of_cell hc
      have hlt : (i : Int) < (n : Int) := by omega
      have hge : (0 : Int) ≤ (i : Int) := by omega
      have hnl : ¬ (i : Int) < 0 := by omega
      have hwr : wrap64 ((i : Int) + 1) = ((i + 1 : Nat) : Int) := by rw [wrap64_eq]; omega
      go_wp2_with (go_at_call 67; (with_reducible refine (other_strs _).mono ?_); rintro e1 w1 ⟨rfl, j1, rfl⟩)
      go_roundw
      case rel => exact ⟨i + 1, ⟨j.l ++ j1.l, j1.m⟩, by omega, rfl, rfl⟩
      case measure => simp [intOf]; omega
set_option maxHeartbeats 1000000 in
theorem none_strs (A : Option Addr) (c : Nat) (x : List ByteArray) (w : World) (hC : Kd.string.C w A x.length x) (hz : ∀ a ∈ x, a = (⟨#[]⟩ : ByteArray)) (hm : x.length ≤ 100) : Calls Try.prog 66 #[.slice A x.length c, .func (.func 67) #[] #[]] w (Ret (.bool false) w) := by
  have HI := Lib.hid (fun c => index_strs A c x w hC hz hm)
  clear hC hz
  go_enter Try.func66, Try.ntmps66
  go_wp2_with (go_at_call 92; (with_reducible refine (HI.out _).mono ?_); rintro e1 w1 ⟨rfl, j1, rfl⟩)
  go_ret
  exact Ret.mk rfl (w_ext_below _ _)

theorem Looked.wext {n : Nat} {w w' : World} (h : Below w.heap.size w w') : ∃ j : Junk, w' = wext w j := w_ext_of_below h
/-- Read of bytes, by nobody: whether there are any. -/
theorem strOfNums_nil : strOfNums [] = ⟨#[]⟩ := by decide +kernel
set_option maxHeartbeats 2000000 in
set_option maxRecDepth 100000 in
theorem read_none (A : Option Addr) (n c : Nat) (s : ByteArray) (hs : s.toList = []) (w : World) (hcv : ∀ o, (convert 43 9 (.slice A n c)).run Try.prog (w.alloc o) = .ok (.string s) (w.alloc o)) : Calls Try.prog 48 #[.slice A n c, .nilFunc] w (Ret (.int .i64 0) w) := by
  have hmf : ∀ (fn : Fn) (first cap : Array Value) (w : World), (Instr.makeFunc fn first cap).run Try.prog w = .ok (.func fn first cap) w := fun _ _ _ _ => rfl
  have htn := toList_nil
  have hnq : ∀ W, (binOp .neq 55 .nilFunc .nilFunc).run Try.prog W = .ok (.bool false) W := fun _ => by kernel_rfl
  go_enter_defers Try.func48, Try.ntmps48
  go_wp2
  refine leaves_cons (f := 88) (args := #[.pointer (some ⟨w.heap.size + 1 + 1, 0, none⟩), .pointer (some ⟨w.heap.size, 0, none⟩)]) (by simp) (by simp [go_sem]) ?_
  refine (catch_idle (w.heap.size + 1 + 1) w.heap.size (w.heap.size + 1) _ (by simp [go_sem]) (by simp [go_sem]) (by simp [go_sem])).mono ?_
  rintro e u' w'' ⟨rfl, rfl, rfl⟩
  simp [Leaves, settle, results, Try.results48, go_sem]
  exact Ret.mk rfl (by (repeat' (first | (with_reducible exact Below.refl _ _) | (with_reducible assumption) | (with_reducible exact below_app _ _ _ _) | (with_reducible refine below_pre ?_; (simp only [List.append_assoc, List.prefix_append, List.prefix_refl, List.prefix_append_right_inj])) | (with_reducible refine Below.alloc ?_ ?_ _) | (with_reducible refine below_ext ?_ ?_ _) | (with_reducible refine Below.drew ?_) | (with_reducible refine below_drewN ?_ _) | (with_reducible refine Below.setCell ?_ ?_ _) | go_size | (simp only [w_size_ext, List.length_append, World.alloc_size]; omega) | (simp; done) | (simp; omega))))
set_option maxHeartbeats 2000000 in
set_option maxRecDepth 100000 in
theorem read_some (A : Option Addr) (n c : Nat) (s : ByteArray) (a : UInt8) (t : List UInt8) (hs : s.toList = a :: t) (w : World) (hcv : ∀ o, (convert 43 9 (.slice A n c)).run Try.prog (w.alloc o) = .ok (.string s) (w.alloc o)) : Calls Try.prog 48 #[.slice A n c, .nilFunc] w (Ret (.int .i64 201) w) := by
  have hmf : ∀ (fn : Fn) (first cap : Array Value) (w : World), (Instr.makeFunc fn first cap).run Try.prog w = .ok (.func fn first cap) w := fun _ _ _ _ => rfl
  have htn := toList_nil
  have hnq : ∀ W, (binOp .neq 55 .nilFunc .nilFunc).run Try.prog W = .ok (.bool false) W := fun _ => by kernel_rfl
  go_enter_defers Try.func48, Try.ntmps48
  go_wp2_with (go_at_call 89; refine (fail_on _ _ _ (by go_cell)).mono ?_; rintro e1 w1 ⟨rfl, j1, rfl⟩)
  refine leaves_cons (f := 88) (args := #[.pointer (some ⟨w.heap.size + 1 + 1, 0, none⟩), .pointer (some ⟨w.heap.size, 0, none⟩)]) (by simp) (by simp [go_sem]) ?_
  refine (catch_fault (w.heap.size + 1 + 1) w.heap.size (w.heap.size + 1) 201 _ _ (by simp [go_sem]) (by simp [go_sem]) (by simp [go_sem]) (by simp [go_sem]; rfl) (by simp [go_sem])).mono ?_
  rintro e u' w'' ⟨rfl, rfl, j2, rfl⟩
  simp [Leaves, settle, results, Try.results48, go_sem]
  exact Ret.mk rfl (by (repeat' (first | (with_reducible exact Below.refl _ _) | (with_reducible assumption) | (with_reducible exact below_app _ _ _ _) | (with_reducible refine below_pre ?_; (simp only [List.append_assoc, List.prefix_append, List.prefix_refl, List.prefix_append_right_inj])) | (with_reducible refine Below.alloc ?_ ?_ _) | (with_reducible refine below_ext ?_ ?_ _) | (with_reducible refine Below.drew ?_) | (with_reducible refine below_drewN ?_ _) | (with_reducible refine Below.setCell ?_ ?_ _) | go_size | (simp only [w_size_ext, List.length_append, World.alloc_size]; omega) | (simp; done) | (simp; omega))))
theorem read_nobody (A : Option Addr) (c : Nat) (l : List Int) (w : World) (hC : ReadsB w A l) : Calls Try.prog 48 #[.slice A l.length c, .nilFunc] w (Ret (.int .i64 (if l.length = 0 then 0 else 201)) w) := by
  have hcv : ∀ o, (convert 43 9 (.slice A l.length c)).run Try.prog (w.alloc o) = .ok (.string (strOfNums l)) (w.alloc o) := fun o => conv_read hC c _ ((Below.refl _ _).alloc (Nat.le_refl _) o)
  have ht := Lib.strOfNums_toList l
  cases l with
  | nil => exact read_none A _ c _ (by rw [ht]; rfl) w hcv
  | cons x xs => exact read_some A _ c _ _ _ ht w hcv
end Go.Proofs.Ytdjmpedfeahajaa
