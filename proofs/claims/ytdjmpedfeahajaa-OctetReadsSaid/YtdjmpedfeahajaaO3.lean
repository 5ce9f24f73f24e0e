/- Helper lemmas: what Read does with the lookings of the example. No condition. -/
import Derived.Test.YtdjmpedfeahajaaO2
import Derived.Test.YtdjmpedfeahajaaWWords
namespace Go.Proofs.Ytdjmpedfeahajaa
open Go.RowKit Go.Proofs.YtdjmpedfeahajaaW.PrintWords

/-- Bytes that are read, as a text. -/
abbrev ReadsB (w : World) (A : Option Addr) (l : List Int) : Prop := (Kd.int .u8).C w A l.length l
theorem conv_read {w : World} {A : Option Addr} {l : List Int} (h : ReadsB w A l) (c : Nat) (w1 : World) (hb : Below w.heap.size w w1) : (convert 43 9 (.slice A l.length c)).run Try.prog w1 = .ok (.string (strOfNums l)) w1 :=
  Kd.C_string Try.underlying43 Try.underlying5 Try.underlying9 (Kd.C_below h hb)

theorem num_012 : numOf (strOfNums [0, 1, 2]) 3 = 258 := by decide +kernel
theorem size_012 : (strOfNums [0, 1, 2]).size = 3 := by decide +kernel

theorem rest_012 : (strOfNums [0, 1, 2]).extract 3 (strOfNums [0, 1, 2]).size = ⟨#[]⟩ := by decide +kernel
theorem toList_nil : (⟨#[]⟩ : ByteArray).toList = [] := by decide +kernel
set_option maxHeartbeats 1000000 in
theorem look85 (b pn : Nat) (v0 : Value) (w : World) (hr : w.cell? ⟨b, 0, none⟩ = some (.string (strOfNums [0, 1, 2]))) (ho : w.cell? ⟨b, 1, none⟩ = some (.bool true)) (hf : w.frozen? ⟨b, 0, none⟩ = false)
    (hn : w.cell? ⟨pn, 0, none⟩ = some v0) (hnf : w.frozen? ⟨pn, 0, none⟩ = false) (hne : ¬ pn = b) :
    Calls Try.prog 85 #[eyeP b, .pointer (some ⟨pn, 0, none⟩)] w fun e w' => e = .returned (.tuple #[]) ∧ ∃ j, w' = wext ((eyeSet w b ⟨#[]⟩).setCell ⟨pn, 0, none⟩ (.int .i64 258)) j := by
  have hlt := leB_of_cell hr
  have hlp := leB_of_cell hn
  go_enter Try.func85, Try.ntmps85
  go_wp2_with (go_at_call 50; refine (num_yes b (strOfNums [0, 1, 2]) 3 _ (by go_cell) (by go_cell) hf (by omega) (by omega) (by rw [size_012]; omega) (by rw [num_012]; omega)).mono ?_; rw [num_012, rest_012]; rintro e1 w1 ⟨rfl, j1, rfl⟩)
  go_end0
  exact ⟨rfl, w_grown (by (repeat' (first | (with_reducible exact Below.refl _ _) | (with_reducible assumption) | (with_reducible refine Below.alloc ?_ ?_ _) | (with_reducible refine below_ext ?_ ?_ _) | (with_reducible refine Below.drew ?_) | (with_reducible refine below_drewN ?_ _) | (with_reducible refine Below.setCell ?_ ?_ _) | go_size)))⟩


set_option maxRecDepth 100000 in
set_option maxHeartbeats 2000000 in
theorem read85 (A : Option Addr) (c pn : Nat) (v0 : Value) (w : World) (hC : ReadsB w A [0, 1, 2]) (hn : w.cell? ⟨pn, 0, none⟩ = some v0) (hnf : w.frozen? ⟨pn, 0, none⟩ = false) :
    Calls Try.prog 48 #[.slice A 3 c, .func (.func 85) #[] #[.pointer (some ⟨pn, 0, none⟩)]] w fun e w' => e = .returned (.int .i64 0) ∧ ∃ j, w' = wext (w.setCell ⟨pn, 0, none⟩ (.int .i64 258)) j := by
  have hlp := leB_of_cell hn
  have hlt := World.block_lt_of_cell? w _ hn
  simp only at hlt
  have hmf : ∀ (fn : Fn) (first cap : Array Value) (w : World), (Instr.makeFunc fn first cap).run Try.prog w = .ok (.func fn first cap) w := fun _ _ _ _ => rfl
  have hcv : ∀ o, (convert 43 9 (.slice A 3 c)).run Try.prog (w.alloc o) = .ok (.string (strOfNums [0, 1, 2])) (w.alloc o) := fun o => conv_read hC c _ ((Below.refl _ _).alloc (Nat.le_refl _) o)
  have htn := toList_nil
  have hnq : ∀ W, (binOp .neq 55 (.func (.func 85) #[] #[.pointer (some ⟨pn, 0, none⟩)]) .nilFunc).run Try.prog W = .ok (.bool true) W := fun _ => by kernel_rfl
  go_enter_defers Try.func48, Try.ntmps48
  go_wp2_with (go_at_call 85; refine (look85 _ pn v0 _ (by go_cell) (by go_cell) (by simp [go_sem]) (by simp [go_sem, hlp, hn]) (by simp [go_sem, hlp, hnf]) (by omega)).mono ?_; rintro e1 w1 ⟨rfl, j1, rfl⟩)
  refine leaves_cons (f := 88) (args := #[.pointer (some ⟨w.heap.size + 1 + 1, 0, none⟩), .pointer (some ⟨w.heap.size, 0, none⟩)]) (by simp) (by simp [go_sem]) ?_
  refine (catch_idle (w.heap.size + 1 + 1) w.heap.size (w.heap.size + 1) _ (by simp [go_sem]) (by simp [go_sem]) (by simp [go_sem])).mono ?_
  rintro e u' w'' ⟨rfl, rfl, rfl⟩
  simp [Leaves, settle, results, Try.results48, go_sem]
  exact w_grown (by (repeat' (first | (with_reducible exact Below.refl _ _) | (with_reducible assumption) | (with_reducible refine Below.alloc ?_ ?_ _) | (with_reducible refine below_ext ?_ ?_ _) | (with_reducible refine Below.drew ?_) | (with_reducible refine below_drewN ?_ _) | (with_reducible refine Below.setCell ?_ ?_ _) | go_size)))

theorem num_01 : numOf (strOfNums [0, 1, 2]) 2 = 1 := by decide +kernel
theorem rest_2 : (strOfNums [0, 1, 2]).extract 2 (strOfNums [0, 1, 2]).size = ⟨#[2]⟩ := by decide +kernel
theorem toList_2 : (⟨#[2]⟩ : ByteArray).toList = [2] := by decide +kernel
set_option maxHeartbeats 1000000 in
theorem look86 (b : Nat) (w : World) (hr : w.cell? ⟨b, 0, none⟩ = some (.string (strOfNums [0, 1, 2]))) (ho : w.cell? ⟨b, 1, none⟩ = some (.bool true)) (hf : w.frozen? ⟨b, 0, none⟩ = false) :
    Calls Try.prog 86 #[eyeP b] w fun e w' => e = .returned (.tuple #[]) ∧ ∃ j, w' = wext (eyeSet w b ⟨#[2]⟩) j := by
  have hlt := leB_of_cell hr
  go_enter Try.func86, Try.ntmps86
  go_wp2_with (go_at_call 50; refine (num_yes b (strOfNums [0, 1, 2]) 2 _ (by go_cell) (by go_cell) hf (by omega) (by omega) (by rw [size_012]; omega) (by rw [num_01]; omega)).mono ?_; rw [num_01, rest_2]; rintro e1 w1 ⟨rfl, j1, rfl⟩)
  go_end0
  exact ⟨rfl, w_grown (by (repeat' (first | (with_reducible exact Below.refl _ _) | (with_reducible assumption) | (with_reducible refine Below.alloc ?_ ?_ _) | (with_reducible refine below_ext ?_ ?_ _) | (with_reducible refine Below.drew ?_) | (with_reducible refine below_drewN ?_ _) | (with_reducible refine Below.setCell ?_ ?_ _) | go_size)))⟩
set_option maxRecDepth 100000 in
set_option maxHeartbeats 2000000 in
theorem read86 (A : Option Addr) (c : Nat) (w : World) (hC : ReadsB w A [0, 1, 2]) : Calls Try.prog 48 #[.slice A 3 c, .func (.func 86) #[] #[]] w (Ret (.int .i64 201) w) := by
  have hmf : ∀ (fn : Fn) (first cap : Array Value) (w : World), (Instr.makeFunc fn first cap).run Try.prog w = .ok (.func fn first cap) w := fun _ _ _ _ => rfl
  have hcv : ∀ o, (convert 43 9 (.slice A 3 c)).run Try.prog (w.alloc o) = .ok (.string (strOfNums [0, 1, 2])) (w.alloc o) := fun o => conv_read hC c _ ((Below.refl _ _).alloc (Nat.le_refl _) o)
  have htn := toList_2
  have hnq : ∀ W, (binOp .neq 55 (.func (.func 86) #[] #[]) .nilFunc).run Try.prog W = .ok (.bool true) W := fun _ => by kernel_rfl
  go_enter_defers Try.func48, Try.ntmps48
  go_wp2_with (first | (go_at_call 86; refine (look86 _ _ (by go_cell) (by go_cell) (by simp [go_sem])).mono ?_; rintro e1 w1 ⟨rfl, j1, rfl⟩) | (go_at_call 89; refine (fail_on _ _ _ (by go_cell)).mono ?_; rintro e1 w1 ⟨rfl, j1, rfl⟩))
  refine leaves_cons (f := 88) (args := #[.pointer (some ⟨w.heap.size + 1 + 1, 0, none⟩), .pointer (some ⟨w.heap.size, 0, none⟩)]) (by simp) (by simp [go_sem]) ?_
  refine (catch_fault (w.heap.size + 1 + 1) w.heap.size (w.heap.size + 1) 201 _ _ (by simp [go_sem]) (by simp [go_sem]) (by simp [go_sem]) (by simp [go_sem]; rfl) (by simp [go_sem])).mono ?_
  rintro e u' w'' ⟨rfl, rfl, j2, rfl⟩
  simp [Leaves, settle, results, Try.results48, go_sem]
  exact Ret.mk rfl (by (repeat' (first | (with_reducible exact Below.refl _ _) | (with_reducible assumption) | (with_reducible refine Below.alloc ?_ ?_ _) | (with_reducible refine below_ext ?_ ?_ _) | (with_reducible refine Below.drew ?_) | (with_reducible refine below_drewN ?_ _) | (with_reducible refine Below.setCell ?_ ?_ _) | go_size)))
end Go.Proofs.Ytdjmpedfeahajaa
