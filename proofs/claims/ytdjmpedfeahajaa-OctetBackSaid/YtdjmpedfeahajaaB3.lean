/- Helper lemmas: Read with the closure that reads numbers and texts again. No condition. -/
import Derived.Test.YtdjmpedfeahajaaB2
set_option linter.unusedSimpArgs false
set_option linter.unusedVariables false
namespace Go.Proofs.Ytdjmpedfeahajaa
open Go.RowKit Go.Proofs.YtdjmpedfeahajaaW.PrintWords Go.Proofs.YtdjmpedfeahajaaW.PrintLast Go.Proofs.YtdjmpedfeahajaaW.PrintMore

set_option maxHeartbeats 4000000 in
set_option maxRecDepth 100000 in
theorem read59 (D : Option Addr) (e0 : Nat) (l : List Int) (pn pw po pt : Nat) (A B : Option Addr) (c d : Nat) (nums : List Int) (texts : List ByteArray) (k : Nat) (w : World) (h1 : 1 ≤ k) (h8 : k ≤ 8) (hl1 : nums.length ≤ 100) (hl2 : texts.length ≤ 100)
    (hC : ReadsB w D l) (hl : l = numsR k nums (textsR texts))
    (cn : w.cell? ⟨pn, 0, none⟩ = some (.slice A nums.length c)) (cw : w.cell? ⟨pw, 0, none⟩ = some (.int .i64 (k : Int))) (co : w.cell? ⟨po, 0, none⟩ = some (.bool true)) (fo : w.frozen? ⟨po, 0, none⟩ = false) (ct : w.cell? ⟨pt, 0, none⟩ = some (.slice B texts.length d))
    (hN : ∀ i, i < nums.length → ∃ b' o, A = some ⟨b', o, none⟩ ∧ w.cell? ⟨b', o + i, none⟩ = some (.int .i64 (nums.getD i 0)))
    (hX : ∀ i, i < texts.length → ∃ b' o, B = some ⟨b', o, none⟩ ∧ w.cell? ⟨b', o + i, none⟩ = some (.string (texts.getD i ByteArray.empty))) (hZ : ∀ i, i < texts.length → (texts.getD i ByteArray.empty).size ≤ 8192) :
    Calls Try.prog 48 #[.slice D l.length e0, .func (.func 59) #[] #[.pointer (some ⟨pn, 0, none⟩), .pointer (some ⟨pw, 0, none⟩), .pointer (some ⟨po, 0, none⟩), .pointer (some ⟨pt, 0, none⟩)]] w (Ret (.int .i64 0) w) := by
  have hln := leB_of_cell cn
  have hlw := leB_of_cell cw
  have hlo := leB_of_cell co
  have hlq := leB_of_cell ct
  have b1 := World.block_lt_of_cell? w _ cn
  have b2 := World.block_lt_of_cell? w _ cw
  have b3 := World.block_lt_of_cell? w _ co
  have b4 := World.block_lt_of_cell? w _ ct
  simp only at b1 b2 b3 b4
  have hmf : ∀ (fn : Fn) (first cap : Array Value) (w : World), (Instr.makeFunc fn first cap).run Try.prog w = .ok (.func fn first cap) w := fun _ _ _ _ => rfl
  have hcv : ∀ o, (convert 43 9 (.slice D l.length e0)).run Try.prog (w.alloc o) = .ok (.string (strOfNums (numsR k nums (textsR texts)))) (w.alloc o) := fun o => by rw [← hl]; exact conv_read hC e0 _ ((Below.refl _ _).alloc (Nat.le_refl _) o)
  have htn := toList_nil
  have hnq : ∀ W, (binOp .neq 55 (.func (.func 59) #[] #[.pointer (some ⟨pn, 0, none⟩), .pointer (some ⟨pw, 0, none⟩), .pointer (some ⟨po, 0, none⟩), .pointer (some ⟨pt, 0, none⟩)]) .nilFunc).run Try.prog W = .ok (.bool true) W := fun _ => by kernel_rfl
  generalize l.length = n at *
  clear hC hl
  have HN : Hid (∀ (W : World) (b : Nat), Below w.heap.size w W → w.heap.size ≤ b → ∀ i, i < nums.length → ∃ b' o, A = some ⟨b', o, none⟩ ∧ ¬ b' = b ∧ W.cell? ⟨b', o + i, none⟩ = some (.int .i64 (nums.getD i 0))) := Lib.hid (fun W b hb hle i hi => by
    obtain ⟨b', o, e, h⟩ := hN i hi
    have hlt := World.block_lt_of_cell? w _ h
    simp only at hlt
    exact ⟨b', o, e, by omega, by rw [hb.cell (p := ⟨b', o + i, none⟩) hlt]; exact h⟩)
  have HX : Hid (∀ (W : World) (b : Nat), Below w.heap.size w W → w.heap.size ≤ b → ∀ i, i < texts.length → ∃ b' o, B = some ⟨b', o, none⟩ ∧ ¬ b' = b ∧ W.cell? ⟨b', o + i, none⟩ = some (.string (texts.getD i ByteArray.empty))) := Lib.hid (fun W b hb hle i hi => by
    obtain ⟨b', o, e, h⟩ := hX i hi
    have hlt := World.block_lt_of_cell? w _ h
    simp only at hlt
    exact ⟨b', o, e, by omega, by rw [hb.cell (p := ⟨b', o + i, none⟩) hlt]; exact h⟩)
  have HZ := Lib.hid hZ
  clear hN hX hZ
  go_enter_defers Try.func48, Try.ntmps48
  go_wp2_with (go_at_call 59; refine (look59 _ pn pw po pt A B c d nums texts k (textsR texts) rfl _ h1 h8 hl1 hl2 (by go_cell) (by go_cell) (by simp [go_sem]) (by simp [go_sem, hln, cn]) (by simp [go_sem, hlw, cw]) (by simp [go_sem, hlo, co]) (by simp [go_sem, hlo, fo]) (by simp [go_sem, hlq, ct]) (by omega) (by omega) (by omega) (by omega) (HN.out _ _ (by (repeat' (first | (with_reducible exact Below.refl _ _) | (with_reducible assumption) | (with_reducible exact below_app _ _ _ _) | (with_reducible refine below_pre ?_; (simp only [List.append_assoc, List.prefix_append, List.prefix_refl, List.prefix_append_right_inj])) | (with_reducible refine Below.alloc ?_ ?_ _) | (with_reducible refine below_ext ?_ ?_ _) | (with_reducible refine Below.drew ?_) | (with_reducible refine below_drewN ?_ _) | (with_reducible refine Below.setCell ?_ ?_ _) | go_size | (simp only [w_size_ext, List.length_append, World.alloc_size]; omega) | (simp; done) | (simp; omega)))) (by first | omega | simp)) (HX.out _ _ (by (repeat' (first | (with_reducible exact Below.refl _ _) | (with_reducible assumption) | (with_reducible exact below_app _ _ _ _) | (with_reducible refine below_pre ?_; (simp only [List.append_assoc, List.prefix_append, List.prefix_refl, List.prefix_append_right_inj])) | (with_reducible refine Below.alloc ?_ ?_ _) | (with_reducible refine below_ext ?_ ?_ _) | (with_reducible refine Below.drew ?_) | (with_reducible refine below_drewN ?_ _) | (with_reducible refine Below.setCell ?_ ?_ _) | go_size | (simp only [w_size_ext, List.length_append, World.alloc_size]; omega) | (simp; done) | (simp; omega)))) (by first | omega | simp)) HZ.out).mono ?_; rintro e1 w1 ⟨rfl, j1, rfl⟩)
  refine leaves_cons (f := 88) (args := #[.pointer (some ⟨w.heap.size + 1 + 1, 0, none⟩), .pointer (some ⟨w.heap.size, 0, none⟩)]) (by simp) (by simp [go_sem]) ?_
  refine (catch_idle (w.heap.size + 1 + 1) w.heap.size (w.heap.size + 1) _ (by simp [go_sem]) (by simp [go_sem]) (by simp [go_sem])).mono ?_
  rintro e u' w'' ⟨rfl, rfl, rfl⟩
  simp [Leaves, settle, results, Try.results48, go_sem]
  exact Ret.mk rfl (by (repeat' (first | (with_reducible exact Below.refl _ _) | (with_reducible assumption) | (with_reducible exact below_app _ _ _ _) | (with_reducible refine below_pre ?_; (simp only [List.append_assoc, List.prefix_append, List.prefix_refl, List.prefix_append_right_inj])) | (with_reducible refine Below.alloc ?_ ?_ _) | (with_reducible refine below_ext ?_ ?_ _) | (with_reducible refine Below.drew ?_) | (with_reducible refine below_drewN ?_ _) | (with_reducible refine Below.setCell ?_ ?_ _) | go_size | (simp only [w_size_ext, List.length_append, World.alloc_size]; omega) | (simp; done) | (simp; omega))))
end Go.Proofs.Ytdjmpedfeahajaa
