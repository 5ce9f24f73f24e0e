/- Helper lemmas: a text that is looked at, and how much is left; lists of numbers and of texts that came in. No condition. -/
import Derived.Test.YtdjmpedfeahajaaR2
import Derived.Test.YtdjmpedfeahajaaL
import Derived.SliceStrings
set_option linter.unusedSimpArgs false
set_option linter.unusedVariables false
namespace Go.Proofs.Ytdjmpedfeahajaa
open Go.RowKit Go.Proofs.YtdjmpedfeahajaaW.PrintWords Go.Proofs.YtdjmpedfeahajaaW.PrintLast Go.Proofs.YtdjmpedfeahajaaW.PrintMore

set_option maxHeartbeats 1000000 in
theorem left_on (b : Nat) (s : ByteArray) (w : World) (hr : w.cell? ⟨b, 0, none⟩ = some (.string s)) (ho : w.cell? ⟨b, 1, none⟩ = some (.bool true)) : Calls Try.prog 62 #[eyeP b] w (Ret (.int .i64 (s.size : Int)) w) := by
  have hlt := leB_of_cell ho
  go_enter Try.func62, Try.ntmps62
  go_wp2_with (go_at_call 90; refine (dead_on _ _ (by go_cell)).mono ?_; rintro e1 w1 ⟨rfl, j1, rfl⟩)
  go_ret
  exact Ret.mk rfl (w_ext_below _ _)
theorem num_nx2 (b : Nat) (s t : ByteArray) (m : Nat) (w : World) (hr : w.cell? ⟨b, 0, none⟩ = some (.string s)) (ho : w.cell? ⟨b, 1, none⟩ = some (.bool true)) (hf : w.frozen? ⟨b, 0, none⟩ = false) (h : Nx s 2 m t) :
    Calls Try.prog 50 #[eyeP b, .int .i64 2] w fun e w' => e = .returned (.int .i64 (m : Int)) ∧ ∃ j, w' = wext (eyeSet w b t) j := num_nx b s t 2 m w hr ho hf (by decide) (by decide) h
theorem raw_nx (b : Nat) (s : ByteArray) (n : Nat) (k : Int) (hk : (n : Int) = k) (w : World) (hr : w.cell? ⟨b, 0, none⟩ = some (.string s)) (ho : w.cell? ⟨b, 1, none⟩ = some (.bool true)) (hf : w.frozen? ⟨b, 0, none⟩ = false) (hn : n ≤ s.size) :
    Calls Try.prog 60 #[eyeP b, .int .i64 k] w fun e w' => e = .returned (.string (s.extract 0 n)) ∧ ∃ j, w' = wext (eyeSet w b (s.extract n s.size)) j := by
  subst hk
  exact raw_yes b s n w hr ho hf hn
set_option maxHeartbeats 2000000 in
theorem text_yes (b : Nat) (s t : ByteArray) (m most : Nat) (w : World) (hr : w.cell? ⟨b, 0, none⟩ = some (.string s)) (ho : w.cell? ⟨b, 1, none⟩ = some (.bool true)) (hf : w.frozen? ⟨b, 0, none⟩ = false) (h : Nx s 2 m t) (hm : m ≤ most) (ht : m ≤ t.size) :
    Calls Try.prog 61 #[eyeP b, .int .i64 (most : Int)] w fun e w' => e = .returned (.string (t.extract 0 m)) ∧ ∃ j, w' = wext (eyeSet w b (t.extract m t.size)) j := by
  have hlt := leB_of_cell ho
  have H := Lib.hid h
  have hmm : ¬ (most : Int) < (m : Int) := by omega
  clear h
  go_enter Try.func61, Try.ntmps61
  go_wp2_with (first | (go_at_call 50; (with_reducible refine (num_nx2 b s t m _ ?_ ?_ ?_ H.out).mono ?_); (· go_cell); (· go_cell); (· simp [go_sem, hlt, hf]); rintro e1 w1 ⟨rfl, j1, rfl⟩) | (go_at_call 60; (with_reducible refine (raw_nx b t m _ rfl _ ?_ ?_ ?_ ht).mono ?_); (· go_cell); (· go_cell); (· simp [go_sem, hlt, hf]); rintro e1 w1 ⟨rfl, j1, rfl⟩))
  go_ret
  exact ⟨rfl, w_grown (by (repeat' (first | (with_reducible exact Below.refl _ _) | (with_reducible assumption) | (with_reducible exact below_app _ _ _ _) | (with_reducible refine below_pre ?_; (simp only [List.append_assoc, List.prefix_append, List.prefix_refl, List.prefix_append_right_inj])) | (with_reducible refine Below.alloc ?_ ?_ _) | (with_reducible refine below_ext ?_ ?_ _) | (with_reducible refine Below.drew ?_) | (with_reducible refine below_drewN ?_ _) | (with_reducible refine Below.setCell ?_ ?_ _) | go_size | (simp only [w_size_ext, List.length_append, World.alloc_size]; omega) | (simp; done) | (simp; omega))))⟩
open Go.ChangeShapes Go.WideShapes Go.ChangeAt in
/-- A slice of numbers that came in. -/
theorem open_nums {H : Type} {enc : TypeId × Value → H} {W : World} {base : Nat} {v : Value} {d : DataW H} {p : List MemPlace} (hval : Value.okWide Try.prog W .any base 62 v) (h : DataW.Trod enc Try.prog W 0 (fun _ => true) true 62 v d p) :
    ∃ (A : Option Addr) (c : Nat) (l : List Int), v = .slice A l.length c ∧ (Kd.int .i64).C W A l.length l ∧ l.length ≤ c ∧ l.length ≤ maxLen := by
  obtain ⟨a0, len0, cap0, rfl⟩ := okWide_slice Try.underlying62 hval
  obtain ⟨fuel, hf⟩ := h
  have : ∃ zs : List Int, (a0 = none ∧ len0 = 0 ∧ cap0 = 0 ∧ zs = []) ∨ ∃ x, a0 = some x ∧ len0 ≤ cap0 ∧ cap0 ≤ maxLen ∧ zs.length = cap0 ∧ (∀ i, i < zs.length → W.cell? (x.add i) = some (.int .i64 (zs.getD i 0))) ∧ ∀ n ∈ zs, (Lit.int .i64 n).wf = true := by
    rcases open_ints Try.underlying62 Try.underlying3 (by kernel_rfl) hf with ⟨hcs, _⟩ | ⟨x, l, c, zs, hcs, _, hl, hm, hz, _, hcell, hwz⟩
    · simp [Value.cells] at hcs
      obtain ⟨rfl, rfl, rfl⟩ := hcs
      exact ⟨[], .inl ⟨rfl, rfl, rfl, rfl⟩⟩
    · simp [Value.cells] at hcs
      obtain ⟨rfl, rfl, rfl⟩ := hcs
      exact ⟨zs, .inr ⟨_, rfl, hl, hm, by simpa using hz, hcell, hwz⟩⟩
  obtain ⟨zs, hz⟩ := this
  obtain ⟨l, rfl, hr, hm, hw, hc⟩ := ReadsInt.ofRowC hz
  exact ⟨a0, cap0, l, rfl, Kd.C_of_reads (d := (0 : Int)) (h1 := fun _ => rfl) hr, hc, hm⟩
open Go.ChangeShapes Go.WideShapes Go.ChangeAt in
/-- A slice of texts that came in. -/
theorem open_texts {H : Type} {enc : TypeId × Value → H} {W : World} {base : Nat} {v : Value} {d : DataW H} {p : List MemPlace} (hval : Value.okWide Try.prog W .any base 63 v) (h : DataW.Trod enc Try.prog W 0 (fun _ => true) true 63 v d p) :
    ∃ (A : Option Addr) (c : Nat) (l : List ByteArray), v = .slice A l.length c ∧ Kd.string.C W A l.length l ∧ l.length ≤ c ∧ l.length ≤ maxLen := by
  obtain ⟨a0, len0, cap0, rfl⟩ := okWide_slice Try.underlying63 hval
  obtain ⟨fuel, hf⟩ := h
  rcases open_strings Try.underlying63 Try.underlying9 (by kernel_rfl) hf with ⟨hcs, _⟩ | ⟨x, len, c, ss, hcs, _, hl, hm, hz, _, hcell, hwz⟩
  · simp [Value.cells] at hcs
    obtain ⟨rfl, rfl, rfl⟩ := hcs
    exact ⟨none, 0, [], rfl, Kd.C_of_reads (enc := Value.string) (d := ByteArray.empty) (h1 := fun _ => rfl) ⟨rfl, by simp, fun h => absurd h (by simp)⟩, Nat.le_refl _, Nat.zero_le _⟩
  · simp [Value.cells] at hcs
    obtain ⟨rfl, rfl, rfl⟩ := hcs
    simp only [if_true] at hz
    have hlen : (ss.take len0).length = len0 := by rw [List.length_take]; omega
    refine ⟨some x, cap0, ss.take len0, by rw [hlen], ?_, by omega, by omega⟩
    rw [hlen]
    refine Kd.C_of_reads (enc := Value.string) (d := ByteArray.empty) (h1 := fun _ => rfl) ⟨hlen, by simp only [maxLen] at hm; omega, fun _ => ⟨x, rfl, fun j hj => ?_⟩⟩
    rw [hcell j (by omega), List.getD_eq_getElem?_getD, List.getD_eq_getElem?_getD, List.getElem?_take_of_lt hj]
end Go.Proofs.Ytdjmpedfeahajaa
