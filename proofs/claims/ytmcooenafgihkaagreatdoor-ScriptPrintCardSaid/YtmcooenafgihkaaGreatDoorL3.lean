/- Helper lemmas: steps that came in, opened. No condition. -/
import Derived.Test.YtmcooenafgihkaaGreatDoorL2
import Derived.Deep.SlicePairs
import Derived.Deep.Strs
set_option linter.unusedSimpArgs false
set_option linter.unusedVariables false
namespace Go.Proofs.YtmcooenafgihkaaGreatDoor
open Go.ChangeShapes Go.WideShapes Go.ChangeAt Go.RowKit

theorem getD_range {α : Type} (f : Nat → α) (z : α) (n i : Nat) (h : i < n) : ((List.range n).map f).getD i z = f i := by
  rw [List.getD_eq_getElem?_getD, List.getElem?_map, List.getElem?_range h]; rfl
section
variable {H : Type} {enc : TypeId × Value → H}
open Go.Deep in
set_option maxRecDepth 100000 in
/-- Steps that came in. -/
theorem open_steps {W : World} {base : Nat} {v : Value} {d : DataW H} {p : List MemPlace} (hval : Value.okWide Tryz.prog W .any base 23 v) (h : DataW.Trod enc Tryz.prog W 0 (fun _ => true) true 23 v d p) :
    ∃ (A : Option Addr) (c : Nat) (l : List StepR), v = .slice A l.length c ∧ StsAt W A l ∧ l.length ≤ 9223372036854775807 ∧ (∀ i, i < l.length → (l.getD i zeroR).Fine) := by
  obtain ⟨a0, len0, cap0, rfl⟩ := okWide_slice Tryz.underlying23 hval
  obtain ⟨fuel, hf⟩ := h
  rcases open_slice Tryz.underlying23 hf with ⟨hcs, _⟩ | ⟨a, len, cap, m, k, D, Pl, hcs, _, hl, hcm, hm, _, hc⟩
  · simp [Value.cells] at hcs
    obtain ⟨rfl, rfl, rfl⟩ := hcs
    exact ⟨none, 0, [], rfl, fun i hi => by simp at hi, Nat.zero_le _, fun i hi => by simp at hi⟩
  · simp [Value.cells] at hcs
    obtain ⟨rfl, rfl, rfl⟩ := hcs
    have ce : Tryz.prog.cellsOf 33 = 13 := by kernel_rfl
    have each : ∀ i, i < len0 → ∃ q : StepR, q.Fine ∧ ∃ K m c, IntsAt W K q.keep ∧ q.keep.length = m ∧ ∀ k, k < 13 → W.cell? (a.add (i * 13 + k)) = (cellsOf q K m c)[k]? := fun i hi => by
      obtain ⟨cs', h1, h2⟩ := hc i (by rw [hm]; split <;> omega)
      rw [ce] at h1
      obtain ⟨_, hlen, hcell⟩ := World.cells?_some h1
      obtain ⟨S, A, m, c, rfl, hF, hI, hk⟩ := open_row h2
      refine ⟨S, hF, A, m, c, hI, hk, fun k hk => ?_⟩
      have g := hcell k hk
      rw [Deep.add_add] at g
      exact g.trans (by simp)
    have : Inhabited StepR := ⟨zeroR⟩
    obtain ⟨q, hq⟩ := choose_lt each
    refine ⟨some a, cap0, (List.range len0).map q, by simp, fun i hi => ?_, by rw [List.length_map, List.length_range]; exact Nat.le_trans hl (by simpa [maxLen] using hcm), fun i hi => ?_⟩
    · rw [List.length_map, List.length_range] at hi
      obtain ⟨_, K, m, c, h1, h2, h3⟩ := hq i hi
      obtain ⟨ab, ao, sp⟩ := a
      obtain ⟨_, K0, m0, c0, _, _, g3⟩ := hq 0 (by omega)
      have h00 : W.cell? ((⟨ab, ao, sp⟩ : Addr).add (0 * 13 + 0)) = some (.int .i64 (q 0).kind) := g3 0 (by decide)
      have hs : sp = none := by simpa [Addr.add] using World.cell?_spot h00
      subst hs
      refine ⟨ab, ao, rfl, K, m, c, ?_, ?_, fun k hk => ?_⟩
      · rw [getD_range _ _ _ _ hi]; exact h1
      · rw [getD_range _ _ _ _ hi]; exact h2
      · rw [getD_range _ _ _ _ hi]
        have h4 := h3 k hk
        rw [Addr.add_lit] at h4
        rw [Nat.add_assoc]
        exact h4
    · rw [List.length_map, List.length_range] at hi
      rw [getD_range _ _ _ _ hi]
      exact (hq i hi).1
end
end Go.Proofs.YtmcooenafgihkaaGreatDoor
