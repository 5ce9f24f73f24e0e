/- Helper lemmas: how changes, parts and numbers that came in are opened. No condition. -/
import Derived.Test.YtelhclamoapnhaaL
import Derived.Test.YtelhclamoapnhaaN1
import Derived.Deep.SlicePairs
import Derived.Deep.Strs
set_option linter.unusedSimpArgs false
set_option linter.unusedVariables false
namespace Go.Proofs.Ytelhclamoapnhaa
open Go.ChangeShapes Go.WideShapes Go.ChangeAt Go.RowKit Go.Proofs.YtelhclamoapnhaaW.PrintWords

instance : Inhabited Ch := ⟨noCh⟩
instance : Inhabited Pt := ⟨noPt⟩
theorem getD_range {α : Type} (f : Nat → α) (z : α) (n i : Nat) (h : i < n) : ((List.range n).map f).getD i z = f i := by
  rw [List.getD_eq_getElem?_getD, List.getElem?_map, List.getElem?_range h]; rfl
/-- A part by value. -/
theorem open_part {H : Type} {enc : TypeId × Value → H} {W : World} {base : Nat} {v : Value} {d : DataW H} {p : List MemPlace} (hval : Value.okWide Try.prog W .any base 53 v) (h : DataW.Trod enc Try.prog W 0 (fun _ => true) true 53 v d p) :
    ∃ (q : Pt), v = .agg #[.int .i64 q.i, .string q.s] := by
  obtain ⟨v0, v1, y0, y1, n, rfl, rfl, rfl, h0, h1⟩ := Joins.open_agg2 Try.underlying53 (by kernel_rfl) (by kernel_rfl) hval h
  obtain ⟨a, e0, _⟩ := DataW.trod_int Try.underlying3 h0
  obtain ⟨s, e1, _⟩ := DataW.trod_string Try.underlying9 h1
  injection e0 with e0
  injection e1 with e1
  subst e0; subst e1
  exact ⟨⟨a, s⟩, rfl⟩
open Go.Deep in
/-- A slice of parts that came in. -/
theorem open_parts {H : Type} {enc : TypeId × Value → H} {W : World} {base : Nat} {v : Value} {d : DataW H} {p : List MemPlace} (hval : Value.okWide Try.prog W .any base 47 v) (h : DataW.Trod enc Try.prog W 0 (fun _ => true) true 47 v d p) :
    ∃ (A : Option Addr) (c : Nat) (l : List Pt), v = .slice A l.length c ∧ PtsAt W A l ∧ l.length ≤ c ∧ l.length ≤ maxLen := by
  obtain ⟨a0, len0, cap0, rfl⟩ := okWide_slice Try.underlying47 hval
  obtain ⟨fuel, hf⟩ := h
  rcases open_slice_pairs Try.underlying47 Try.underlying53 (by kernel_rfl) (by kernel_rfl) (by kernel_rfl) (by kernel_rfl) (by kernel_rfl) hf with ⟨hcs, _⟩ | ⟨a, len, cap, m, k, V0, V1, D0, D1, P0, P1, hcs, _, hl, hcm, hm, _, hc⟩
  · simp [Value.cells] at hcs
    obtain ⟨rfl, rfl, rfl⟩ := hcs
    exact ⟨none, 0, [], rfl, fun i hi => by simp at hi, Nat.le_refl _, Nat.zero_le _⟩
  · simp [Value.cells] at hcs
    obtain ⟨rfl, rfl, rfl⟩ := hcs
    have each : ∀ i, i < len0 → ∃ q : Pt, V0 i = .int .i64 q.i ∧ V1 i = .string q.s := fun i hi => by
      obtain ⟨h0, h1, t0, t1⟩ := hc i (by rw [hm]; split <;> omega)
      obtain ⟨f0, e0, _⟩ := DataW.trod_int Try.underlying3 t0
      obtain ⟨f1, e1, _⟩ := DataW.trod_string Try.underlying9 t1
      injection e0 with e0
      injection e1 with e1
      exact ⟨⟨f0, f1⟩, e0, e1⟩
    obtain ⟨q, hq⟩ := choose_lt each
    refine ⟨some a, cap0, (List.range len0).map q, by simp, fun i hi => ?_, by simpa using hl, by simpa using Nat.le_trans hl hcm⟩
    rw [List.length_map, List.length_range] at hi
    obtain ⟨h0, h1, _, _⟩ := hc i (by rw [hm]; split <;> omega)
    obtain ⟨g0, g1⟩ := hq i hi
    obtain ⟨ab, ao, sp⟩ := a
    have h00 := (hc 0 (by rw [hm]; split <;> omega)).1
    have hs : sp = none := by simpa [Addr.add] using World.cell?_spot h00
    subst hs
    rw [Addr.add_lit] at h0 h1
    rw [getD_range _ _ _ _ hi, ← g0, ← g1]
    exact ⟨ab, ao, rfl, h0, h1⟩
open Go.Deep in
/-- A slice of changes that came in. -/
theorem open_chs {H : Type} {enc : TypeId × Value → H} {W : World} {base : Nat} {v : Value} {d : DataW H} {p : List MemPlace} (hval : Value.okWide Try.prog W .any base 22 v) (h : DataW.Trod enc Try.prog W 0 (fun _ => true) true 22 v d p) :
    ∃ (A : Option Addr) (c : Nat) (l : List Ch), v = .slice A l.length c ∧ ChsAt W A l ∧ l.length ≤ c ∧ l.length ≤ maxLen := by
  obtain ⟨a0, len0, cap0, rfl⟩ := okWide_slice Try.underlying22 hval
  obtain ⟨fuel, hf⟩ := h
  rcases open_slice Try.underlying22 hf with ⟨hcs, _⟩ | ⟨a, len, cap, m, k, D, Pl, hcs, _, hl, hcm, hm, _, hc⟩
  · simp [Value.cells] at hcs
    obtain ⟨rfl, rfl, rfl⟩ := hcs
    exact ⟨none, 0, [], rfl, fun i hi => by simp at hi, Nat.le_refl _, Nat.zero_le _⟩
  · simp [Value.cells] at hcs
    obtain ⟨rfl, rfl, rfl⟩ := hcs
    have ce : Try.prog.cellsOf 43 = 3 := by kernel_rfl
    have each : ∀ i, i < len0 → ∃ q : Ch, W.cell? (a.add (i * 3)) = some (.string q.key) ∧ W.cell? (a.add (i * 3 + 1)) = some (.string q.val) ∧ W.cell? (a.add (i * 3 + 2)) = some (.bool q.gone) := fun i hi => by
      obtain ⟨cs', h1, h2⟩ := hc i (by rw [hm]; split <;> omega)
      rw [ce] at h1
      obtain ⟨_, hlen, hcell⟩ := World.cells?_some h1
      obtain ⟨y0, y1, y2, n', _, _, t0, t1, t2⟩ := trod_struct3 Try.underlying43 h2
      have c9 : Try.prog.cellsOf 9 = 1 := by kernel_rfl
      have c4 : Try.prog.cellsOf 4 = 1 := by kernel_rfl
      match cs', hlen with
      | [u0, u1, u2], _ =>
        simp only [c9, c4, List.drop_zero, List.drop_succ_cons, List.take_succ_cons, List.take_zero] at t0 t1 t2
        obtain ⟨k0, e0, _⟩ := DataW.trod_string Try.underlying9 t0
        obtain ⟨k1, e1, _⟩ := DataW.trod_string Try.underlying9 t1
        obtain ⟨k2, e2, _⟩ := DataW.trod_bool Try.underlying4 t2
        injection e0 with e0
        injection e1 with e1
        injection e2 with e2
        subst e0; subst e1; subst e2
        have g0 := hcell 0 (by omega)
        have g1 := hcell 1 (by omega)
        have g2 := hcell 2 (by omega)
        rw [Deep.add_add] at g0 g1 g2
        exact ⟨⟨k0, k1, k2⟩, by simpa using g0, by simpa using g1, by simpa using g2⟩
    obtain ⟨q, hq⟩ := choose_lt each
    refine ⟨some a, cap0, (List.range len0).map q, by simp, fun i hi => ?_, by simpa using hl, by simpa using Nat.le_trans hl hcm⟩
    rw [List.length_map, List.length_range] at hi
    obtain ⟨h0, h1, h2⟩ := hq i hi
    obtain ⟨ab, ao, sp⟩ := a
    have h00 := (hq 0 (by omega)).1
    have hs : sp = none := by simpa [Addr.add] using World.cell?_spot h00
    subst hs
    rw [Addr.add_lit] at h0 h1 h2
    rw [getD_range _ _ _ _ hi]
    exact ⟨ab, ao, rfl, h0, h1, h2⟩
open Go.ChangeShapes Go.WideShapes Go.ChangeAt in
/-- A slice of numbers that came in. -/
theorem open_nums {H : Type} {enc : TypeId × Value → H} {W : World} {base : Nat} {v : Value} {d : DataW H} {p : List MemPlace} (hval : Value.okWide Try.prog W .any base 29 v) (h : DataW.Trod enc Try.prog W 0 (fun _ => true) true 29 v d p) :
    ∃ (A : Option Addr) (c : Nat) (l : List Int), v = .slice A l.length c ∧ IntsAt W A l ∧ l.length ≤ c ∧ l.length ≤ maxLen := by
  obtain ⟨a0, len0, cap0, rfl⟩ := okWide_slice Try.underlying29 hval
  obtain ⟨fuel, hf⟩ := h
  have : ∃ zs : List Int, (a0 = none ∧ len0 = 0 ∧ cap0 = 0 ∧ zs = []) ∨ ∃ x, a0 = some x ∧ len0 ≤ cap0 ∧ cap0 ≤ maxLen ∧ zs.length = cap0 ∧ (∀ i, i < zs.length → W.cell? (x.add i) = some (.int .i64 (zs.getD i 0))) ∧ ∀ n ∈ zs, (Lit.int .i64 n).wf = true := by
    rcases open_ints Try.underlying29 Try.underlying3 (by kernel_rfl) hf with ⟨hcs, _⟩ | ⟨x, l, c, zs, hcs, _, hl, hm, hz, _, hcell, hwz⟩
    · simp [Value.cells] at hcs
      obtain ⟨rfl, rfl, rfl⟩ := hcs
      exact ⟨[], .inl ⟨rfl, rfl, rfl, rfl⟩⟩
    · simp [Value.cells] at hcs
      obtain ⟨rfl, rfl, rfl⟩ := hcs
      exact ⟨zs, .inr ⟨_, rfl, hl, hm, by simpa using hz, hcell, hwz⟩⟩
  obtain ⟨zs, hz⟩ := this
  obtain ⟨l, rfl, hr, hm, hw, hc⟩ := ReadsInt.ofRowC hz
  exact ⟨a0, cap0, l, rfl, ints_of_C (Kd.C_of_reads (d := (0 : Int)) (h1 := fun _ => rfl) hr), hc, hm⟩
end Go.Proofs.Ytelhclamoapnhaa
