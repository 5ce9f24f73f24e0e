/- Helper lemmas: a step that came in, opened. No condition. -/
import Derived.Test.YtmcooenafgihkaaGreatDoorL1
import Derived.Test.YtmcooenafgihkaaGreatDoorT1
set_option linter.unusedSimpArgs false
set_option linter.unusedVariables false
namespace Go.Proofs.YtmcooenafgihkaaGreatDoor
open Go.ChangeShapes Go.WideShapes Go.ChangeAt Go.RowKit

theorem list13 {α : Type} {cs : List α} (h : cs.length = 13) : ∃ c0 c1 c2 c3 c4 c5 c6 c7 c8 c9 c10 c11 c12, cs = [c0, c1, c2, c3, c4, c5, c6, c7, c8, c9, c10, c11, c12] := by
  match cs, h with
  | [c0, c1, c2, c3, c4, c5, c6, c7, c8, c9, c10, c11, c12], _ => exact ⟨c0, c1, c2, c3, c4, c5, c6, c7, c8, c9, c10, c11, c12, rfl⟩
section
variable {H : Type} {enc : TypeId × Value → H} {P : Program} {w : World} {base : Nat} {spare : Nat → Bool} {held : Bool}
theorem trod_struct7 {t : TypeId} {f0 f1 f2 f3 f4 f5 f6 : Field} {fuel : Nat} {cs : List Value} {x : DataW H × List MemPlace} (ht : P.underlying t = some (.struct #[f0, f1, f2, f3, f4, f5, f6])) (h : DataW.trod enc P w base spare held fuel t cs = some x) :
    ∃ y0 y1 y2 y3 y4 y5 y6 n, cs.length = P.cellsOf t ∧ DataW.trod enc P w base spare held n f0.type ((cs.drop f0.offset).take (P.cellsOf f0.type)) = some y0 ∧
      DataW.trod enc P w base spare held n f1.type ((cs.drop f1.offset).take (P.cellsOf f1.type)) = some y1 ∧ DataW.trod enc P w base spare held n f2.type ((cs.drop f2.offset).take (P.cellsOf f2.type)) = some y2 ∧
      DataW.trod enc P w base spare held n f3.type ((cs.drop f3.offset).take (P.cellsOf f3.type)) = some y3 ∧ DataW.trod enc P w base spare held n f4.type ((cs.drop f4.offset).take (P.cellsOf f4.type)) = some y4 ∧
      DataW.trod enc P w base spare held n f5.type ((cs.drop f5.offset).take (P.cellsOf f5.type)) = some y5 ∧ DataW.trod enc P w base spare held n f6.type ((cs.drop f6.offset).take (P.cellsOf f6.type)) = some y6 := by
  obtain ⟨xs, n, _, rfl, hl, hlen, hf⟩ := DataW.trod_struct ht h
  match xs, hlen with
  | [y0, y1, y2, y3, y4, y5, y6], _ => exact ⟨y0, y1, y2, y3, y4, y5, y6, n, hl, by simpa using hf 0 f0 rfl, by simpa using hf 1 f1 rfl, by simpa using hf 2 f2 rfl, by simpa using hf 3 f3 rfl, by simpa using hf 4 f4 rfl, by simpa using hf 5 f5 rfl, by simpa using hf 6 f6 rfl⟩
theorem trod_float {t : TypeId} {k : FloatKind} {fuel : Nat} {cs : List Value} {x : DataW H × List MemPlace} (ht : P.underlying t = some (.float k)) (h : DataW.trod enc P w base spare held fuel t cs = some x) : ∃ b, cs = [.float k b] ∧ (Lit.float k b).wf = true := by
  cases fuel with
  | zero => simp [DataW.trod] at h
  | succ n =>
    unfold DataW.trod at h
    rw [ht] at h
    split at h <;> simp_all
end
section
variable {H : Type} {enc : TypeId × Value → H}
theorem wf_i64 {n : Int} (h : (Lit.int .i64 n).wf = true) : I64 n := by
  simp [Lit.wf, IntKind.min, IntKind.max, IntKind.signed, IntKind.bits] at h
  exact ⟨by omega, by omega⟩
theorem trod_i64 {fuel : Nat} {W : World} {cs : List Value} {t : TypeId} {x : DataW H × List MemPlace} (ht : Tryz.prog.underlying t = some (.int .i64)) (h : DataW.trod enc Tryz.prog W 0 (fun _ => true) true fuel t cs = some x) : ∃ n, cs = [.int .i64 n] ∧ I64 n := by
  obtain ⟨n, e0, _, wf⟩ := DataW.trod_int ht h
  exact ⟨n, e0, wf_i64 wf⟩
theorem trod_ints {fuel : Nat} {W : World} {cs : List Value} {x : DataW H × List MemPlace} (h : DataW.trod enc Tryz.prog W 0 (fun _ => true) true fuel 28 cs = some x) : ∃ A m c l, cs = [.slice A m c] ∧ IntsAt W A l ∧ l.length = m ∧ ∀ k ∈ l, I64 k := by
  rcases open_ints Tryz.underlying28 Tryz.underlying3 (by kernel_rfl) h with ⟨hcs, _⟩ | ⟨x, l, c, zs, hcs, _, hl, hm, hz, _, hcell, hwz⟩
  · exact ⟨none, 0, 0, [], hcs, fun i hi => by simp at hi, rfl, fun k hk => by cases hk⟩
  · have hz' : zs.length = c := by simpa using hz
    refine ⟨some x, l, c, zs.take l, hcs, fun i hi => ?_, by rw [List.length_take, hz']; exact Nat.min_eq_left hl, fun k hk => wf_i64 (hwz k (List.mem_of_mem_take hk))⟩
    rw [List.length_take] at hi
    have h0 := hcell 0 (by omega)
    have hi1 := hcell i (by omega)
    obtain ⟨ab, ao, sp⟩ := x
    have hs : sp = none := by simpa [Addr.add] using World.cell?_spot h0
    subst hs
    refine ⟨ab, ao, rfl, ?_⟩
    have e : (zs.take l).getD i 0 = zs.getD i 0 := by
      rw [List.getD_eq_getElem?_getD, List.getD_eq_getElem?_getD, List.getElem?_take, if_pos (by omega)]
    rw [e]
    rw [Addr.add_lit] at hi1
    exact hi1
/-- The cells of a step that came in. -/
theorem open_row {fuel : Nat} {W : World} {cs : List Value} {x : DataW H × List MemPlace} (h : DataW.trod enc Tryz.prog W 0 (fun _ => true) true fuel 33 cs = some x) : ∃ S A m c, cs = (cellsOf S A m c).toList ∧ S.Fine ∧ IntsAt W A S.keep ∧ S.keep.length = m := by
  obtain ⟨y0, y1, y2, y3, y4, y5, y6, n, hl, t0, t1, t2, t3, t4, t5, t6⟩ := trod_struct7 Tryz.underlying33 h
  have ce : Tryz.prog.cellsOf 33 = 13 := by kernel_rfl
  rw [ce] at hl
  obtain ⟨c0, c1, c2, c3, c4, c5, c6, c7, c8, c9, c10, c11, c12, rfl⟩ := list13 hl
  have k0 : Tryz.prog.cellsOf 3 = 1 := by kernel_rfl
  have k1 : Tryz.prog.cellsOf 9 = 1 := by kernel_rfl
  have k2 : Tryz.prog.cellsOf 28 = 1 := by kernel_rfl
  have k3 : Tryz.prog.cellsOf 31 = 7 := by kernel_rfl
  have k4 : Tryz.prog.cellsOf 29 = 1 := by kernel_rfl
  simp only [k0, k1, k2, k3, k4, List.drop_zero, List.drop_succ_cons, List.take_succ_cons, List.take_zero] at t0 t1 t2 t3 t4 t5 t6
  obtain ⟨z0, z1, z2, z3, z4, z5, z6, n', _, u0, u1, u2, u3, u4, u5, u6⟩ := trod_struct7 Tryz.underlying31 t6
  simp only [k0, k1, k2, k3, k4, List.drop_zero, List.drop_succ_cons, List.take_succ_cons, List.take_zero] at u0 u1 u2 u3 u4 u5 u6
  obtain ⟨kd, e0, _⟩ := trod_i64 Tryz.underlying3 t0
  obtain ⟨rp, e1, w1⟩ := trod_i64 Tryz.underlying3 t1
  obtain ⟨vo, e2, _⟩ := DataW.trod_string Tryz.underlying9 t2
  obtain ⟨ds, e3, _⟩ := DataW.trod_string Tryz.underlying9 t3
  obtain ⟨nn, e4, w4⟩ := trod_i64 Tryz.underlying3 t4
  obtain ⟨A, m, c, kp, e5, hI, hm, w5⟩ := trod_ints t5
  obtain ⟨ck, e6, _⟩ := trod_i64 Tryz.underlying3 u0
  obtain ⟨pt, e7, _⟩ := DataW.trod_string Tryz.underlying9 u1
  obtain ⟨ct, e8, _⟩ := DataW.trod_string Tryz.underlying9 u2
  obtain ⟨of', e9, w9⟩ := trod_i64 Tryz.underlying3 u3
  obtain ⟨cn, e10, w10⟩ := trod_i64 Tryz.underlying3 u4
  obtain ⟨dt, e11, _⟩ := DataW.trod_string Tryz.underlying9 u5
  obtain ⟨tm, e12, w12⟩ := trod_float Tryz.underlying29 u6
  injection e0 with e0; injection e1 with e1; injection e2 with e2; injection e3 with e3; injection e4 with e4; injection e5 with e5; injection e6 with e6; injection e7 with e7; injection e8 with e8; injection e9 with e9; injection e10 with e10; injection e11 with e11; injection e12 with e12
  subst e0; subst e1; subst e2; subst e3; subst e4; subst e5; subst e6; subst e7; subst e8; subst e9; subst e10; subst e11; subst e12
  exact ⟨⟨kd, rp, vo, ds, nn, kp, ck, pt, ct, of', cn, dt, tm⟩, A, m, c, rfl, ⟨w1, w4, w5, w9, w10, by simpa [Lit.wf] using w12⟩, hI, hm⟩
set_option maxRecDepth 100000 in
/-- A step that came in by value. -/
theorem open_step {W : World} {base : Nat} {v : Value} {d : DataW H} {p : List MemPlace} (hval : Value.okWide Tryz.prog W .any base 33 v) (h : DataW.Trod enc Tryz.prog W 0 (fun _ => true) true 33 v d p) :
    ∃ S A m c, v = .agg (cellsOf S A m c) ∧ S.Fine ∧ S.keep.length = m ∧ IntsAt W A S.keep := by
  obtain ⟨cs, rfl, hsz⟩ := okWide_struct Tryz.underlying33 hval
  obtain ⟨fuel, hf⟩ := h
  simp only [Value.cells] at hf
  obtain ⟨S, A, m, c, e, h1, h2, h3⟩ := open_row hf
  obtain rfl : cs = cellsOf S A m c := by
    have := congrArg List.toArray e
    simpa using this
  exact ⟨S, A, m, c, rfl, h1, h3, h2⟩
end
end Go.Proofs.YtmcooenafgihkaaGreatDoor
