/- Helper lemmas: structs loaded and stored whole; what stands while a call or a step is read off its words. No condition. -/
import Derived.Test.YtmcooenafgihkaaGreatDoorP13
set_option linter.unusedSimpArgs false
set_option linter.unusedVariables false
namespace Go.Proofs.YtmcooenafgihkaaGreatDoor
open Go.RowKit

@[go_sem] theorem run_store_float {P : Program} {w : World} {a : Addr} {m : Mode} (k : FloatKind) (b : Nat) : (store a (.float k b) m).run P w = stored P w a (.float k b) m := run_store P w a _ m rfl
section
variable {ops : Array Oper} {rest : List Oper} {o : Oper} {a : Act} {Q : Exit → Act → World → Prop} {W w2 : World}
theorem load_step (ty : TypeId) (x : Operand) (hw : Region.wanted o (yielded ops a.tmps) = true) (ho : o.op = .load ty x) {p v : Value} (hx : a.eval x = p) (hr : (Instr.loadAt ty p).run Tryz.prog W = .ok v W) (h : wpList Tryz.prog ops Q rest (a.put o.dst v) W) : wpList Tryz.prog ops Q (o :: rest) a W := by
  refine wpList_step fun K hK => ?_
  rw [if_pos hw]
  unfold Oper.wp execOp
  simp only [ho, hx, Sem.run_bind, hr, Result.andThen_ok]
  exact hK _ _ h
theorem store_step (ty : TypeId) (x y : Operand) (hw : Region.wanted o (yielded ops a.tmps) = true) (ho : o.op = .store ty x y) {p v : Value} (hx : a.eval x = p) (hy : a.eval y = v) (hr : (Instr.storeAt ty p v).run Tryz.prog W = .ok () w2) (h : wpList Tryz.prog ops Q rest (a.put o.dst undef) w2) : wpList Tryz.prog ops Q (o :: rest) a W := by
  refine wpList_step fun K hK => ?_
  rw [if_pos hw]
  unfold Oper.wp execOp
  simp only [ho, hx, hy, Sem.run_bind, hr, Result.andThen_ok]
  exact hK _ _ h
end
/-- One block holds other cells. -/
structure SetRow (g : Nat) (cells : Array Value) (t : TypeId) (w w' : World) : Prop where
  at' : w'.heap[g]? = some (.cells cells t (0, 0))
  rest : ∀ k, ¬ k = g → w'.heap[k]? = w.heap[k]?
  size : w'.heap.size = w.heap.size
  os : w'.os = w.os
  tape : w'.tape = w.tape
  output : w'.output = w.output
theorem row_load {w : World} {g : Nat} {t ty : TypeId} {cs : Array Value} {fr : Nat × Nat} {fs : Array Field} (hg : w.heap[g]? = some (.cells cs t fr)) (hu : Tryz.prog.underlying ty = some (.struct fs)) (hi : (Tryz.prog.info? ty).map (·.size) = some cs.size) : (loadVar ty ⟨g, 0, none⟩).run Tryz.prog w = .ok (.agg cs) w ∧ (Instr.loadAt ty (.pointer (some ⟨g, 0, none⟩))).run Tryz.prog w = .ok (.agg cs) w := by
  have h := run_loadVar_row (P := Tryz.prog) w g t ty cs fr _ hg hu rfl hi
  refine ⟨h, ?_⟩
  simp only [Instr.loadAt, Instr.sureAddr, Sem.run_bind, Sem.run_pure, Result.andThen_ok, h]
theorem row_store {w : World} {g : Nat} {t ty : TypeId} {old cs : Array Value} (hg : w.heap[g]? = some (.cells old t (0, 0))) (hi : (Tryz.prog.info? ty).map (·.size) = some cs.size) (ho : old.size = cs.size) (h1 : cs.all (·.oneCell') = true) : ∃ w2, (Instr.storeAt ty (.pointer (some ⟨g, 0, none⟩)) (.agg cs)).run Tryz.prog w = .ok () w2 ∧ SetRow g cs t w w2 := by
  have h := run_storeVar_row (P := Tryz.prog) w g t ty old cs hg hi ho h1
  refine ⟨w.setRow g cs, ?_, setRow_heap w g old cs t _ hg, fun k hk => setRow_other w g k cs hk, by simp, rfl, rfl, rfl⟩
  simp only [Instr.storeAt, Instr.sureAddr, Sem.run_bind, Sem.run_pure, Result.andThen_ok, h]
theorem SetRow.kept {p g : Nat} {cs : Array Value} {t : TypeId} {W0 w w' : World} (h : SetRow g cs t w w') (hk : Kept p W0 w) (hg : W0.heap.size ≤ g) : Kept p W0 w' :=
  ⟨h.os.trans hk.os, h.tape.trans hk.tape, h.output.trans hk.output, by rw [h.size]; exact hk.size, fun k hk1 hk2 => (h.rest k (by omega)).trans (hk.rest k hk1 hk2)⟩
/-- The cells of a call. -/
abbrev callCells (s : StepR) : Array Value := #[.int .i64 s.ck, .string s.path, .string s.cto, .int .i64 s.off, .int .i64 s.cn, .string s.data, f64 s.time]
abbrev callZero : Array Value := #[.int .i64 0, .string ⟨#[]⟩, .string ⟨#[]⟩, .int .i64 0, .int .i64 0, .string ⟨#[]⟩, f64 0]
/-- While letters are gone through and words are taken: the reader, the struct, the iterator, the result's cells. -/
structure Cst (W0 : World) (B p r q k : Nat) (t : TypeId) (zero cells : Array Value) (args : ByteArray) (i : Nat) (ws : List Bs) (w : World) : Prop where
  rd : Rd B p ws w
  box : w.heap[q]? = some (.cells cells t (0, 0))
  res : w.heap[r]? = some (.cells zero t (0, 0))
  it : w.heap[k]? = some (.stringIter args i)
  kept : Kept p W0 w
  hB : B ≤ W0.heap.size
  hr : W0.heap.size ≤ r
  hq : W0.heap.size ≤ q
  hk : W0.heap.size ≤ k
  hrq : ¬ r = q
section
variable {W0 w w' : World} {B p r q k : Nat} {t : TypeId} {zero cells : Array Value} {args : ByteArray} {i : Nat} {ws : List Bs}
theorem Cst.qk (h : Cst W0 B p r q k t zero cells args i ws w) : ¬ q = k := fun e => by
  have h1 := h.box
  rw [e, h.it] at h1
  cases h1
theorem Cst.rk (h : Cst W0 B p r q k t zero cells args i ws w) : ¬ r = k := fun e => by
  have h1 := h.res
  rw [e, h.it] at h1
  cases h1
theorem Cst.cell (h : Cst W0 B p r q k t zero cells args i ws w) {j : Nat} {u : Value} (hu : cells[j]? = some u) : w.cell? ⟨q, j, none⟩ = some u := cell_at h.box hu
theorem Cst.fr (h : Cst W0 B p r q k t zero cells args i ws w) (j : Nat) : w.frozen? ⟨q, j, none⟩ = false := Lib.frozen_of_heap h.box j
theorem Cst.pk (h : Cst W0 B p r q k t zero cells args i ws w) : p < W0.heap.size := Nat.lt_of_lt_of_le h.rd.1 h.hB
/-- Nothing that was there has turned. -/
theorem Cst.later (h : Cst W0 B p r q k t zero cells args i ws w) (hb : Below w.heap.size w w') : Cst W0 B p r q k t zero cells args i ws w' :=
  ⟨h.rd.same fun j hj => hb.block j (by have := h.kept.size; have := h.hB; omega), (hb.block q (Array.getElem?_eq_some_iff.1 h.box).1).trans h.box, (hb.block r (Array.getElem?_eq_some_iff.1 h.res).1).trans h.res, (hb.block k (Array.getElem?_eq_some_iff.1 h.it).1).trans h.it, h.kept.trans (Kept.of_below hb), h.hB, h.hr, h.hq, h.hk, h.hrq⟩
/-- A word was taken. -/
theorem Cst.took (h : Cst W0 B p r q k t zero cells args i ws w) {ws' : List Bs} (hk : Kept p w w') (hr : Rd B p ws' w') : Cst W0 B p r q k t zero cells args i ws' w' :=
  ⟨hr, (hk.rest q (Array.getElem?_eq_some_iff.1 h.box).1 (by have := h.pk; have := h.hq; omega)).trans h.box, (hk.rest r (Array.getElem?_eq_some_iff.1 h.res).1 (by have := h.pk; have := h.hr; omega)).trans h.res, (hk.rest k (Array.getElem?_eq_some_iff.1 h.it).1 (by have := h.pk; have := h.hk; omega)).trans h.it, h.kept.trans hk, h.hB, h.hr, h.hq, h.hk, h.hrq⟩
theorem Cst.ended (h : Cst W0 B p r q k t zero cells args i ws w) (hi : ¬ i < args.size) : ∀ t, (Instr.next (.pointer (some ⟨k, 0, none⟩)) true t).run Tryz.prog w = .ok (.tuple #[.bool false]) w := fun t => Lib.run_next_end_at w k args i t h.it hi
/-- Some block of one's own has turned. -/
theorem Cst.turned (h : Cst W0 B p r q k t zero cells args i ws w) {g : Nat} (hg : W0.heap.size ≤ g) (hs : ∀ j, ¬ j = g → w'.heap[j]? = w.heap[j]?) (hz : w'.heap.size = w.heap.size) (ho : w'.os = w.os ∧ w'.tape = w.tape ∧ w'.output = w.output) {cells' : Array Value} {i' : Nat} (hq : w'.heap[q]? = some (.cells cells' t (0, 0))) (hk : w'.heap[k]? = some (.stringIter args i')) (hgr : ¬ r = g) : Cst W0 B p r q k t zero cells' args i' ws w' :=
  ⟨h.rd.same fun j hj => hs j (by have := h.hB; omega), hq, (hs r hgr).trans h.res, hk, ⟨ho.1.trans h.kept.os, ho.2.1.trans h.kept.tape, ho.2.2.trans h.kept.output, by rw [hz]; exact h.kept.size, fun j hj hp => (hs j (by omega)).trans (h.kept.rest j hj hp)⟩, h.hB, h.hr, h.hq, h.hk, h.hrq⟩
theorem Cst.next (h : Cst W0 B p r q k t zero cells args i ws w) {c : UInt8} (hc : args.data[i]? = some c) (ha : c.toNat < 128) : ∃ w2, (∀ t, (Instr.next (.pointer (some ⟨k, 0, none⟩)) true t).run Tryz.prog w = .ok (.tuple #[.bool true, .int .i64 i, .int .i32 c.toNat]) w2) ∧ Cst W0 B p r q k t zero cells args (i + 1) ws w2 ∧ (∀ j, ¬ j = k → w2.heap[j]? = w.heap[j]?) := by
  obtain ⟨hi, he⟩ := Array.getElem?_eq_some_iff.1 hc
  refine ⟨w.iterAt k args (i + 1), fun t => ?_, ?_, fun j hj => Lib.iterAt_other w k j args (i + 1) hj⟩
  · have := Lib.run_next_ascii_at (P := Tryz.prog) w k args i t h.it hi (by rw [ByteArray.getElem_eq_getElem_data, he]; exact ha)
    rw [this, ByteArray.getElem_eq_getElem_data, he]
  · exact h.turned h.hk (fun j hj => Lib.iterAt_other w k j args (i + 1) hj) (Lib.iterAt_size _ _ _ _) ⟨rfl, rfl, rfl⟩ ((Lib.iterAt_other w k q args (i + 1) h.qk).trans h.box) (Lib.iterAt_heap w k args i (i + 1) h.it) h.rk
theorem Cst.set (h : Cst W0 B p r q k t zero cells args i ws w) (j : Nat) (v : Value) : Cst W0 B p r q k t zero (cells.setIfInBounds j v) args i ws (w.setCell ⟨q, j, none⟩ v) := by
  refine h.turned h.hq (fun g hg => heap_set_other w _ v g hg) (by simp [World.setCell]) ⟨rfl, rfl, rfl⟩ ?_ ((heap_set_other w _ v k (fun e => h.qk e.symm)).trans h.it) h.hrq
  simp only [World.setCell, Array.getElem?_modify, if_true, h.box]
  rfl
end
/-- What the letters to come and the words at hand give is what all gave. -/
def RunsC (R : Option (StepR × List Bs)) (cs : Bs) (i : Nat) (s : StepR) (ws : List Bs) : Prop := R = runC (cs.drop i) s ws
section
variable {R : Option (StepR × List Bs)} {cs : Bs} {i : Nat} {s : StepR} {ws : List Bs} {c : UInt8}
theorem RunsC.empty (h : RunsC R cs i s []) (hc : cs[i]? = some c) : R = none := by
  obtain ⟨hi, he⟩ := List.getElem?_eq_some_iff.1 hc
  unfold RunsC at h
  rw [h, List.drop_eq_getElem_cons hi]
  rfl
theorem RunsC.fail {t : Bs} (h : RunsC R cs i s (t :: ws)) (hc : cs[i]? = some c) (hf : setC s c t = none) : R = none := by
  obtain ⟨hi, he⟩ := List.getElem?_eq_some_iff.1 hc
  unfold RunsC at h
  rw [h, List.drop_eq_getElem_cons hi, he]
  simp [runC, hf]
theorem RunsC.step {t : Bs} {s' : StepR} (h : RunsC R cs i s (t :: ws)) (hc : cs[i]? = some c) (hf : setC s c t = some s') : RunsC R cs (i + 1) s' ws := by
  obtain ⟨hi, he⟩ := List.getElem?_eq_some_iff.1 hc
  unfold RunsC at h ⊢
  rw [h, List.drop_eq_getElem_cons hi, he]
  simp [runC, hf]
theorem RunsC.done (h : RunsC R cs i s ws) (hi : ¬ i < cs.length) : R = some (s, ws) := by
  unfold RunsC at h
  rw [h, List.drop_eq_nil_of_le (by omega)]
  rfl
end
/-- What reading a call gives. -/
def CallC (R : Option (StepR × List Bs)) (B p : Nat) (w : World) (e : Ending) (w' : World) : Prop := (∃ s ws, R = some (s, ws) ∧ e = .returned (.agg (callCells s)) ∧ Kept p w w' ∧ Rd B p ws w') ∨ (R = none ∧ e = .panicked [refusal] ∧ Kept p w w')
theorem CallC.thrown {R : Option (StepR × List Bs)} {B p : Nat} {w w' : World} (h : R = none) (hk : Kept p w w') : CallC R B p w (.panicked [refusal]) w' := Or.inr ⟨h, rfl, hk⟩
section
variable (t : Bs) (W : World)
theorem wtext_none (ht : t.length ≤ 30000000) (h : unwordL t = none) : Calls Tryz.prog 59 #[str t] W fun e w' => e = .panicked [refusal] ∧ Below W.heap.size W w' := by
  refine (text_any ⟨t.toArray⟩ W ht).mono ?_
  rw [h]
  rintro e w' (⟨_, h1, _⟩ | ⟨_, h2, h3⟩)
  · cases h1
  · exact ⟨h2, h3⟩
theorem wtext_some (ht : t.length ≤ 30000000) (u : Bs) (h : unwordL t = some u) : Calls Tryz.prog 59 #[str t] W fun e w' => e = .returned (str u) ∧ Below W.heap.size W w' := by
  refine (text_any ⟨t.toArray⟩ W ht).mono ?_
  rw [h]
  rintro e w' (⟨_, h1, h2, h3⟩ | ⟨h1, _⟩)
  · injection h1 with h1
    subst h1; exact ⟨h2, h3⟩
  · cases h1
theorem wnum_none (ht : t.length ≤ 30000000) (h : numL t = none) (hg : Glob W) : Calls Tryz.prog 58 #[str t] W fun e w' => e = .panicked [refusal] ∧ Below W.heap.size W w' := by
  refine (number_any ⟨t.toArray⟩ W ht hg).mono ?_
  rw [h]
  rintro e w' (⟨_, h1, _⟩ | ⟨_, h2, h3⟩)
  · cases h1
  · exact ⟨h2, h3⟩
theorem wnum_some (ht : t.length ≤ 30000000) (n : Int) (h : numL t = some n) (hg : Glob W) : Calls Tryz.prog 58 #[str t] W fun e w' => e = .returned (.int .i64 n) ∧ Below W.heap.size W w' := by
  refine (number_any ⟨t.toArray⟩ W ht hg).mono ?_
  rw [h]
  rintro e w' (⟨_, h1, h2, h3⟩ | ⟨h1, _⟩)
  · injection h1 with h1
    subst h1; exact ⟨h2, h3⟩
  · cases h1
theorem wtime_none (ht : t.length ≤ 30000000) (h : timeU t = none) (hg : Glob W) : Calls Tryz.prog 79 #[str t] W fun e w' => e = .panicked [refusal] ∧ Below W.heap.size W w' := by
  refine (timeu_any ⟨t.toArray⟩ W ht hg).mono ?_
  rw [h]
  rintro e w' (⟨_, h1, _⟩ | ⟨_, h2, h3⟩)
  · cases h1
  · exact ⟨h2, h3⟩
theorem wtime_some (ht : t.length ≤ 30000000) (b : Nat) (h : timeU t = some b) (hg : Glob W) : Calls Tryz.prog 79 #[str t] W fun e w' => e = .returned (f64 b) ∧ Below W.heap.size W w' := by
  refine (timeu_any ⟨t.toArray⟩ W ht hg).mono ?_
  rw [h]
  rintro e w' (⟨_, h1, h2, h3⟩ | ⟨h1, _⟩)
  · injection h1 with h1
    subst h1; exact ⟨h2, h3⟩
  · cases h1
end
end Go.Proofs.YtmcooenafgihkaaGreatDoor
