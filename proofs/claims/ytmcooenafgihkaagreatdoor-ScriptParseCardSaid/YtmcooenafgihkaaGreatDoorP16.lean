/- Helper lemmas: what stands while a step is read off its words. No condition. -/
import Derived.Test.YtmcooenafgihkaaGreatDoorP15
import Derived.Deep.MidRow
set_option linter.unusedSimpArgs false
set_option linter.unusedVariables false
namespace Go.Proofs.YtmcooenafgihkaaGreatDoor
open Go.RowKit

/-- Numbers as values. -/
def ints (l : List Int) : List Value := l.map (Value.int .i64)
theorem ints_len (l : List Int) : (ints l).length = l.length := by simp [ints]
/-- A row of one's own that holds these numbers. -/
def OwnI (w : World) (B : Nat) (v : Value) (l : List Int) : Prop := w.ownsRow B 3 1 v (ints l).length (ints l)
/-- One number behind a row of numbers of one's own. -/
theorem app_int (B : Nat) (W : World) (v : Value) (l : List Int) (t : Int) (HO : OwnI W B v l) (hB : B ≤ W.heap.size) (hl : l.length ≤ 10000000) :
    ∃ (A : Option Addr) (m c : Nat) (w2 : World), (Builtin.append_ #[28, 28] 28 #[v, .slice (some ⟨W.heap.size, 0, none⟩) 1 1]).run Tryz.prog (W.alloc (.cells #[.int .i64 t] 3)) = .ok (.slice A m c) w2 ∧ OwnI w2 B (.slice A m c) (l ++ [t]) ∧ Below B W w2 ∧ (∀ k, k < W.heap.size → ¬ v.ownBlock = some k → w2.heap[k]? = W.heap[k]?) := by
  obtain ⟨i0, hi, hz0, hz1, hz2⟩ := info_parts (show (Tryz.prog.info? 3).map (fun i => (i.zero, i.size, i.bytes)) = some (some (.int .i64 0), 1, 8) by kernel_rfl)
  unfold OwnI at HO
  rw [ints_len] at HO
  obtain ⟨v2, w2, hr, hown, hg, _, _⟩ := run_append_own_at (P := Tryz.prog) (W.alloc (.cells #[.int .i64 t] 3)) B 28 28 3 i0 (.int .i64 0) 1 8 Tryz.underlying28 hi hz0 hz1 hz2 rfl (by decide) v l.length (ints l) (HO.alloc _) ⟨W.heap.size, 0, none⟩ 1 1 [.int .i64 t] rfl
    (World.news_of_block (cs := #[.int .i64 t]) (t := 3) (fr := (0, 0)) (heap_alloc_new W _)) (by simp [Value.oneCell']) (by simp only [maxLen]; omega) (by omega) (by simp; omega)
  have own_b : ∀ k, v.ownBlock = some k → B ≤ k := fun k hk => (HO.lt k hk).1
  obtain ⟨A, m, c, rfl⟩ := own_sl hown
  refine ⟨A, m, c, w2, hr, ?_, ((Below.refl B W).alloc hB _).grown hg (by simp; omega) own_b, fun k hk hne => ?_⟩
  · unfold OwnI
    rw [ints_len, List.length_append]
    unfold ints at hown ⊢
    rw [List.map_append]; exact hown
  · rw [hg.block k (by simp; omega) (fun e => hne e.symm)]
    exact Lib.alloc_old W _ k hk
/-- The cells of a step. -/
abbrev stepCells (s : StepR) (v : Value) : Array Value := #[.int .i64 s.kind, .int .i64 s.rep, .string s.vol, .string s.dst, .int .i64 s.n, v, .int .i64 s.ck, .string s.path, .string s.cto, .int .i64 s.off, .int .i64 s.cn, .string s.data, f64 s.time]
abbrev stepZero : Array Value := #[.int .i64 0, .int .i64 0, .string ⟨#[]⟩, .string ⟨#[]⟩, .int .i64 0, .slice none 0 0, .int .i64 0, .string ⟨#[]⟩, .string ⟨#[]⟩, .int .i64 0, .int .i64 0, .string ⟨#[]⟩, f64 0]
/-- While a step's letters are gone through. -/
structure Stp (W0 : World) (B p r q k : Nat) (args : ByteArray) (i : Nat) (s : StepR) (v : Value) (ws : List Bs) (w : World) : Prop where
  c : Cst W0 B p r q k 33 stepZero (stepCells s v) args i ws w
  own : OwnI w W0.heap.size v s.keep
section
variable {W0 w w' : World} {B p r q k : Nat} {args : ByteArray} {i : Nat} {s : StepR} {v : Value} {ws : List Bs}
theorem Stp.later (h : Stp W0 B p r q k args i s v ws w) (hb : Below w.heap.size w w') : Stp W0 B p r q k args i s v ws w' := ⟨h.c.later hb, own_below h.own hb⟩
theorem Stp.took (h : Stp W0 B p r q k args i s v ws w) {ws' : List Bs} (hk : Kept p w w') (hr : Rd B p ws' w') : Stp W0 B p r q k args i s v ws' w' :=
  ⟨h.c.took hk hr, own_upd h.own fun g hg => hk.rest g (h.own.lt g hg).2 (by have := (h.own.lt g hg).1; have := h.c.pk; omega)⟩
theorem Stp.next (h : Stp W0 B p r q k args i s v ws w) {c : UInt8} (hc : args.data[i]? = some c) (ha : c.toNat < 128) : ∃ w2, (∀ t, (Instr.next (.pointer (some ⟨k, 0, none⟩)) true t).run Tryz.prog w = .ok (.tuple #[.bool true, .int .i64 i, .int .i32 c.toNat]) w2) ∧ Stp W0 B p r q k args (i + 1) s v ws w2 := by
  obtain ⟨w2, h1, h2, h3⟩ := h.c.next hc ha
  exact ⟨w2, h1, h2, own_upd h.own fun g hg => h3 g fun e => by subst e; exact own_ne h.own h.c.it (fun _ _ e => by cases e) hg⟩
theorem Stp.qne (h : Stp W0 B p r q k args i s v ws w) : ¬ v.ownBlock = some q := own_ne h.own h.c.box fun _ _ e => by injection e with _ e2; exact absurd e2 (by decide)
/-- A field was set. -/
theorem Stp.set (h : Stp W0 B p r q k args i s v ws w) (j : Nat) (u : Value) (s' : StepR) (hc : (stepCells s v).setIfInBounds j u = stepCells s' v) (hk : s'.keep = s.keep) : Stp W0 B p r q k args i s' v ws (w.setCell ⟨q, j, none⟩ u) := by
  have h1 := h.c.set j u
  rw [hc] at h1
  refine ⟨h1, ?_⟩
  rw [hk]
  exact own_upd h.own fun g hg => heap_set_other w _ u g fun e => by subst e; exact h.qne hg
/-- The call was set. -/
theorem Stp.call (h : Stp W0 B p r q k args i s v ws w) {s' : StepR} {w' : World} (hs : SetRow q (stepCells s' v) 33 w w') (hk : s'.keep = s.keep) : Stp W0 B p r q k args i s' v ws w' := by
  refine ⟨h.c.turned h.c.hq hs.rest hs.size ⟨hs.os, hs.tape, hs.output⟩ hs.at' ((hs.rest k (fun e => h.c.qk e.symm)).trans h.c.it) h.c.hrq, ?_⟩
  rw [hk]
  exact own_upd h.own fun g hg => hs.rest g fun e => by subst e; exact h.qne hg
theorem Stp.size (h : Stp W0 B p r q k args i s v ws w) : W0.heap.size ≤ w.heap.size := h.c.kept.size
/-- A number was added. -/
theorem Stp.push (h : Stp W0 B p r q k args i s v ws w) (n : Int) (hl : s.keep.length ≤ 10000000) : ∃ (A : Option Addr) (m c : Nat) (w2 : World), (Builtin.append_ #[28, 28] 28 #[v, .slice (some ⟨w.heap.size, 0, none⟩) 1 1]).run Tryz.prog (w.alloc (.cells #[.int .i64 n] 3)) = .ok (.slice A m c) w2 ∧ w2.cell? ⟨q, 5, none⟩ = some v ∧ w2.frozen? ⟨q, 5, none⟩ = false ∧ Stp W0 B p r q k args i { s with keep := s.keep ++ [n] } (.slice A m c) ws (w2.setCell ⟨q, 5, none⟩ (.slice A m c)) := by
  obtain ⟨A, m, c, w2, h1, h2, h3, h4⟩ := app_int W0.heap.size w v s.keep n h.own h.size hl
  have kept2 : Kept p W0 w2 := ⟨h3.1.trans h.c.kept.os, h3.2.trans h.c.kept.tape, h3.3.trans h.c.kept.output, Nat.le_trans h.size (by
    rcases Nat.lt_or_ge w2.heap.size w.heap.size with hlt | hge
    · have := h3.size; exact h3.size
    · exact hge), fun j hj hp => (h3.block j hj).trans (h.c.kept.rest j hj hp)⟩
  have hb : w2.heap[q]? = some (.cells (stepCells s v) 33 (0, 0)) := (h4 q (Array.getElem?_eq_some_iff.1 h.c.box).1 h.qne).trans h.c.box
  have hr : w2.heap[r]? = some (.cells stepZero 33 (0, 0)) := (h4 r (Array.getElem?_eq_some_iff.1 h.c.res).1 (own_ne h.own h.c.res fun _ _ e => by injection e with _ e2; exact absurd e2 (by decide))).trans h.c.res
  have hk : w2.heap[k]? = some (.stringIter args i) := (h4 k (Array.getElem?_eq_some_iff.1 h.c.it).1 (own_ne h.own h.c.it fun _ _ e => by cases e)).trans h.c.it
  have c2 : Cst W0 B p r q k 33 stepZero (stepCells s v) args i ws w2 := ⟨h.c.rd.same fun j hj => h3.block j (Nat.lt_of_lt_of_le hj h.c.hB), hb, hr, hk, kept2, h.c.hB, h.c.hr, h.c.hq, h.c.hk, h.c.hrq⟩
  refine ⟨A, m, c, w2, h1, cell_at hb rfl, Lib.frozen_of_heap hb 5, c2.set 5 _, ?_⟩
  exact own_upd h2 fun g hg => heap_set_other w2 _ _ g fun e => by
    subst e
    exact own_ne h2 hb (fun _ _ e => by injection e with _ e2; exact absurd e2 (by decide)) hg
end
/-- What the letters to come and the words at hand give is what all gave. -/
def RunsS (R : Option StepR) (cs : Bs) (i : Nat) (s : StepR) (ws : List Bs) : Prop := R = runS (cs.drop i) s ws
/-- The same, while numbers are collected. -/
def RunsK (R : Option StepR) (cs : Bs) (i : Nat) (s : StepR) (ws : List Bs) : Prop := R = (numsL ws).bind fun l => runS (cs.drop i) { s with keep := s.keep ++ l } []
section
variable {R : Option StepR} {cs : Bs} {i : Nat} {s : StepR} {ws : List Bs} {c : UInt8}
theorem drop_at (hc : cs[i]? = some c) : cs.drop i = c :: cs.drop (i + 1) := by
  obtain ⟨hi, he⟩ := List.getElem?_eq_some_iff.1 hc
  rw [List.drop_eq_getElem_cons hi, he]
theorem RunsS.empty (h : RunsS R cs i s []) (hc : cs[i]? = some c) (h1 : oneS c = true) : R = none := by
  unfold RunsS at h
  rw [h, drop_at hc, runS_none h1]
theorem RunsS.fail {t : Bs} (h : RunsS R cs i s (t :: ws)) (hc : cs[i]? = some c) (h1 : oneS c = true) (hf : setS s c t = none) : R = none := by
  unfold RunsS at h
  rw [h, drop_at hc, runS_one h1, hf]; rfl
theorem RunsS.step {t : Bs} {s' : StepR} (h : RunsS R cs i s (t :: ws)) (hc : cs[i]? = some c) (h1 : oneS c = true) (hf : setS s c t = some s') : RunsS R cs (i + 1) s' ws := by
  unfold RunsS at h ⊢
  rw [h, drop_at hc, runS_one h1, hf]; rfl
theorem RunsS.keep (h : RunsS R cs i s ws) (hc : cs[i]? = some 107) : RunsK R cs (i + 1) s ws := by
  unfold RunsS at h
  unfold RunsK
  rw [h, drop_at hc]
  conv => lhs; unfold runS; rw [if_neg (by decide), if_pos rfl]
theorem RunsS.callNone (h : RunsS R cs i s ws) (hc : cs[i]? = some 99) (hf : callP s ws = none) : R = none := by
  unfold RunsS at h
  rw [h, drop_at hc]
  unfold runS
  rw [if_neg (by decide), if_neg (by decide), hf]; rfl
theorem RunsS.callSome (h : RunsS R cs i s ws) (hc : cs[i]? = some 99) {x : StepR} {r : List Bs} (hf : callP s ws = some (x, r)) : RunsS R cs (i + 1) x r := by
  unfold RunsS at h ⊢
  rw [h, drop_at hc]
  conv => lhs; unfold runS; rw [if_neg (by decide), if_neg (by decide), hf]
  rfl
theorem RunsS.done (h : RunsS R cs i s []) (hi : ¬ i < cs.length) : R = some s := by
  unfold RunsS at h
  rw [h, List.drop_eq_nil_of_le (by omega)]
  rfl
theorem RunsS.left {t : Bs} (h : RunsS R cs i s (t :: ws)) (hi : ¬ i < cs.length) : R = none := by
  unfold RunsS at h
  rw [h, List.drop_eq_nil_of_le (by omega)]
  rfl
theorem RunsK.fail {t : Bs} (h : RunsK R cs i s (t :: ws)) (hf : numL t = none) : R = none := by
  unfold RunsK at h
  rw [h]
  simp [numsL, hf]
theorem RunsK.step {t : Bs} {n : Int} (h : RunsK R cs i s (t :: ws)) (hf : numL t = some n) : RunsK R cs i { s with keep := s.keep ++ [n] } ws := by
  unfold RunsK at h ⊢
  rw [h]
  simp only [numsL, hf, Option.bind_some]
  cases numsL ws with
  | none => rfl
  | some l => simp
theorem RunsK.done (h : RunsK R cs i s []) : RunsS R cs i s [] := by
  unfold RunsK at h
  unfold RunsS
  rw [h]
  simp [numsL]
end
/-- What reading a call leaves as it was. -/
theorem setC_same {s s' : StepR} {c : UInt8} {w : Bs} (h : setC s c w = some s') : s'.kind = s.kind ∧ s'.rep = s.rep ∧ s'.vol = s.vol ∧ s'.dst = s.dst ∧ s'.n = s.n ∧ s'.keep = s.keep := by
  have key : ∀ {α : Type} {o : Option α} {f : α → StepR}, o.map f = some s' → (∀ a, (f a).kind = s.kind ∧ (f a).rep = s.rep ∧ (f a).vol = s.vol ∧ (f a).dst = s.dst ∧ (f a).n = s.n ∧ (f a).keep = s.keep) → s'.kind = s.kind ∧ s'.rep = s.rep ∧ s'.vol = s.vol ∧ s'.dst = s.dst ∧ s'.n = s.n ∧ s'.keep = s.keep := fun h hf => by
    obtain ⟨_, _, rfl⟩ := Option.map_eq_some_iff.1 h
    exact hf _
  unfold setC at h
  by_cases h1 : c = 116
  · rw [if_pos h1] at h; exact key h fun _ => ⟨rfl, rfl, rfl, rfl, rfl, rfl⟩
  rw [if_neg h1] at h
  by_cases h1 : c = 111
  · rw [if_pos h1] at h; exact key h fun _ => ⟨rfl, rfl, rfl, rfl, rfl, rfl⟩
  rw [if_neg h1] at h
  by_cases h1 : c = 110
  · rw [if_pos h1] at h; exact key h fun _ => ⟨rfl, rfl, rfl, rfl, rfl, rfl⟩
  rw [if_neg h1] at h
  by_cases h1 : c = 100
  · rw [if_pos h1] at h; exact key h fun _ => ⟨rfl, rfl, rfl, rfl, rfl, rfl⟩
  rw [if_neg h1] at h
  exact key h fun _ => ⟨rfl, rfl, rfl, rfl, rfl, rfl⟩
theorem runC_same : ∀ (cs : Bs) (s x : StepR) (ws r : List Bs), runC cs s ws = some (x, r) → (x.kind = s.kind ∧ x.rep = s.rep ∧ x.vol = s.vol ∧ x.dst = s.dst ∧ x.n = s.n ∧ x.keep = s.keep) ∧ ∃ us, ws = us ++ r
  | [], s, x, ws, r, h => by
    simp only [runC, Option.some.injEq, Prod.mk.injEq] at h
    obtain ⟨rfl, rfl⟩ := h
    exact ⟨⟨rfl, rfl, rfl, rfl, rfl, rfl⟩, [], rfl⟩
  | _ :: _, s, x, [], r, h => by simp [runC] at h
  | c :: cs, s, x, w :: ws, r, h => by
    simp only [runC] at h
    obtain ⟨s', h1, h2⟩ := Option.bind_eq_some_iff.1 h
    obtain ⟨a1, a2, a3, a4, a5, a6⟩ := setC_same h1
    obtain ⟨⟨b1, b2, b3, b4, b5, b6⟩, us, rfl⟩ := runC_same cs s' x ws r h2
    exact ⟨⟨b1.trans a1, b2.trans a2, b3.trans a3, b4.trans a4, b5.trans a5, b6.trans a6⟩, w :: us, rfl⟩
theorem callP_same {s x : StepR} {ws r : List Bs} (h : callP s ws = some (x, r)) : (x.kind = s.kind ∧ x.rep = s.rep ∧ x.vol = s.vol ∧ x.dst = s.dst ∧ x.n = s.n ∧ x.keep = s.keep) ∧ ∃ us, ws = us ++ r := by
  match ws with
  | [] => simp [callP] at h
  | w :: ws =>
    simp only [callP] at h
    obtain ⟨i, hi, h⟩ := Option.bind_eq_some_iff.1 h
    match ws with
    | [] => simp at h
    | p :: ws =>
      simp only at h
      obtain ⟨t, ht, h⟩ := Option.bind_eq_some_iff.1 h
      obtain ⟨a, us, rfl⟩ := runC_same _ _ _ _ _ h
      exact ⟨a, w :: p :: us, rfl⟩
theorem heap_set_at {w : World} {q : Nat} {cs : Array Value} {t : TypeId} {fr : Nat × Nat} (h : w.heap[q]? = some (.cells cs t fr)) (j : Nat) (v : Value) : (w.setCell ⟨q, j, none⟩ v).heap[q]? = some (.cells (cs.setIfInBounds j v) t fr) := by
  simp only [World.setCell, Array.getElem?_modify, if_true, h]
  rfl
theorem set_size (w : World) (a : Addr) (v : Value) : (w.setCell a v).heap.size = w.heap.size := by simp [World.setCell]
/-- The cells of a call set within a step's. -/
theorem call_store {w : World} {q : Nat} {s s' : StepR} {v : Value} (hq : w.heap[q]? = some (.cells (stepCells s v) 33 (0, 0))) (hs : s'.kind = s.kind ∧ s'.rep = s.rep ∧ s'.vol = s.vol ∧ s'.dst = s.dst ∧ s'.n = s.n ∧ s'.keep = s.keep) : 
    ∃ w2, (Instr.storeAt 31 (.pointer (some ⟨q, 6, none⟩)) (.agg (callCells s'))).run Tryz.prog w = .ok () w2 ∧ SetRow q (stepCells s' v) 33 w w2 := by
  have hsz : (callCells s').size = 7 := by simp
  have hz2 : (stepCells s v).size = 13 := by simp
  have ht : w.there q 6 7 := by
    intro j hj
    have hc : w.cell? ⟨q, 6 + j, none⟩ = (stepCells s v)[6 + j]? := Lib.cell_of_heap hq _
    refine ⟨?_, Lib.frozen_of_heap hq _⟩
    rw [hc, Array.getElem?_eq_getElem (by rw [hz2]; omega)]
    rfl
  have hi : (Tryz.prog.info? 31).map (·.size) = some 7 := by kernel_rfl
  have ho : (callCells s').all (·.oneCell') = true := by simp [Value.oneCell']
  rw [← hsz] at ht hi
  have h := run_storeAt_mid (P := Tryz.prog) w q 6 31 (callCells s') ht hi ho
  have en : w.setCells q 6 (callCells s').toList = ((((((w.setCell ⟨q, 6, none⟩ (.int .i64 s'.ck)).setCell ⟨q, 7, none⟩ (.string s'.path)).setCell ⟨q, 8, none⟩ (.string s'.cto)).setCell ⟨q, 9, none⟩ (.int .i64 s'.off)).setCell ⟨q, 10, none⟩ (.int .i64 s'.cn)).setCell ⟨q, 11, none⟩ (.string s'.data)).setCell ⟨q, 12, none⟩ (f64 s'.time) := by simp only [World.setCells]
  rw [en] at h
  clear en ht hi ho
  refine ⟨_, h, ?_⟩
  obtain ⟨a1, a2, a3, a4, a5, a6⟩ := hs
  have hlt := (Array.getElem?_eq_some_iff.1 hq).1
  refine ⟨?_, fun k hk => ?_, ?_, by simp only [World.setCell], by simp only [World.setCell], by simp only [World.setCell]⟩
  · have e := heap_set_at (heap_set_at (heap_set_at (heap_set_at (heap_set_at (heap_set_at (heap_set_at hq 6 (.int .i64 s'.ck)) 7 (.string s'.path)) 8 (.string s'.cto)) 9 (.int .i64 s'.off)) 10 (.int .i64 s'.cn)) 11 (.string s'.data)) 12 (f64 s'.time)
    have e2 : stepCells s' v = #[.int .i64 s.kind, .int .i64 s.rep, .string s.vol, .string s.dst, .int .i64 s.n, v, .int .i64 s'.ck, .string s'.path, .string s'.cto, .int .i64 s'.off, .int .i64 s'.cn, .string s'.data, f64 s'.time] := by rw [← a1, ← a2, ← a3, ← a4, ← a5]
    rw [e2, e]
    simp
  · exact (heap_set_other _ _ _ k hk).trans ((heap_set_other _ _ _ k hk).trans ((heap_set_other _ _ _ k hk).trans ((heap_set_other _ _ _ k hk).trans ((heap_set_other _ _ _ k hk).trans ((heap_set_other _ _ _ k hk).trans (heap_set_other _ _ _ k hk))))))
  · exact (set_size _ _ _).trans ((set_size _ _ _).trans ((set_size _ _ _).trans ((set_size _ _ _).trans ((set_size _ _ _).trans ((set_size _ _ _).trans (set_size _ _ _))))))
end Go.Proofs.YtmcooenafgihkaaGreatDoor
