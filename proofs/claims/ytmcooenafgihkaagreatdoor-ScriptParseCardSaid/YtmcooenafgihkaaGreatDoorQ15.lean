/- Helper lemmas: what stands while the reference reads a line. No condition. -/
import Derived.Test.YtmcooenafgihkaaGreatDoorQ13
import Derived.Test.YtmcooenafgihkaaGreatDoorQ14
import Derived.Test.YtmcooenafgihkaaGreatDoorP19
set_option linter.unusedSimpArgs false
set_option linter.unusedVariables false
namespace Go.Proofs.YtmcooenafgihkaaGreatDoor
open Go.RowKit

/-- While a line is read: the result's cells, the step's, its numbers, the words. -/
structure Lst (w0 : World) (r q g o : Nat) (l : List Bs) (s : StepR) (v : Value) (w : World) : Prop where
  res : w.heap[r]? = some (.cells stepZero 33 (0, 0))
  box : w.heap[q]? = some (.cells (stepCells s v) 33 (0, 0))
  bel : Below w0.heap.size w0 w
  own : OwnI w w0.heap.size v s.keep
  wds : ∀ i, i < l.length → w.cell? ⟨g, o + i, none⟩ = some (str (l.getD i []))
  blk : ∃ cs fr, w.heap[g]? = some (.cells cs 9 fr)
  hr : w0.heap.size ≤ r
  hq : w0.heap.size ≤ q
  hrq : ¬ r = q
section
variable {w0 w w' : World} {r q g o : Nat} {l : List Bs} {s : StepR} {v : Value}
theorem Lst.gq (h : Lst w0 r q g o l s v w) : ¬ g = q := fun e => by
  obtain ⟨cs, fr, hb⟩ := h.blk
  have := h.box
  rw [← e, hb] at this
  injection this with this
  injection this with _ e2
  exact absurd e2 (by decide)
theorem Lst.gr (h : Lst w0 r q g o l s v w) : ¬ g = r := fun e => by
  obtain ⟨cs, fr, hb⟩ := h.blk
  have := h.res
  rw [← e, hb] at this
  injection this with this
  injection this with _ e2
  exact absurd e2 (by decide)
theorem Lst.vq (h : Lst w0 r q g o l s v w) : ¬ v.ownBlock = some q := own_ne h.own h.box fun _ _ e => by injection e with _ e2; exact absurd e2 (by decide)
theorem Lst.vr (h : Lst w0 r q g o l s v w) : ¬ v.ownBlock = some r := own_ne h.own h.res fun _ _ e => by injection e with _ e2; exact absurd e2 (by decide)
theorem Lst.vg (h : Lst w0 r q g o l s v w) : ¬ v.ownBlock = some g := by
  obtain ⟨cs, fr, hb⟩ := h.blk
  exact own_ne h.own hb fun _ _ e => by injection e with _ e2; exact absurd e2 (by decide)
theorem Lst.later (h : Lst w0 r q g o l s v w) (hb : Below w.heap.size w w') : Lst w0 r q g o l s v w' := by
  obtain ⟨cs, fr, hk⟩ := h.blk
  exact ⟨(hb.block _ (Array.getElem?_eq_some_iff.1 h.res).1).trans h.res, (hb.block _ (Array.getElem?_eq_some_iff.1 h.box).1).trans h.box, below_tr h.bel hb, own_below h.own hb,
    fun i hi => (hb.cell (p := ⟨g, o + i, none⟩) (World.block_lt_of_cell? w _ (h.wds i hi))).trans (h.wds i hi), ⟨cs, fr, (hb.block _ (Array.getElem?_eq_some_iff.1 hk).1).trans hk⟩, h.hr, h.hq, h.hrq⟩
theorem cell_same {a i : Nat} {u : Value} (e : w'.heap[a]? = w.heap[a]?) (h : w.cell? ⟨a, i, none⟩ = some u) : w'.cell? ⟨a, i, none⟩ = some u := by
  unfold World.cell? at h ⊢
  simp only at h ⊢
  rw [e]; exact h
theorem Lst.set (h : Lst w0 r q g o l s v w) (j : Nat) (u : Value) (s' : StepR) (hc : (stepCells s v).setIfInBounds j u = stepCells s' v) (hk : s'.keep = s.keep) : Lst w0 r q g o l s' v (w.setCell ⟨q, j, none⟩ u) := by
  obtain ⟨cs, fr, hb⟩ := h.blk
  have eg := heap_set_other w ⟨q, j, none⟩ u g h.gq
  refine ⟨(heap_set_other _ _ _ _ h.hrq).trans h.res, (heap_set_at h.box j u).trans (by rw [hc]), Below.setCell h.bel h.hq _, ?_, fun i hi => cell_same eg (h.wds i hi), ⟨cs, fr, eg.trans hb⟩, h.hr, h.hq, h.hrq⟩
  rw [hk]
  exact own_upd h.own fun k hk => heap_set_other _ _ _ _ fun e => h.vq (hk.trans (congrArg some e))
/-- What a word sets is stored: a box at p first, then the step. -/
theorem Lst.near (h : Lst w0 r q g o l s v w) {w1 w2 : World} {p : Nat} (hm : Moved w0.heap.size v w w1) (hk : Kept p w1 w2) (hp0 : w0.heap.size ≤ p) (hpr : ¬ r = p) : w2.heap[r]? = some (.cells stepZero 33 (0, 0)) ∧ Below w0.heap.size w0 w2 := by
  have lr := (Array.getElem?_eq_some_iff.1 h.res).1
  have r1 := (hm.rest r lr h.vr).trans h.res
  refine ⟨(hk.rest r (Array.getElem?_eq_some_iff.1 r1).1 hpr).trans r1, ?_⟩
  have b1 : Below w0.heap.size w0 w1 := h.bel.trans hm.bel
  exact ⟨hk.os.trans b1.os, hk.tape.trans b1.tape, hk.output.trans b1.output, Nat.le_trans b1.size hk.size, fun k hk1 => (hk.rest k (Nat.lt_of_lt_of_le hk1 b1.size) (by omega)).trans (b1.block k hk1)⟩
theorem Lst.stays (h : Lst w0 r q g o l s v w) {w1 w2 : World} {p : Nat} (hm : Moved w0.heap.size v w w1) (hk : Kept p w1 w2) (hpq : ¬ q = p) : w2.heap[q]? = some (.cells (stepCells s v) 33 (0, 0)) := by
  have q1 := (hm.rest q (Array.getElem?_eq_some_iff.1 h.box).1 h.vq).trans h.box
  exact (hk.rest q (Array.getElem?_eq_some_iff.1 q1).1 hpq).trans q1
theorem Lst.put (h : Lst w0 r q g o l s v w) {w1 w2 w3 : World} {s' : StepR} {v' : Value} {p : Nat} (hm : Moved w0.heap.size v w w1) (ho : OwnI w1 w0.heap.size v' s'.keep) (hk : Kept p w1 w2) (hp0 : w0.heap.size ≤ p) (hpr : ¬ r = p) (hpq : ¬ q = p) (hpg : ¬ g = p) (hpv : ¬ v'.ownBlock = some p) (hs : SetRow q (stepCells s' v') 33 w2 w3) : Lst w0 r q g o l s' v' w3 := by
  obtain ⟨cs, fr, hkb⟩ := h.blk
  obtain ⟨r2, b2⟩ := h.near hm hk hp0 hpr
  have q2 := h.stays hm hk hpq
  have g1 := hm.rest g (Array.getElem?_eq_some_iff.1 hkb).1 h.vg
  have g2 := (hk.rest g (Array.getElem?_eq_some_iff.1 (g1.trans hkb)).1 hpg).trans g1
  have eg := (hs.rest g h.gq).trans g2
  have o2 : OwnI w2 w0.heap.size v' s'.keep := own_upd ho fun k hk1 => hk.rest k (ho.lt k hk1).2 fun e => hpv (hk1.trans (congrArg some e))
  exact ⟨(hs.rest r h.hrq).trans r2, hs.at', ⟨hs.os.trans b2.os, hs.tape.trans b2.tape, hs.output.trans b2.output, by rw [hs.size]; exact b2.size, fun k hk => (hs.rest k (by have := h.hq; omega)).trans (b2.block k hk)⟩, own_upd o2 fun k hk => hs.rest k fun e => own_ne o2 q2 (fun _ _ e => by injection e with _ e2; exact absurd e2 (by decide)) (hk.trans (congrArg some e)), fun i hi => cell_same eg (h.wds i hi), ⟨cs, fr, eg.trans hkb⟩, h.hr, h.hq, h.hrq⟩
theorem setR_keep_len {s s' : StepR} {c : UInt8} {t : Bs} (h : setR s c t = some s') : s'.keep.length ≤ s.keep.length + 1 := by
  by_cases hc : c = 107
  · subst hc
    have e : setR s 107 t = (numL t).map fun n => { s with keep := s.keep ++ [n] } := by simp [setR]
    rw [e] at h
    obtain ⟨n, _, rfl⟩ := Option.map_eq_some_iff.1 h
    simp
  · rw [setR_keep h hc]; omega
theorem Lst.res_store (h : Lst w0 r q g o l s v w) {cs : Array Value} {w9 : World} (hs : SetRow r cs 33 w w9) : Below w0.heap.size w0 w9 :=
  ⟨hs.os.trans h.bel.os, hs.tape.trans h.bel.tape, hs.output.trans h.bel.output, by rw [hs.size]; exact h.bel.size, fun k hk => (hs.rest k (by have := h.hr; omega)).trans (h.bel.block k hk)⟩
theorem Lst.res_own (h : Lst w0 r q g o l s v w) {cs : Array Value} {w9 : World} (hs : SetRow r cs 33 w w9) : OwnI w9 w0.heap.size v s.keep := own_upd h.own fun k hk => hs.rest k fun e => h.vr (hk.trans (congrArg some e))
/-- Other words, laid anew, are gone through. -/
theorem Lst.words (h : Lst w0 r q g o l s v w) {g2 o2 : Nat} {l2 : List Bs} (hw : ∀ i, i < l2.length → w.cell? ⟨g2, o2 + i, none⟩ = some (str (l2.getD i []))) (hb : ∃ cs fr, w.heap[g2]? = some (.cells cs 9 fr)) : Lst w0 r q g2 o2 l2 s v w := ⟨h.res, h.box, h.bel, h.own, hw, hb, h.hr, h.hq, h.hrq⟩
theorem Lst.tail {t : Bs} (h : Lst w0 r q g o (t :: l) s v w) : Lst w0 r q g (o + 1) l s v w := h.words (fun i hi => by
  have := h.wds (i + 1) (by simpa using hi)
  rw [show o + (i + 1) = o + 1 + i by omega] at this
  exact this) h.blk
theorem Lst.start {w1 w2 : World} (hb1 : Below (w.alloc (.cells stepZero 33)).heap.size (w.alloc (.cells stepZero 33)) w1) (hc : ∀ i, i < l.length → w1.cell? ⟨g, i, none⟩ = some (str (l.getD i []))) (hk : ∃ cs fr, w1.heap[g]? = some (.cells cs 9 fr)) (hs : SetRow w1.heap.size stepZero 33 (w1.alloc (.cells stepZero 33)) w2) : Lst w w.heap.size w1.heap.size g 0 l zeroR (.slice none 0 0) w2 := by
  obtain ⟨cs, fr, hk⟩ := hk
  have z0 : (w.alloc (.cells stepZero 33)).heap.size = w.heap.size + 1 := by simp
  have z1 : w.heap.size + 1 ≤ w1.heap.size := by have := hb1.size; omega
  have hg := (Array.getElem?_eq_some_iff.1 hk).1
  have eg : w2.heap[g]? = w1.heap[g]? := (hs.rest g (by omega)).trans (Lib.alloc_old w1 _ g hg)
  have old : ∀ k, k < w.heap.size + 1 → w2.heap[k]? = (w.alloc (.cells stepZero 33)).heap[k]? := fun k hk => (hs.rest k (by omega)).trans ((Lib.alloc_old w1 _ k (by omega)).trans (hb1.block k (by omega)))
  refine ⟨(old _ (by omega)).trans (heap_alloc_new w _), hs.at', ⟨hs.os.trans hb1.os, hs.tape.trans hb1.tape, hs.output.trans hb1.output, by rw [hs.size]; simp; omega, fun k hk => (old k (by omega)).trans (Lib.alloc_old w _ k hk)⟩, ⟨rfl, Or.inl ⟨rfl, rfl⟩⟩, fun i hi => ?_, ⟨cs, fr, eg.trans hk⟩, Nat.le_refl _, by omega, by omega⟩
  rw [Nat.zero_add]
  exact cell_same eg (hc i hi)
end
theorem own_block {w : World} {B : Nat} {v : Value} {l : List Bs} (h : OwnS w B v l) (hl : ¬ l.length = 0) : ∃ g c, v = .slice (some ⟨g, 0, none⟩) l.length c ∧ l.length ≤ c ∧ B ≤ g ∧ (∀ i, i < l.length → w.cell? ⟨g, i, none⟩ = some (str (l.getD i []))) ∧ ∃ cs fr, w.heap[g]? = some (.cells cs 9 fr) := by
  obtain ⟨g, c, e, h1, h2, h3, h4⟩ := h.cells hl
  refine ⟨g, c, e, h1, h2, fun i hi => by have := h4 i hi; rwa [Nat.zero_add] at this, ?_⟩
  obtain ⟨_, ⟨e2, _⟩ | ⟨g2, cap, cur, e2, _, hb, _⟩⟩ := h
  · rw [e] at e2; cases e2
  · rw [e] at e2
    injection e2 with e3 e4 e5
    injection e3 with e3
    injection e3 with e3
    subst e3
    exact ⟨_, _, hb⟩
theorem line_done {R : Option StepR} {w w' : World} {s : StepR} {v : Value} (h : R = some s) (hb : Below w.heap.size w w') (ho : OwnI w' w.heap.size v s.keep) : LineC R w (.returned (.tuple #[.agg (stepCells s v), .int .i64 0])) w' := Or.inl ⟨s, v, h, rfl, hb, ho⟩
/-- A letter's step. -/
theorem set_any (s : StepR) (c : UInt8) (v : Value) (q : ByteArray) (B : Nat) (w : World) (hc : LetR c) (HOI : Hid (OwnI w B v s.keep)) (HBW : Hid (B ≤ w.heap.size)) (HQS : Hid (q.size ≤ 30000000)) (HKL : Hid (s.keep.length ≤ 10000000)) : Calls Tryz.prog 40 #[.agg (stepCells s v), .int .u8 (c.toNat : Int), .string q] w (SetC (setR s c q.data.toList) B v w) := by
  rcases hc with rfl | rfl | rfl | rfl | rfl | rfl | rfl | rfl | rfl | rfl
  · exact set_r s v q B w HOI HBW HQS
  · exact set_N s v q B w HOI HBW HQS
  · exact set_k s v q B w HOI HBW HQS HKL
  · exact set_o s v q B w HOI HBW HQS
  · exact set_n s v q B w HOI HBW HQS
  · exact set_s s v q B w HOI HBW HQS
  · exact set_v s v q B w HOI HBW HQS
  · exact set_p s v q B w HOI HBW HQS
  · exact set_d s v q B w HOI HBW HQS
  · by_cases hk : s.kind = 1
    · exact set_t1 s v q B w HOI HBW HQS hk
    · exact set_t2 s v q B w HOI HBW HQS hk
end Go.Proofs.YtmcooenafgihkaaGreatDoor
