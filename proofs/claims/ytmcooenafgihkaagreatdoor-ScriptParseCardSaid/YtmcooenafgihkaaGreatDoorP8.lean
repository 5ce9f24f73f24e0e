/- Helper lemmas: words one behind the other while letters are gone through; a call's words, by the program. No condition. -/
import Derived.Test.YtmcooenafgihkaaGreatDoorP7
import Derived.Test.YtmcooenafgihkaaGreatDoorS3
import Derived.Lib.OthersKept
set_option linter.unusedSimpArgs false
set_option linter.unusedVariables false
namespace Go.Proofs.YtmcooenafgihkaaGreatDoor
open Go.RowKit

theorem cell_at {w : World} {b i : Nat} {cs : Array Value} {t : TypeId} {fr : Nat × Nat} {v : Value} (h : w.heap[b]? = some (.cells cs t fr)) (hv : cs[i]? = some v) : w.cell? ⟨b, i, none⟩ = some v := by
  rw [Lib.cell_of_heap h]; exact hv
theorem told_of_ret {f : Nat} {a : Array Value} {v : Value} {w : World} (h : Calls Tryz.prog f a w (Ret v w)) : Calls Tryz.prog f a w (fun e w' => e = .returned v ∧ Below w.heap.size w w') := by
  refine h.mono ?_
  rintro e w' ⟨rfl, j, rfl⟩
  exact ⟨rfl, w_ext_below _ _⟩
theorem leB_lt {n k : Nat} (h : n < k) : leB (n + 1) k = true := by simp [leB]; omega
/-- Words as values. -/
def strs (l : List Bs) : List Value := l.map str
theorem strs_len (l : List Bs) : (strs l).length = l.length := by simp [strs]
/-- A row of one's own that holds these words. -/
def OwnS (w : World) (B : Nat) (v : Value) (l : List Bs) : Prop := w.ownsRow B 9 1 v (strs l).length (strs l)
theorem own_upd {w w' : World} {B e k n : Nat} {v : Value} {xs : List Value} (h : w.ownsRow B e k v n xs) (hs : ∀ g, v.ownBlock = some g → w'.heap[g]? = w.heap[g]?) : w'.ownsRow B e k v n xs := by
  obtain ⟨h0, h1 | ⟨g, cap, cur, rfl, hb, h2, h3⟩⟩ := h
  · exact ⟨h0, Or.inl h1⟩
  · exact ⟨h0, Or.inr ⟨g, cap, cur, rfl, hb, (hs g rfl).trans h2, h3⟩⟩
/-- A row of one's own is no block of another kind. -/
theorem own_ne {w : World} {B e k n : Nat} {v : Value} {xs : List Value} {b : Nat} {ob : Obj} (h : w.ownsRow B e k v n xs) (hb : w.heap[b]? = some ob) (hne : ∀ cs fr, ¬ ob = .cells cs e fr) : ¬ v.ownBlock = some b := by
  intro he
  obtain ⟨_, ⟨rfl, _⟩ | ⟨g, cap, cur, rfl, _, h2, _⟩⟩ := h
  · simp [Value.ownBlock] at he
  · have : g = b := by simpa [Value.ownBlock] using he
    subst this
    rw [h2] at hb
    injection hb with hb
    exact hne _ _ hb.symm
/-- Some words behind a row of words of one's own. -/
theorem app_news (B : Nat) (W : World) (v : Value) (l l2 : List Bs) (g o m c : Nat) (HO : OwnS W B v l) (hB : B ≤ W.heap.size) (hl : l.length + l2.length ≤ 100000000) (hm : m = l2.length) (hc : ∀ i, i < l2.length → W.cell? ⟨g, o + i, none⟩ = some (str (l2.getD i []))) :
    ∃ (v2 : Value) (w2 : World), (Builtin.append_ #[35, 35] 35 #[v, .slice (some ⟨g, o, none⟩) m c]).run Tryz.prog W = .ok v2 w2 ∧ OwnS w2 B v2 (l ++ l2) ∧ Below B W w2 ∧ (∀ k, k < W.heap.size → ¬ v.ownBlock = some k → w2.heap[k]? = W.heap[k]?) := by
  obtain ⟨i0, hi, hz0, hz1, hz2⟩ := info_parts (show (Tryz.prog.info? 9).map (fun i => (i.zero, i.size, i.bytes)) = some (some (.string ⟨#[]⟩), 1, 16) by kernel_rfl)
  subst hm
  unfold OwnS at HO
  rw [strs_len] at HO
  obtain ⟨v2, w2, hr, hown, hg, _, _⟩ := run_append_own_at (P := Tryz.prog) W B 35 35 9 i0 (.string ⟨#[]⟩) 1 16 Tryz.underlying35 hi hz0 hz1 hz2 rfl (by decide) v l.length (strs l) HO ⟨g, o, none⟩ l2.length c (strs l2) (by rw [strs_len, Nat.mul_one])
    (fun j u hu => by
      have hj : j < l2.length := by
        have := (List.getElem?_eq_some_iff.1 hu).1
        rwa [strs_len] at this
      rw [addr_add, hc j hj]
      rw [List.getD_eq_getElem?_getD, List.getElem?_eq_getElem hj]
      unfold strs at hu
      rw [List.getElem?_map, List.getElem?_eq_getElem hj] at hu
      exact hu) (fun u hu => by
      unfold strs at hu
      rw [List.mem_map] at hu
      obtain ⟨x, _, rfl⟩ := hu
      rfl) (by simp only [maxLen]; omega) (by omega) hB
  have own_b : ∀ k, v.ownBlock = some k → B ≤ k := fun k hk => (HO.lt k hk).1
  refine ⟨v2, w2, hr, ?_, (Below.refl B W).grown hg hB own_b, fun k hk hne => hg.block k hk (fun e => hne e.symm)⟩
  unfold OwnS
  rw [strs_len, List.length_append]
  unfold strs at hown ⊢
  rw [List.map_append]; exact hown
/-- One word behind a row of words of one's own. -/
theorem app_str (B : Nat) (W : World) (v : Value) (l : List Bs) (t : Bs) (HO : OwnS W B v l) (hB : B ≤ W.heap.size) (hl : l.length ≤ 10000000) :
    ∃ (v2 : Value) (w2 : World), (Builtin.append_ #[35, 35] 35 #[v, .slice (some ⟨W.heap.size, 0, none⟩) 1 1]).run Tryz.prog (W.alloc (.cells #[str t] 9)) = .ok v2 w2 ∧ OwnS w2 B v2 (l ++ [t]) ∧ Below B W w2 ∧ (∀ k, k < W.heap.size → ¬ v.ownBlock = some k → w2.heap[k]? = W.heap[k]?) := by
  obtain ⟨v2, w2, h1, h2, h3, h4⟩ := app_news B (W.alloc (.cells #[str t] 9)) v l [t] W.heap.size 0 1 1 (HO.alloc _) (by simp; omega) (by simp; omega) rfl (fun i hi => by
    have : i = 0 := by simp at hi; exact hi
    subst this
    exact cell_at (heap_alloc_new W _) rfl)
  refine ⟨v2, w2, h1, h2, ((Below.refl B W).alloc hB _).trans h3, fun k hk hne => ?_⟩
  rw [h4 k (by simp; omega) hne]
  exact Lib.alloc_old W _ k hk
/-- While the letters of a form are gone through: the struct, the iterator, the words so far. -/
structure Txt (W0 : World) (p k : Nat) (cells : Array Value) (ty : TypeId) (args : ByteArray) (i : Nat) (v : Value) (acc : List Bs) (w : World) : Prop where
  box : w.heap[p]? = some (.cells cells ty (0, 0))
  it : w.heap[k]? = some (.stringIter args i)
  own : OwnS w W0.heap.size v acc
  below : Below W0.heap.size W0 w
  hk : W0.heap.size ≤ k
  hty : ¬ ty = 9
section
variable {W0 w : World} {p k : Nat} {cells : Array Value} {ty : TypeId} {args : ByteArray} {i : Nat} {v : Value} {acc : List Bs}
theorem Txt.cell (h : Txt W0 p k cells ty args i v acc w) {j : Nat} {u : Value} (hu : cells[j]? = some u) : w.cell? ⟨p, j, none⟩ = some u := cell_at h.box hu
theorem Txt.pne (h : Txt W0 p k cells ty args i v acc w) : ¬ p = k := fun e => by
  have h1 := h.box
  rw [e, h.it] at h1
  cases h1
theorem Txt.later (h : Txt W0 p k cells ty args i v acc w) {w' : World} (hb : Below w.heap.size w w') : Txt W0 p k cells ty args i v acc w' :=
  ⟨(hb.block p (Array.getElem?_eq_some_iff.1 h.box).1).trans h.box, (hb.block k (Array.getElem?_eq_some_iff.1 h.it).1).trans h.it, own_below h.own hb, below_tr h.below hb, h.hk, h.hty⟩
theorem Txt.ended (h : Txt W0 p k cells ty args i v acc w) (hi : ¬ i < args.size) : ∀ t, (Instr.next (.pointer (some ⟨k, 0, none⟩)) true t).run Tryz.prog w = .ok (.tuple #[.bool false]) w := fun t => Lib.run_next_end_at w k args i t h.it hi
theorem Txt.next (h : Txt W0 p k cells ty args i v acc w) {c : UInt8} (hc : args.data[i]? = some c) (ha : c.toNat < 128) : ∃ w2, (∀ t, (Instr.next (.pointer (some ⟨k, 0, none⟩)) true t).run Tryz.prog w = .ok (.tuple #[.bool true, .int .i64 i, .int .i32 c.toNat]) w2) ∧ Txt W0 p k cells ty args (i + 1) v acc w2 := by
  obtain ⟨hi, he⟩ := Array.getElem?_eq_some_iff.1 hc
  refine ⟨w.iterAt k args (i + 1), fun t => ?_, ?_⟩
  · have := Lib.run_next_ascii_at (P := Tryz.prog) w k args i t h.it hi (by rw [ByteArray.getElem_eq_getElem_data, he]; exact ha)
    rw [this, ByteArray.getElem_eq_getElem_data, he]
  · refine ⟨?_, Lib.iterAt_heap w k args i (i + 1) h.it, own_upd h.own fun g hg => ?_, Lib.below_iterAt h.below h.hk args (i + 1), h.hk, h.hty⟩
    · rw [Lib.iterAt_other w k p args (i + 1) h.pne]; exact h.box
    · refine Lib.iterAt_other w k g args (i + 1) fun e => ?_
      subst e
      exact own_ne h.own h.it (fun _ _ e => by cases e) hg
theorem Txt.size (h : Txt W0 p k cells ty args i v acc w) : W0.heap.size ≤ w.heap.size := h.below.size
theorem Txt.grown (h : Txt W0 p k cells ty args i v acc w) {w2 : World} {v2 : Value} {acc2 : List Bs} (ho : OwnS w2 W0.heap.size v2 acc2) (hb : Below W0.heap.size w w2) (hk : ∀ j, j < w.heap.size → ¬ v.ownBlock = some j → w2.heap[j]? = w.heap[j]?) : Txt W0 p k cells ty args i v2 acc2 w2 :=
  ⟨(hk p (Array.getElem?_eq_some_iff.1 h.box).1 (own_ne h.own h.box fun cs fr e => h.hty (by injection e))).trans h.box, (hk k (Array.getElem?_eq_some_iff.1 h.it).1 (own_ne h.own h.it fun _ _ e => by cases e)).trans h.it, ho, h.below.trans hb, h.hk, h.hty⟩
theorem Txt.push (h : Txt W0 p k cells ty args i v acc w) (t : Bs) (hl : acc.length ≤ 10000000) : ∃ (A : Option Addr) (m c : Nat) (w2 : World), (Builtin.append_ #[35, 35] 35 #[v, .slice (some ⟨w.heap.size, 0, none⟩) 1 1]).run Tryz.prog (w.alloc (.cells #[str t] 9)) = .ok (.slice A m c) w2 ∧ Txt W0 p k cells ty args i (.slice A m c) (acc ++ [t]) w2 := by
  obtain ⟨v2, w2, h1, h2, h3, h4⟩ := app_str W0.heap.size w v acc t h.own h.size hl
  obtain ⟨A, m, c, rfl⟩ := own_sl h2
  exact ⟨A, m, c, w2, h1, h.grown h2 h3 h4⟩
theorem Txt.pushAll (h : Txt W0 p k cells ty args i v acc w) (l2 : List Bs) (g m c : Nat) (hl : acc.length + l2.length ≤ 10000000) (hm : m = l2.length) (hc : ∀ i, i < l2.length → w.cell? ⟨g, 0 + i, none⟩ = some (str (l2.getD i []))) : ∃ (A : Option Addr) (m2 c2 : Nat) (w2 : World), (Builtin.append_ #[35, 35] 35 #[v, .slice (some ⟨g, 0, none⟩) m c]).run Tryz.prog w = .ok (.slice A m2 c2) w2 ∧ Txt W0 p k cells ty args i (.slice A m2 c2) (acc ++ l2) w2 := by
  obtain ⟨v2, w2, h1, h2, h3, h4⟩ := app_news W0.heap.size w v acc l2 g 0 m c h.own h.size (by omega) hm hc
  obtain ⟨A, m, c, rfl⟩ := own_sl h2
  exact ⟨A, m, c, w2, h1, h.grown h2 h3 h4⟩
end
/-- What the letters so far and those to come say is what all of them say. -/
def Goes (R : Option (List Bs)) (f : UInt8 → Option (List Bs)) (cs : Bs) (i : Nat) (acc : List Bs) : Prop := R = (flds f (cs.drop i)).map fun l => acc ++ l
theorem Goes.step {R : Option (List Bs)} {f : UInt8 → Option (List Bs)} {cs : Bs} {i : Nat} {acc a : List Bs} {c : UInt8} (h : Goes R f cs i acc) (hc : cs[i]? = some c) (hf : f c = some a) : Goes R f cs (i + 1) (acc ++ a) := by
  obtain ⟨hi, he⟩ := List.getElem?_eq_some_iff.1 hc
  unfold Goes at h ⊢
  rw [h, List.drop_eq_getElem_cons hi, he]
  simp only [flds, hf, Option.bind_some]
  cases flds f (cs.drop (i + 1)) <;> simp
theorem Goes.none {R : Option (List Bs)} {f : UInt8 → Option (List Bs)} {cs : Bs} {i : Nat} {acc : List Bs} {c : UInt8} (h : Goes R f cs i acc) (hc : cs[i]? = some c) (hf : f c = Option.none) : R = Option.none := by
  obtain ⟨hi, he⟩ := List.getElem?_eq_some_iff.1 hc
  unfold Goes at h
  rw [h, List.drop_eq_getElem_cons hi, he]
  simp [flds, hf]
theorem Goes.done {R : Option (List Bs)} {f : UInt8 → Option (List Bs)} {cs : Bs} {i : Nat} {acc : List Bs} (h : Goes R f cs i acc) (hi : ¬ i < cs.length) : R = some acc := by
  unfold Goes at h
  rw [h, List.drop_eq_nil_of_le (by omega)]
  simp [flds]
end Go.Proofs.YtmcooenafgihkaaGreatDoor
