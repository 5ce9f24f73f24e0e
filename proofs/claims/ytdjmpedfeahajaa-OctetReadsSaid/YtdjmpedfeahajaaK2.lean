/- Helper lemmas: stores into one cell; a new row whose end is marked; a text as new bytes. No condition. -/
import Derived.Test.YtdjmpedfeahajaaM
import Derived.Lib.Hide
namespace Go.Proofs.Ytdjmpedfeahajaa
open Go.RowKit

@[go_sem] theorem w_setCell_twice (w : World) (a : Addr) (u v : Value) : (w.setCell a u).setCell a v = w.setCell a v := by
  simp only [World.setCell]
  congr 1
  apply Array.ext_getElem?
  intro k
  rw [Array.getElem?_modify, Array.getElem?_modify, Array.getElem?_modify]
  split
  · cases w.heap[k]? with
    | none => rfl
    | some o => cases o <;> simp <;> split <;> simp_all
  · rfl
theorem w_setCell_same {w : World} {b i : Nat} {v : Value} (h : w.cell? ⟨b, i, none⟩ = some v) : w.setCell ⟨b, i, none⟩ v = w := by
  simp only [World.cell?, Option.isSome_none, Bool.false_eq_true, if_false] at h
  simp only [World.setCell, Option.isSome_none, Bool.false_eq_true, if_false]
  cases w with
  | mk heap tape drawn os output =>
  congr 1
  apply Array.ext_getElem?
  intro k
  rw [Array.getElem?_modify]
  split
  · rename_i hk
    subst hk
    simp only at h
    cases ho : heap[b]? with
    | none => rfl
    | some o =>
      rw [ho] at h
      cases o <;> simp_all
      rename_i c _ _
      apply Array.ext_getElem?
      intro q
      rw [Array.getElem?_setIfInBounds]
      split
      · rename_i hq; subst hq
        have : i < c.size := by
          rcases Nat.lt_or_ge i c.size with h' | h'
          · exact h'
          · rw [Array.getElem?_eq_none h'] at h; cases h
        rw [if_pos this, h]
      · rfl
  · rfl
@[go_sem] theorem w_cell?_alloc_fr (w : World) (C : Array Value) (t : TypeId) (lo hi n i : Nat) (hn : n = w.heap.size) : (w.alloc (.cells C t (lo, hi))).cell? ⟨n, i, none⟩ = C[i]? := by
  subst hn; exact World.cell?_alloc_mark w C t (lo, hi) i


theorem below_app (w : World) (j : Junk) (l : List Obj) (m : Nat) : Below (wext w j).heap.size (wext w j) (wext w ⟨j.l ++ l, m⟩) := by
  have h := w_ext_below (wext w j) ⟨l, m⟩
  rw [w_ext_ext] at h
  exact h

/-- '[]byte(s)': a new row that holds the text's bytes; how long it is Go leaves open. -/
theorem wpList_sbytes {P : Program} {ops : Array Oper} {Q : Exit → Act → World → Prop} {a : Act} {w : World} {rest : List Oper} {o : Oper} (hg : o.guard = none) (src dst e : TypeId) (x : Operand) (hop : o.op = .convert src dst x)
    (hs : P.underlying src = some .string) (hd : P.underlying dst = some (.slice e)) (he : P.underlying e = some (.int .u8)) (s : ByteArray) (hx : a.eval x = .string s)
    (h : ∀ (c : Nat) (R : Array Value) (lo hi : Nat), s.size ≤ R.size → s.size ≤ lo → (∀ j (hj : j < s.size), R[j]? = some (.int .u8 (s.data[j].toNat : Int))) →
      wpList P ops Q rest (a.put o.dst (.slice (some ⟨w.heap.size, 0, none⟩) s.size c)) (w.drew.alloc (.cells R e (lo, hi)))) : wpList P ops Q (o :: rest) a w := by
  refine wpList_plain hg fun K hK => ?_
  unfold Oper.wp
  have hr := run_bytes_of_string (P := P) w src dst e s hs hd he
  have : (execOp a.eval o).run P w = .ok (.value (.slice (some ⟨w.heap.size, 0, none⟩) s.size (grownCap w s.size 0 e))) (w.drew.alloc (.cells (bytesRow s (grownCap w s.size 0 e)) e ((bytesRow s (grownCap w s.size 0 e)).size, (bytesRow s (grownCap w s.size 0 e)).size + 1))) := by
    have he : execOp a.eval o = (do let v ← convert src dst (a.eval x); pure (Next.value v)) := by unfold execOp; rw [hop]
    rw [he, hx, Sem.run_bind, hr]
    rfl
  rw [this]
  simp only [Oper.upon]
  refine hK _ _ (h _ _ _ _ ?_ ?_ ?_)
  · simp only [bytesRow, Array.size_append, Array.size_map]; exact Nat.le_add_right _ _
  · simp only [bytesRow, Array.size_append, Array.size_map]; exact Nat.le_add_right _ _
  · intro j hj
    exact bytesRow_at s _ j hj
end Go.Proofs.Ytdjmpedfeahajaa
