/- Helper lemmas: a statement whose order Go leaves open, walked through all orders of what does more than read. No condition. -/
import Derived.Test.YtdjmpedfeahajaaM
namespace Go.Proofs.Ytdjmpedfeahajaa
open Go.RowKit

section
variable {P : Program} {ops : Array Oper} {Q : Exit → Act → World → Prop} {w0 : World}

/-- The walk from here on. -/
abbrev AnyG (P : Program) (ops : Array Oper) (Q : Exit → Act → World → Prop) (w0 : World) (n : Nat) (listed : Array Bool) (a : Act) (w : World) : Prop :=
  wpAnyH P .any ops Q (fun w => ∃ j, w = wext w0 j) n listed a w
/-- One of those that do more than read. -/
def AnyStep (P : Program) (ops : Array Oper) (Q : Exit → Act → World → Prop) (w0 : World) (n : Nat) (listed : Array Bool) (a : Act) (w : World) (i : Nat) : Prop :=
  ∃ o, ops[i]? = some o ∧ Region.wanted o (yielded ops a.tmps) = true ∧ o.wp P a w (fun a' w' => (∃ j, w' = wext w0 j) ∧ AnyG P ops Q w0 n (listed.setIfInBounds i true) a' w') Q

theorem anyG_light {n i : Nat} {listed : Array Bool} {a : Act} {w : World} {o : Oper} (hs : Region.noSelect ops = true) (hQ : ∀ (c : List PanicEntry) (a : Act) (d : Option Tmp) (v : Value) (w : World), Q (.panic c) (a.put d v) w → Q (.panic c) a w)
    (ho : ops[i]? = some o) (hf : Region.free .any ops listed i = true) (hr : (Region.ready .any ops listed).contains i = true) (hw : Region.wanted o (yielded ops a.tmps) = true) (hS : ∃ j, w = wext w0 j)
    (h : ∀ K : Act → Prop, (∀ a', AnyG P ops Q w0 n (listed.setIfInBounds i true) a' w → K a') → ∃ v, (∀ j, (execOp a.eval o).run P (wext w0 j) = .ok (.value v) (wext w0 j)) ∧ K (a.put o.dst v)) :
    AnyG P ops Q w0 (n + 1) listed a w := by
  obtain ⟨v, hv, h⟩ := h _ (fun _ h => h)
  exact wpAnyH_take ho hs hf hr (fun c a w => hQ c a _ _ w) (.inl ⟨hw, fun w ⟨j, hj⟩ => hj ▸ hv j⟩) hS h
theorem anyG_all {n : Nat} {listed : Array Bool} {a : Act} {w : World} (r : List Nat) (hr : Region.ready .any ops listed = r) (hne : r ≠ []) (h : ∀ i ∈ r, AnyStep P ops Q w0 n listed a w i) : AnyG P ops Q w0 (n + 1) listed a w := by
  refine wpAnyH_all hr hne fun k hk => ?_
  obtain ⟨o, ho, hw, h⟩ := h k hk
  unfold Go.wpOp
  simp only [ho]
  rw [if_pos hw]
  exact .inl (Oper.wp_mono (fun a' w' h' => h') h)
theorem anyG_step {n i : Nat} {listed : Array Bool} {a : Act} {w : World} {o : Oper} (ho : ops[i]? = some o) (hw : Region.wanted o (yielded ops a.tmps) = true)
    (h : ∀ K : Act → World → Prop, (∀ a' w', ((∃ j, w' = wext w0 j) ∧ AnyG P ops Q w0 n (listed.setIfInBounds i true) a' w') → K a' w') → o.wp P a w K Q) : AnyStep P ops Q w0 n listed a w i :=
  ⟨o, ho, hw, h _ (fun _ _ h => h)⟩
theorem anyG_done {listed : Array Bool} {a : Act} {w : World} (hr : Region.ready .any ops listed = []) (h : Q .normal a w) (n : Nat) : AnyG P ops Q w0 n listed a w := wpAnyH_done hr h _
theorem wp_region_all {id : Nat} {a : Act} {l : List Oper} (hm : P.follows .mixedOrders = true) (h : ∀ j, AnyG P l.toArray Q w0 l.length (Array.replicate l.length false) a (wext w0 j)) : (Code.region id l.toArray true).wp P Q a w0 := by
  obtain ⟨j, hj⟩ := w_ext_of_below (Below.refl w0.heap.size w0).drew
  refine wp_region_held (S := fun w => ∃ j, w = wext w0 j) hm ?_
  have h1 := h j
  rw [← hj] at h1
  simpa using h1
end
end Go.Proofs.Ytdjmpedfeahajaa
