/- Helper lemmas: a statement whose order Go leaves open, walked in one order: what reads alone is taken first, calls and stores come one behind the other. No condition. -/
import Derived.Test.YtaingleopdnkiaaDoorK
import Derived.OrdersHeld
namespace Go.Proofs.YtaingleopdnkiaaDoor
open Go.RowKit

/-- The walk: an operation that reads alone yields one value in every world that has grown out of w0; any other one is carried out in the world at hand. -/
def wpMix (P : Program) (ops : Array Oper) (Q : Exit → Act → World → Prop) (w0 : World) : List (Nat × Bool) → Act → World → Prop
  | [], a, w => Q .normal a w
  | (i, light) :: rest, a, w => ∃ o, ops[i]? = some o ∧
      if Region.wanted o (yielded ops a.tmps) = true then
        (if light = true then ∃ v, (∀ j, (execOp a.eval o).run P (wext w0 j) = .ok (.value v) (wext w0 j)) ∧ wpMix P ops Q w0 rest (a.put o.dst v) w
         else o.wp P a w (fun a' w' => (∃ j, w' = wext w0 j) ∧ wpMix P ops Q w0 rest a' w') Q)
      else wpMix P ops Q w0 rest (a.put o.dst undef) w

/-- The order is one that Go allows, and it says what any other one says. -/
def mixOk (ops : Array Oper) : List (Nat × Bool) → Array Bool → Bool
  | [], listed => (Region.ready .any ops listed).isEmpty
  | (i, light) :: rest, listed =>
    (if light = true then (Region.ready .any ops listed).contains i && Region.free .any ops listed i else (Region.ready .any ops listed) == [i]) && mixOk ops rest (listed.setIfInBounds i true)

section
variable {P : Program} {ops : Array Oper} {Q : Exit → Act → World → Prop} {w0 : World}

theorem wpAnyH_of_mix (hs : Region.noSelect ops = true) (hQ : ∀ (c : List PanicEntry) (a : Act) (d : Option Tmp) (v : Value) (w : World), Q (.panic c) (a.put d v) w → Q (.panic c) a w) :
    ∀ (ord : List (Nat × Bool)) (listed : Array Bool) (a : Act) (w : World), mixOk ops ord listed = true → (∃ j, w = wext w0 j) → wpMix P ops Q w0 ord a w →
    wpAnyH P .any ops Q (fun w => ∃ j, w = wext w0 j) ord.length listed a w
  | [], listed, a, w, hok, _, h => by
    simp only [mixOk, List.isEmpty_iff] at hok
    exact wpAnyH_done hok h _
  | (i, true) :: rest, listed, a, w, hok, hS, h => by
    simp only [mixOk, if_true, Bool.and_eq_true] at hok
    obtain ⟨⟨hr, hf⟩, hok⟩ := hok
    obtain ⟨o, ho, h⟩ := h
    simp only [if_true] at h
    split at h
    · rename_i hw
      obtain ⟨v, hv, h⟩ := h
      exact wpAnyH_take ho hs hf hr (fun c a w => hQ c a _ _ w) (.inl ⟨hw, fun w ⟨j, hj⟩ => hj ▸ hv j⟩) hS (wpAnyH_of_mix hs hQ rest _ _ _ hok hS h)
    · rename_i hw
      exact wpAnyH_take ho hs hf hr (fun c a w => hQ c a _ _ w) (.inr ⟨by simpa using hw, rfl⟩) hS (wpAnyH_of_mix hs hQ rest _ _ _ hok hS h)
  | (i, false) :: rest, listed, a, w, hok, hS, h => by
    simp only [mixOk, Bool.false_eq_true, if_false, Bool.and_eq_true, beq_iff_eq] at hok
    obtain ⟨hr, hok⟩ := hok
    obtain ⟨o, ho, h⟩ := h
    simp only [Bool.false_eq_true, if_false] at h
    refine wpAnyH_all hr (by simp) fun k hk => ?_
    obtain rfl : k = i := by simpa using hk
    unfold Go.wpOp
    simp only [ho]
    split at h
    · rename_i hw
      rw [if_pos hw]
      refine .inl (Oper.wp_mono (fun a' w' h' => ⟨h'.1, wpAnyH_of_mix hs hQ rest _ _ _ hok h'.1 h'.2⟩) h)
    · rename_i hw
      rw [if_neg hw]
      exact ⟨hS, wpAnyH_of_mix hs hQ rest _ _ _ hok hS h⟩

theorem wp_region_mix {id : Nat} {a : Act} {l : List Oper} (ord : List (Nat × Bool)) (hm : P.follows .mixedOrders = true) (hs : Region.noSelect l.toArray = true) (hn : ord.length = l.length)
    (hok : mixOk l.toArray ord (Array.replicate l.length false) = true) (hQ : ∀ (c : List PanicEntry) (a : Act) (d : Option Tmp) (v : Value) (w : World), Q (.panic c) (a.put d v) w → Q (.panic c) a w)
    (h : ∀ j, wpMix P l.toArray Q w0 ord a (wext w0 j)) : (Code.region id l.toArray true).wp P Q a w0 := by
  obtain ⟨j, hj⟩ := w_ext_of_below (Below.refl w0.heap.size w0).drew
  refine wp_region_held (S := fun w => ∃ j, w = wext w0 j) hm ?_
  have h1 := wpAnyH_of_mix hs hQ ord (Array.replicate l.length false) a _ hok ⟨j, rfl⟩ (h j)
  rw [hn] at h1
  rw [← hj] at h1
  simpa using h1

theorem wpMix_nil {a : Act} {w : World} (h : Q .normal a w) : wpMix P ops Q w0 [] a w := h
theorem wpMix_skip {i : Nat} {b : Bool} {rest : List (Nat × Bool)} {o : Oper} {a : Act} {w : World} (ho : ops[i]? = some o) (hw : Region.wanted o (yielded ops a.tmps) = false) (h : wpMix P ops Q w0 rest (a.put o.dst undef) w) :
    wpMix P ops Q w0 ((i, b) :: rest) a w := ⟨o, ho, by rw [if_neg (by rw [hw]; simp)]; exact h⟩
theorem wpMix_light {i : Nat} {rest : List (Nat × Bool)} {o : Oper} {a : Act} {w : World} (ho : ops[i]? = some o) (hw : Region.wanted o (yielded ops a.tmps) = true)
    (h : ∀ K : Act → Prop, (∀ a', wpMix P ops Q w0 rest a' w → K a') → ∃ v, (∀ j, (execOp a.eval o).run P (wext w0 j) = .ok (.value v) (wext w0 j)) ∧ K (a.put o.dst v)) :
    wpMix P ops Q w0 ((i, true) :: rest) a w := ⟨o, ho, by rw [if_pos hw, if_pos rfl]; exact h _ (fun _ h => h)⟩
theorem wpMix_heavy {i : Nat} {rest : List (Nat × Bool)} {o : Oper} {a : Act} {w : World} (ho : ops[i]? = some o) (hw : Region.wanted o (yielded ops a.tmps) = true)
    (h : ∀ K : Act → World → Prop, (∀ a' w', ((∃ j, w' = wext w0 j) ∧ wpMix P ops Q w0 rest a' w') → K a' w') → o.wp P a w K Q) :
    wpMix P ops Q w0 ((i, false) :: rest) a w := ⟨o, ho, by rw [if_pos hw, if_neg (by simp)]; exact h _ (fun _ _ h => h)⟩
end
end Go.Proofs.YtaingleopdnkiaaDoor
