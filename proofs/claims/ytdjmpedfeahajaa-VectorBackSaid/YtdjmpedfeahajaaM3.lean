/- Helper lemmas: a statement whose order Go leaves open, walked in one order, in worlds of one kind: what reads alone is taken first, calls and stores come one behind the other. No condition. -/
import Derived.Test.YtdjmpedfeahajaaM
import Derived.OrdersHeld
namespace Go.Proofs.Ytdjmpedfeahajaa
open Go.RowKit

/-- The walk: an operation that reads alone yields one value in every world that has grown out of w0; any other one is carried out in the world at hand. -/
def wpMixF {α : Type} (P : Program) (ops : Array Oper) (Q : Exit → Act → World → Prop) (F : α → Junk → World) : List (Nat × Bool) → Act → World → Prop
  | [], a, w => Q .normal a w
  | (i, light) :: rest, a, w => ∃ o, ops[i]? = some o ∧
      if Region.wanted o (yielded ops a.tmps) = true then
        (if light = true then ∃ v, (∀ q j, (execOp a.eval o).run P (F q j) = .ok (.value v) (F q j)) ∧ wpMixF P ops Q F rest (a.put o.dst v) w
         else o.wp P a w (fun a' w' => (∃ q j, w' = F q j) ∧ wpMixF P ops Q F rest a' w') Q)
      else wpMixF P ops Q F rest (a.put o.dst undef) w

section
variable {α : Type} {P : Program} {ops : Array Oper} {Q : Exit → Act → World → Prop} {F : α → Junk → World}

theorem wpAnyH_of_mixF (hs : Region.noSelect ops = true) (hQ : ∀ (c : List PanicEntry) (a : Act) (d : Option Tmp) (v : Value) (w : World), Q (.panic c) (a.put d v) w → Q (.panic c) a w) :
    ∀ (ord : List (Nat × Bool)) (listed : Array Bool) (a : Act) (w : World), mixOk ops ord listed = true → (∃ q j, w = F q j) → wpMixF P ops Q F ord a w →
    wpAnyH P .any ops Q (fun w => ∃ q j, w = F q j) ord.length listed a w
  | [], listed, a, w, hok, _, h => by
    simp only [mixOk, List.isEmpty_iff] at hok
    exact wpAnyH_done hok h _
  | (i, true) :: rest, listed, a, w, hok, hS, h => by
    simp only [mixOk, if_true, Bool.and_eq_true] at hok
    obtain ⟨⟨hr, hf⟩, hok⟩ := hok
    obtain ⟨o, ho, h⟩ := h
    simp only [if_true] at h
    split at h
    · rename_i hw
      obtain ⟨v, hv, h⟩ := h
      exact wpAnyH_take ho hs hf hr (fun c a w => hQ c a _ _ w) (.inl ⟨hw, fun w ⟨q, j, hj⟩ => hj ▸ hv q j⟩) hS (wpAnyH_of_mixF hs hQ rest _ _ _ hok hS h)
    · rename_i hw
      exact wpAnyH_take ho hs hf hr (fun c a w => hQ c a _ _ w) (.inr ⟨by simpa using hw, rfl⟩) hS (wpAnyH_of_mixF hs hQ rest _ _ _ hok hS h)
  | (i, false) :: rest, listed, a, w, hok, hS, h => by
    simp only [mixOk, Bool.false_eq_true, if_false, Bool.and_eq_true, beq_iff_eq] at hok
    obtain ⟨hr, hok⟩ := hok
    obtain ⟨o, ho, h⟩ := h
    simp only [Bool.false_eq_true, if_false] at h
    refine wpAnyH_all hr (by simp) fun k hk => ?_
    obtain rfl : k = i := by simpa using hk
    unfold Go.wpOp
    simp only [ho]
    split at h
    · rename_i hw
      rw [if_pos hw]
      refine .inl (Oper.wp_mono (fun a' w' h' => ⟨h'.1, wpAnyH_of_mixF hs hQ rest _ _ _ hok h'.1 h'.2⟩) h)
    · rename_i hw
      rw [if_neg hw]
      exact ⟨hS, wpAnyH_of_mixF hs hQ rest _ _ _ hok hS h⟩

theorem wp_region_mixF {id : Nat} {a : Act} {l : List Oper} {w0 : World} (ord : List (Nat × Bool)) (hm : P.follows .mixedOrders = true) (hs : Region.noSelect l.toArray = true) (hn : ord.length = l.length)
    (hok : mixOk l.toArray ord (Array.replicate l.length false) = true) (hQ : ∀ (c : List PanicEntry) (a : Act) (d : Option Tmp) (v : Value) (w : World), Q (.panic c) (a.put d v) w → Q (.panic c) a w)
    (q0 : α) (h0 : ∃ j, w0.drew = F q0 j) (h : ∀ j, wpMixF P l.toArray Q F ord a (F q0 j)) : (Code.region id l.toArray true).wp P Q a w0 := by
  obtain ⟨j, hj⟩ := h0
  refine wp_region_held (S := fun w => ∃ q j, w = F q j) hm ?_
  have h1 := wpAnyH_of_mixF hs hQ ord (Array.replicate l.length false) a _ hok ⟨q0, j, rfl⟩ (h j)
  rw [hn] at h1
  rw [← hj] at h1
  simpa using h1

theorem wpMix_nilF {a : Act} {w : World} (h : Q .normal a w) : wpMixF P ops Q F [] a w := h
theorem wpMix_skipF {i : Nat} {b : Bool} {rest : List (Nat × Bool)} {o : Oper} {a : Act} {w : World} (ho : ops[i]? = some o) (hw : Region.wanted o (yielded ops a.tmps) = false) (h : wpMixF P ops Q F rest (a.put o.dst undef) w) :
    wpMixF P ops Q F ((i, b) :: rest) a w := ⟨o, ho, by rw [if_neg (by rw [hw]; simp)]; exact h⟩
theorem wpMix_lightF {i : Nat} {rest : List (Nat × Bool)} {o : Oper} {a : Act} {w : World} (ho : ops[i]? = some o) (hw : Region.wanted o (yielded ops a.tmps) = true)
    (h : ∀ K : Act → Prop, (∀ a', wpMixF P ops Q F rest a' w → K a') → ∃ v, (∀ q j, (execOp a.eval o).run P (F q j) = .ok (.value v) (F q j)) ∧ K (a.put o.dst v)) :
    wpMixF P ops Q F ((i, true) :: rest) a w := ⟨o, ho, by rw [if_pos hw, if_pos rfl]; exact h _ (fun _ h => h)⟩
theorem wpMix_heavyF {i : Nat} {rest : List (Nat × Bool)} {o : Oper} {a : Act} {w : World} (ho : ops[i]? = some o) (hw : Region.wanted o (yielded ops a.tmps) = true)
    (h : ∀ K : Act → World → Prop, (∀ a' w', ((∃ q j, w' = F q j) ∧ wpMixF P ops Q F rest a' w') → K a' w') → o.wp P a w K Q) :
    wpMixF P ops Q F ((i, false) :: rest) a w := ⟨o, ho, by rw [if_pos hw, if_neg (by simp)]; exact h _ (fun _ _ h => h)⟩
end
end Go.Proofs.Ytdjmpedfeahajaa
