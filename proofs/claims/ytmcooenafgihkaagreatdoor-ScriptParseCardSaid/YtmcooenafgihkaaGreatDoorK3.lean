/- Helper lemmas: a statement that draws its order, walked with a predicate on worlds; a struct stored whole. No condition. -/
import Derived.Test.YtmcooenafgihkaaGreatDoorP14
set_option linter.unusedSimpArgs false
set_option linter.unusedVariables false
namespace Go.Proofs.YtmcooenafgihkaaGreatDoor
open Go.RowKit

/-- As wpOrd, with a predicate on worlds: what is taken has its value in all such worlds. -/
def wpOrdC (P : Program) (ops : Array Oper) (Q : Exit → Act → World → Prop) (C : World → Prop) : Ord → Act → World → Prop
  | .done, a, w => Q .normal a w
  | .take i t, a, w => ∃ o v, ops[i]? = some o ∧ Region.wanted o (yielded ops a.tmps) = true ∧ (∀ w, C w → (execOp a.eval o).run P w = .ok (.value v) w) ∧ wpOrdC P ops Q C t (a.put o.dst v) w
  | .one i t, a, w => ∃ o, ops[i]? = some o ∧ Region.wanted o (yielded ops a.tmps) = true ∧ o.wp P a w (fun a' w' => C w' ∧ wpOrdC P ops Q C t a' w') Q
  | .two i j t u, a, w => (∃ o, ops[i]? = some o ∧ Region.wanted o (yielded ops a.tmps) = true ∧ o.wp P a w (fun a' w' => C w' ∧ wpOrdC P ops Q C t a' w') Q) ∧
      (∃ o, ops[j]? = some o ∧ Region.wanted o (yielded ops a.tmps) = true ∧ o.wp P a w (fun a' w' => C w' ∧ wpOrdC P ops Q C u a' w') Q)
section
variable {P : Program} {ops : Array Oper} {Q : Exit → Act → World → Prop} {C : World → Prop}
theorem wpAnyH_of_ordC (hs : Region.noSelect ops = true) (hQ : ∀ (c : List PanicEntry) (a : Act) (d : Option Tmp) (v : Value) (w : World), Q (.panic c) (a.put d v) w → Q (.panic c) a w) :
    ∀ (t : Ord) (n : Nat) (listed : Array Bool) (a : Act) (w : World), t.deep ≤ n → ordOk ops t listed = true → C w → wpOrdC P ops Q C t a w → wpAnyH P .any ops Q C n listed a w
  | .done, n, listed, a, w, _, hok, _, h => by
    simp only [ordOk, List.isEmpty_iff] at hok
    exact wpAnyH_done hok h _
  | .take i t, n, listed, a, w, hn, hok, hC, h => by
    obtain ⟨n, rfl⟩ : ∃ m, n = m + 1 := ⟨n - 1, by simp only [Ord.deep] at hn; omega⟩
    simp only [ordOk, Bool.and_eq_true] at hok
    obtain ⟨⟨hr, hf⟩, hok⟩ := hok
    obtain ⟨o, v, ho, hw, hv, h⟩ := h
    exact wpAnyH_take ho hs hf hr (fun c a w => hQ c a _ _ w) (.inl ⟨hw, fun w hc => hv w hc⟩) hC (wpAnyH_of_ordC hs hQ t n _ _ _ (by simp only [Ord.deep] at hn; omega) hok hC h)
  | .one i t, n, listed, a, w, hn, hok, hC, h => by
    obtain ⟨n, rfl⟩ : ∃ m, n = m + 1 := ⟨n - 1, by simp only [Ord.deep] at hn; omega⟩
    simp only [ordOk, Bool.and_eq_true, beq_iff_eq] at hok
    obtain ⟨hr, hok⟩ := hok
    obtain ⟨o, ho, hw, h⟩ := h
    refine wpAnyH_all hr (by simp) fun k hk => ?_
    obtain rfl : k = i := by simpa using hk
    unfold Go.wpOp
    simp only [ho]
    rw [if_pos hw]
    exact .inl (Oper.wp_mono (fun a' w' h' => ⟨h'.1, wpAnyH_of_ordC hs hQ t n _ _ _ (by simp only [Ord.deep] at hn; omega) hok h'.1 h'.2⟩) h)
  | .two i j t u, n, listed, a, w, hn, hok, hC, h => by
    obtain ⟨n, rfl⟩ : ∃ m, n = m + 1 := ⟨n - 1, by simp only [Ord.deep] at hn; omega⟩
    simp only [ordOk, Bool.and_eq_true, beq_iff_eq] at hok
    obtain ⟨hr, hok1, hok2⟩ := hok
    obtain ⟨⟨o, ho, hw, h1⟩, ⟨o', ho', hw', h2⟩⟩ := h
    refine wpAnyH_all hr (by simp) fun k hk => ?_
    have hk' : k = i ∨ k = j := by simpa using hk
    rcases hk' with rfl | rfl
    · unfold Go.wpOp
      simp only [ho]
      rw [if_pos hw]
      exact .inl (Oper.wp_mono (fun a' w' h' => ⟨h'.1, wpAnyH_of_ordC hs hQ t n _ _ _ (by simp only [Ord.deep] at hn; omega) hok1 h'.1 h'.2⟩) h1)
    · unfold Go.wpOp
      simp only [ho']
      rw [if_pos hw']
      exact .inl (Oper.wp_mono (fun a' w' h' => ⟨h'.1, wpAnyH_of_ordC hs hQ u n _ _ _ (by simp only [Ord.deep] at hn; omega) hok2 h'.1 h'.2⟩) h2)
theorem wp_region_ordC {id : Nat} {a : Act} {l : List Oper} {w : World} (C : World → Prop) (t : Ord) (hm : P.follows .mixedOrders = true) (hs : Region.noSelect l.toArray = true) (hn : t.deep ≤ l.length)
    (hok : ordOk l.toArray t (Array.replicate l.length false) = true) (hQ : ∀ (c : List PanicEntry) (a : Act) (d : Option Tmp) (v : Value) (w : World), Q (.panic c) (a.put d v) w → Q (.panic c) a w)
    (hC : C w.drew) (h : wpOrdC P l.toArray Q C t a w.drew) : (Code.region id l.toArray true).wp P Q a w := by
  refine wp_region_held (S := C) hm ?_
  have h1 := wpAnyH_of_ordC hs hQ t l.length (Array.replicate l.length false) a _ hn hok hC h
  simpa using h1
theorem wpOrdC_done {a : Act} {w : World} (h : Q .normal a w) : wpOrdC P ops Q C .done a w := h
theorem wpOrdC_take {i : Nat} {t : Ord} {o : Oper} {a : Act} {w : World} (ho : ops[i]? = some o) (hw : Region.wanted o (yielded ops a.tmps) = true)
    (h : ∀ K : Act → Prop, (∀ a', wpOrdC P ops Q C t a' w → K a') → ∃ v, (∀ w, C w → (execOp a.eval o).run P w = .ok (.value v) w) ∧ K (a.put o.dst v)) : wpOrdC P ops Q C (.take i t) a w := by
  obtain ⟨v, h1, h2⟩ := h _ (fun _ h => h)
  exact ⟨o, v, ho, hw, h1, h2⟩
theorem wpOrdC_one {i : Nat} {t : Ord} {o : Oper} {a : Act} {w : World} (ho : ops[i]? = some o) (hw : Region.wanted o (yielded ops a.tmps) = true)
    (h : ∀ K : Act → World → Prop, (∀ a' w', C w' → wpOrdC P ops Q C t a' w' → K a' w') → o.wp P a w K Q) : wpOrdC P ops Q C (.one i t) a w := ⟨o, ho, hw, h _ (fun _ _ h1 h2 => ⟨h1, h2⟩)⟩
theorem wpOrdC_two {i j : Nat} {t u : Ord} {a : Act} {w : World} (h1 : wpOrdC P ops Q C (.one i t) a w) (h2 : wpOrdC P ops Q C (.one j u) a w) : wpOrdC P ops Q C (.two i j t u) a w := ⟨h1, h2⟩
end
theorem store_op {o : Oper} {a : Act} {K : Act → World → Prop} {Q : Exit → Act → World → Prop} {W : World} {g : Nat} {t : TypeId} {old cs : Array Value} (ty : TypeId) (x y : Operand)
    (ho : o.op = .store ty x y) (hx : a.eval x = .pointer (some ⟨g, 0, none⟩)) (hy : a.eval y = .agg cs) (hg : W.heap[g]? = some (.cells old t (0, 0))) (hi : (Tryz.prog.info? ty).map (·.size) = some cs.size) (hs : old.size = cs.size) (h1 : cs.all (·.oneCell') = true)
    (h : ∀ w2, SetRow g cs t W w2 → K (a.put o.dst undef) w2) : o.wp Tryz.prog a W K Q := by
  obtain ⟨w2, hr, hw⟩ := row_store (w := W) (ty := ty) hg hi hs h1
  unfold Oper.wp execOp
  simp only [ho, hx, hy, Sem.run_bind, hr, Result.andThen_ok]
  exact h _ hw
end Go.Proofs.YtmcooenafgihkaaGreatDoor
