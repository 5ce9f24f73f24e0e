/- Helper lemmas: a copy of texts, and one appended. No condition. -/
import Derived.Test.YtaingleopdnkiaaDoorB4
import Derived.Maps.AppendAt
import Derived.Below
import Derived.OwnWalk
import Derived.Deep.AppendLies
set_option linter.unusedSimpArgs false
set_option linter.unusedVariables false
namespace Go.Proofs.YtaingleopdnkiaaDoor
open Go.RowKit

/-- Texts that the call owns. -/
def OwnP (l : List ByteArray) (w : World) : Ending → World → Prop := fun e w' => ∃ (v : Value), e = .returned v ∧ Hid (w'.ownsRow w.heap.size 9 1 v l.length (l.map Value.string)) ∧ Hid (Below w.heap.size w w')
theorem clone_any (A : Option Addr) (c : Nat) (l : List ByteArray) (w : World) (hA : StrsAt w A l) (h0 : A = none → l.length = 0) (hl : l.length ≤ 8) : Calls Tryd.prog 25 #[.slice A l.length c] w (OwnP l w) := by
  rcases A with _ | ⟨b, o, sp⟩
  · have hz := h0 rfl
    obtain rfl : l = [] := List.eq_nil_of_length_eq_zero hz
    refine (Tryd.slices_Clone_string_nil 0 c w).mono ?_
    rintro e w' ⟨rfl, rfl⟩
    exact ⟨_, rfl, Lib.hid ⟨rfl, Or.inl ⟨rfl, rfl⟩⟩, Lib.hid (Below.refl _ _)⟩
  · rcases l with _ | ⟨x, l⟩
    · refine (Tryd.slices_Clone_string_zero _ c w).mono ?_
      rintro e w' ⟨v, rfl, ho, _, hb⟩
      exact ⟨v, rfl, Lib.hid ho, Lib.hid hb⟩
    · obtain ⟨b', o', eA, _⟩ := hA 0 (by simp)
      injection eA with eA
      rw [eA]
      refine (Tryd.slices_Clone_string b' o' _ c (x :: l) w (Nat.le_refl _) (by omega) (fun j hj => ?_)).mono ?_
      · obtain ⟨b2, o2, e2, h2⟩ := hA j hj
        injection e2 with e2
        rw [eA] at e2
        injection e2 with e3 e4
        rw [e3, e4]
        exact h2
      · rintro e w' ⟨v, rfl, ho, _, hb⟩
        rw [List.take_length] at ho
        exact ⟨v, rfl, Lib.hid ho, Lib.hid hb⟩
theorem own_b {w : World} {base : Nat} {e : TypeId} {size n : Nat} {v : Value} {xs : List Value} (h : w.ownsRow base e size v n xs) (k : Nat) (hk : v.ownBlock = some k) : base ≤ k := by
  obtain ⟨_, ⟨rfl, _⟩ | ⟨g, cap, cur, rfl, hb, _⟩⟩ := h
  · simp [Value.ownBlock] at hk
  · have : g = k := by simpa [Value.ownBlock] using hk
    omega
theorem app_any (w W : World) (v : Value) (l : List ByteArray) (q : ByteArray) (HO : W.ownsRow w.heap.size 9 1 v l.length (l.map Value.string)) (HB : Below w.heap.size w W) (hl : l.length ≤ 8) :
    ∃ (g cap : Nat) (w2 : World), (Builtin.append_ #[33, 33] 33 #[v, .slice (some ⟨W.heap.size, 0, none⟩) 1 1]).run Tryd.prog (W.alloc (.cells #[.string q] 9)) = .ok (.slice (some ⟨g, 0, none⟩) (l.length + 1) cap) w2 ∧ Hid (StrsAt w2 (some ⟨g, 0, none⟩) (l ++ [q])) ∧ Hid (Below w.heap.size w w2) := by
  obtain ⟨i0, hi, hzz⟩ := Option.map_eq_some_iff.1 (show (Tryd.prog.info? 9).map (fun i => (i.zero, i.size, i.bytes)) = some (some (.string ⟨#[]⟩), 1, 16) by kernel_rfl)
  simp only [Prod.mk.injEq] at hzz
  obtain ⟨hz0, hz1, hz2⟩ := hzz
  have hbase : w.heap.size ≤ W.heap.size := HB.size
  obtain ⟨v2, w2, hr, hown, hg, _, _⟩ := run_append_own_at (P := Tryd.prog) (W.alloc (.cells #[.string q] 9)) w.heap.size 33 33 9 i0 (.string ⟨#[]⟩) 1 16 Tryd.underlying33 hi hz0 hz1 hz2 rfl (by decide) v l.length (l.map Value.string) (HO.alloc _) ⟨W.heap.size, 0, none⟩ 1 1 [.string q] rfl
    (World.news_of_block (cs := #[.string q]) (t := 9) (fr := (0, 0)) (heap_alloc_new W _)) (by simp [Value.oneCell']) (by simp only [maxLen]; omega) (by omega) (by simp; omega)
  have hB2 : Below w.heap.size w w2 := (HB.alloc hbase _).grown hg (by simp; omega) (own_b HO)
  obtain ⟨_, ⟨_, h0⟩ | ⟨g, cap, cur, rfl, h1, h2, h3, h4, h5, h6⟩⟩ := id hown
  · omega
  refine ⟨g, cap, w2, hr, Lib.hid fun i hi => ⟨g, 0, rfl, ?_⟩, Lib.hid hB2⟩
  have hc := hown.cells (g := g) rfl i (.string ((l ++ [q]).getD i ByteArray.empty)) (by
    rw [show l.map Value.string ++ [Value.string q] = (l ++ [q]).map Value.string by simp, List.getElem?_map, List.getElem?_eq_getElem hi, List.getD_eq_getElem?_getD, List.getElem?_eq_getElem hi]; rfl)
  have ha : (⟨g, 0, none⟩ : Addr).add i = ⟨g, 0 + i, none⟩ := by unfold Addr.add; split <;> simp_all
  rwa [ha] at hc
end Go.Proofs.YtaingleopdnkiaaDoor
