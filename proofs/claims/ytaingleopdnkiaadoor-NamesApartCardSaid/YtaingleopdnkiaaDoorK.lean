/- Helper lemmas: a world with more blocks behind its own; what the walk reads of it. No condition. -/
import Derived.Test.YtaingleopdnkiaaDoorRows
import Derived.Handy
import Derived.WalkSpells
import Derived.WalkSmall
import Derived.WalkLawsBesides
import Derived.Deep.QuietTactic
import Derived.BigQuiet
namespace Go.Proofs.YtaingleopdnkiaaDoor
open Go.RowKit

/-- Blocks that a call has made, and how many draws there have been. -/
structure Junk where
  l : List Obj
  m : Nat
instance : Nonempty Junk := ⟨⟨[], 0⟩⟩
/-- The world with more blocks behind its own, and some draws. -/
def wext (w : World) (j : Junk) : World := { w with heap := w.heap ++ j.l.toArray, drawn := j.m }

@[go_sem, simp] theorem w_size_ext (w : World) (j : Junk) : (wext w j).heap.size = w.heap.size + j.l.length := by simp [wext]

theorem w_ext_below (w : World) (j : Junk) : Below w.heap.size w (wext w j) :=
  ⟨rfl, rfl, rfl, by simp, fun k hk => by simp only [wext]; rw [Array.getElem?_append_left hk]⟩

theorem w_ext_of_below {w w' : World} (h : Below w.heap.size w w') : ∃ j : Junk, w' = wext w j := by
  refine ⟨⟨w'.heap.toList.drop w.heap.size, w'.drawn⟩, ?_⟩
  obtain ⟨h1, h2, h3, h4, h5⟩ := h
  cases w; cases w'
  simp only [wext] at *
  subst h1; subst h2; subst h3
  congr
  rename_i a _ _ _ _ b _
  apply Array.ext_getElem?
  intro i
  by_cases hi : i < a.size
  · rw [Array.getElem?_append_left hi]; exact h5 i hi
  · rw [Array.getElem?_append_right (by omega)]
    simp
    congr 1
    omega

/-- n ≤ k, seen where k is n with more added behind. -/
def leB (n k : Nat) : Bool := decide (n ≤ k)
def leC (n k : Nat) : Bool := decide (n ≤ k)
@[go_sem, simp] theorem leB_refl (n : Nat) : leB n n = true := by simp [leB]
@[go_sem, simp] theorem leB_add (n k x : Nat) : leB n (k + x) = (leB n k || leC n (k + x)) := by
  rw [Bool.eq_iff_iff]; simp only [leB, leC, Bool.or_eq_true, decide_eq_true_eq]; omega
theorem of_leB {n k : Nat} (h : leB (n + 1) k = true) : n < k := by simp [leB] at h; omega

@[go_sem] theorem w_cell?_ext (w : World) (j : Junk) (n i : Nat) (h : leB (n + 1) w.heap.size = true) : (wext w j).cell? ⟨n, i, none⟩ = w.cell? ⟨n, i, none⟩ :=
  (w_ext_below w j).cell (p := ⟨n, i, none⟩) (of_leB h)

@[go_sem] theorem w_frozen?_ext (w : World) (j : Junk) (n i : Nat) (h : leB (n + 1) w.heap.size = true) : (wext w j).frozen? ⟨n, i, none⟩ = w.frozen? ⟨n, i, none⟩ :=
  (w_ext_below w j).frozen (p := ⟨n, i, none⟩) (of_leB h)

theorem w_setCell_ext_lt (w : World) (j : Junk) (n i : Nat) (v : Value) (h : n < w.heap.size) : (wext w j).setCell ⟨n, i, none⟩ v = wext (w.setCell ⟨n, i, none⟩ v) j := by
  simp only [World.setCell, wext]
  congr 1
  apply Array.ext_getElem?
  intro k
  by_cases hk : k < w.heap.size
  · rw [Array.getElem?_append_left (by simpa using hk), Array.getElem?_modify, Array.getElem?_modify, Array.getElem?_append_left hk]
  · rw [Array.getElem?_append_right (by simpa using hk), Array.getElem?_modify, if_neg (by omega), Array.getElem?_append_right (by omega)]
    simp

@[go_sem] theorem w_setCell_ext (w : World) (j : Junk) (n i : Nat) (v : Value) (h : leB (n + 1) w.heap.size = true) :
    (wext w j).setCell ⟨n, i, none⟩ v = wext (w.setCell ⟨n, i, none⟩ v) j := w_setCell_ext_lt _ _ _ _ _ (of_leB h)

@[go_sem] theorem w_ext_drew (w : World) (j : Junk) : (wext w j).drew = wext w ⟨j.l, j.m + 1⟩ := rfl
@[go_sem] theorem w_ext_drewN (w : World) (j : Junk) (n : Nat) : (wext w j).drewN n = wext w ⟨j.l, j.m + n⟩ := rfl
@[go_sem] theorem w_ext_ext (w : World) (j j' : Junk) : wext (wext w j) j' = wext w ⟨j.l ++ j'.l, j'.m⟩ := by
  simp [wext, Array.append_assoc]

@[go_sem] theorem w_cell?_alloc (w : World) (o : Obj) (n i : Nat) (h : leB (n + 1) w.heap.size = true) : (w.alloc o).cell? ⟨n, i, none⟩ = w.cell? ⟨n, i, none⟩ :=
  World.cell?_alloc_past _ _ _ (of_leB h)
@[go_sem] theorem w_frozen?_alloc (w : World) (o : Obj) (n i : Nat) (h : leB (n + 1) w.heap.size = true) : (w.alloc o).frozen? ⟨n, i, none⟩ = w.frozen? ⟨n, i, none⟩ :=
  World.frozen?_alloc_past _ _ _ (of_leB h)
@[go_sem] theorem w_setCell_alloc (w : World) (o : Obj) (n i : Nat) (v : Value) (h : leB (n + 1) w.heap.size = true) : (w.alloc o).setCell ⟨n, i, none⟩ v = (w.setCell ⟨n, i, none⟩ v).alloc o :=
  World.setCell_alloc_past _ _ _ _ (of_leB h)

/-- The call returns v and leaves all that lay before as it was. -/
def Ret (v : Value) (w : World) (e : Ending) (w' : World) : Prop := e = .returned v ∧ ∃ j : Junk, w' = wext w j
theorem Ret.mk {v v' : Value} {w w' : World} (hv : v' = v) (hb : Below w.heap.size w w') : Ret v w (.returned v') w' := ⟨by rw [hv], w_ext_of_below hb⟩
theorem below_ext {B : Nat} {a w : World} (h : Below B a w) (hB : B ≤ w.heap.size) (j : Junk) : Below B a (wext w j) := h.trans ((w_ext_below w j).mono hB)

theorem quiet_call {P : Program} {f : FuncId} {args : Array Value} {w0 : World} {j : Junk} {v : Value} (h : Calls P f args (wext w0 j) (Ret v (wext w0 j))) :
    Calls P f args (wext w0 j) fun e w'' => e = .returned v ∧ ∃ j' : Junk, w'' = wext w0 j' :=
  h.mono fun _ w'' ⟨he, j', hb⟩ => ⟨he, ⟨j.l ++ j'.l, j'.m⟩, by rw [hb, w_ext_ext]⟩

theorem wp_region_ext {P : Program} {id : Nat} {Q : Exit → Act → World → Prop} {a : Act} {w : World} {l : List Oper} (hm : P.follows .mixedOrders = true) (hB : Region.lexB .any l.toArray = true)
    (h : wpQuiet P l.toArray (fun W => ∃ j : Junk, W = wext w j) (fun a' => ∀ W, (∃ j : Junk, W = wext w j) → Q .normal a' W) l a) : (Code.region id l.toArray true).wp P Q a w :=
  wp_region_quiet (C := fun W => ∃ j : Junk, W = wext w j) hm hB (w_ext_of_below (Below.refl _ w).drew) (by rw [List.toList_toArray]; exact h)

theorem ret_bool {a b : Bool} (h : a = b) : Ending.returned (.bool a) = .returned (.bool b) := by rw [h]

end Go.Proofs.YtaingleopdnkiaaDoor
