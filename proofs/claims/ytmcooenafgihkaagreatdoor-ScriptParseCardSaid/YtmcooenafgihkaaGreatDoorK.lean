/- Helper lemmas: worlds with more blocks behind their own; statements whose order Go leaves open; rows of one's own. No condition. -/
import Derived.Test.YtmcooenafgihkaaGreatDoorRows
import Derived.Handy
import Derived.WalkSpells
import Derived.WalkSmall
import Derived.WalkLawsBesides
import Derived.Deep.QuietTactic
import Derived.BigQuiet
import Derived.OrdersHeld
import Derived.Lib.Hide
import Derived.Maps.AppendAt
import Derived.Below
import Derived.OwnWalk
import Derived.Outline
import Derived.WalkKit
import Derived.Laws.BitsAllLaws
set_option linter.unusedSimpArgs false
set_option linter.unusedVariables false
namespace Go.Proofs.YtmcooenafgihkaaGreatDoor
open Go.RowKit

/-- Blocks that a call has made, and how many draws there have been. -/
structure Junk where
  l : List Obj
  m : Nat
instance : Nonempty Junk := ⟨⟨[], 0⟩⟩
/-- The world with more blocks behind its own, and some draws. -/
def wext (w : World) (j : Junk) : World := { w with heap := w.heap ++ j.l.toArray, drawn := j.m }

@[go_sem, simp] theorem w_size_ext (w : World) (j : Junk) : (wext w j).heap.size = w.heap.size + j.l.length := by simp [wext]

theorem w_ext_below (w : World) (j : Junk) : Below w.heap.size w (wext w j) :=
  ⟨rfl, rfl, rfl, by simp, fun k hk => by simp only [wext]; rw [Array.getElem?_append_left hk]⟩

theorem w_ext_of_below {w w' : World} (h : Below w.heap.size w w') : ∃ j : Junk, w' = wext w j := by
  refine ⟨⟨w'.heap.toList.drop w.heap.size, w'.drawn⟩, ?_⟩
  obtain ⟨h1, h2, h3, h4, h5⟩ := h
  cases w; cases w'
  simp only [wext] at *
  subst h1; subst h2; subst h3
  congr
  rename_i a _ _ _ _ b _
  apply Array.ext_getElem?
  intro i
  by_cases hi : i < a.size
  · rw [Array.getElem?_append_left hi]; exact h5 i hi
  · rw [Array.getElem?_append_right (by omega)]
    simp
    congr 1
    omega

/-- n ≤ k, seen where k is n with more added behind. -/
def leB (n k : Nat) : Bool := decide (n ≤ k)
def leC (n k : Nat) : Bool := decide (n ≤ k)
@[go_sem, simp] theorem leB_refl (n : Nat) : leB n n = true := by simp [leB]
@[go_sem, simp] theorem leB_add (n k x : Nat) : leB n (k + x) = (leB n k || leC n (k + x)) := by
  rw [Bool.eq_iff_iff]; simp only [leB, leC, Bool.or_eq_true, decide_eq_true_eq]; omega
theorem of_leB {n k : Nat} (h : leB (n + 1) k = true) : n < k := by simp [leB] at h; omega

@[go_sem] theorem w_cell?_ext (w : World) (j : Junk) (n i : Nat) (h : leB (n + 1) w.heap.size = true) : (wext w j).cell? ⟨n, i, none⟩ = w.cell? ⟨n, i, none⟩ :=
  (w_ext_below w j).cell (p := ⟨n, i, none⟩) (of_leB h)

@[go_sem] theorem w_frozen?_ext (w : World) (j : Junk) (n i : Nat) (h : leB (n + 1) w.heap.size = true) : (wext w j).frozen? ⟨n, i, none⟩ = w.frozen? ⟨n, i, none⟩ :=
  (w_ext_below w j).frozen (p := ⟨n, i, none⟩) (of_leB h)

theorem w_setCell_ext_lt (w : World) (j : Junk) (n i : Nat) (v : Value) (h : n < w.heap.size) : (wext w j).setCell ⟨n, i, none⟩ v = wext (w.setCell ⟨n, i, none⟩ v) j := by
  simp only [World.setCell, wext]
  congr 1
  apply Array.ext_getElem?
  intro k
  by_cases hk : k < w.heap.size
  · rw [Array.getElem?_append_left (by simpa using hk), Array.getElem?_modify, Array.getElem?_modify, Array.getElem?_append_left hk]
  · rw [Array.getElem?_append_right (by simpa using hk), Array.getElem?_modify, if_neg (by omega), Array.getElem?_append_right (by omega)]
    simp

@[go_sem] theorem w_setCell_ext (w : World) (j : Junk) (n i : Nat) (v : Value) (h : leB (n + 1) w.heap.size = true) :
    (wext w j).setCell ⟨n, i, none⟩ v = wext (w.setCell ⟨n, i, none⟩ v) j := w_setCell_ext_lt _ _ _ _ _ (of_leB h)

@[go_sem] theorem w_ext_drew (w : World) (j : Junk) : (wext w j).drew = wext w ⟨j.l, j.m + 1⟩ := rfl
@[go_sem] theorem w_ext_drewN (w : World) (j : Junk) (n : Nat) : (wext w j).drewN n = wext w ⟨j.l, j.m + n⟩ := rfl
@[go_sem] theorem w_ext_ext (w : World) (j j' : Junk) : wext (wext w j) j' = wext w ⟨j.l ++ j'.l, j'.m⟩ := by
  simp [wext, Array.append_assoc]

@[go_sem] theorem w_cell?_alloc (w : World) (o : Obj) (n i : Nat) (h : leB (n + 1) w.heap.size = true) : (w.alloc o).cell? ⟨n, i, none⟩ = w.cell? ⟨n, i, none⟩ :=
  World.cell?_alloc_past _ _ _ (of_leB h)
@[go_sem] theorem w_frozen?_alloc (w : World) (o : Obj) (n i : Nat) (h : leB (n + 1) w.heap.size = true) : (w.alloc o).frozen? ⟨n, i, none⟩ = w.frozen? ⟨n, i, none⟩ :=
  World.frozen?_alloc_past _ _ _ (of_leB h)
@[go_sem] theorem w_setCell_alloc (w : World) (o : Obj) (n i : Nat) (v : Value) (h : leB (n + 1) w.heap.size = true) : (w.alloc o).setCell ⟨n, i, none⟩ v = (w.setCell ⟨n, i, none⟩ v).alloc o :=
  World.setCell_alloc_past _ _ _ _ (of_leB h)

/-- The call returns v and leaves all that lay before as it was. -/
def Ret (v : Value) (w : World) (e : Ending) (w' : World) : Prop := e = .returned v ∧ ∃ j : Junk, w' = wext w j
theorem Ret.mk {v v' : Value} {w w' : World} (hv : v' = v) (hb : Below w.heap.size w w') : Ret v w (.returned v') w' := ⟨by rw [hv], w_ext_of_below hb⟩
theorem below_ext {B : Nat} {a w : World} (h : Below B a w) (hB : B ≤ w.heap.size) (j : Junk) : Below B a (wext w j) := h.trans ((w_ext_below w j).mono hB)

theorem quiet_call {P : Program} {f : FuncId} {args : Array Value} {w0 : World} {j : Junk} {v : Value} (h : Calls P f args (wext w0 j) (Ret v (wext w0 j))) :
    Calls P f args (wext w0 j) fun e w'' => e = .returned v ∧ ∃ j' : Junk, w'' = wext w0 j' :=
  h.mono fun _ w'' ⟨he, j', hb⟩ => ⟨he, ⟨j.l ++ j'.l, j'.m⟩, by rw [hb, w_ext_ext]⟩

theorem wp_region_ext {P : Program} {id : Nat} {Q : Exit → Act → World → Prop} {a : Act} {w : World} {l : List Oper} (hm : P.follows .mixedOrders = true) (hB : Region.lexB .any l.toArray = true)
    (h : wpQuiet P l.toArray (fun W => ∃ j : Junk, W = wext w j) (fun a' => ∀ W, (∃ j : Junk, W = wext w j) → Q .normal a' W) l a) : (Code.region id l.toArray true).wp P Q a w :=
  wp_region_quiet (C := fun W => ∃ j : Junk, W = wext w j) hm hB (w_ext_of_below (Below.refl _ w).drew) (by rw [List.toList_toArray]; exact h)

theorem ret_bool {a b : Bool} (h : a = b) : Ending.returned (.bool a) = .returned (.bool b) := by rw [h]


/-- The walk: an operation that reads alone yields one value in every world that has grown out of w0; any other one is carried out in the world at hand. -/
def wpMix (P : Program) (ops : Array Oper) (Q : Exit → Act → World → Prop) (w0 : World) : List (Nat × Bool) → Act → World → Prop
  | [], a, w => Q .normal a w
  | (i, light) :: rest, a, w => ∃ o, ops[i]? = some o ∧
      if Region.wanted o (yielded ops a.tmps) = true then
        (if light = true then ∃ v, (∀ j, (execOp a.eval o).run P (wext w0 j) = .ok (.value v) (wext w0 j)) ∧ wpMix P ops Q w0 rest (a.put o.dst v) w
         else o.wp P a w (fun a' w' => (∃ j, w' = wext w0 j) ∧ wpMix P ops Q w0 rest a' w') Q)
      else wpMix P ops Q w0 rest (a.put o.dst undef) w

/-- The order is one that Go allows, and it says what any other one says. -/
def mixOk (ops : Array Oper) : List (Nat × Bool) → Array Bool → Bool
  | [], listed => (Region.ready .any ops listed).isEmpty
  | (i, light) :: rest, listed =>
    (if light = true then (Region.ready .any ops listed).contains i && Region.free .any ops listed i else (Region.ready .any ops listed) == [i]) && mixOk ops rest (listed.setIfInBounds i true)

section
variable {P : Program} {ops : Array Oper} {Q : Exit → Act → World → Prop} {w0 : World}

theorem wpAnyH_of_mix (hs : Region.noSelect ops = true) (hQ : ∀ (c : List PanicEntry) (a : Act) (d : Option Tmp) (v : Value) (w : World), Q (.panic c) (a.put d v) w → Q (.panic c) a w) :
    ∀ (ord : List (Nat × Bool)) (listed : Array Bool) (a : Act) (w : World), mixOk ops ord listed = true → (∃ j, w = wext w0 j) → wpMix P ops Q w0 ord a w →
    wpAnyH P .any ops Q (fun w => ∃ j, w = wext w0 j) ord.length listed a w
  | [], listed, a, w, hok, _, h => by
    simp only [mixOk, List.isEmpty_iff] at hok
    exact wpAnyH_done hok h _
  | (i, true) :: rest, listed, a, w, hok, hS, h => by
    simp only [mixOk, if_true, Bool.and_eq_true] at hok
    obtain ⟨⟨hr, hf⟩, hok⟩ := hok
    obtain ⟨o, ho, h⟩ := h
    simp only [if_true] at h
    split at h
    · rename_i hw
      obtain ⟨v, hv, h⟩ := h
      exact wpAnyH_take ho hs hf hr (fun c a w => hQ c a _ _ w) (.inl ⟨hw, fun w ⟨j, hj⟩ => hj ▸ hv j⟩) hS (wpAnyH_of_mix hs hQ rest _ _ _ hok hS h)
    · rename_i hw
      exact wpAnyH_take ho hs hf hr (fun c a w => hQ c a _ _ w) (.inr ⟨by simpa using hw, rfl⟩) hS (wpAnyH_of_mix hs hQ rest _ _ _ hok hS h)
  | (i, false) :: rest, listed, a, w, hok, hS, h => by
    simp only [mixOk, Bool.false_eq_true, if_false, Bool.and_eq_true, beq_iff_eq] at hok
    obtain ⟨hr, hok⟩ := hok
    obtain ⟨o, ho, h⟩ := h
    simp only [Bool.false_eq_true, if_false] at h
    refine wpAnyH_all hr (by simp) fun k hk => ?_
    obtain rfl : k = i := by simpa using hk
    unfold Go.wpOp
    simp only [ho]
    split at h
    · rename_i hw
      rw [if_pos hw]
      refine .inl (Oper.wp_mono (fun a' w' h' => ⟨h'.1, wpAnyH_of_mix hs hQ rest _ _ _ hok h'.1 h'.2⟩) h)
    · rename_i hw
      rw [if_neg hw]
      exact ⟨hS, wpAnyH_of_mix hs hQ rest _ _ _ hok hS h⟩

theorem wp_region_mix {id : Nat} {a : Act} {l : List Oper} (ord : List (Nat × Bool)) (hm : P.follows .mixedOrders = true) (hs : Region.noSelect l.toArray = true) (hn : ord.length = l.length)
    (hok : mixOk l.toArray ord (Array.replicate l.length false) = true) (hQ : ∀ (c : List PanicEntry) (a : Act) (d : Option Tmp) (v : Value) (w : World), Q (.panic c) (a.put d v) w → Q (.panic c) a w)
    (h : ∀ j, wpMix P l.toArray Q w0 ord a (wext w0 j)) : (Code.region id l.toArray true).wp P Q a w0 := by
  obtain ⟨j, hj⟩ := w_ext_of_below (Below.refl w0.heap.size w0).drew
  refine wp_region_held (S := fun w => ∃ j, w = wext w0 j) hm ?_
  have h1 := wpAnyH_of_mix hs hQ ord (Array.replicate l.length false) a _ hok ⟨j, rfl⟩ (h j)
  rw [hn] at h1
  rw [← hj] at h1
  simpa using h1

theorem wpMix_nil {a : Act} {w : World} (h : Q .normal a w) : wpMix P ops Q w0 [] a w := h
theorem wpMix_skip {i : Nat} {b : Bool} {rest : List (Nat × Bool)} {o : Oper} {a : Act} {w : World} (ho : ops[i]? = some o) (hw : Region.wanted o (yielded ops a.tmps) = false) (h : wpMix P ops Q w0 rest (a.put o.dst undef) w) :
    wpMix P ops Q w0 ((i, b) :: rest) a w := ⟨o, ho, by rw [if_neg (by rw [hw]; simp)]; exact h⟩
theorem wpMix_light {i : Nat} {rest : List (Nat × Bool)} {o : Oper} {a : Act} {w : World} (ho : ops[i]? = some o) (hw : Region.wanted o (yielded ops a.tmps) = true)
    (h : ∀ K : Act → Prop, (∀ a', wpMix P ops Q w0 rest a' w → K a') → ∃ v, (∀ j, (execOp a.eval o).run P (wext w0 j) = .ok (.value v) (wext w0 j)) ∧ K (a.put o.dst v)) :
    wpMix P ops Q w0 ((i, true) :: rest) a w := ⟨o, ho, by rw [if_pos hw, if_pos rfl]; exact h _ (fun _ h => h)⟩
theorem wpMix_heavy {i : Nat} {rest : List (Nat × Bool)} {o : Oper} {a : Act} {w : World} (ho : ops[i]? = some o) (hw : Region.wanted o (yielded ops a.tmps) = true)
    (h : ∀ K : Act → World → Prop, (∀ a' w', ((∃ j, w' = wext w0 j) ∧ wpMix P ops Q w0 rest a' w') → K a' w') → o.wp P a w K Q) :
    wpMix P ops Q w0 ((i, false) :: rest) a w := ⟨o, ho, by rw [if_pos hw, if_neg (by simp)]; exact h _ (fun _ _ h => h)⟩
end

@[go_sem] theorem w_setCell_twice (w : World) (a : Addr) (u v : Value) : (w.setCell a u).setCell a v = w.setCell a v := by
  simp only [World.setCell]
  congr 1
  apply Array.ext_getElem?
  intro k
  rw [Array.getElem?_modify, Array.getElem?_modify, Array.getElem?_modify]
  split
  · cases w.heap[k]? with
    | none => rfl
    | some o => cases o <;> simp <;> split <;> simp_all
  · rfl
theorem w_setCell_same {w : World} {b i : Nat} {v : Value} (h : w.cell? ⟨b, i, none⟩ = some v) : w.setCell ⟨b, i, none⟩ v = w := by
  simp only [World.cell?, Option.isSome_none, Bool.false_eq_true, if_false] at h
  simp only [World.setCell, Option.isSome_none, Bool.false_eq_true, if_false]
  cases w with
  | mk heap tape drawn os output =>
  congr 1
  apply Array.ext_getElem?
  intro k
  rw [Array.getElem?_modify]
  split
  · rename_i hk
    subst hk
    simp only at h
    cases ho : heap[b]? with
    | none => rfl
    | some o =>
      rw [ho] at h
      cases o <;> simp_all
      rename_i c _ _
      apply Array.ext_getElem?
      intro q
      rw [Array.getElem?_setIfInBounds]
      split
      · rename_i hq; subst hq
        have : i < c.size := by
          rcases Nat.lt_or_ge i c.size with h' | h'
          · exact h'
          · rw [Array.getElem?_eq_none h'] at h; cases h
        rw [if_pos this, h]
      · rfl
  · rfl
@[go_sem] theorem w_cell?_alloc_fr (w : World) (C : Array Value) (t : TypeId) (lo hi n i : Nat) (hn : n = w.heap.size) : (w.alloc (.cells C t (lo, hi))).cell? ⟨n, i, none⟩ = C[i]? := by
  subst hn; exact World.cell?_alloc_mark w C t (lo, hi) i


theorem below_app (w : World) (j : Junk) (l : List Obj) (m : Nat) : Below (wext w j).heap.size (wext w j) (wext w ⟨j.l ++ l, m⟩) := by
  have h := w_ext_below (wext w j) ⟨l, m⟩
  rw [w_ext_ext] at h
  exact h

/-- '[]byte(s)': a new row that holds the text's bytes; how long it is Go leaves open. -/
theorem wpList_sbytes {P : Program} {ops : Array Oper} {Q : Exit → Act → World → Prop} {a : Act} {w : World} {rest : List Oper} {o : Oper} (hg : o.guard = none) (src dst e : TypeId) (x : Operand) (hop : o.op = .convert src dst x)
    (hs : P.underlying src = some .string) (hd : P.underlying dst = some (.slice e)) (he : P.underlying e = some (.int .u8)) (s : ByteArray) (hx : a.eval x = .string s)
    (h : ∀ (c : Nat) (R : Array Value) (lo hi : Nat), s.size ≤ R.size → s.size ≤ lo → (∀ j (hj : j < s.size), R[j]? = some (.int .u8 (s.data[j].toNat : Int))) →
      wpList P ops Q rest (a.put o.dst (.slice (some ⟨w.heap.size, 0, none⟩) s.size c)) (w.drew.alloc (.cells R e (lo, hi)))) : wpList P ops Q (o :: rest) a w := by
  refine wpList_plain hg fun K hK => ?_
  unfold Oper.wp
  have hr := run_bytes_of_string (P := P) w src dst e s hs hd he
  have : (execOp a.eval o).run P w = .ok (.value (.slice (some ⟨w.heap.size, 0, none⟩) s.size (grownCap w s.size 0 e))) (w.drew.alloc (.cells (bytesRow s (grownCap w s.size 0 e)) e ((bytesRow s (grownCap w s.size 0 e)).size, (bytesRow s (grownCap w s.size 0 e)).size + 1))) := by
    have he : execOp a.eval o = (do let v ← convert src dst (a.eval x); pure (Next.value v)) := by unfold execOp; rw [hop]
    rw [he, hx, Sem.run_bind, hr]
    rfl
  rw [this]
  simp only [Oper.upon]
  refine hK _ _ (h _ _ _ _ ?_ ?_ ?_)
  · simp only [bytesRow, Array.size_append, Array.size_map]; exact Nat.le_add_right _ _
  · simp only [bytesRow, Array.size_append, Array.size_map]; exact Nat.le_add_right _ _
  · intro j hj
    exact bytesRow_at s _ j hj
theorem wrap64_eq (x : Int) : wrap64 x = (x + 9223372036854775808) % 18446744073709551616 - 9223372036854775808 := by
  unfold wrap64; omega

/-- A block that is there is told apart from what comes later. -/
theorem leB_of_cell {w : World} {b o : Nat} {v : Value} (h : w.cell? ⟨b, o, none⟩ = some v) : leB (b + 1) w.heap.size = true := by
  have := World.block_lt_of_cell? w _ h
  simp only [leB, decide_eq_true_eq]; exact this
/-- A world that has grown out of another one. -/
theorem w_grown {w w' : World} (h : Below w.heap.size w w') : ∃ j, w' = wext w j := w_ext_of_below h
theorem below_pre {w : World} {a b : List Obj} {m m' : Nat} (h : a <+: b) : Below (wext w ⟨a, m⟩).heap.size (wext w ⟨a, m⟩) (wext w ⟨b, m'⟩) := by
  obtain ⟨t, rfl⟩ := h
  exact below_app w ⟨a, m⟩ t m'
theorem set_self (w : World) (b o : Nat) (v : Value) (h : w.cell? ⟨b, o, none⟩ = some v) : w.setCell ⟨b, o, none⟩ v = w := by
  have key : ∀ f : Obj → Obj, (∀ x, w.heap[b]? = some x → f x = x) → w.heap.modify b f = w.heap := by
    intro f hf
    apply Array.ext_getElem?
    intro i
    rw [Array.getElem?_modify]
    split
    · rename_i hi
      subst hi
      cases hx : w.heap[b]? with
      | none => rfl
      | some x => simp [hf x hx]
    · rfl
  unfold World.setCell
  rw [key]
  intro x hx
  unfold World.cell? at h
  simp only at h
  rw [hx] at h
  cases x with
  | cells c e fr =>
    simp at h ⊢
    apply Array.ext_getElem?
    intro i
    rw [Array.getElem?_setIfInBounds]
    split
    · rename_i hi
      subst hi
      rw [h]
      obtain ⟨hlt, _⟩ := Array.getElem?_eq_some_iff.1 h
      rw [if_pos hlt]
    · rfl
  | _ => rfl
theorem intOf_lit (k : IntKind) (x : Int) : intOf (.int k x) = x := rfl
/-- A call that tells v and turns nothing. -/
def Tells (v : Value) (w : World) (e : Ending) (w' : World) : Prop := e = .returned v ∧ w' = w
section
variable {P : Program} {ops : Array Oper} {Q : Exit → Act → World → Prop} {w0 : World}
theorem wpMix_skipK {i : Nat} {b : Bool} {rest : List (Nat × Bool)} {o : Oper} {a : Act} {w : World} (ho : ops[i]? = some o) (hw : Region.wanted o (yielded ops a.tmps) = false) (h : ∀ K : Act → Prop, (∀ a', wpMix P ops Q w0 rest a' w → K a') → K (a.put o.dst undef)) :
    wpMix P ops Q w0 ((i, b) :: rest) a w := wpMix_skip ho hw (h _ (fun _ h => h))
end
theorem toList_ne {a b : ByteArray} (h : ¬ a = b) : ¬ a.toList = b.toList := fun e => h (by
  apply ByteArray.ext
  apply Array.toList_inj.1
  rw [← ByteArray.toList_eq, ← ByteArray.toList_eq]
  exact e)
theorem empty_of_size {q : ByteArray} (h : q.size = 0) : q = ⟨#[]⟩ := ByteArray.ext (Array.eq_empty_of_size_eq_zero h)
theorem nonempty_of_size {q : ByteArray} (h : 0 < q.size) : q.toList.isEmpty = false := by
  have hl : q.toList.length = q.size := by rw [ByteArray.toList_eq, Array.length_toList]; rfl
  cases hq : q.toList with
  | nil => rw [hq] at hl; simp at hl; omega
  | cons _ _ => rfl
theorem toList_inj {a b : ByteArray} : a.toList = b.toList ↔ a = b := ⟨fun e => by
  apply ByteArray.ext
  apply Array.toList_inj.1
  rw [← ByteArray.toList_eq, ← ByteArray.toList_eq]
  exact e, fun e => by rw [e]⟩
/-- Numbers that lie in a slice. -/
def IntsAt (w : World) (A : Option Addr) (x : List Int) : Prop := ∀ i, i < x.length → ∃ b o : Nat, A = some ⟨b, o, none⟩ ∧ w.cell? ⟨b, o + i, none⟩ = some (.int .i64 (x.getD i 0))
theorem IntsAt.later {w w' : World} {A : Option Addr} {x : List Int} (h : IntsAt w A x) (hb : Below w.heap.size w w') : IntsAt w' A x := fun i hi => by
  obtain ⟨b, o, e, h0⟩ := h i hi
  exact ⟨b, o, e, by rw [hb.cell (p := ⟨b, o + i, none⟩) (World.block_lt_of_cell? w _ h0)]; exact h0⟩
theorem app_step {ops : Array Oper} {rest : List Oper} {o : Oper} {a : Act} {Q : Exit → Act → World → Prop} {W w2 : World} {v y v2 : Value} (t : TypeId) (s x : Operand) (hw : Region.wanted o (yielded ops a.tmps) = true)
    (ho : o.op = .call { callee := .builtin .append, args := #[s, x], argTypes := #[t, t] }) (hty : o.type = t) (hs : a.eval s = v) (hx : a.eval x = y) (hr : (Builtin.append_ #[t, t] t #[v, y]).run Tryz.prog W = .ok v2 w2)
    (h : wpList Tryz.prog ops Q rest (a.put o.dst v2) w2) : wpList Tryz.prog ops Q (o :: rest) a W := by
  refine wpList_step fun K hK => ?_
  rw [if_pos hw]
  unfold Oper.wp execOp
  simp only [ho, resolve, invoke, builtin, Sem.run_bind, Sem.run_pure, Result.andThen_ok, List.map_toArray, List.map_cons, List.map_nil, hs, hx, hty, hr]
  exact hK _ _ h
theorem below_tr {w w1 w2 : World} (h : Below w.heap.size w w1) (h2 : Below w1.heap.size w1 w2) : Below w.heap.size w w2 := h.trans (h2.mono h.size)
theorem app_op {o : Oper} {a : Act} {K : Act → World → Prop} {Q : Exit → Act → World → Prop} {W w2 : World} {v y v2 : Value} (t : TypeId) (s x : Operand)
    (ho : o.op = .call { callee := .builtin .append, args := #[s, x], argTypes := #[t, t] }) (hty : o.type = t) (hs : a.eval s = v) (hx : a.eval x = y) (hr : (Builtin.append_ #[t, t] t #[v, y]).run Tryz.prog W = .ok v2 w2)
    (h : K (a.put o.dst v2) w2) : o.wp Tryz.prog a W K Q := by
  unfold Oper.wp execOp
  simp only [ho, resolve, invoke, builtin, Sem.run_bind, Sem.run_pure, Result.andThen_ok, List.map_toArray, List.map_cons, List.map_nil, hs, hx, hty, hr]
  exact h
/-- The orders of a statement: some operation is taken first, one alone may come, or one of two. -/
inductive Ord where
  | done
  | take (i : Nat) (t : Ord)
  | one (i : Nat) (t : Ord)
  | two (i j : Nat) (t u : Ord)
def wpOrd (P : Program) (ops : Array Oper) (Q : Exit → Act → World → Prop) : Ord → Act → World → Prop
  | .done, a, w => Q .normal a w
  | .take i t, a, w => ∃ o v, ops[i]? = some o ∧ Region.wanted o (yielded ops a.tmps) = true ∧ (∀ w, (execOp a.eval o).run P w = .ok (.value v) w) ∧ wpOrd P ops Q t (a.put o.dst v) w
  | .one i t, a, w => ∃ o, ops[i]? = some o ∧ Region.wanted o (yielded ops a.tmps) = true ∧ o.wp P a w (fun a' w' => wpOrd P ops Q t a' w') Q
  | .two i j t u, a, w => (∃ o, ops[i]? = some o ∧ Region.wanted o (yielded ops a.tmps) = true ∧ o.wp P a w (fun a' w' => wpOrd P ops Q t a' w') Q) ∧
      (∃ o, ops[j]? = some o ∧ Region.wanted o (yielded ops a.tmps) = true ∧ o.wp P a w (fun a' w' => wpOrd P ops Q u a' w') Q)
def ordOk (ops : Array Oper) : Ord → Array Bool → Bool
  | .done, l => (Region.ready .any ops l).isEmpty
  | .take i t, l => ((Region.ready .any ops l).contains i && Region.free .any ops l i) && ordOk ops t (l.setIfInBounds i true)
  | .one i t, l => (Region.ready .any ops l == [i]) && ordOk ops t (l.setIfInBounds i true)
  | .two i j t u, l => (Region.ready .any ops l == [i, j]) && (ordOk ops t (l.setIfInBounds i true) && ordOk ops u (l.setIfInBounds j true))
def Ord.deep : Ord → Nat
  | .done => 0
  | .take _ t => t.deep + 1
  | .one _ t => t.deep + 1
  | .two _ _ t u => max t.deep u.deep + 1
section
variable {P : Program} {ops : Array Oper} {Q : Exit → Act → World → Prop}
theorem wpAnyH_of_ord (hs : Region.noSelect ops = true) (hQ : ∀ (c : List PanicEntry) (a : Act) (d : Option Tmp) (v : Value) (w : World), Q (.panic c) (a.put d v) w → Q (.panic c) a w) :
    ∀ (t : Ord) (n : Nat) (listed : Array Bool) (a : Act) (w : World), t.deep ≤ n → ordOk ops t listed = true → wpOrd P ops Q t a w → wpAnyH P .any ops Q (fun _ => True) n listed a w
  | .done, n, listed, a, w, _, hok, h => by
    simp only [ordOk, List.isEmpty_iff] at hok
    exact wpAnyH_done hok h _
  | .take i t, n, listed, a, w, hn, hok, h => by
    obtain ⟨n, rfl⟩ : ∃ m, n = m + 1 := ⟨n - 1, by simp only [Ord.deep] at hn; omega⟩
    simp only [ordOk, Bool.and_eq_true] at hok
    obtain ⟨⟨hr, hf⟩, hok⟩ := hok
    obtain ⟨o, v, ho, hw, hv, h⟩ := h
    exact wpAnyH_take ho hs hf hr (fun c a w => hQ c a _ _ w) (.inl ⟨hw, fun w _ => hv w⟩) trivial (wpAnyH_of_ord hs hQ t n _ _ _ (by simp only [Ord.deep] at hn; omega) hok h)
  | .one i t, n, listed, a, w, hn, hok, h => by
    obtain ⟨n, rfl⟩ : ∃ m, n = m + 1 := ⟨n - 1, by simp only [Ord.deep] at hn; omega⟩
    simp only [ordOk, Bool.and_eq_true, beq_iff_eq] at hok
    obtain ⟨hr, hok⟩ := hok
    obtain ⟨o, ho, hw, h⟩ := h
    refine wpAnyH_all hr (by simp) fun k hk => ?_
    obtain rfl : k = i := by simpa using hk
    unfold Go.wpOp
    simp only [ho]
    rw [if_pos hw]
    exact .inl (Oper.wp_mono (fun a' w' h' => ⟨trivial, wpAnyH_of_ord hs hQ t n _ _ _ (by simp only [Ord.deep] at hn; omega) hok h'⟩) h)
  | .two i j t u, n, listed, a, w, hn, hok, h => by
    obtain ⟨n, rfl⟩ : ∃ m, n = m + 1 := ⟨n - 1, by simp only [Ord.deep] at hn; omega⟩
    simp only [ordOk, Bool.and_eq_true, beq_iff_eq] at hok
    obtain ⟨hr, hok1, hok2⟩ := hok
    obtain ⟨⟨o, ho, hw, h1⟩, ⟨o', ho', hw', h2⟩⟩ := h
    refine wpAnyH_all hr (by simp) fun k hk => ?_
    have hk' : k = i ∨ k = j := by simpa using hk
    rcases hk' with rfl | rfl
    · unfold Go.wpOp
      simp only [ho]
      rw [if_pos hw]
      exact .inl (Oper.wp_mono (fun a' w' h' => ⟨trivial, wpAnyH_of_ord hs hQ t n _ _ _ (by simp only [Ord.deep] at hn; omega) hok1 h'⟩) h1)
    · unfold Go.wpOp
      simp only [ho']
      rw [if_pos hw']
      exact .inl (Oper.wp_mono (fun a' w' h' => ⟨trivial, wpAnyH_of_ord hs hQ u n _ _ _ (by simp only [Ord.deep] at hn; omega) hok2 h'⟩) h2)

theorem wp_region_ord {id : Nat} {a : Act} {l : List Oper} {w : World} (t : Ord) (hm : P.follows .mixedOrders = true) (hs : Region.noSelect l.toArray = true) (hn : t.deep ≤ l.length)
    (hok : ordOk l.toArray t (Array.replicate l.length false) = true) (hQ : ∀ (c : List PanicEntry) (a : Act) (d : Option Tmp) (v : Value) (w : World), Q (.panic c) (a.put d v) w → Q (.panic c) a w)
    (h : wpOrd P l.toArray Q t a w.drew) : (Code.region id l.toArray true).wp P Q a w := by
  refine wp_region_held (S := fun _ => True) hm ?_
  have h1 := wpAnyH_of_ord hs hQ t l.length (Array.replicate l.length false) a _ hn hok h
  simpa using h1
theorem wpOrd_done {a : Act} {w : World} (h : Q .normal a w) : wpOrd P ops Q .done a w := h
theorem wpOrd_take {i : Nat} {t : Ord} {o : Oper} {a : Act} {w : World} (ho : ops[i]? = some o) (hw : Region.wanted o (yielded ops a.tmps) = true)
    (h : ∀ K : Act → Prop, (∀ a', wpOrd P ops Q t a' w → K a') → ∃ v, (∀ w, (execOp a.eval o).run P w = .ok (.value v) w) ∧ K (a.put o.dst v)) : wpOrd P ops Q (.take i t) a w := by
  obtain ⟨v, h1, h2⟩ := h _ (fun _ h => h)
  exact ⟨o, v, ho, hw, h1, h2⟩
theorem wpOrd_one {i : Nat} {t : Ord} {o : Oper} {a : Act} {w : World} (ho : ops[i]? = some o) (hw : Region.wanted o (yielded ops a.tmps) = true)
    (h : ∀ K : Act → World → Prop, (∀ a' w', wpOrd P ops Q t a' w' → K a' w') → o.wp P a w K Q) : wpOrd P ops Q (.one i t) a w := ⟨o, ho, hw, h _ (fun _ _ h => h)⟩
theorem wpOrd_oneIf {i : Nat} {t : Ord} {o : Oper} {a : Act} {w : World} (ho : ops[i]? = some o) (hw : Region.wanted o (yielded ops a.tmps) = true)
    (h : ∀ K : Act → World → Prop, (∀ a' w', wpOrd P ops Q t a' w' → K a' w') → if Region.wanted o (yielded ops a.tmps) = true then o.wp P a w K Q else K (a.put o.dst undef) w) : wpOrd P ops Q (.one i t) a w := ⟨o, ho, hw, by
  have := h _ (fun _ _ h => h)
  rwa [if_pos hw] at this⟩
theorem wpOrd_two {i j : Nat} {t u : Ord} {a : Act} {w : World} (h1 : wpOrd P ops Q (.one i t) a w) (h2 : wpOrd P ops Q (.one j u) a w) : wpOrd P ops Q (.two i j t u) a w := ⟨h1, h2⟩
end


theorem own_same {w w' : World} {B e k n : Nat} {v : Value} {xs : List Value} (h : w.ownsRow B e k v n xs) (hs : ∀ g, B ≤ g → g < w.heap.size → w'.heap[g]? = w.heap[g]?) : w'.ownsRow B e k v n xs := by
  obtain ⟨h0, h1 | ⟨g, cap, cur, rfl, hb, h2, h3⟩⟩ := h
  · exact ⟨h0, Or.inl h1⟩
  · have hlt : g < w.heap.size := (Array.getElem?_eq_some_iff.1 h2).1
    exact ⟨h0, Or.inr ⟨g, cap, cur, rfl, hb, (hs g hb hlt).trans h2, h3⟩⟩
theorem heap_set_other (w : World) (a : Addr) (u : Value) (k : Nat) (h : ¬ k = a.block) : (w.setCell a u).heap[k]? = w.heap[k]? := Below.heap_setCell _ _ _ _ h
theorem addr_add (b o j : Nat) : (⟨b, o, none⟩ : Addr).add j = ⟨b, o + j, none⟩ := by unfold Addr.add; split <;> simp_all
/-- Texts that lie in a slice. -/
def StrsAt (w : World) (A : Option Addr) (x : List ByteArray) : Prop := ∀ i, i < x.length → ∃ b o : Nat, A = some ⟨b, o, none⟩ ∧ w.cell? ⟨b, o + i, none⟩ = some (.string (x.getD i ByteArray.empty))
theorem StrsAt.later {w w' : World} {A : Option Addr} {x : List ByteArray} (h : StrsAt w A x) (hb : Below w.heap.size w w') : StrsAt w' A x := fun i hi => by
  obtain ⟨b, o, e, h0⟩ := h i hi
  exact ⟨b, o, e, by rw [hb.cell (p := ⟨b, o + i, none⟩) (World.block_lt_of_cell? w _ h0)]; exact h0⟩
end Go.Proofs.YtmcooenafgihkaaGreatDoor
