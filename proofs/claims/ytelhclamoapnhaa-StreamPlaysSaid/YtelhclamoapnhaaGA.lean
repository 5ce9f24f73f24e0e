/- Helper lemmas of this seat, joined. No condition. -/
import Derived.Test.YtelhclamoapnhaaRows
import Derived.Handy
import Derived.WalkSpells
import Derived.WalkSmall
import Derived.WalkLawsBesides
import Derived.Deep.QuietTactic
import Derived.BigQuiet
import Derived.OrdersHeld
import Derived.Lib.Hide
import Derived.WalkKit
import Derived.Laws.BitsAllLaws
import Derived.Recover
import Derived.Maps.OwnSet
import Derived.Maps.StringElems
import Derived.Outline
namespace Go.Proofs.Ytelhclamoapnhaa
open Go.RowKit

/-- Blocks that a call has made, and how many draws there have been. -/
structure Junk where
  l : List Obj
  m : Nat
instance : Nonempty Junk := ⟨⟨[], 0⟩⟩
/-- The world with more blocks behind its own, and some draws. -/
def wext (w : World) (j : Junk) : World := { w with heap := w.heap ++ j.l.toArray, drawn := j.m }

@[go_sem, simp] theorem w_size_ext (w : World) (j : Junk) : (wext w j).heap.size = w.heap.size + j.l.length := by simp [wext]

theorem w_ext_below (w : World) (j : Junk) : Below w.heap.size w (wext w j) :=
  ⟨rfl, rfl, rfl, by simp, fun k hk => by simp only [wext]; rw [Array.getElem?_append_left hk]⟩

theorem w_ext_of_below {w w' : World} (h : Below w.heap.size w w') : ∃ j : Junk, w' = wext w j := by
  refine ⟨⟨w'.heap.toList.drop w.heap.size, w'.drawn⟩, ?_⟩
  obtain ⟨h1, h2, h3, h4, h5⟩ := h
  cases w; cases w'
  simp only [wext] at *
  subst h1; subst h2; subst h3
  congr
  rename_i a _ _ _ _ b _
  apply Array.ext_getElem?
  intro i
  by_cases hi : i < a.size
  · rw [Array.getElem?_append_left hi]; exact h5 i hi
  · rw [Array.getElem?_append_right (by omega)]
    simp
    congr 1
    omega

/-- n ≤ k, seen where k is n with more added behind. -/
def leB (n k : Nat) : Bool := decide (n ≤ k)
def leC (n k : Nat) : Bool := decide (n ≤ k)
@[go_sem, simp] theorem leB_refl (n : Nat) : leB n n = true := by simp [leB]
@[go_sem, simp] theorem leB_add (n k x : Nat) : leB n (k + x) = (leB n k || leC n (k + x)) := by
  rw [Bool.eq_iff_iff]; simp only [leB, leC, Bool.or_eq_true, decide_eq_true_eq]; omega
theorem of_leB {n k : Nat} (h : leB (n + 1) k = true) : n < k := by simp [leB] at h; omega

@[go_sem] theorem w_cell?_ext (w : World) (j : Junk) (n i : Nat) (h : leB (n + 1) w.heap.size = true) : (wext w j).cell? ⟨n, i, none⟩ = w.cell? ⟨n, i, none⟩ :=
  (w_ext_below w j).cell (p := ⟨n, i, none⟩) (of_leB h)

@[go_sem] theorem w_frozen?_ext (w : World) (j : Junk) (n i : Nat) (h : leB (n + 1) w.heap.size = true) : (wext w j).frozen? ⟨n, i, none⟩ = w.frozen? ⟨n, i, none⟩ :=
  (w_ext_below w j).frozen (p := ⟨n, i, none⟩) (of_leB h)

theorem w_setCell_ext_lt (w : World) (j : Junk) (n i : Nat) (v : Value) (h : n < w.heap.size) : (wext w j).setCell ⟨n, i, none⟩ v = wext (w.setCell ⟨n, i, none⟩ v) j := by
  simp only [World.setCell, wext]
  congr 1
  apply Array.ext_getElem?
  intro k
  by_cases hk : k < w.heap.size
  · rw [Array.getElem?_append_left (by simpa using hk), Array.getElem?_modify, Array.getElem?_modify, Array.getElem?_append_left hk]
  · rw [Array.getElem?_append_right (by simpa using hk), Array.getElem?_modify, if_neg (by omega), Array.getElem?_append_right (by omega)]
    simp

@[go_sem] theorem w_setCell_ext (w : World) (j : Junk) (n i : Nat) (v : Value) (h : leB (n + 1) w.heap.size = true) :
    (wext w j).setCell ⟨n, i, none⟩ v = wext (w.setCell ⟨n, i, none⟩ v) j := w_setCell_ext_lt _ _ _ _ _ (of_leB h)

@[go_sem] theorem w_ext_drew (w : World) (j : Junk) : (wext w j).drew = wext w ⟨j.l, j.m + 1⟩ := rfl
@[go_sem] theorem w_ext_drewN (w : World) (j : Junk) (n : Nat) : (wext w j).drewN n = wext w ⟨j.l, j.m + n⟩ := rfl
@[go_sem] theorem w_ext_ext (w : World) (j j' : Junk) : wext (wext w j) j' = wext w ⟨j.l ++ j'.l, j'.m⟩ := by
  simp [wext, Array.append_assoc]

@[go_sem] theorem w_cell?_alloc (w : World) (o : Obj) (n i : Nat) (h : leB (n + 1) w.heap.size = true) : (w.alloc o).cell? ⟨n, i, none⟩ = w.cell? ⟨n, i, none⟩ :=
  World.cell?_alloc_past _ _ _ (of_leB h)
@[go_sem] theorem w_frozen?_alloc (w : World) (o : Obj) (n i : Nat) (h : leB (n + 1) w.heap.size = true) : (w.alloc o).frozen? ⟨n, i, none⟩ = w.frozen? ⟨n, i, none⟩ :=
  World.frozen?_alloc_past _ _ _ (of_leB h)
@[go_sem] theorem w_setCell_alloc (w : World) (o : Obj) (n i : Nat) (v : Value) (h : leB (n + 1) w.heap.size = true) : (w.alloc o).setCell ⟨n, i, none⟩ v = (w.setCell ⟨n, i, none⟩ v).alloc o :=
  World.setCell_alloc_past _ _ _ _ (of_leB h)

/-- The call returns v and leaves all that lay before as it was. -/
def Ret (v : Value) (w : World) (e : Ending) (w' : World) : Prop := e = .returned v ∧ ∃ j : Junk, w' = wext w j
theorem Ret.mk {v v' : Value} {w w' : World} (hv : v' = v) (hb : Below w.heap.size w w') : Ret v w (.returned v') w' := ⟨by rw [hv], w_ext_of_below hb⟩
theorem below_ext {B : Nat} {a w : World} (h : Below B a w) (hB : B ≤ w.heap.size) (j : Junk) : Below B a (wext w j) := h.trans ((w_ext_below w j).mono hB)

theorem quiet_call {P : Program} {f : FuncId} {args : Array Value} {w0 : World} {j : Junk} {v : Value} (h : Calls P f args (wext w0 j) (Ret v (wext w0 j))) :
    Calls P f args (wext w0 j) fun e w'' => e = .returned v ∧ ∃ j' : Junk, w'' = wext w0 j' :=
  h.mono fun _ w'' ⟨he, j', hb⟩ => ⟨he, ⟨j.l ++ j'.l, j'.m⟩, by rw [hb, w_ext_ext]⟩

theorem wp_region_ext {P : Program} {id : Nat} {Q : Exit → Act → World → Prop} {a : Act} {w : World} {l : List Oper} (hm : P.follows .mixedOrders = true) (hB : Region.lexB .any l.toArray = true)
    (h : wpQuiet P l.toArray (fun W => ∃ j : Junk, W = wext w j) (fun a' => ∀ W, (∃ j : Junk, W = wext w j) → Q .normal a' W) l a) : (Code.region id l.toArray true).wp P Q a w :=
  wp_region_quiet (C := fun W => ∃ j : Junk, W = wext w j) hm hB (w_ext_of_below (Below.refl _ w).drew) (by rw [List.toList_toArray]; exact h)

theorem ret_bool {a b : Bool} (h : a = b) : Ending.returned (.bool a) = .returned (.bool b) := by rw [h]

end Go.Proofs.Ytelhclamoapnhaa

namespace Go.Proofs.Ytelhclamoapnhaa
open Go.RowKit

/-- The walk: an operation that reads alone yields one value in every world that has grown out of w0; any other one is carried out in the world at hand. -/
def wpMix (P : Program) (ops : Array Oper) (Q : Exit → Act → World → Prop) (w0 : World) : List (Nat × Bool) → Act → World → Prop
  | [], a, w => Q .normal a w
  | (i, light) :: rest, a, w => ∃ o, ops[i]? = some o ∧
      if Region.wanted o (yielded ops a.tmps) = true then
        (if light = true then ∃ v, (∀ j, (execOp a.eval o).run P (wext w0 j) = .ok (.value v) (wext w0 j)) ∧ wpMix P ops Q w0 rest (a.put o.dst v) w
         else o.wp P a w (fun a' w' => (∃ j, w' = wext w0 j) ∧ wpMix P ops Q w0 rest a' w') Q)
      else wpMix P ops Q w0 rest (a.put o.dst undef) w

/-- The order is one that Go allows, and it says what any other one says. -/
def mixOk (ops : Array Oper) : List (Nat × Bool) → Array Bool → Bool
  | [], listed => (Region.ready .any ops listed).isEmpty
  | (i, light) :: rest, listed =>
    (if light = true then (Region.ready .any ops listed).contains i && Region.free .any ops listed i else (Region.ready .any ops listed) == [i]) && mixOk ops rest (listed.setIfInBounds i true)

section
variable {P : Program} {ops : Array Oper} {Q : Exit → Act → World → Prop} {w0 : World}

theorem wpAnyH_of_mix (hs : Region.noSelect ops = true) (hQ : ∀ (c : List PanicEntry) (a : Act) (d : Option Tmp) (v : Value) (w : World), Q (.panic c) (a.put d v) w → Q (.panic c) a w) :
    ∀ (ord : List (Nat × Bool)) (listed : Array Bool) (a : Act) (w : World), mixOk ops ord listed = true → (∃ j, w = wext w0 j) → wpMix P ops Q w0 ord a w →
    wpAnyH P .any ops Q (fun w => ∃ j, w = wext w0 j) ord.length listed a w
  | [], listed, a, w, hok, _, h => by
    simp only [mixOk, List.isEmpty_iff] at hok
    exact wpAnyH_done hok h _
  | (i, true) :: rest, listed, a, w, hok, hS, h => by
    simp only [mixOk, if_true, Bool.and_eq_true] at hok
    obtain ⟨⟨hr, hf⟩, hok⟩ := hok
    obtain ⟨o, ho, h⟩ := h
    simp only [if_true] at h
    split at h
    · rename_i hw
      obtain ⟨v, hv, h⟩ := h
      exact wpAnyH_take ho hs hf hr (fun c a w => hQ c a _ _ w) (.inl ⟨hw, fun w ⟨j, hj⟩ => hj ▸ hv j⟩) hS (wpAnyH_of_mix hs hQ rest _ _ _ hok hS h)
    · rename_i hw
      exact wpAnyH_take ho hs hf hr (fun c a w => hQ c a _ _ w) (.inr ⟨by simpa using hw, rfl⟩) hS (wpAnyH_of_mix hs hQ rest _ _ _ hok hS h)
  | (i, false) :: rest, listed, a, w, hok, hS, h => by
    simp only [mixOk, Bool.false_eq_true, if_false, Bool.and_eq_true, beq_iff_eq] at hok
    obtain ⟨hr, hok⟩ := hok
    obtain ⟨o, ho, h⟩ := h
    simp only [Bool.false_eq_true, if_false] at h
    refine wpAnyH_all hr (by simp) fun k hk => ?_
    obtain rfl : k = i := by simpa using hk
    unfold Go.wpOp
    simp only [ho]
    split at h
    · rename_i hw
      rw [if_pos hw]
      refine .inl (Oper.wp_mono (fun a' w' h' => ⟨h'.1, wpAnyH_of_mix hs hQ rest _ _ _ hok h'.1 h'.2⟩) h)
    · rename_i hw
      rw [if_neg hw]
      exact ⟨hS, wpAnyH_of_mix hs hQ rest _ _ _ hok hS h⟩

theorem wp_region_mix {id : Nat} {a : Act} {l : List Oper} (ord : List (Nat × Bool)) (hm : P.follows .mixedOrders = true) (hs : Region.noSelect l.toArray = true) (hn : ord.length = l.length)
    (hok : mixOk l.toArray ord (Array.replicate l.length false) = true) (hQ : ∀ (c : List PanicEntry) (a : Act) (d : Option Tmp) (v : Value) (w : World), Q (.panic c) (a.put d v) w → Q (.panic c) a w)
    (h : ∀ j, wpMix P l.toArray Q w0 ord a (wext w0 j)) : (Code.region id l.toArray true).wp P Q a w0 := by
  obtain ⟨j, hj⟩ := w_ext_of_below (Below.refl w0.heap.size w0).drew
  refine wp_region_held (S := fun w => ∃ j, w = wext w0 j) hm ?_
  have h1 := wpAnyH_of_mix hs hQ ord (Array.replicate l.length false) a _ hok ⟨j, rfl⟩ (h j)
  rw [hn] at h1
  rw [← hj] at h1
  simpa using h1

theorem wpMix_nil {a : Act} {w : World} (h : Q .normal a w) : wpMix P ops Q w0 [] a w := h
theorem wpMix_skip {i : Nat} {b : Bool} {rest : List (Nat × Bool)} {o : Oper} {a : Act} {w : World} (ho : ops[i]? = some o) (hw : Region.wanted o (yielded ops a.tmps) = false) (h : wpMix P ops Q w0 rest (a.put o.dst undef) w) :
    wpMix P ops Q w0 ((i, b) :: rest) a w := ⟨o, ho, by rw [if_neg (by rw [hw]; simp)]; exact h⟩
theorem wpMix_light {i : Nat} {rest : List (Nat × Bool)} {o : Oper} {a : Act} {w : World} (ho : ops[i]? = some o) (hw : Region.wanted o (yielded ops a.tmps) = true)
    (h : ∀ K : Act → Prop, (∀ a', wpMix P ops Q w0 rest a' w → K a') → ∃ v, (∀ j, (execOp a.eval o).run P (wext w0 j) = .ok (.value v) (wext w0 j)) ∧ K (a.put o.dst v)) :
    wpMix P ops Q w0 ((i, true) :: rest) a w := ⟨o, ho, by rw [if_pos hw, if_pos rfl]; exact h _ (fun _ h => h)⟩
theorem wpMix_heavy {i : Nat} {rest : List (Nat × Bool)} {o : Oper} {a : Act} {w : World} (ho : ops[i]? = some o) (hw : Region.wanted o (yielded ops a.tmps) = true)
    (h : ∀ K : Act → World → Prop, (∀ a' w', ((∃ j, w' = wext w0 j) ∧ wpMix P ops Q w0 rest a' w') → K a' w') → o.wp P a w K Q) :
    wpMix P ops Q w0 ((i, false) :: rest) a w := ⟨o, ho, by rw [if_pos hw, if_neg (by simp)]; exact h _ (fun _ _ h => h)⟩
end
end Go.Proofs.Ytelhclamoapnhaa

namespace Go.Proofs.Ytelhclamoapnhaa
open Go.RowKit

@[go_sem] theorem w_setCell_twice (w : World) (a : Addr) (u v : Value) : (w.setCell a u).setCell a v = w.setCell a v := by
  simp only [World.setCell]
  congr 1
  apply Array.ext_getElem?
  intro k
  rw [Array.getElem?_modify, Array.getElem?_modify, Array.getElem?_modify]
  split
  · cases w.heap[k]? with
    | none => rfl
    | some o => cases o <;> simp <;> split <;> simp_all
  · rfl
theorem w_setCell_same {w : World} {b i : Nat} {v : Value} (h : w.cell? ⟨b, i, none⟩ = some v) : w.setCell ⟨b, i, none⟩ v = w := by
  simp only [World.cell?, Option.isSome_none, Bool.false_eq_true, if_false] at h
  simp only [World.setCell, Option.isSome_none, Bool.false_eq_true, if_false]
  cases w with
  | mk heap tape drawn os output =>
  congr 1
  apply Array.ext_getElem?
  intro k
  rw [Array.getElem?_modify]
  split
  · rename_i hk
    subst hk
    simp only at h
    cases ho : heap[b]? with
    | none => rfl
    | some o =>
      rw [ho] at h
      cases o <;> simp_all
      rename_i c _ _
      apply Array.ext_getElem?
      intro q
      rw [Array.getElem?_setIfInBounds]
      split
      · rename_i hq; subst hq
        have : i < c.size := by
          rcases Nat.lt_or_ge i c.size with h' | h'
          · exact h'
          · rw [Array.getElem?_eq_none h'] at h; cases h
        rw [if_pos this, h]
      · rfl
  · rfl
@[go_sem] theorem w_cell?_alloc_fr (w : World) (C : Array Value) (t : TypeId) (lo hi n i : Nat) (hn : n = w.heap.size) : (w.alloc (.cells C t (lo, hi))).cell? ⟨n, i, none⟩ = C[i]? := by
  subst hn; exact World.cell?_alloc_mark w C t (lo, hi) i


theorem below_app (w : World) (j : Junk) (l : List Obj) (m : Nat) : Below (wext w j).heap.size (wext w j) (wext w ⟨j.l ++ l, m⟩) := by
  have h := w_ext_below (wext w j) ⟨l, m⟩
  rw [w_ext_ext] at h
  exact h

/-- '[]byte(s)': a new row that holds the text's bytes; how long it is Go leaves open. -/
theorem wpList_sbytes {P : Program} {ops : Array Oper} {Q : Exit → Act → World → Prop} {a : Act} {w : World} {rest : List Oper} {o : Oper} (hg : o.guard = none) (src dst e : TypeId) (x : Operand) (hop : o.op = .convert src dst x)
    (hs : P.underlying src = some .string) (hd : P.underlying dst = some (.slice e)) (he : P.underlying e = some (.int .u8)) (s : ByteArray) (hx : a.eval x = .string s)
    (h : ∀ (c : Nat) (R : Array Value) (lo hi : Nat), s.size ≤ R.size → s.size ≤ lo → (∀ j (hj : j < s.size), R[j]? = some (.int .u8 (s.data[j].toNat : Int))) →
      wpList P ops Q rest (a.put o.dst (.slice (some ⟨w.heap.size, 0, none⟩) s.size c)) (w.drew.alloc (.cells R e (lo, hi)))) : wpList P ops Q (o :: rest) a w := by
  refine wpList_plain hg fun K hK => ?_
  unfold Oper.wp
  have hr := run_bytes_of_string (P := P) w src dst e s hs hd he
  have : (execOp a.eval o).run P w = .ok (.value (.slice (some ⟨w.heap.size, 0, none⟩) s.size (grownCap w s.size 0 e))) (w.drew.alloc (.cells (bytesRow s (grownCap w s.size 0 e)) e ((bytesRow s (grownCap w s.size 0 e)).size, (bytesRow s (grownCap w s.size 0 e)).size + 1))) := by
    have he : execOp a.eval o = (do let v ← convert src dst (a.eval x); pure (Next.value v)) := by unfold execOp; rw [hop]
    rw [he, hx, Sem.run_bind, hr]
    rfl
  rw [this]
  simp only [Oper.upon]
  refine hK _ _ (h _ _ _ _ ?_ ?_ ?_)
  · simp only [bytesRow, Array.size_append, Array.size_map]; exact Nat.le_add_right _ _
  · simp only [bytesRow, Array.size_append, Array.size_map]; exact Nat.le_add_right _ _
  · intro j hj
    exact bytesRow_at s _ j hj
end Go.Proofs.Ytelhclamoapnhaa

namespace Go.Proofs.Ytelhclamoapnhaa
open Go.RowKit

/-- The number that bytes are, the highest first. -/
def beNat (l : List UInt8) : Nat := l.foldl (fun m c => m * 256 + c.toNat) 0
theorem beNat_nil : beNat [] = 0 := rfl
theorem beNat_snoc (l : List UInt8) (c : UInt8) : beNat (l ++ [c]) = beNat l * 256 + c.toNat := by simp [beNat, List.foldl_append]
theorem beNat_lt (l : List UInt8) : beNat l < 256 ^ l.length := by
  have key : ∀ (l : List UInt8) (m : Nat), l.foldl (fun m c => m * 256 + c.toNat) m < (m + 1) * 256 ^ l.length := by
    intro l
    induction l with
    | nil => intro m; simp
    | cons c l ih =>
      intro m
      simp only [List.foldl_cons, List.length_cons]
      have h1 := ih (m * 256 + c.toNat)
      have h2 : c.toNat < 256 := c.toNat_lt
      calc _ < (m * 256 + c.toNat + 1) * 256 ^ l.length := h1
        _ ≤ ((m + 1) * 256) * 256 ^ l.length := Nat.mul_le_mul_right _ (by omega)
        _ = (m + 1) * 256 ^ (l.length + 1) := by rw [Nat.pow_succ, Nat.mul_assoc, Nat.mul_comm 256]
  have := key l 0
  simp only [Nat.zero_add, Nat.one_mul] at this
  exact this

theorem wrap64_eq (x : Int) : wrap64 x = (x + 9223372036854775808) % 18446744073709551616 - 9223372036854775808 := by
  unfold wrap64; omega

theorem ofInt_wrap64 (x : Int) : BitVec.ofInt 64 (wrap64 x) = BitVec.ofInt 64 x := by
  apply BitVec.eq_of_toInt_eq
  simp only [BitVec.toInt_ofInt]
  rw [wrap64_eq, Int.bmod_def, Int.bmod_def]
  simp only [show ((2 ^ 64 : Nat) : Int) = 18446744073709551616 from rfl]
  omega

theorem or_byte (M c : Nat) (hc : c < 256) : bits .or .i64 (wrap64 (wrap64 (M : Int) * 256)) (wrap64 (c : Int)) = wrap64 (((M * 256 + c : Nat)) : Int) := by
  have e1 : BitVec.ofInt 64 (wrap64 (wrap64 (M : Int) * 256)) = BitVec.ofNat 64 (M * 256) := by
    rw [ofInt_wrap64, ← BitVec.ofInt_natCast]
    apply BitVec.eq_of_toInt_eq
    simp only [BitVec.toInt_ofInt]
    rw [wrap64_eq, Int.bmod_def, Int.bmod_def]
    simp only [show ((2 ^ 64 : Nat) : Int) = 18446744073709551616 from rfl]
    omega
  have e2 : BitVec.ofInt 64 (wrap64 (c : Int)) = BitVec.ofNat 64 c := by
    rw [ofInt_wrap64, BitVec.ofInt_natCast]
  show IntKind.i64.wrap ((BitVec.ofInt 64 (wrap64 (wrap64 (M : Int) * 256)) ||| BitVec.ofInt 64 (wrap64 (c : Int))).toNat : Int) = _
  rw [e1, e2, BitVec.toNat_or, BitVec.toNat_ofNat, BitVec.toNat_ofNat]
  have h3 : c % 2 ^ 64 = c := Nat.mod_eq_of_lt (by omega)
  have h4 : M * 256 % 2 ^ 64 = 2 ^ 8 * (M % 2 ^ 56) := by omega
  rw [h3, h4, ← Nat.two_pow_add_eq_or_of_lt (by omega : c < 2 ^ 8)]
  rw [IntKind.wrap_i64]
  rw [wrap64_eq]
  omega
end Go.Proofs.Ytelhclamoapnhaa

namespace Go.Proofs.Ytelhclamoapnhaa
open Go.RowKit

abbrev eyeP (b : Nat) : Value := .pointer (some ⟨b, 0, none⟩)
def fault (c : Int) : PanicEntry := { v := .iface 97 (.agg #[.int .i64 c]), recovered := false }
/-- The call throws the fault c, and leaves all that lay before as it was. -/
def Throws (c : Int) (w : World) (e : Ending) (w' : World) : Prop := e = .panicked [fault c] ∧ ∃ j, w' = wext w j

/-- A block that is there is told apart from what comes later. -/
theorem leB_of_cell {w : World} {b o : Nat} {v : Value} (h : w.cell? ⟨b, o, none⟩ = some v) : leB (b + 1) w.heap.size = true := by
  have := World.block_lt_of_cell? w _ h
  simp only [leB, decide_eq_true_eq]; exact this
set_option maxHeartbeats 400000 in
theorem dead_on (b : Nat) (w : World) (ho : w.cell? ⟨b, 1, none⟩ = some (.bool true)) : Calls Try.prog 59 #[eyeP b] w (Ret (.bool false) w) := by
  go_enter Try.func59, Try.ntmps59
  go_wp2
  go_ret
  exact Ret.mk rfl (Below.refl _ _)
set_option maxHeartbeats 400000 in
theorem dead_off (b : Nat) (w : World) (ho : w.cell? ⟨b, 1, none⟩ = some (.bool false)) : Calls Try.prog 59 #[eyeP b] w (Ret (.bool true) w) := by
  go_enter Try.func59, Try.ntmps59
  go_wp2
  go_ret
  exact Ret.mk rfl (Below.refl _ _)
set_option maxHeartbeats 400000 in
theorem dead_nil (w : World) : Calls Try.prog 59 #[.pointer none] w (Ret (.bool true) w) := by
  go_enter Try.func59, Try.ntmps59
  go_wp2
  go_ret
  exact Ret.mk rfl (Below.refl _ _)

theorem Throws.mk {c : Int} {w w' : World} {e : Ending} (he : e = .panicked [fault c]) (hb : Below w.heap.size w w') : Throws c w e w' := ⟨he, w_ext_of_below hb⟩
set_option maxHeartbeats 400000 in
theorem fail_on (b : Nat) (c : Int) (w : World) (ho : w.cell? ⟨b, 1, none⟩ = some (.bool true)) : Calls Try.prog 51 #[eyeP b, .int .i64 c] w (Throws c w) := by
  go_enter Try.func51, Try.ntmps51
  go_wp2_with (go_at_call 59; refine (dead_on _ _ (by go_cell)).mono ?_; rintro e1 w1 ⟨rfl, j1, rfl⟩)
  exact ⟨rfl, Throws.mk rfl (by (repeat' (first | (with_reducible exact Below.refl _ _) | (with_reducible assumption) | (with_reducible refine Below.alloc ?_ ?_ _) | (with_reducible refine below_ext ?_ ?_ _) | (with_reducible refine Below.drew ?_) | (with_reducible refine below_drewN ?_ _) | (with_reducible refine Below.setCell ?_ ?_ _) | go_size)))⟩
set_option maxHeartbeats 400000 in
theorem wide_yes (n : Int) (w : World) (h0 : 1 ≤ n) (h8 : n ≤ 8) : Calls Try.prog 56 #[.int .i64 n] w (Ret (.bool true) w) := by
  go_enter Try.func56, Try.ntmps56
  go_wp2
  go_ret
  exact Ret.mk rfl (Below.refl _ _)
set_option maxHeartbeats 400000 in
theorem wide_no (n : Int) (w : World) (h0 : ¬ (1 ≤ n ∧ n ≤ 8)) : Calls Try.prog 56 #[.int .i64 n] w (Ret (.bool false) w) := by
  by_cases h1 : 1 ≤ n
  all_goals
    go_enter Try.func56, Try.ntmps56
    go_wp2
    go_ret
    exact Ret.mk (by first | rfl | (simp; omega)) (Below.refl _ _)

/-- A world that has grown out of another one. -/
theorem w_grown {w w' : World} (h : Below w.heap.size w w') : ∃ j, w' = wext w j := w_ext_of_below h
/-- The world in which the eye at b has s left. -/
abbrev eyeSet (w : World) (b : Nat) (s : ByteArray) : World := w.setCell ⟨b, 0, none⟩ (.string s)
set_option maxHeartbeats 1000000 in
theorem raw_no (b : Nat) (s : ByteArray) (n : Int) (w : World) (hr : w.cell? ⟨b, 0, none⟩ = some (.string s)) (ho : w.cell? ⟨b, 1, none⟩ = some (.bool true)) (hn : n < 0 ∨ (s.size : Int) < n) :
    Calls Try.prog 60 #[eyeP b, .int .i64 n] w (Throws 201 w) := by
  by_cases h0 : n < 0
  · clear hn
    have hlt := leB_of_cell ho
    go_enter Try.func60, Try.ntmps60
    go_wp2_with (first | (go_at_call 59; refine (dead_on _ _ (by go_cell)).mono ?_; rintro e1 w1 ⟨rfl, j1, rfl⟩) | (go_at_call 51; refine (fail_on _ _ _ (by go_cell)).mono ?_; rintro e1 w1 ⟨rfl, j1, rfl⟩))
    exact ⟨rfl, Throws.mk rfl (by (repeat' (first | (with_reducible exact Below.refl _ _) | (with_reducible assumption) | (with_reducible refine Below.alloc ?_ ?_ _) | (with_reducible refine below_ext ?_ ?_ _) | (with_reducible refine Below.drew ?_) | (with_reducible refine below_drewN ?_ _) | (with_reducible refine Below.setCell ?_ ?_ _) | go_size)))⟩
  · have hs : (s.size : Int) < n := by omega
    clear hn
    have hlt := leB_of_cell ho
    go_enter Try.func60, Try.ntmps60
    go_wp2_with (first | (go_at_call 59; refine (dead_on _ _ (by go_cell)).mono ?_; rintro e1 w1 ⟨rfl, j1, rfl⟩) | (go_at_call 51; refine (fail_on _ _ _ (by go_cell)).mono ?_; rintro e1 w1 ⟨rfl, j1, rfl⟩))
    exact ⟨rfl, Throws.mk rfl (by (repeat' (first | (with_reducible exact Below.refl _ _) | (with_reducible assumption) | (with_reducible refine Below.alloc ?_ ?_ _) | (with_reducible refine below_ext ?_ ?_ _) | (with_reducible refine Below.drew ?_) | (with_reducible refine below_drewN ?_ _) | (with_reducible refine Below.setCell ?_ ?_ _) | go_size)))⟩
set_option maxHeartbeats 1000000 in
theorem raw_yes (b : Nat) (s : ByteArray) (n : Nat) (w : World) (hr : w.cell? ⟨b, 0, none⟩ = some (.string s)) (ho : w.cell? ⟨b, 1, none⟩ = some (.bool true)) (hf : w.frozen? ⟨b, 0, none⟩ = false) (hn : n ≤ s.size) :
    Calls Try.prog 60 #[eyeP b, .int .i64 n] w fun e w' => e = .returned (.string (s.extract 0 n)) ∧ ∃ j, w' = wext (eyeSet w b (s.extract n s.size)) j := by
  have h0 : (0 : Int) ≤ (n : Int) := by omega
  have hs : (n : Int) ≤ (s.size : Int) := by omega
  have hlt := leB_of_cell ho
  go_enter Try.func60, Try.ntmps60
  go_wp2_with (first | (go_at_call 59; refine (dead_on _ _ (by go_cell)).mono ?_; rintro e1 w1 ⟨rfl, j1, rfl⟩) | (go_at_call 51; refine (fail_on _ _ _ (by go_cell)).mono ?_; rintro e1 w1 ⟨rfl, j1, rfl⟩))
  go_ret
  exact ⟨rfl, _, rfl⟩


/-- The number that the next bytes of s are. -/
def numOf (s : ByteArray) (n : Nat) : Nat := beNat (s.extract 0 n).data.toList
theorem wrap64_small (m : Nat) (h : m < 9223372036854775808) : wrap64 (m : Int) = m := by rw [wrap64_eq]; omega
theorem wrap64_neg (m : Nat) (h : ¬ m < 9223372036854775808) (h2 : m < 18446744073709551616) : wrap64 (m : Int) < 0 := by rw [wrap64_eq]; omega
set_option maxHeartbeats 1000000 in
theorem num_yes (b : Nat) (s : ByteArray) (n : Nat) (w : World) (hr : w.cell? ⟨b, 0, none⟩ = some (.string s)) (ho : w.cell? ⟨b, 1, none⟩ = some (.bool true)) (hf : w.frozen? ⟨b, 0, none⟩ = false) (h1 : 1 ≤ n) (h8 : n ≤ 8) (hn : n ≤ s.size) (hv : numOf s n < 9223372036854775808) :
    Calls Try.prog 50 #[eyeP b, .int .i64 n] w fun e w' => e = .returned (.int .i64 (numOf s n)) ∧ ∃ j, w' = wext (eyeSet w b (s.extract n s.size)) j := by
  have hlt := leB_of_cell ho
  have hv' : numOf s n = beNat (s.extract 0 n).data.toList := rfl
  have HV := Lib.hid hv'; clear hv'
  have HB := Lib.hid hv; clear hv
  go_enter Try.func50, Try.ntmps50
  go_wp2_with (first | (go_at_call 59; refine (dead_on _ _ (by go_cell)).mono ?_; rintro e1 w1 ⟨rfl, j1, rfl⟩) | (go_at_call 60; refine (raw_yes _ s _ _ (by go_cell) (by go_cell) (by simp [go_sem, hlt, hf]) (by omega)).mono ?_; rintro e1 w1 ⟨rfl, j1, rfl⟩) | (go_at_call 56; refine (wide_yes _ _ (by omega) (by omega)).mono ?_; rintro e1 w1 ⟨rfl, j1, rfl⟩) | (refine wpList_sbytes rfl 9 65 5 _ rfl Try.underlying9 Try.underlying65 Try.underlying5 _ rfl ?_; intro c R lo hi hRs hlo hR; have HR := Lib.hid hR; clear hR))
  go_loop [5, 20] (fun acc i => ∃ k : Nat, k ≤ n ∧ i = .int .i64 k ∧ acc = .int .i64 (wrap64 (beNat ((s.extract 0 n).data.toList.take k)))) (fun _ i => n - (intOf i).toNat)
  case atStart => exact ⟨0, by omega, rfl, by rw [List.take_zero, beNat_nil, wrap64_small 0 (by omega)]; rfl⟩
  case round =>
    obtain ⟨k, hk, rfl, rfl⟩ := hrel
    obtain ⟨m, hm⟩ : ∃ m, m = beNat ((s.extract 0 n).data.toList.take k) := ⟨_, rfl⟩
    rw [← hm]
    have HM := Lib.hid hm; clear hm
    by_cases hlt' : k < n
    · have hkk : k < (s.extract 0 n).data.size := by simp; omega
      have hRk : R[k]? = some (.int .u8 ((s.extract 0 n).data[k]'hkk).toNat) := HR.out k hkk
      have hnext : beNat ((s.extract 0 n).data.toList.take (k + 1)) = m * 256 + ((s.extract 0 n).data[k]'hkk).toNat := by
        rw [List.take_succ_eq_append_getElem (by simpa using hkk), beNat_snoc, HM.out]; rfl
      obtain ⟨c, hc⟩ : ∃ c, c = (s.extract 0 n).data[k]'hkk := ⟨_, rfl⟩
      rw [← hc] at hRk hnext
      have HN := Lib.hid hnext; clear hnext
      clear hc
      go_wp2
      go_round
      case rel => exact ⟨k + 1, by omega, by go_num, by rw [HN.out, ← or_byte _ _ c.toNat_lt]⟩
      case measure => simp [intOf]; omega
    · obtain rfl : k = n := by omega
      have hfin : m = beNat (s.extract 0 k).data.toList := by rw [HM.out, List.take_of_length_le (by simp; omega)]
      have hw : wrap64 (m : Int) = m := wrap64_small m (by rw [hfin, ← HV.out]; exact HB.out)
      rw [hw]
      have hm0 : (0 : Int) ≤ (m : Int) := by omega
      have HF := Lib.hid hfin; clear hfin hw
      go_wp2
      go_ret
      exact ⟨by rw [HV.out, ← HF.out]; rfl, w_grown (by (repeat' (first | (with_reducible exact Below.refl _ _) | (with_reducible assumption) | (with_reducible refine Below.alloc ?_ ?_ _) | (with_reducible refine below_ext ?_ ?_ _) | (with_reducible refine Below.drew ?_) | (with_reducible refine below_drewN ?_ _) | (with_reducible refine Below.setCell ?_ ?_ _) | go_size)))⟩
set_option maxHeartbeats 1000000 in
theorem num_neg (b : Nat) (s : ByteArray) (n : Nat) (w : World) (hr : w.cell? ⟨b, 0, none⟩ = some (.string s)) (ho : w.cell? ⟨b, 1, none⟩ = some (.bool true)) (hf : w.frozen? ⟨b, 0, none⟩ = false) (h1 : 1 ≤ n) (h8 : n ≤ 8) (hn : n ≤ s.size) (hv : ¬ numOf s n < 9223372036854775808) :
    Calls Try.prog 50 #[eyeP b, .int .i64 n] w fun e w' => e = .panicked [fault 201] ∧ ∃ s' j, w' = wext (eyeSet w b s') j := by
  have hlt := leB_of_cell ho
  have hv' : numOf s n = beNat (s.extract 0 n).data.toList := rfl
  have HV := Lib.hid hv'; clear hv'
  have HB := Lib.hid hv; clear hv
  go_enter Try.func50, Try.ntmps50
  go_wp2_with (first | (go_at_call 59; refine (dead_on _ _ (by go_cell)).mono ?_; rintro e1 w1 ⟨rfl, j1, rfl⟩) | (go_at_call 60; refine (raw_yes _ s _ _ (by go_cell) (by go_cell) (by simp [go_sem, hlt, hf]) (by omega)).mono ?_; rintro e1 w1 ⟨rfl, j1, rfl⟩) | (go_at_call 56; refine (wide_yes _ _ (by omega) (by omega)).mono ?_; rintro e1 w1 ⟨rfl, j1, rfl⟩) | (refine wpList_sbytes rfl 9 65 5 _ rfl Try.underlying9 Try.underlying65 Try.underlying5 _ rfl ?_; intro c R lo hi hRs hlo hR; have HR := Lib.hid hR; clear hR))
  go_loop [5, 20] (fun acc i => ∃ k : Nat, k ≤ n ∧ i = .int .i64 k ∧ acc = .int .i64 (wrap64 (beNat ((s.extract 0 n).data.toList.take k)))) (fun _ i => n - (intOf i).toNat)
  case atStart => exact ⟨0, by omega, rfl, by rw [List.take_zero, beNat_nil, wrap64_small 0 (by omega)]; rfl⟩
  case round =>
    obtain ⟨k, hk, rfl, rfl⟩ := hrel
    obtain ⟨m, hm⟩ : ∃ m, m = beNat ((s.extract 0 n).data.toList.take k) := ⟨_, rfl⟩
    rw [← hm]
    have HM := Lib.hid hm; clear hm
    by_cases hlt' : k < n
    · have hkk : k < (s.extract 0 n).data.size := by simp; omega
      have hRk : R[k]? = some (.int .u8 ((s.extract 0 n).data[k]'hkk).toNat) := HR.out k hkk
      have hnext : beNat ((s.extract 0 n).data.toList.take (k + 1)) = m * 256 + ((s.extract 0 n).data[k]'hkk).toNat := by
        rw [List.take_succ_eq_append_getElem (by simpa using hkk), beNat_snoc, HM.out]; rfl
      obtain ⟨c, hc⟩ : ∃ c, c = (s.extract 0 n).data[k]'hkk := ⟨_, rfl⟩
      rw [← hc] at hRk hnext
      have HN := Lib.hid hnext; clear hnext
      clear hc
      go_wp2
      go_round
      case rel => exact ⟨k + 1, by omega, by go_num, by rw [HN.out, ← or_byte _ _ c.toNat_lt]⟩
      case measure => simp [intOf]; omega
    · obtain rfl : k = n := by omega
      have hfin : m = beNat (s.extract 0 k).data.toList := by rw [HM.out, List.take_of_length_le (by simp; omega)]
      have h2 : m < 18446744073709551616 := by
        have := beNat_lt (s.extract 0 k).data.toList
        have hl : (s.extract 0 k).data.toList.length = k := by simp; omega
        rw [hl, ← hfin] at this
        calc m < 256 ^ k := this
          _ ≤ 256 ^ 8 := Nat.pow_le_pow_right (by omega) h8
          _ = 18446744073709551616 := by decide
      have hw : wrap64 (m : Int) < 0 := wrap64_neg m (by rw [hfin, ← HV.out]; exact HB.out) h2
      clear h2
      obtain ⟨z, hz⟩ : ∃ z, z = wrap64 (m : Int) := ⟨_, rfl⟩
      rw [← hz] at hw ⊢
      have HZ := Lib.hid hz; clear hz
      have HF := Lib.hid hfin; clear hfin
      go_wp2_with (first | (go_at_call 51; refine (fail_on _ _ _ (by go_cell)).mono ?_; rintro e1 w1 ⟨rfl, j1, rfl⟩))
      exact ⟨rfl, rfl, s.extract k s.size, w_grown (by (repeat' (first | (with_reducible exact Below.refl _ _) | (with_reducible assumption) | (with_reducible refine Below.alloc ?_ ?_ _) | (with_reducible refine below_ext ?_ ?_ _) | (with_reducible refine Below.drew ?_) | (with_reducible refine below_drewN ?_ _) | (with_reducible refine Below.setCell ?_ ?_ _) | go_size)))⟩
set_option maxHeartbeats 1000000 in
theorem num_short (b : Nat) (s : ByteArray) (n : Int) (w : World) (hr : w.cell? ⟨b, 0, none⟩ = some (.string s)) (ho : w.cell? ⟨b, 1, none⟩ = some (.bool true)) (h1 : 1 ≤ n) (h8 : n ≤ 8) (hn : (s.size : Int) < n) :
    Calls Try.prog 50 #[eyeP b, .int .i64 n] w (Throws 201 w) := by
  have hlt := leB_of_cell ho
  go_enter Try.func50, Try.ntmps50
  go_wp2_with (first | (go_at_call 59; refine (dead_on _ _ (by go_cell)).mono ?_; rintro e1 w1 ⟨rfl, j1, rfl⟩) | (go_at_call 60; refine (raw_no _ s _ _ (by go_cell) (by go_cell) (by omega)).mono ?_; rintro e1 w1 ⟨rfl, j1, rfl⟩) | (go_at_call 56; refine (wide_yes _ _ (by omega) (by omega)).mono ?_; rintro e1 w1 ⟨rfl, j1, rfl⟩))
  exact ⟨rfl, Throws.mk rfl (by (repeat' (first | (with_reducible exact Below.refl _ _) | (with_reducible assumption) | (with_reducible refine Below.alloc ?_ ?_ _) | (with_reducible refine below_ext ?_ ?_ _) | (with_reducible refine Below.drew ?_) | (with_reducible refine below_drewN ?_ _) | (with_reducible refine Below.setCell ?_ ?_ _) | go_size)))⟩
set_option maxHeartbeats 1000000 in
theorem num_wide (b : Nat) (n : Int) (w : World) (ho : w.cell? ⟨b, 1, none⟩ = some (.bool true)) (hw : ¬ (1 ≤ n ∧ n ≤ 8)) :
    Calls Try.prog 50 #[eyeP b, .int .i64 n] w (Throws 22 w) := by
  have hlt := leB_of_cell ho
  go_enter Try.func50, Try.ntmps50
  go_wp2_with (first | (go_at_call 59; refine (dead_on _ _ (by go_cell)).mono ?_; rintro e1 w1 ⟨rfl, j1, rfl⟩) | (go_at_call 51; refine (fail_on _ _ _ (by go_cell)).mono ?_; rintro e1 w1 ⟨rfl, j1, rfl⟩) | (go_at_call 56; refine (wide_no _ _ hw).mono ?_; rintro e1 w1 ⟨rfl, j1, rfl⟩))
  exact ⟨rfl, Throws.mk rfl (by (repeat' (first | (with_reducible exact Below.refl _ _) | (with_reducible assumption) | (with_reducible refine Below.alloc ?_ ?_ _) | (with_reducible refine below_ext ?_ ?_ _) | (with_reducible refine Below.drew ?_) | (with_reducible refine below_drewN ?_ _) | (with_reducible refine Below.setCell ?_ ?_ _) | go_size)))⟩
end Go.Proofs.Ytelhclamoapnhaa

namespace Go.Proofs.Ytelhclamoapnhaa
open Go.RowKit

set_option maxHeartbeats 1000000 in
theorem catch_idle (pv pe b : Nat) (w : World) (hv : w.cell? ⟨pv, 0, none⟩ = some (eyeP b)) (ho : w.cell? ⟨b, 1, none⟩ = some (.bool true)) (hz : w.frozen? ⟨b, 1, none⟩ = false) :
    CallsD Try.prog 58 #[.pointer (some ⟨pv, 0, none⟩), .pointer (some ⟨pe, 0, none⟩)] .returning w fun e u' w' =>
      e = .returned (.tuple #[]) ∧ u' = .returning ∧ w' = w.setCell ⟨b, 1, none⟩ (.bool false) := by
  refine callsD_of_wpS Try.func58 rfl fun c₀ cs hu => ?_
  simp only [Try.ntmps58, List.size_toArray, List.length_cons, List.length_nil, Nat.reduceAdd, Nat.reduceSub, Array.replicate_succ, Array.replicate_zero, List.push_toArray, List.append_toArray, List.nil_append, List.cons_append]
  apply wpS_seq
  apply wpS_region
  simp [wpOpsS, go_sem, hv, ho, hz, Exit.thenS]
  apply wpS_seq
  apply wpS_region
  simp [wpOpsS, go_sem, recoverD, hu, Exit.thenS]
  refine wpS_of_wp ?_
  go_wp2
  cases c₀
  simp_all [bodyPostS, results, Try.results58]

set_option maxRecDepth 20000 in
set_option maxHeartbeats 1000000 in
theorem catch_fault (pv pe b : Nat) (c : Int) (r0 : Value) (w : World) (hv : w.cell? ⟨pv, 0, none⟩ = some (eyeP b)) (ho : w.cell? ⟨b, 1, none⟩ = some (.bool true)) (hz : w.frozen? ⟨b, 1, none⟩ = false)
    (he : w.cell? ⟨pe, 0, none⟩ = some r0) (hez : w.frozen? ⟨pe, 0, none⟩ = false) :
    CallsD Try.prog 58 #[.pointer (some ⟨pv, 0, none⟩), .pointer (some ⟨pe, 0, none⟩)] (.panicking [fault c]) w fun e u' w' =>
      e = .returned (.tuple #[]) ∧ u' = .panicking [{ fault c with recovered := true }] ∧ ∃ j, w' = wext ((w.setCell ⟨b, 1, none⟩ (.bool false)).setCell ⟨pe, 0, none⟩ (.int .i64 c)) j := by
  have hlt := leB_of_cell he
  refine callsD_of_wpS Try.func58 rfl fun c₀ cs hu => ?_
  simp only [fault] at hu ⊢
  simp only [Try.ntmps58, List.size_toArray, List.length_cons, List.length_nil, Nat.reduceAdd, Nat.reduceSub, Array.replicate_succ, Array.replicate_zero, List.push_toArray, List.append_toArray, List.nil_append, List.cons_append]
  apply wpS_seq
  apply wpS_region
  simp [wpOpsS, go_sem, hv, ho, hz, Exit.thenS]
  apply wpS_seq
  apply wpS_region
  simp [wpOpsS, go_sem, recoverD, hu, Exit.thenS]
  refine wpS_of_wp ?_
  have hta : ∀ W, (Instr.typeAssert (.iface 97 (.agg #[.int .i64 c])) 20 97 true).run Try.prog W = .ok (.tuple #[.agg #[.int .i64 c], .bool true]) W := fun _ => by kernel_rfl
  go_wp2
  simp [bodyPostS, results, Try.results58]
  exact w_grown (by (repeat' (first | (with_reducible exact Below.refl _ _) | (with_reducible assumption) | (with_reducible refine Below.alloc ?_ ?_ _) | (with_reducible refine below_ext ?_ ?_ _) | (with_reducible refine Below.drew ?_) | (with_reducible refine below_drewN ?_ _) | (with_reducible refine Below.setCell ?_ ?_ _) | go_size)))
end Go.Proofs.Ytelhclamoapnhaa

set_option linter.unusedSimpArgs false
set_option linter.unusedVariables false
namespace Go.Proofs.Ytelhclamoapnhaa
open Go.RowKit

theorem below_pre {w : World} {a b : List Obj} {m m' : Nat} (h : a <+: b) : Below (wext w ⟨a, m⟩).heap.size (wext w ⟨a, m⟩) (wext w ⟨b, m'⟩) := by
  obtain ⟨t, rfl⟩ := h
  exact below_app w ⟨a, m⟩ t m'
/-- The next number, and what is left; or the error. -/
def numP (s : ByteArray) (n : Int) : Except Int (Nat × ByteArray) :=
  if 1 ≤ n ∧ n ≤ 8 then (if (s.size : Int) < n then .error 201 else if numOf s n.toNat < 9223372036854775808 then .ok (numOf s n.toNat, s.extract n.toNat s.size) else .error 201) else .error 22
def rawP (s : ByteArray) (n : Int) : Except Int (ByteArray × ByteArray) := if n < 0 ∨ (s.size : Int) < n then .error 201 else .ok (s.extract 0 n.toNat, s.extract n.toNat s.size)
def textP (s : ByteArray) (n : Int) : Except Int (ByteArray × ByteArray) := match numP s 2 with
  | .error c => .error c
  | .ok q => if n < (q.1 : Int) then .error 203 else rawP q.2 (q.1 : Int)
theorem set_self (w : World) (b o : Nat) (v : Value) (h : w.cell? ⟨b, o, none⟩ = some v) : w.setCell ⟨b, o, none⟩ v = w := by
  have key : ∀ f : Obj → Obj, (∀ x, w.heap[b]? = some x → f x = x) → w.heap.modify b f = w.heap := by
    intro f hf
    apply Array.ext_getElem?
    intro i
    rw [Array.getElem?_modify]
    split
    · rename_i hi
      subst hi
      cases hx : w.heap[b]? with
      | none => rfl
      | some x => simp [hf x hx]
    · rfl
  unfold World.setCell
  rw [key]
  intro x hx
  unfold World.cell? at h
  simp only at h
  rw [hx] at h
  cases x with
  | cells c e fr =>
    simp at h ⊢
    apply Array.ext_getElem?
    intro i
    rw [Array.getElem?_setIfInBounds]
    split
    · rename_i hi
      subst hi
      rw [h]
      obtain ⟨hlt, _⟩ := Array.getElem?_eq_some_iff.1 h
      rw [if_pos hlt]
    · rfl
  | _ => rfl
theorem thr_of {b : Nat} {s : ByteArray} {c : Int} {w : World} (hr : w.cell? ⟨b, 0, none⟩ = some (.string s)) {e : Ending} {w' : World} (h : Throws c w e w') : e = .panicked [fault c] ∧ ∃ s' j, w' = wext (eyeSet w b s') j := by
  obtain ⟨he, j, rfl⟩ := h
  exact ⟨he, s, j, by rw [eyeSet, set_self w b 0 _ hr]⟩
theorem num_ok (b : Nat) (s t : ByteArray) (n : Int) (m : Nat) (w : World) (hr : w.cell? ⟨b, 0, none⟩ = some (.string s)) (ho : w.cell? ⟨b, 1, none⟩ = some (.bool true)) (hf : w.frozen? ⟨b, 0, none⟩ = false) (h : numP s n = .ok (m, t)) :
    Calls Try.prog 50 #[eyeP b, .int .i64 n] w fun e w' => e = .returned (.int .i64 (m : Int)) ∧ ∃ j, w' = wext (eyeSet w b t) j := by
  unfold numP at h
  split at h
  · rename_i hn
    split at h
    · cases h
    · rename_i hs
      split at h
      · rename_i hv
        injection h with h
        injection h with h1 h2
        subst h1; subst h2
        obtain ⟨k, rfl⟩ : ∃ k : Nat, n = (k : Int) := ⟨n.toNat, by omega⟩
        rw [Int.toNat_natCast] at hv ⊢
        exact num_yes b s k w hr ho hf (by omega) (by omega) (by omega) hv
      · cases h
  · cases h
theorem num_err (b : Nat) (s : ByteArray) (n c : Int) (w : World) (hr : w.cell? ⟨b, 0, none⟩ = some (.string s)) (ho : w.cell? ⟨b, 1, none⟩ = some (.bool true)) (hf : w.frozen? ⟨b, 0, none⟩ = false) (h : numP s n = .error c) : Calls Try.prog 50 #[eyeP b, .int .i64 n] w fun e w' => e = .panicked [fault c] ∧ ∃ s' j, w' = wext (eyeSet w b s') j := by
  unfold numP at h
  split at h
  · rename_i hn
    split at h
    · rename_i hs
      injection h with h
      subst h
      exact (num_short b s n w hr ho (by omega) (by omega) hs).mono fun e w' h => thr_of hr h
    · rename_i hs
      split at h
      · cases h
      · rename_i hv
        injection h with h
        subst h
        obtain ⟨k, rfl⟩ : ∃ k : Nat, n = (k : Int) := ⟨n.toNat, by omega⟩
        rw [Int.toNat_natCast] at hv
        exact num_neg b s k w hr ho hf (by omega) (by omega) (by omega) hv
  · rename_i hn
    injection h with h
    subst h
    exact (num_wide b n w ho hn).mono fun e w' h => thr_of hr h
theorem raw_ok (b : Nat) (s x t : ByteArray) (n : Int) (w : World) (hr : w.cell? ⟨b, 0, none⟩ = some (.string s)) (ho : w.cell? ⟨b, 1, none⟩ = some (.bool true)) (hf : w.frozen? ⟨b, 0, none⟩ = false) (h : rawP s n = .ok (x, t)) :
    Calls Try.prog 60 #[eyeP b, .int .i64 n] w fun e w' => e = .returned (.string x) ∧ ∃ j, w' = wext (eyeSet w b t) j := by
  unfold rawP at h
  split at h
  · cases h
  · rename_i hn
    injection h with h
    injection h with h1 h2
    subst h1; subst h2
    obtain ⟨k, rfl⟩ : ∃ k : Nat, n = (k : Int) := ⟨n.toNat, by omega⟩
    rw [Int.toNat_natCast]
    exact raw_yes b s k w hr ho hf (by omega)
theorem raw_err (b : Nat) (s : ByteArray) (n c : Int) (w : World) (hr : w.cell? ⟨b, 0, none⟩ = some (.string s)) (ho : w.cell? ⟨b, 1, none⟩ = some (.bool true)) (hf : w.frozen? ⟨b, 0, none⟩ = false) (h : rawP s n = .error c) : Calls Try.prog 60 #[eyeP b, .int .i64 n] w fun e w' => e = .panicked [fault c] ∧ ∃ s' j, w' = wext (eyeSet w b s') j := by
  unfold rawP at h
  split at h
  · rename_i hn
    injection h with h
    subst h
    exact (raw_no b s n w hr ho hn).mono fun e w' h => thr_of hr h
  · cases h
set_option maxHeartbeats 4000000 in
set_option maxRecDepth 100000 in
theorem text_e1 (b : Nat) (s : ByteArray) (n : Int) (c : Int) (w : World) (hr : w.cell? ⟨b, 0, none⟩ = some (.string s)) (ho : w.cell? ⟨b, 1, none⟩ = some (.bool true)) (hf : w.frozen? ⟨b, 0, none⟩ = false) (h : Hid (numP s 2 = .error c)) : Calls Try.prog 52 #[eyeP b, .int .i64 n] w fun e w' => e = .panicked [fault c] ∧ ∃ s' j, w' = wext (eyeSet w b s') j := by
  have hlt := leB_of_cell ho
  go_enter Try.func52, Try.ntmps52
  go_wp2_with (go_at_call 50; (with_reducible refine (num_err b s 2 c _ ?_ ?_ ?_ h.out).mono ?_); (· go_cell); (· go_cell); (· simp [go_sem, hlt, hf]); rintro e1 w1 ⟨rfl, s', j1, rfl⟩)
  exact ⟨rfl, rfl, s', w_grown (by (repeat' (first | (with_reducible exact Below.refl _ _) | (with_reducible assumption) | (with_reducible exact below_app _ _ _ _) | (with_reducible refine below_pre ?_; (simp only [List.append_assoc, List.prefix_append, List.prefix_refl, List.prefix_append_right_inj])) | (with_reducible refine Below.alloc ?_ ?_ _) | (with_reducible refine below_ext ?_ ?_ _) | (with_reducible refine Below.drew ?_) | (with_reducible refine below_drewN ?_ _) | (with_reducible refine Below.setCell ?_ ?_ _) | go_size | (simp only [w_size_ext, List.length_append, World.alloc_size]; omega) | (simp; done) | (simp; omega))))⟩
set_option maxHeartbeats 4000000 in
set_option maxRecDepth 100000 in
theorem text_e2 (b : Nat) (s : ByteArray) (n : Int) (m : Nat) (t : ByteArray) (w : World) (hr : w.cell? ⟨b, 0, none⟩ = some (.string s)) (ho : w.cell? ⟨b, 1, none⟩ = some (.bool true)) (hf : w.frozen? ⟨b, 0, none⟩ = false) (h : Hid (numP s 2 = .ok (m, t))) (hm : n < (m : Int)) : Calls Try.prog 52 #[eyeP b, .int .i64 n] w fun e w' => e = .panicked [fault 203] ∧ ∃ s' j, w' = wext (eyeSet w b s') j := by
  have hlt := leB_of_cell ho
  go_enter Try.func52, Try.ntmps52
  go_wp2_with (first | (go_at_call 50; (with_reducible refine (num_ok b s t 2 m _ ?_ ?_ ?_ h.out).mono ?_); (· go_cell); (· go_cell); (· simp [go_sem, hlt, hf]); rintro e1 w1 ⟨rfl, j1, rfl⟩) | (go_at_call 51; refine (fail_on _ _ _ (by go_cell)).mono ?_; rintro e1 w1 ⟨rfl, j1, rfl⟩))
  exact ⟨rfl, rfl, t, w_grown (by (repeat' (first | (with_reducible exact Below.refl _ _) | (with_reducible assumption) | (with_reducible exact below_app _ _ _ _) | (with_reducible refine below_pre ?_; (simp only [List.append_assoc, List.prefix_append, List.prefix_refl, List.prefix_append_right_inj])) | (with_reducible refine Below.alloc ?_ ?_ _) | (with_reducible refine below_ext ?_ ?_ _) | (with_reducible refine Below.drew ?_) | (with_reducible refine below_drewN ?_ _) | (with_reducible refine Below.setCell ?_ ?_ _) | go_size | (simp only [w_size_ext, List.length_append, World.alloc_size]; omega) | (simp; done) | (simp; omega))))⟩
set_option maxHeartbeats 4000000 in
set_option maxRecDepth 100000 in
theorem text_e3 (b : Nat) (s : ByteArray) (n : Int) (m : Nat) (t : ByteArray) (c : Int) (w : World) (hr : w.cell? ⟨b, 0, none⟩ = some (.string s)) (ho : w.cell? ⟨b, 1, none⟩ = some (.bool true)) (hf : w.frozen? ⟨b, 0, none⟩ = false) (h : Hid (numP s 2 = .ok (m, t))) (hm : ¬ n < (m : Int)) (h2 : Hid (rawP t (m : Int) = .error c)) : Calls Try.prog 52 #[eyeP b, .int .i64 n] w fun e w' => e = .panicked [fault c] ∧ ∃ s' j, w' = wext (eyeSet w b s') j := by
  have hlt := leB_of_cell ho
  go_enter Try.func52, Try.ntmps52
  go_wp2_with (first | (go_at_call 50; (with_reducible refine (num_ok b s t 2 m _ ?_ ?_ ?_ h.out).mono ?_); (· go_cell); (· go_cell); (· simp [go_sem, hlt, hf]); rintro e1 w1 ⟨rfl, j1, rfl⟩) | (go_at_call 60; (with_reducible refine (raw_err b t (m : Int) c _ ?_ ?_ ?_ h2.out).mono ?_); (· go_cell); (· go_cell); (· simp [go_sem, hlt, hf]); rintro e1 w1 ⟨rfl, s', j1, rfl⟩))
  exact ⟨rfl, rfl, s', w_grown (by (repeat' (first | (with_reducible exact Below.refl _ _) | (with_reducible assumption) | (with_reducible exact below_app _ _ _ _) | (with_reducible refine below_pre ?_; (simp only [List.append_assoc, List.prefix_append, List.prefix_refl, List.prefix_append_right_inj])) | (with_reducible refine Below.alloc ?_ ?_ _) | (with_reducible refine below_ext ?_ ?_ _) | (with_reducible refine Below.drew ?_) | (with_reducible refine below_drewN ?_ _) | (with_reducible refine Below.setCell ?_ ?_ _) | go_size | (simp only [w_size_ext, List.length_append, World.alloc_size]; omega) | (simp; done) | (simp; omega))))⟩
set_option maxHeartbeats 4000000 in
set_option maxRecDepth 100000 in
theorem text_e0 (b : Nat) (s : ByteArray) (n : Int) (m : Nat) (t x u : ByteArray) (w : World) (hr : w.cell? ⟨b, 0, none⟩ = some (.string s)) (ho : w.cell? ⟨b, 1, none⟩ = some (.bool true)) (hf : w.frozen? ⟨b, 0, none⟩ = false) (h : Hid (numP s 2 = .ok (m, t))) (hm : ¬ n < (m : Int)) (h2 : Hid (rawP t (m : Int) = .ok (x, u))) : Calls Try.prog 52 #[eyeP b, .int .i64 n] w fun e w' => e = .returned (.string x) ∧ ∃ j, w' = wext (eyeSet w b u) j := by
  have hlt := leB_of_cell ho
  go_enter Try.func52, Try.ntmps52
  go_wp2_with (first | (go_at_call 50; (with_reducible refine (num_ok b s t 2 m _ ?_ ?_ ?_ h.out).mono ?_); (· go_cell); (· go_cell); (· simp [go_sem, hlt, hf]); rintro e1 w1 ⟨rfl, j1, rfl⟩) | (go_at_call 60; (with_reducible refine (raw_ok b t x u (m : Int) _ ?_ ?_ ?_ h2.out).mono ?_); (· go_cell); (· go_cell); (· simp [go_sem, hlt, hf]); rintro e1 w1 ⟨rfl, j1, rfl⟩))
  go_ret
  exact ⟨rfl, w_grown (by (repeat' (first | (with_reducible exact Below.refl _ _) | (with_reducible assumption) | (with_reducible exact below_app _ _ _ _) | (with_reducible refine below_pre ?_; (simp only [List.append_assoc, List.prefix_append, List.prefix_refl, List.prefix_append_right_inj])) | (with_reducible refine Below.alloc ?_ ?_ _) | (with_reducible refine below_ext ?_ ?_ _) | (with_reducible refine Below.drew ?_) | (with_reducible refine below_drewN ?_ _) | (with_reducible refine Below.setCell ?_ ?_ _) | go_size | (simp only [w_size_ext, List.length_append, World.alloc_size]; omega) | (simp; done) | (simp; omega))))⟩
theorem text_ok (b : Nat) (s x u : ByteArray) (n : Int) (w : World) (hr : w.cell? ⟨b, 0, none⟩ = some (.string s)) (ho : w.cell? ⟨b, 1, none⟩ = some (.bool true)) (hf : w.frozen? ⟨b, 0, none⟩ = false) (h : textP s n = .ok (x, u)) :
    Calls Try.prog 52 #[eyeP b, .int .i64 n] w fun e w' => e = .returned (.string x) ∧ ∃ j, w' = wext (eyeSet w b u) j := by
  unfold textP at h
  split at h
  · cases h
  · rename_i q hq
    obtain ⟨m, t⟩ := q
    simp only at h
    split at h
    · cases h
    · rename_i hm
      exact text_e0 b s n m t x u w hr ho hf (Lib.hid hq) hm (Lib.hid h)
theorem text_err (b : Nat) (s : ByteArray) (n c : Int) (w : World) (hr : w.cell? ⟨b, 0, none⟩ = some (.string s)) (ho : w.cell? ⟨b, 1, none⟩ = some (.bool true)) (hf : w.frozen? ⟨b, 0, none⟩ = false) (h : textP s n = .error c) : Calls Try.prog 52 #[eyeP b, .int .i64 n] w fun e w' => e = .panicked [fault c] ∧ ∃ s' j, w' = wext (eyeSet w b s') j := by
  unfold textP at h
  split at h
  · rename_i c' hq
    injection h with h
    subst h
    exact text_e1 b s n c' w hr ho hf (Lib.hid hq)
  · rename_i q hq
    obtain ⟨m, t⟩ := q
    simp only at h
    split at h
    · rename_i hm
      injection h with h
      subst h
      exact text_e2 b s n m t w hr ho hf (Lib.hid hq) hm
    · rename_i hm
      exact text_e3 b s n m t c w hr ho hf (Lib.hid hq) hm (Lib.hid h)
end Go.Proofs.Ytelhclamoapnhaa

set_option linter.unusedSimpArgs false
set_option linter.unusedVariables false
namespace Go.Proofs.Ytelhclamoapnhaa
open Go.RowKit Go.Maps

/-- How many parts there are. -/
def cntP (L : List ByteArray) : Nat := (L.filter fun q => decide (0 < q.size)).length
theorem cntP_le (L : List ByteArray) : cntP L ≤ L.length := List.length_filter_le _ _
/-- The map in block mb holds just these parts, by their places; an empty text is none. -/
def MapAt (W : World) (mb : Nat) (L : List ByteArray) : Prop := ∃ (D : DataW Unit), W.ownsMap Try.prog 3 (plainElem Try.prog 9) mb (cntP L) D ∧ L.length ≤ 4096 ∧ (∀ q ∈ L, q.size ≤ 512) ∧ size D = cntP L ∧
  ∀ i, i < L.length → (has D (.int .i64 (i : Int)) = decide (0 < (L.getD i ByteArray.empty).size)) ∧ (0 < (L.getD i ByteArray.empty).size → D.atKey (.int .i64 (i : Int)) (.lit (.string [])) = .lit (.string (L.getD i ByteArray.empty).data.toList))
theorem str_zero (w : World) : (zeroValue 9).run Try.prog w = .ok (.string ⟨#[]⟩) w := by kernel_rfl
theorem plain_empty : plainElem (H := Unit) Try.prog 9 (.string ⟨#[]⟩) = some (.lit (.string []), []) := plainElem_string Try.underlying9 (by decide)
theorem key_wf (i : Nat) (h : i < 4096) : (Lit.int .i64 (i : Int)).wf = true := by
  simp [Lit.wf, IntKind.min, IntKind.max, IntKind.signed, IntKind.bits]
  omega
theorem key_of (i : Nat) (h : i < 4096) : keyOf Try.prog 3 (.int .i64 (i : Int)) = some (.int .i64 (i : Int)) := keyOf_int_mk Try.underlying3 (key_wf i h)
theorem bytes_of_list {a b : ByteArray} (h : a.data.toList = b.data.toList) : a = b := ByteArray.ext (Array.toList_inj.1 h)
theorem getD_mem (L : List ByteArray) (i : Nat) (h : i < L.length) : L.getD i ByteArray.empty ∈ L := by
  rw [List.getD_eq_getElem?_getD, List.getElem?_eq_getElem h]
  exact List.getElem_mem _
/-- A look-up that tells whether the part is there. -/
theorem map_look {W : World} {mb : Nat} {L : List ByteArray} (h : MapAt W mb L) (i : Nat) (hi : i < L.length) : (Instr.lookup 57 (.map (some mb)) (.int .i64 (i : Int)) true).run Try.prog W = .ok (.tuple #[.string (L.getD i ByteArray.empty), .bool (decide (0 < (L.getD i ByteArray.empty).size))]) W := by
  obtain ⟨D, ho, h4, hq, _, hD⟩ := h
  obtain ⟨h1, h2⟩ := hD i hi
  obtain ⟨v, ps, hr, hv⟩ := ho.look_ok (int_keyed Try.underlying3) Try.underlying57 (str_zero W) plain_empty (key_of i (by omega))
  rw [hr, h1]
  obtain ⟨s, rfl, hz, _⟩ := plainElem_string_inv Try.underlying9 hv
  by_cases hp : 0 < (L.getD i ByteArray.empty).size
  · rw [h2 hp] at hz
    injection hz with hz _
    injection hz with hz
    injection hz with hz
    rw [bytes_of_list hz]
  · rw [decide_eq_false hp] at h1
    rw [atKey_of_not_has h1] at hz
    injection hz with hz _
    injection hz with hz
    injection hz with hz
    have e : L.getD i ByteArray.empty = s := by
      apply bytes_of_list
      rw [← hz]
      have h0 : (L.getD i ByteArray.empty).data.toList.length = 0 := by
        rw [Array.length_toList]; show (L.getD i ByteArray.empty).size = 0; omega
      exact List.eq_nil_of_length_eq_zero h0
    rw [e]
/-- A look-up of a part. -/
theorem map_read {W : World} {mb : Nat} {L : List ByteArray} (h : MapAt W mb L) (i : Nat) (hi : i < L.length) : (Instr.lookup 57 (.map (some mb)) (.int .i64 (i : Int)) false).run Try.prog W = .ok (.string (L.getD i ByteArray.empty)) W := by
  obtain ⟨D, ho, h4, hq, _, hD⟩ := h
  obtain ⟨h1, h2⟩ := hD i hi
  obtain ⟨v, ps, hr, hv⟩ := ho.lookup (int_keyed Try.underlying3) Try.underlying57 (str_zero W) plain_empty (key_of i (by omega))
  rw [hr]
  obtain ⟨s, rfl, hz, _⟩ := plainElem_string_inv Try.underlying9 hv
  by_cases hp : 0 < (L.getD i ByteArray.empty).size
  · rw [h2 hp] at hz
    injection hz with hz _
    injection hz with hz
    injection hz with hz
    rw [bytes_of_list hz]
  · rw [decide_eq_false hp] at h1
    rw [atKey_of_not_has h1] at hz
    injection hz with hz _
    injection hz with hz
    injection hz with hz
    have e : L.getD i ByteArray.empty = s := by
      apply bytes_of_list
      rw [← hz]
      have h0 : (L.getD i ByteArray.empty).data.toList.length = 0 := by
        rw [Array.length_toList]; show (L.getD i ByteArray.empty).size = 0; omega
      exact List.eq_nil_of_length_eq_zero h0
    rw [e]
theorem map_len {W : World} {mb : Nat} {L : List ByteArray} (h : MapAt W mb L) (ty : TypeId) : (Builtin.len_ #[57] ty #[.map (some mb)]).run Try.prog W = .ok (.int .i64 (cntP L : Int)) W := by
  obtain ⟨D, ho, _, _, hs, _⟩ := h
  rw [ho.len Try.underlying57, hs]
theorem cntP_set (L : List ByteArray) (i : Nat) (q : ByteArray) (hi : i < L.length) (h0 : (L.getD i ByteArray.empty).size = 0) (hq : 0 < q.size) : cntP (L.set i q) = cntP L + 1 := by
  induction L generalizing i with
  | nil => simp at hi
  | cons x L ih =>
    cases i with
    | zero =>
      have hx : x.size = 0 := h0
      unfold cntP
      rw [List.set_cons_zero, List.filter_cons, List.filter_cons, if_pos (by simpa using hq), if_neg (by simp [hx])]
      rfl
    | succ i =>
      have hh := ih i (by simpa using hi) h0
      unfold cntP at hh ⊢
      rw [List.set_cons_succ, List.filter_cons, List.filter_cons]
      split
      · rw [List.length_cons, List.length_cons, hh]
      · exact hh
theorem getD_set (L : List ByteArray) (i j : Nat) (q : ByteArray) (hi : i < L.length) : (L.set i q).getD j ByteArray.empty = if i = j then q else L.getD j ByteArray.empty := by
  rw [List.getD_eq_getElem?_getD, List.getElem?_set]
  by_cases h : i = j
  · rw [if_pos h, if_pos h, if_pos hi]; rfl
  · rw [if_neg h, if_neg h, List.getD_eq_getElem?_getD]
/-- A new part. -/
theorem map_store {W : World} {mb : Nat} {L : List ByteArray} (h : MapAt W mb L) (i : Nat) (hi : i < L.length) (q : ByteArray) (h0 : (L.getD i ByteArray.empty).size = 0) (hq : 0 < q.size) (hq2 : q.size ≤ 512) :
    ∃ W', (Instr.mapUpdate 57 (.map (some mb)) (.int .i64 (i : Int)) (.string q)).run Try.prog W = .ok () W' ∧ MapAt W' mb (L.set i q) ∧ W.mapTurned W' mb := by
  obtain ⟨D, ho, h4, hqs, hs, hD⟩ := h
  have hmax : q.size ≤ maxLen := by simp only [maxLen]; omega
  have hcl := cntP_le L
  obtain ⟨W', hr, ho2, ht⟩ := ho.store (int_keyed Try.underlying3) Try.underlying57 (show cntP L < maxLen by simp only [maxLen]; omega) (key_of i (by omega)) (plainElem_string (H := Unit) Try.underlying9 hmax)
  have hset := cntP_set L i q hi h0 hq
  have hkl : WideAt.IsKeyLit (Lit.int .i64 (i : Int)) := by trivial
  have hno : has D (.int .i64 (i : Int)) = false := by rw [(hD i hi).1, h0]; rfl
  refine ⟨W', hr, ⟨_, by rw [hset]; exact ho2, by rw [List.length_set]; exact h4, fun x hx => ?_, ?_, fun k hk => ?_⟩, ht⟩
  · rcases List.mem_or_eq_of_mem_set hx with hx | rfl
    · exact hqs x hx
    · exact hq2
  · rw [size_put (ho.tidy (int_keyed Try.underlying3)), hno, hset, hs]; rfl
  · rw [List.length_set] at hk
    rw [getD_set L i k q hi]
    by_cases hik : i = k
    · subst hik
      rw [if_pos rfl, has_put_same ho.isMap hkl, atKey_put_same ho.isMap hkl]
      exact ⟨(decide_eq_true hq).symm, fun _ => rfl⟩
    · have hne : Lit.int .i64 (k : Int) ≠ Lit.int .i64 (i : Int) := fun e => by
        injection e with _ e
        omega
      rw [if_neg hik, has_put_other hne, atKey_put_other hne]
      exact hD k hk
/-- A map that was just made. -/
theorem map_new (w : World) (n : Nat) (hn : n ≤ 4096) : MapAt (w.alloc (.map #[] 0)) w.heap.size (List.replicate n ⟨#[]⟩) := by
  have hc : cntP (List.replicate n (⟨#[]⟩ : ByteArray)) = 0 := by
    unfold cntP
    rw [List.filter_replicate]
    rfl
  refine ⟨.map [], by rw [hc]; exact World.ownsMap_made _ _ _ _, by rw [List.length_replicate]; exact hn, fun q hq => ?_, by rw [hc]; rfl, fun i hi => ?_⟩
  · rw [List.eq_of_mem_replicate hq]; decide
  · rw [List.length_replicate] at hi
    have e : (List.replicate n (⟨#[]⟩ : ByteArray)).getD i ByteArray.empty = ⟨#[]⟩ := by
      rw [List.getD_eq_getElem?_getD, List.getElem?_replicate, if_pos hi]; rfl
    rw [e]
    exact ⟨rfl, fun h => absurd h (by decide)⟩
theorem MapAt.later {W W' : World} {mb : Nat} {L : List ByteArray} (h : MapAt W mb L) (hb : Below W.heap.size W W') : MapAt W' mb L := by
  obtain ⟨D, ho, h4⟩ := h
  have hlt := ho.lt
  obtain ⟨es, clock, hh, F, hs, hD⟩ := ho
  exact ⟨D, ⟨es, clock, by rw [hb.block mb hlt]; exact hh, F, hs, hD⟩, h4⟩
theorem MapAt.lt {W : World} {mb : Nat} {L : List ByteArray} (h : MapAt W mb L) : mb < W.heap.size := by
  obtain ⟨D, ho, _⟩ := h
  exact ho.lt
end Go.Proofs.Ytelhclamoapnhaa

set_option linter.unusedSimpArgs false
set_option linter.unusedVariables false
namespace Go.Proofs.Ytelhclamoapnhaa
open Go.RowKit

theorem intOf_lit (k : IntKind) (x : Int) : intOf (.int k x) = x := rfl
/-- A call that tells v and turns nothing. -/
def Tells (v : Value) (w : World) (e : Ending) (w' : World) : Prop := e = .returned v ∧ w' = w
set_option maxHeartbeats 2000000 in
set_option maxRecDepth 100000 in
theorem dead_live (sb : Nat) (n : Int) (w : World) (h0 : w.cell? ⟨sb, 0, none⟩ = some (.int .i64 n)) (hn : ¬ n = 0) : Calls Try.prog 35 #[.pointer (some ⟨sb, 0, none⟩)] w (Tells (.bool false) w) := by
  have hnb : (n == 0) = false := beq_eq_false_iff_ne.2 hn
  go_enter Try.func35, Try.ntmps35
  go_wp2
  go_ret
  exact ⟨rfl, rfl⟩
set_option maxHeartbeats 2000000 in
set_option maxRecDepth 100000 in
theorem dead_zero (sb : Nat) (w : World) (h0 : w.cell? ⟨sb, 0, none⟩ = some (.int .i64 0)) : Calls Try.prog 35 #[.pointer (some ⟨sb, 0, none⟩)] w (Tells (.bool true) w) := by
  go_enter Try.func35, Try.ntmps35
  go_wp2
  go_ret
  exact ⟨rfl, rfl⟩
set_option maxHeartbeats 2000000 in
set_option maxRecDepth 100000 in
theorem dead_none (w : World) : Calls Try.prog 35 #[.pointer none] w (Tells (.bool true) w) := by
  go_enter Try.func35, Try.ntmps35
  go_wp2
  go_ret
  exact ⟨rfl, rfl⟩
/-- A stage in block sb, its map in block mb, with these parts. -/
structure StageAt (W : World) (sb mb : Nat) (L : List ByteArray) : Prop where
  total : W.cell? ⟨sb, 0, none⟩ = some (.int .i64 (L.length : Int))
  parts : W.cell? ⟨sb, 1, none⟩ = some (.map (some mb))
  map : MapAt W mb L
  some : 1 ≤ L.length
set_option maxHeartbeats 2000000 in
set_option maxRecDepth 100000 in
theorem new_yes (n : Int) (w : World) (h1 : 1 ≤ n) (h2 : n ≤ 4096) : Calls Try.prog 18 #[.int .i64 n] w fun e w' => e = .returned (.tuple #[.pointer (some ⟨w.heap.size + 1, 0, none⟩), .int .i64 0]) ∧ w' = (w.alloc (.map #[] 0)).alloc (.cells #[.int .i64 n, .map (some w.heap.size)] 59) := by
  have hmm := @run_makeMap Try.prog
  go_enter Try.func18, Try.ntmps18
  go_wp2
  go_ret2
  exact ⟨rfl, rfl⟩
set_option maxHeartbeats 2000000 in
set_option maxRecDepth 100000 in
theorem new_no (n : Int) (w : World) (h : n < 1 ∨ 4096 < n) : Calls Try.prog 18 #[.int .i64 n] w (Tells (.tuple #[.pointer none, .int .i64 22]) w) := by
  rcases h with h | h
  · go_enter Try.func18, Try.ntmps18
    go_wp2
    go_ret2
    exact ⟨rfl, rfl⟩
  · have h0 : ¬ n < 1 := by omega
    go_enter Try.func18, Try.ntmps18
    go_wp2
    go_ret2
    exact ⟨rfl, rfl⟩
/-- The first place where nothing is; the number of places, if there is something everywhere. -/
def missP (L : List ByteArray) : Nat := L.findIdx fun q => decide (q.size = 0)
theorem missP_le (L : List ByteArray) : missP L ≤ L.length := List.findIdx_le_length
theorem missP_at (L : List ByteArray) (i : Nat) (h : i < L.length) (h1 : ∀ j, j < i → 0 < (L.getD j ByteArray.empty).size) (h2 : (L.getD i ByteArray.empty).size = 0) : missP L = i := by
  unfold missP
  rw [List.findIdx_eq h]
  refine ⟨?_, fun j hj => ?_⟩
  · rw [List.getD_eq_getElem?_getD, List.getElem?_eq_getElem h] at h2
    simpa using h2
  · have h3 := h1 j hj
    rw [List.getD_eq_getElem?_getD, List.getElem?_eq_getElem (show j < L.length by omega)] at h3
    exact decide_eq_false (by
      show ¬ L[j].size = 0
      have h4 : 0 < L[j].size := h3
      omega)
theorem missP_all (L : List ByteArray) (h1 : ∀ j, j < L.length → 0 < (L.getD j ByteArray.empty).size) : missP L = L.length := by
  unfold missP
  rw [List.findIdx_eq_length]
  intro x hx
  obtain ⟨j, hj, rfl⟩ := List.getElem_of_mem hx
  have h3 := h1 j hj
  rw [List.getD_eq_getElem?_getD, List.getElem?_eq_getElem hj] at h3
  exact decide_eq_false (by
    have h4 : 0 < L[j].size := h3
    omega)
set_option maxHeartbeats 2000000 in
set_option maxRecDepth 100000 in
theorem missing_live (sb mb : Nat) (L : List ByteArray) (w : World) (h : StageAt w sb mb L) : Calls Try.prog 22 #[.pointer (some ⟨sb, 0, none⟩)] w (Tells (.int .i64 (missP L : Int)) w) := by
  obtain ⟨hs0, hs1, hM, hn1⟩ := h
  have h4 : L.length ≤ 4096 := hM.choose_spec.2.1
  have HS0 := Lib.hid hs0
  have HM := Lib.hid hM
  obtain ⟨n, hn⟩ : ∃ n, L.length = n := ⟨_, rfl⟩
  have HN := Lib.hid hn
  rw [hn] at hs0 HS0 hn1 h4
  have hn0 : ¬ (n : Int) = 0 := by omega
  clear hM hn
  obtain ⟨r, hr⟩ : ∃ r, missP L = r := ⟨_, rfl⟩
  rw [hr]
  have HR := Lib.hid hr
  clear hr
  go_enter Try.func22, Try.ntmps22
  go_wp2_with (go_at_call 35; (with_reducible refine (dead_live sb _ _ HS0.out hn0).mono ?_); rintro e1 w1 ⟨rfl, rfl⟩)
  go_loop [3, 12] (fun v3 v12 => ∃ i : Nat, i ≤ n ∧ v12 = .int .i64 (i : Int) ∧ Hid (∀ j, j < i → 0 < (L.getD j ByteArray.empty).size)) (fun _ i => ((n : Int) - intOf i).toNat)
  case atStart => exact ⟨0, Nat.zero_le _, rfl, Lib.hid fun j hj => by omega⟩
  case round =>
    obtain ⟨i, hi, rfl, HA⟩ := hrel
    by_cases hin : i = n
    · subst hin
      have HF := Lib.hid (show (r : Int) = (i : Int) by rw [← HR.out, missP_all L (fun j hj => HA.out j (by rw [HN.out] at hj; exact hj)), HN.out])
      go_wp2
      go_ret
      exact ⟨by rw [HF.out]; rfl, rfl⟩
    · have hlt : (i : Int) < (n : Int) := by omega
      have hge : (0 : Int) ≤ (i : Int) := by omega
      have hwr : wrap64 ((i : Int) + 1) = ((i + 1 : Nat) : Int) := by rw [wrap64_eq]; omega
      have hlk := map_look HM.out i (by rw [HN.out]; omega)
      by_cases hz : 0 < (L.getD i ByteArray.empty).size
      · rw [decide_eq_true hz] at hlk
        have HA2 := Lib.hid (show ∀ j, j < i + 1 → 0 < (L.getD j ByteArray.empty).size from fun j hj => by
          by_cases e : j = i
          · rw [e]; exact hz
          · exact HA.out j (by omega))
        clear hz
        generalize L.getD i ByteArray.empty = q at *
        go_wp2
        go_round
        case rel => exact ⟨i + 1, by omega, by first | rfl | rw [hwr], HA2⟩
        case measure => first | (simp [intOf]; omega) | (rw [intOf_lit, intOf_lit, hwr]; omega)
      · rw [decide_eq_false hz] at hlk
        have HF := Lib.hid (show (r : Int) = (i : Int) by rw [← HR.out, missP_at L i (by rw [HN.out]; omega) HA.out (by omega)])
        clear hz
        generalize L.getD i ByteArray.empty = q at *
        go_wp2
        go_ret
        exact ⟨by rw [HF.out]; rfl, rfl⟩
end Go.Proofs.Ytelhclamoapnhaa

set_option linter.unusedSimpArgs false
set_option linter.unusedVariables false
namespace Go.Proofs.Ytelhclamoapnhaa
open Go.RowKit

section
variable {P : Program} {ops : Array Oper} {Q : Exit → Act → World → Prop} {w0 : World}
theorem wpMix_skipK {i : Nat} {b : Bool} {rest : List (Nat × Bool)} {o : Oper} {a : Act} {w : World} (ho : ops[i]? = some o) (hw : Region.wanted o (yielded ops a.tmps) = false) (h : ∀ K : Act → Prop, (∀ a', wpMix P ops Q w0 rest a' w → K a') → K (a.put o.dst undef)) :
    wpMix P ops Q w0 ((i, b) :: rest) a w := wpMix_skip ho hw (h _ (fun _ h => h))
end
set_option maxHeartbeats 2000000 in
set_option maxRecDepth 100000 in
theorem has_live (sb mb : Nat) (L : List ByteArray) (w : World) (h : StageAt w sb mb L) : Calls Try.prog 27 #[.pointer (some ⟨sb, 0, none⟩)] w (Ret (.tuple #[.int .i64 (cntP L : Int), .int .i64 (L.length : Int)]) w) := by
  obtain ⟨hs0, hs1, hM, hn1⟩ := h
  have h4 : L.length ≤ 4096 := hM.choose_spec.2.1
  have HS0 := Lib.hid hs0
  have HM := Lib.hid hM
  obtain ⟨n, hn⟩ : ∃ n, L.length = n := ⟨_, rfl⟩
  have HN := Lib.hid hn
  rw [hn] at hs0 HS0 hn1 h4
  have hn0 : ¬ (n : Int) = 0 := by omega
  clear hM
  have hlen := fun j ty => map_len (HM.out.later (w_ext_below w j)) ty
  have hlt := leB_of_cell hs0
  rw [hn]
  clear hn
  generalize cntP L = c at *
  go_enter Try.func27, Try.ntmps27
  go_wp2_with (go_at_call 35; (with_reducible refine (dead_live sb _ _ HS0.out hn0).mono ?_); rintro e1 w1 ⟨rfl, rfl⟩)
  refine wp_region_mix [(0, true), (1, true), (2, true), (3, true), (4, true), (5, true), (6, true), (7, true), (8, true), (9, true), (10, true)] (by kernel_rfl) (by kernel_rfl) rfl (by kernel_rfl) (by intro _ _ d _ _ h; cases d <;> exact h) ?_; intro j1; (repeat (first | (refine wpMix_skipK rfl rfl ?_; intro K hK; go_simp; refine hK _ ?_; clear hK K) | (refine wpMix_light rfl rfl ?_; intro K hK; go_simp; refine hK _ ?_; clear hK K) | (refine wpMix_heavy rfl rfl ?_; intro K hK; go_wp2_with (fail); refine ⟨w_ext_of_below (by (repeat' (first | (with_reducible exact Below.refl _ _) | (with_reducible assumption) | (with_reducible exact below_app _ _ _ _) | (with_reducible refine below_pre ?_; (simp only [List.append_assoc, List.prefix_append, List.prefix_refl, List.prefix_append_right_inj])) | (with_reducible refine Below.alloc ?_ ?_ _) | (with_reducible refine below_ext ?_ ?_ _) | (with_reducible refine Below.drew ?_) | (with_reducible refine below_drewN ?_ _) | (with_reducible refine Below.setCell ?_ ?_ _) | go_size | (simp only [w_size_ext, List.length_append, World.alloc_size]; omega) | (simp; done) | (simp; omega)))), ?_⟩))); refine wpMix_nil ?_
  go_wp2
  go_ret2
  exact Ret.mk rfl (by (repeat' (first | (with_reducible exact Below.refl _ _) | (with_reducible assumption) | (with_reducible exact below_app _ _ _ _) | (with_reducible refine below_pre ?_; (simp only [List.append_assoc, List.prefix_append, List.prefix_refl, List.prefix_append_right_inj])) | (with_reducible refine Below.alloc ?_ ?_ _) | (with_reducible refine below_ext ?_ ?_ _) | (with_reducible refine Below.drew ?_) | (with_reducible refine below_drewN ?_ _) | (with_reducible refine Below.setCell ?_ ?_ _) | go_size | (simp only [w_size_ext, List.length_append, World.alloc_size]; omega) | (simp; done) | (simp; omega))))
/-- Is there something at all places that are sent at once with one? -/
def wholeP (L : List ByteArray) (i : Int) : Bool := decide (0 ≤ i) && decide (i < (L.length : Int)) && decide (∀ k, k < L.length → (k : Int) / 4 = i / 4 → 0 < (L.getD k ByteArray.empty).size)
set_option maxHeartbeats 2000000 in
set_option maxRecDepth 100000 in
theorem whole_out (sb mb : Nat) (L : List ByteArray) (i : Int) (w : World) (h : StageAt w sb mb L) (hi : i < 0 ∨ (L.length : Int) ≤ i) : Calls Try.prog 30 #[.pointer (some ⟨sb, 0, none⟩), .int .i64 i] w (Tells (.bool false) w) := by
  obtain ⟨hs0, hs1, hM, hn1⟩ := h
  have h4 : L.length ≤ 4096 := hM.choose_spec.2.1
  have HS0 := Lib.hid hs0
  have HM := Lib.hid hM
  obtain ⟨n, hn⟩ : ∃ n, L.length = n := ⟨_, rfl⟩
  have HN := Lib.hid hn
  rw [hn] at hs0 HS0 hn1 h4
  have hn0 : ¬ (n : Int) = 0 := by omega
  clear hM
  rw [hn] at hi
  clear hn
  rcases hi with hi | hi
  · go_enter Try.func30, Try.ntmps30
    go_wp2_with (go_at_call 35; (with_reducible refine (dead_live sb _ _ HS0.out hn0).mono ?_); rintro e1 w1 ⟨rfl, rfl⟩)
    go_ret
    exact ⟨rfl, rfl⟩
  · have h0 : ¬ i < 0 := by omega
    go_enter Try.func30, Try.ntmps30
    go_wp2_with (go_at_call 35; (with_reducible refine (dead_live sb _ _ HS0.out hn0).mono ?_); rintro e1 w1 ⟨rfl, rfl⟩)
    go_ret
    exact ⟨rfl, rfl⟩
set_option maxHeartbeats 2000000 in
set_option maxRecDepth 100000 in
theorem whole_in (sb mb : Nat) (L : List ByteArray) (i : Nat) (w : World) (h : StageAt w sb mb L) (hi : i < L.length) : Calls Try.prog 30 #[.pointer (some ⟨sb, 0, none⟩), .int .i64 (i : Int)] w (Tells (.bool (wholeP L (i : Int))) w) := by
  obtain ⟨hs0, hs1, hM, hn1⟩ := h
  have h4 : L.length ≤ 4096 := hM.choose_spec.2.1
  have HS0 := Lib.hid hs0
  have HM := Lib.hid hM
  obtain ⟨n, hn⟩ : ∃ n, L.length = n := ⟨_, rfl⟩
  have HN := Lib.hid hn
  rw [hn] at hs0 HS0 hn1 h4
  have hn0 : ¬ (n : Int) = 0 := by omega
  clear hM
  have HE : Hid (wholeP L (i : Int) = decide (∀ k, k < n → k / 4 = i / 4 → 0 < (L.getD k ByteArray.empty).size)) := Lib.hid (by
    unfold wholeP
    rw [decide_eq_true (by omega), decide_eq_true (by omega), Bool.true_and, Bool.true_and]
    refine decide_eq_decide.2 ⟨fun h k hk he => h k (by omega) (by omega), fun h k hk he => h k (by omega) (by omega)⟩)
  rw [hn] at hi
  clear hn
  generalize wholeP L (i : Int) = r at *
  have h0 : ¬ (i : Int) < 0 := by omega
  have h1 : ¬ (n : Int) ≤ (i : Int) := by omega
  have h1' : (i : Int) < (n : Int) := by omega
  obtain ⟨f, hf⟩ : ∃ f, i - i % 4 = f := ⟨_, rfl⟩
  have hf4 : f % 4 = 0 := by omega
  have hfi : f ≤ i := by omega
  have hif : i < f + 4 := by omega
  have hmod : (i : Int) - (i : Int) % 4 = (f : Int) := by omega
  obtain ⟨t, ht⟩ : ∃ t, min (f + 4) n = t := ⟨_, rfl⟩
  have hmin : (if (n : Int) < (f : Int) + 4 then (n : Int) else (f : Int) + 4) = (t : Int) := by split <;> omega
  have hft : f ≤ t := by omega
  have htn : t ≤ n := by omega
  have HT := Lib.hid ht
  have HF := Lib.hid hf
  clear hf ht
  have hb0 : decide ((i : Int) < 0) = false := decide_eq_false h0
  have hbn : decide (n ≤ i) = false := decide_eq_false (by omega)
  go_enter Try.func30, Try.ntmps30
  go_wp2_with (go_at_call 35; (with_reducible refine (dead_live sb _ _ HS0.out hn0).mono ?_); rintro e1 w1 ⟨rfl, rfl⟩)
  go_loop [6] (fun v6 => ∃ k : Nat, f ≤ k ∧ k ≤ t ∧ v6 = .int .i64 (k : Int) ∧ Hid (∀ j, f ≤ j → j < k → 0 < (L.getD j ByteArray.empty).size)) (fun v => ((t : Int) - intOf v).toNat)
  case atStart => exact ⟨f, Nat.le_refl _, hft, rfl, Lib.hid fun j h1 h2 => by omega⟩
  case round =>
    obtain ⟨k, hfk, hkt, rfl, HA⟩ := hrel
    by_cases hk : k = t
    · have HR := Lib.hid (show r = true by
        rw [HE.out]
        refine decide_eq_true fun j hj he => HA.out j (by have := HF.out; omega) (by have := HT.out; have := HF.out; omega))
      have hge : ¬ (k : Int) < (t : Int) := by omega
      clear hk
      go_wp2
      go_ret
      exact ⟨by rw [HR.out]; rfl, rfl⟩
    · have hlt : (k : Int) < (t : Int) := by omega
      have hwr : wrap64 ((k : Int) + 1) = ((k + 1 : Nat) : Int) := by rw [wrap64_eq]; omega
      have hlk := map_look HM.out k (by rw [HN.out]; omega)
      by_cases hz : 0 < (L.getD k ByteArray.empty).size
      · rw [decide_eq_true hz] at hlk
        have HA2 := Lib.hid (show ∀ j, f ≤ j → j < k + 1 → 0 < (L.getD j ByteArray.empty).size from fun j h1 h2 => by
          by_cases e : j = k
          · rw [e]; exact hz
          · exact HA.out j h1 (by omega))
        clear hz hk
        generalize L.getD k ByteArray.empty = q at *
        go_wp2
        go_round
        case rel => exact ⟨k + 1, by omega, by omega, by first | rfl | rw [hwr], HA2⟩
        case measure => first | (simp [intOf]; omega) | (rw [intOf_lit, intOf_lit, hwr]; omega)
      · rw [decide_eq_false hz] at hlk
        have HR := Lib.hid (show r = false by
          rw [HE.out]
          refine decide_eq_false fun h => hz (h k (by omega) (by have := HF.out; omega)))
        clear hz hk
        generalize L.getD k ByteArray.empty = q at *
        go_wp2
        go_ret
        exact ⟨by rw [HR.out]; rfl, rfl⟩
theorem whole_live (sb mb : Nat) (L : List ByteArray) (i : Int) (w : World) (h : StageAt w sb mb L) : Calls Try.prog 30 #[.pointer (some ⟨sb, 0, none⟩), .int .i64 i] w (Tells (.bool (wholeP L i)) w) := by
  by_cases hi : i < 0 ∨ (L.length : Int) ≤ i
  · have e : wholeP L i = false := by
      unfold wholeP
      rcases hi with hi | hi
      · rw [decide_eq_false (show ¬ 0 ≤ i by omega)]; rfl
      · rw [decide_eq_false (show ¬ i < (L.length : Int) by omega), Bool.and_false]; rfl
    rw [e]
    exact whole_out sb mb L i w h hi
  · obtain ⟨k, rfl⟩ : ∃ k : Nat, i = (k : Int) := ⟨i.toNat, by omega⟩
    exact whole_in sb mb L k w h (by omega)
end Go.Proofs.Ytelhclamoapnhaa

set_option linter.unusedSimpArgs false
set_option linter.unusedVariables false
namespace Go.Proofs.Ytelhclamoapnhaa
open Go.RowKit Go.ChangeMaps Go.MapKept

/-- What becomes of the parts, whether one is new, and the error. -/
def addR (L : List ByteArray) (i : Int) (q : ByteArray) : List ByteArray × Bool × Int :=
  if i < 0 ∨ (L.length : Int) ≤ i ∨ 512 < q.size ∨ q.size = 0 ∨ (i < (L.length : Int) - 1 ∧ q.size ≠ 512) then (L, false, 22)
  else if 0 < (L.getD i.toNat ByteArray.empty).size then (if L.getD i.toNat ByteArray.empty = q then (L, false, 0) else (L, false, 17)) else (L.set i.toNat q, true, 0)
/-- The stage behind an Add. -/
def AddP (r : List ByteArray × Bool × Int) (sb mb : Nat) (w : World) (e : Ending) (w' : World) : Prop := e = .returned (.tuple #[.bool r.2.1, .int .i64 r.2.2]) ∧ StageAt w' sb mb r.1 ∧ w.mapTurned w' mb
theorem AddP.same {r : List ByteArray × Bool × Int} {sb mb : Nat} {w : World} {v : Value} {L : List ByteArray} (h : StageAt w sb mb L) (b : Bool) (c : Int) (hr : r = (L, b, c)) (hv : v = .tuple #[.bool b, .int .i64 c]) : AddP r sb mb w (.returned v) w := by
  subst hr; subst hv
  obtain ⟨D, ho, _⟩ := h.map
  exact ⟨rfl, h, ho.turned_refl⟩
theorem toList_ne {a b : ByteArray} (h : ¬ a = b) : ¬ a.toList = b.toList := fun e => h (by
  apply ByteArray.ext
  apply Array.toList_inj.1
  rw [← ByteArray.toList_eq, ← ByteArray.toList_eq]
  exact e)
theorem cell_setBlock {w : World} {b c o : Nat} {es es' : Array MapEntry} {k k' : Nat} (hb : w.heap[b]? = some (.map es k)) : (setBlock w b (.map es' k')).cell? ⟨c, o, none⟩ = w.cell? ⟨c, o, none⟩ := by
  unfold World.cell?
  by_cases h : c = b
  · subst h
    simp only [heap_setBlock_same hb, hb]
  · rw [heap_setBlock_other hb _ h]
theorem cell_turned {w w' : World} {b : Nat} (h : w.mapTurned w' b) (c o : Nat) : w'.cell? ⟨c, o, none⟩ = w.cell? ⟨c, o, none⟩ := by
  obtain ⟨es, k, es', k', hb, rfl⟩ := h
  exact cell_setBlock hb
theorem size_turned {w w' : World} {b : Nat} (h : w.mapTurned w' b) : w'.heap.size = w.heap.size := by
  obtain ⟨es, k, es', k', hb, rfl⟩ := h
  simp [setBlock]
theorem empty_of_size {q : ByteArray} (h : q.size = 0) : q = ⟨#[]⟩ := ByteArray.ext (Array.eq_empty_of_size_eq_zero h)
theorem nonempty_of_size {q : ByteArray} (h : 0 < q.size) : q.toList.isEmpty = false := by
  have hl : q.toList.length = q.size := by rw [ByteArray.toList_eq, Array.length_toList]; rfl
  cases hq : q.toList with
  | nil => rw [hq] at hl; simp at hl; omega
  | cons _ _ => rfl
set_option maxHeartbeats 2000000 in
set_option maxRecDepth 100000 in
theorem add_bad (sb mb : Nat) (L : List ByteArray) (i : Int) (q : ByteArray) (w : World) (h : StageAt w sb mb L) (hb : i < 0 ∨ (L.length : Int) ≤ i ∨ 512 < q.size ∨ q.size = 0 ∨ (i < (L.length : Int) - 1 ∧ q.size ≠ 512)) : Calls Try.prog 19 #[.pointer (some ⟨sb, 0, none⟩), .int .i64 i, .string q] w (AddP (addR L i q) sb mb w) := by
  have HST := Lib.hid h
  have HR := Lib.hid (show addR L i q = (L, false, 22) by unfold addR; rw [if_pos hb])
  obtain ⟨hs0, hs1, hM, hn1⟩ := h
  have h4 : L.length ≤ 4096 := hM.choose_spec.2.1
  have HS0 := Lib.hid hs0
  have HM := Lib.hid hM
  obtain ⟨n, hn⟩ : ∃ n, L.length = n := ⟨_, rfl⟩
  have HN := Lib.hid hn
  rw [hn] at hs0 HS0 hn1 h4
  have hn0 : ¬ (n : Int) = 0 := by omega
  clear hM
  rw [hn] at hb
  clear hn
  generalize addR L i q = r at *
  by_cases h1 : i < 0
  · clear hb
    go_enter Try.func19, Try.ntmps19
    go_wp2_with (go_at_call 35; (with_reducible refine (dead_live sb _ _ HS0.out hn0).mono ?_); rintro e1 w1 ⟨rfl, rfl⟩)
    go_ret2
    exact AddP.same HST.out false 22 HR.out rfl
  by_cases h2 : (n : Int) ≤ i
  · clear hb
    go_enter Try.func19, Try.ntmps19
    go_wp2_with (go_at_call 35; (with_reducible refine (dead_live sb _ _ HS0.out hn0).mono ?_); rintro e1 w1 ⟨rfl, rfl⟩)
    go_ret2
    exact AddP.same HST.out false 22 HR.out rfl
  by_cases h3 : (512 : Int) < (q.size : Int)
  · clear hb
    go_enter Try.func19, Try.ntmps19
    go_wp2_with (go_at_call 35; (with_reducible refine (dead_live sb _ _ HS0.out hn0).mono ?_); rintro e1 w1 ⟨rfl, rfl⟩)
    go_ret2
    exact AddP.same HST.out false 22 HR.out rfl
  by_cases h5 : q.size = 0
  · obtain rfl := empty_of_size h5
    clear hb h5
    go_enter Try.func19, Try.ntmps19
    go_wp2_with (go_at_call 35; (with_reducible refine (dead_live sb _ _ HS0.out hn0).mono ?_); rintro e1 w1 ⟨rfl, rfl⟩)
    go_ret2
    exact AddP.same HST.out false 22 HR.out rfl
  have h6 : i < (n : Int) - 1 := by omega
  have h7 : ¬ (q.size : Int) = 512 := by omega
  have hem := nonempty_of_size (show 0 < q.size by omega)
  have h7b : ((q.size : Int) != 512) = true := by simpa using h7
  clear hb h5 h7
  go_enter Try.func19, Try.ntmps19
  go_wp2_with (go_at_call 35; (with_reducible refine (dead_live sb _ _ HS0.out hn0).mono ?_); rintro e1 w1 ⟨rfl, rfl⟩)
  go_ret2
  exact AddP.same HST.out false 22 HR.out rfl
set_option maxHeartbeats 2000000 in
set_option maxRecDepth 100000 in
theorem add_good (sb mb : Nat) (L : List ByteArray) (i : Nat) (q : ByteArray) (w : World) (h : StageAt w sb mb L) (hi : i < L.length) (h512 : q.size ≤ 512) (hq0 : 0 < q.size) (hq : (i : Int) < (L.length : Int) - 1 → q.size = 512) : Calls Try.prog 19 #[.pointer (some ⟨sb, 0, none⟩), .int .i64 (i : Int), .string q] w (AddP (addR L (i : Int) q) sb mb w) := by
  have HST := Lib.hid h
  have HR := Lib.hid (show addR L (i : Int) q = if 0 < (L.getD i ByteArray.empty).size then (if L.getD i ByteArray.empty = q then (L, false, 0) else (L, false, 17)) else (L.set i q, true, 0) by
    unfold addR
    rw [if_neg (by omega), Int.toNat_natCast])
  obtain ⟨hs0, hs1, hM, hn1⟩ := h
  have h4 : L.length ≤ 4096 := hM.choose_spec.2.1
  have HS0 := Lib.hid hs0
  have HM := Lib.hid hM
  obtain ⟨n, hn⟩ : ∃ n, L.length = n := ⟨_, rfl⟩
  have HN := Lib.hid hn
  rw [hn] at hs0 HS0 hn1 h4
  have hn0 : ¬ (n : Int) = 0 := by omega
  clear hM
  rw [hn] at hi hq
  have hlk := map_look HM.out i (by omega)
  have HSTO := Lib.hid (fun h0 => map_store HM.out i (by omega) q h0 hq0 h512)
  clear hn
  generalize addR L (i : Int) q = r at *
  have h1 : ¬ (i : Int) < 0 := by omega
  have h2 : ¬ (n : Int) ≤ (i : Int) := by omega
  have h2' : (i : Int) < (n : Int) := by omega
  have h3 : ¬ (512 : Int) < (q.size : Int) := by omega
  have hem := nonempty_of_size hq0
  have hcs : (((i : Int) < (n : Int) - 1) ∧ ((q.size : Int) != 512) = false) ∨ ¬ ((i : Int) < (n : Int) - 1) := by
    by_cases hc : (i : Int) < (n : Int) - 1
    · left; refine ⟨hc, ?_⟩; rw [hq hc]; rfl
    · right; exact hc
  clear hq hq0 h512
  by_cases hz : 0 < (L.getD i ByteArray.empty).size
  · rw [decide_eq_true hz] at hlk
    by_cases he : L.getD i ByteArray.empty = q
    · have HF := Lib.hid (show r = (L, false, 0) by rw [HR.out, if_pos hz, if_pos he])
      rw [he] at hlk
      clear hz he
      rcases hcs with ⟨hc1, hc2⟩ | hc1
      all_goals
        go_enter Try.func19, Try.ntmps19
        go_wp2_with (go_at_call 35; (with_reducible refine (dead_live sb _ _ HS0.out hn0).mono ?_); rintro e1 w1 ⟨rfl, rfl⟩)
        go_ret2
        exact AddP.same HST.out false 0 HF.out rfl
    · have HF := Lib.hid (show r = (L, false, 17) by rw [HR.out, if_pos hz, if_neg he])
      have hne := toList_ne he
      generalize L.getD i ByteArray.empty = p at *
      have hq3 : (p.toList != q.toList) = true := by simpa using hne
      have hq4 : (p.toList == q.toList) = false := by simpa using hne
      clear hz he hne
      rcases hcs with ⟨hc1, hc2⟩ | hc1
      all_goals
        go_enter Try.func19, Try.ntmps19
        go_wp2_with (go_at_call 35; (with_reducible refine (dead_live sb _ _ HS0.out hn0).mono ?_); rintro e1 w1 ⟨rfl, rfl⟩)
        go_ret2
        exact AddP.same HST.out false 17 HF.out rfl
  · rw [decide_eq_false hz] at hlk
    have HF := Lib.hid (show r = (L.set i q, true, 0) by rw [HR.out, if_neg hz])
    obtain ⟨W', hst, hM2, htn⟩ := HSTO.out (by omega)
    have HM2 := Lib.hid hM2
    have HTN := Lib.hid htn
    have HS1 := Lib.hid hs1
    clear hz hM2 htn
    generalize L.getD i ByteArray.empty = p at *
    rcases hcs with ⟨hc1, hc2⟩ | hc1
    all_goals
      go_enter Try.func19, Try.ntmps19
      go_wp2_with (go_at_call 35; (with_reducible refine (dead_live sb _ _ HS0.out hn0).mono ?_); rintro e1 w1 ⟨rfl, rfl⟩)
      go_ret2
      have hcell := fun c o => cell_turned HTN.out c o
      exact ⟨by rw [HF.out]; rfl, by rw [HF.out]; exact ⟨by rw [hcell, List.length_set, HN.out]; exact HS0.out, by rw [hcell]; exact HS1.out, HM2.out, by rw [List.length_set, HN.out]; exact hn1⟩, HTN.out⟩
theorem add_live (sb mb : Nat) (L : List ByteArray) (i : Int) (q : ByteArray) (w : World) (h : StageAt w sb mb L) : Calls Try.prog 19 #[.pointer (some ⟨sb, 0, none⟩), .int .i64 i, .string q] w (AddP (addR L i q) sb mb w) := by
  by_cases hb : i < 0 ∨ (L.length : Int) ≤ i ∨ 512 < q.size ∨ q.size = 0 ∨ (i < (L.length : Int) - 1 ∧ q.size ≠ 512)
  · exact add_bad sb mb L i q w h hb
  · obtain ⟨k, rfl⟩ : ∃ k : Nat, i = (k : Int) := ⟨i.toNat, by omega⟩
    exact add_good sb mb L k q w h (by omega) (by omega) (by omega) (by omega)
end Go.Proofs.Ytelhclamoapnhaa
