/- Helper lemmas: words taken off a line, and the kind of a word, by the program. No condition. -/
import Derived.Test.YtmcooenafgihkaaGreatDoorP10
import Derived.Test.YtmcooenafgihkaaGreatDoorP11
set_option linter.unusedSimpArgs false
set_option linter.unusedVariables false
namespace Go.Proofs.YtmcooenafgihkaaGreatDoor
open Go.RowKit

/-- All but one block is as it was. -/
structure Kept (p : Nat) (w w' : World) : Prop where
  os : w'.os = w.os
  tape : w'.tape = w.tape
  output : w'.output = w.output
  size : w.heap.size ≤ w'.heap.size
  rest : ∀ k, k < w.heap.size → ¬ k = p → w'.heap[k]? = w.heap[k]?
theorem Kept.of_below {p : Nat} {w w' : World} (h : Below w.heap.size w w') : Kept p w w' := ⟨h.1, h.2, h.3, h.size, fun k hk _ => h.block k hk⟩
theorem Kept.trans {p : Nat} {a b c : World} (h : Kept p a b) (h2 : Kept p b c) : Kept p a c := ⟨h2.os.trans h.os, h2.tape.trans h.tape, h2.output.trans h.output, Nat.le_trans h.size h2.size, fun k hk hp => (h2.rest k (Nat.lt_of_lt_of_le hk h.size) hp).trans (h.rest k hk hp)⟩
theorem Kept.refl (p : Nat) (w : World) : Kept p w w := ⟨rfl, rfl, rfl, Nat.le_refl _, fun _ _ _ => rfl⟩
theorem Kept.set (p i : Nat) (w : World) (v : Value) : Kept p w (w.setCell ⟨p, i, none⟩ v) := ⟨rfl, rfl, rfl, by simp [World.setCell], fun k _ hp => heap_set_other w _ v k hp⟩
theorem Kept.cell {p : Nat} {w w' : World} (h : Kept p w w') {k i : Nat} {v : Value} (hp : ¬ k = p) (hc : w.cell? ⟨k, i, none⟩ = some v) : w'.cell? ⟨k, i, none⟩ = some v := by
  have hk := World.block_lt_of_cell? w _ hc
  unfold World.cell? at hc ⊢
  simp only at hc hk ⊢
  rw [h.rest k hk hp]; exact hc
/-- The library's variables that are read here. -/
def globNames : List String := ["strconv.ErrSyntax", "strconv.ErrRange", "internal/strconv.uint64pow10"]
/-- They lie in blocks that are not this one. -/
def GlobP (p : Nat) (w : World) : Prop := Glob w ∧ ∀ n, n ∈ globNames → ∀ g, Tryz.prog.globalNamed n = some g → ¬ g = p
theorem GlobP.glob {p : Nat} {w : World} (h : GlobP p w) : Glob w := h.1
theorem var_lt {w : World} {n : String} {x : Array Value} (h : w.var? Tryz.prog n = some x) {g : Nat} (hg : Tryz.prog.globalNamed n = some g) : g < w.heap.size := by
  unfold World.var? at h
  rw [hg] at h
  simp only [Option.bind_some] at h
  rcases Nat.lt_or_ge g w.heap.size with h' | h'
  · exact h'
  · rw [Array.getElem?_eq_none h'] at h; cases h
theorem GlobP.fresh {p : Nat} {w0 w : World} (h : Glob w0) (hp : w0.heap.size ≤ p) (h2 : Glob w) : GlobP p w := by
  refine ⟨h2, fun n hn g hg => ?_⟩
  obtain ⟨⟨t1, p1, h3⟩, ⟨t2, p2, h4⟩, h5⟩ := h
  unfold globNames at hn
  simp only [List.mem_cons, List.not_mem_nil, or_false] at hn
  have : g < w0.heap.size := by
    rcases hn with rfl | rfl | rfl
    · exact var_lt h3 hg
    · exact var_lt h4 hg
    · exact var_lt h5 hg
  omega
theorem var_kept {p : Nat} {w w' : World} {n : String} {x : Array Value} (h : w.var? Tryz.prog n = some x) (hk : Kept p w w') (hp : ∀ g, Tryz.prog.globalNamed n = some g → ¬ g = p) : w'.var? Tryz.prog n = some x := by
  unfold World.var? at h ⊢
  cases hg : Tryz.prog.globalNamed n with
  | none => rw [hg] at h; cases h
  | some g =>
    rw [hg] at h
    simp only [Option.bind_some] at h ⊢
    have hlt : g < w.heap.size := by
      rcases Nat.lt_or_ge g w.heap.size with h' | h'
      · exact h'
      · rw [Array.getElem?_eq_none h'] at h; cases h
    rw [hk.rest g hlt (hp g hg)]
    exact h
theorem GlobP.kept {p : Nat} {w w' : World} (h : GlobP p w) (hk : Kept p w w') : GlobP p w' := by
  obtain ⟨⟨⟨t1, p1, h1⟩, ⟨t2, p2, h2⟩, h3⟩, h4⟩ := h
  exact ⟨⟨⟨t1, p1, var_kept h1 hk (h4 _ (by simp [globNames]))⟩, ⟨t2, p2, var_kept h2 hk (h4 _ (by simp [globNames]))⟩, var_kept h3 hk (h4 _ (by simp [globNames]))⟩, h4⟩
/-- A reader's words: its block, and the words that it has still got. -/
def Rd (B p : Nat) (ws : List Bs) (w : World) : Prop := p < B ∧ ∃ (A : Option Addr) (c : Nat), w.heap[p]? = some (.cells #[.slice A ws.length c] 72 (0, 0)) ∧ ws.length ≤ c ∧ c ≤ 9223372036854775807 ∧ ∀ i, i < ws.length → ∃ b o : Nat, A = some ⟨b, o, none⟩ ∧ b < B ∧ ¬ b = p ∧ w.cell? ⟨b, o + i, none⟩ = some (str (ws.getD i []))
theorem Rd.same {B p : Nat} {ws : List Bs} {w w' : World} (h : Rd B p ws w) (hs : ∀ k, k < B → w'.heap[k]? = w.heap[k]?) : Rd B p ws w' := by
  obtain ⟨h1, A, c, h2, h3, h4, h5⟩ := h
  refine ⟨h1, A, c, (hs p h1).trans h2, h3, h4, fun i hi => ?_⟩
  obtain ⟨b, o, e, hb, hp, hc⟩ := h5 i hi
  refine ⟨b, o, e, hb, hp, ?_⟩
  unfold World.cell? at hc ⊢
  simp only at hc ⊢
  rw [hs b hb]; exact hc
theorem Rd.lt {B p : Nat} {ws : List Bs} {w : World} (h : Rd B p ws w) : p < w.heap.size := by
  obtain ⟨_, A, c, h2, _⟩ := h
  exact (Array.getElem?_eq_some_iff.1 h2).1
/-- A word was taken. -/
def NextP (B p : Nat) (t : Bs) (ws : List Bs) (w : World) (e : Ending) (w' : World) : Prop := e = .returned (str t) ∧ Kept p w w' ∧ w'.heap.size = w.heap.size ∧ Rd B p ws w'
set_option maxHeartbeats 8000000 in
set_option maxRecDepth 100000 in
theorem next_none (B p : Nat) (w : World) (h : Rd B p [] w) : Calls Tryz.prog 57 #[.pointer (some ⟨p, 0, none⟩)] w fun e w' => e = .panicked [refusal] ∧ Below w.heap.size w w' := by
  obtain ⟨h1, A, c, h2, h3, h4, h5⟩ := h
  have c0 : w.cell? ⟨p, 0, none⟩ = some (.slice A 0 c) := cell_at h2 rfl
  clear h2 h5 h1 h3 h4
  go_enter Tryz.func57, Tryz.ntmps57
  go_wp2_with (go_at_call 61; (with_reducible refine (need_no _).mono ?_); rintro e2 w2 ⟨rfl, j9, hw9⟩; have HB9 := Lib.hid (show Below _ _ w2 by rw [hw9]; exact w_ext_below _ _); clear hw9)
  exact ⟨rfl, rfl, HB9.out⟩
theorem cell_set_next {w : World} {p b o i : Nat} {v u : Value} (hb : ¬ b = p) (h : w.cell? ⟨b, o + 1 + i, none⟩ = some u) : (w.setCell ⟨p, 0, none⟩ v).cell? ⟨b, o + 1 + i, none⟩ = some u := (Kept.set p 0 w v).cell hb h
set_option maxHeartbeats 8000000 in
set_option maxRecDepth 100000 in
theorem next_some (B p : Nat) (t : Bs) (ws : List Bs) (w : World) (h : Rd B p (t :: ws) w) : Calls Tryz.prog 57 #[.pointer (some ⟨p, 0, none⟩)] w (NextP B p t ws w) := by
  obtain ⟨h1, A, c, h2, h3, h4, h5⟩ := h
  obtain ⟨b, o, rfl, hb, hp, hc⟩ := h5 0 (by simp)
  have hc0 : w.cell? ⟨b, o, none⟩ = some (str t) := hc
  obtain ⟨n, hn⟩ : ∃ n, ws.length = n := ⟨_, rfl⟩
  rw [List.length_cons, hn] at h2 h3
  obtain ⟨d, rfl⟩ : ∃ d, c = d + 1 := ⟨c - 1, by omega⟩
  have c0 : w.cell? ⟨p, 0, none⟩ = some (.slice (some ⟨b, o, none⟩) (n + 1) (d + 1)) := cell_at h2 rfl
  have f0 : w.frozen? ⟨p, 0, none⟩ = false := Lib.frozen_of_heap h2 0
  have HH : Hid (∀ i, i < n → w.cell? ⟨b, o + 1 + i, none⟩ = some (str (ws.getD i []))) := Lib.hid fun i hi => by
    obtain ⟨b', o', e, _, _, h⟩ := h5 (i + 1) (by simp; omega)
    injection e with e
    injection e with e1 e2
    subst e1; subst e2
    rw [show o + 1 + i = o + (i + 1) by omega]
    simpa using h
  have HP := Lib.hid (show p < B ∧ b < B ∧ ¬ b = p ∧ n ≤ d ∧ d + 1 ≤ 9223372036854775807 ∧ ws.length = n from ⟨h1, hb, hp, by omega, h4, hn⟩)
  have H2 := Lib.hid h2
  have g1 : (0 : Int) < (n : Int) + 1 := by omega
  have g1d : decide (0 < (n : Int) + 1) = true := decide_eq_true g1
  have g2 : (1 : Int) ≤ (n : Int) + 1 := by omega
  have g3 : (1 : Int) ≤ (d : Int) + 1 := by omega
  have g4 : (n : Int) + 1 ≤ (d : Int) + 1 := by omega
  clear h1 h2 h3 h4 h5 hb hp hc hn
  have key : ∀ v, (w.setCell ⟨p, 0, none⟩ v).heap[p]? = some (.cells #[v] 72 (0, 0)) := fun v => by
    simp only [World.setCell, Array.getElem?_modify, if_true, H2.out]
    rfl
  rcases Nat.eq_zero_or_pos d with h0 | h0
  · subst h0
    obtain ⟨q1, q2, q3, q4, q5, q6⟩ := HP.out
    obtain rfl : n = 0 := by omega
    clear q1 q2 q3 q4 q5 q6
    go_enter Tryz.func57, Tryz.ntmps57
    go_wp2_with (go_at_call 61; (with_reducible refine (need_yes _).mono ?_); rintro e2 w2 ⟨rfl, hw⟩; replace hw := hw.symm; subst hw)
    go_ret
    obtain ⟨q1, q2, q3, q4, q5, q6⟩ := HP.out
    obtain rfl := List.eq_nil_of_length_eq_zero q6
    exact ⟨rfl, Kept.set _ _ _ _, by simp [World.setCell], q1, _, _, key _, Nat.le_refl _, by decide, fun i hi => by simp at hi⟩
  · have hd : ¬ (d : Int) + 1 = 1 := by omega
    have hd2 : ¬ d = 0 := by omega
    have hd3 : ¬ (1 : Int) = (d : Int) + 1 := by omega
    clear h0
    go_enter Tryz.func57, Tryz.ntmps57
    go_wp2_with (go_at_call 61; (with_reducible refine (need_yes _).mono ?_); rintro e2 w2 ⟨rfl, hw⟩; replace hw := hw.symm; subst hw)
    go_ret
    obtain ⟨q1, q2, q3, q4, q5, q6⟩ := HP.out
    subst q6
    exact ⟨rfl, Kept.set _ _ _ _, by simp [World.setCell], q1, _, _, key _, q4, by omega, fun i hi => ⟨b, o + 1, rfl, q2, q3, cell_set_next q3 (HH.out i hi)⟩⟩
end Go.Proofs.YtmcooenafgihkaaGreatDoor
