/- Helper lemmas: are changes, are parts few enough to be gone through? No condition. -/
import Derived.Test.YtelhclamoapnhaaGB
import Derived.Test.YtelhclamoapnhaaPsmallx1
import Derived.Test.YtelhclamoapnhaaPsmallsx1
set_option linter.unusedSimpArgs false
set_option linter.unusedVariables false
namespace Go.Proofs.Ytelhclamoapnhaa
open Go.RowKit Go.Proofs.YtelhclamoapnhaaW.PrintWords

/-- A part that comes. -/
structure Pt where
  i : Int
  s : ByteArray
def noPt : Pt := ⟨0, ⟨#[]⟩⟩
/-- Parts that lie in a slice. -/
def PtsAt (w : World) (A : Option Addr) (x : List Pt) : Prop := ∀ i, i < x.length → ∃ b o : Nat, A = some ⟨b, o, none⟩ ∧ w.cell? ⟨b, o + i * 2, none⟩ = some (.int .i64 (x.getD i noPt).i) ∧ w.cell? ⟨b, o + i * 2 + 1, none⟩ = some (.string (x.getD i noPt).s)
theorem PtsAt.later {w w' : World} {A : Option Addr} {x : List Pt} (h : PtsAt w A x) (hb : Below w.heap.size w w') : PtsAt w' A x := fun i hi => by
  obtain ⟨b, o, e, h0, h1⟩ := h i hi
  exact ⟨b, o, e, by rw [hb.cell (p := ⟨b, o + i * 2, none⟩) (World.block_lt_of_cell? w _ h0)]; exact h0, by rw [hb.cell (p := ⟨b, o + i * 2 + 1, none⟩) (World.block_lt_of_cell? w _ h1)]; exact h1⟩
theorem addr_add2 (b o j : Nat) : (⟨b, o, none⟩ : Addr).add j = ⟨b, o + j, none⟩ := by unfold Addr.add; split <;> simp_all
def s53 (p : Pt) : Psmalls.S53 := ⟨p.i, p.s⟩
def s43 (c : Ch) : Psmall.S43 := ⟨c.key, c.val, c.gone⟩
theorem getD_at {α : Type} (l : List α) (z : α) {j : Nat} {p : α} (h : l[j]? = some p) : l.getD j z = p := by rw [List.getD_eq_getElem?_getD, h]; rfl
theorem C53 {w : World} {A : Option Addr} {x : List Pt} (h : PtsAt w A x) (hl : x.length ≤ 9223372036854775807) : Kd.C Psmalls.k53 w A (x.map s53).length (x.map s53) := by
  refine ⟨rfl, by rw [List.length_map]; exact hl, fun h0 => ?_⟩
  rw [List.length_map] at h0
  obtain ⟨b, o, rfl, _⟩ := h 0 h0
  refine ⟨_, rfl, fun j p hj => ⟨_, rfl, Psmalls.k53_mk w p, fun i u hu => ?_⟩⟩
  rw [List.getElem?_map, Option.map_eq_some_iff] at hj
  obtain ⟨q, hq, rfl⟩ := hj
  obtain ⟨hjl, _⟩ := List.getElem?_eq_some_iff.1 hq
  obtain ⟨b', o', e, c0, c1⟩ := h j hjl
  injection e with e
  injection e with e1 e2
  subst e1; subst e2
  rw [getD_at x noPt hq] at c0 c1
  rw [addr_add2]
  have hz : Psmalls.k53.sz = 2 := rfl
  rw [hz]
  match i, hu with
  | 0, hu => rw [← hu]; exact c0
  | 1, hu => rw [← hu]; exact c1
theorem C43 {w : World} {A : Option Addr} {x : List Ch} (h : ChsAt w A x) (hl : x.length ≤ 9223372036854775807) : Kd.C Psmall.k43 w A (x.map s43).length (x.map s43) := by
  refine ⟨rfl, by rw [List.length_map]; exact hl, fun h0 => ?_⟩
  rw [List.length_map] at h0
  obtain ⟨b, o, rfl, _⟩ := h 0 h0
  refine ⟨_, rfl, fun j p hj => ⟨_, rfl, Psmall.k43_mk w p, fun i u hu => ?_⟩⟩
  rw [List.getElem?_map, Option.map_eq_some_iff] at hj
  obtain ⟨q, hq, rfl⟩ := hj
  obtain ⟨hjl, _⟩ := List.getElem?_eq_some_iff.1 hq
  obtain ⟨b', o', e, c0, c1, c2⟩ := h j hjl
  injection e with e
  injection e with e1 e2
  subst e1; subst e2
  rw [getD_at x noCh hq] at c0 c1 c2
  rw [addr_add2]
  have hz : Psmall.k43.sz = 3 := rfl
  rw [hz]
  match i, hu with
  | 0, hu => rw [← hu]; exact c0
  | 1, hu => rw [← hu]; exact c1
  | 2, hu => rw [← hu]; exact c2
theorem mn_nat (n m : Nat) : mn (n : Int) (m : Int) = ((min n m : Nat) : Int) := by unfold mn; split <;> omega
theorem smalls_l (l : List Psmalls.S53) : ∀ (k i a : Nat), a ≤ 200000 → i ≤ 121 → 122 ≤ i + k → ∃ r, Psmalls.crannoglaw17_smalls.l0 k l (a : Int) (i : Int) = some r ∧ (r = true → l.length ≤ 120)
  | 0, i, a, _, _, _ => by omega
  | k + 1, i, a, ha, hi, hk => by
    unfold Psmalls.crannoglaw17_smalls.l0
    have hfin : ∃ r, (if (l.length : Int) ≤ 120 then some (decide ((a : Int) ≤ 65536)) else some false) = some r ∧ (r = true → l.length ≤ 120) := by
      split
      · exact ⟨_, rfl, fun _ => by omega⟩
      · exact ⟨_, rfl, fun e => by cases e⟩
    split
    · split
      · split
        · rw [if_pos (by omega)]
          have e1 : mn ((Psmalls.rd_T53 l (i : Int)).f1.size : Int) 16384 = ((min (Psmalls.rd_T53 l (i : Int)).f1.size 16384 : Nat) : Int) := mn_nat _ 16384
          have e2 : wrap64 ((a : Int) + mn ((Psmalls.rd_T53 l (i : Int)).f1.size : Int) 16384) = ((a + min (Psmalls.rd_T53 l (i : Int)).f1.size 16384 : Nat) : Int) := by rw [e1, wrap64_eq]; omega
          have e3 : wrap64 ((i : Int) + 1) = ((i + 1 : Nat) : Int) := by rw [wrap64_eq]; omega
          rw [e2, e3]
          exact smalls_l l k (i + 1) _ (by omega) (by omega) (by omega)
        · exact hfin
      · exact hfin
    · exact hfin
/-- What is asked whether parts are few. -/
theorem smalls_any (l : List Pt) : ∃ r : Bool, (r = true → l.length ≤ 120) ∧ ∀ (A : Option Addr) (c : Nat) (w : World), PtsAt w A l → l.length ≤ c → l.length ≤ 9223372036854775807 → Calls Try.prog 24 #[.slice A l.length c] w (Ret (.bool r) w) := by
  obtain ⟨r, hr, h⟩ := smalls_l (l.map s53) 122 0 0 (by omega) (by omega) (by omega)
  refine ⟨r, fun e => by have := h e; rwa [List.length_map] at this, fun A c w hA hc hl => ?_⟩
  have hC := C53 hA hl
  have := Psmalls.crannoglaw17_smalls.calls 122 A c (l.map s53) r w hC (by rw [List.length_map]; exact hc) hr
  rw [List.length_map] at this
  exact this.mono fun e w' ⟨he, hb⟩ => by subst he; exact Ret.mk rfl hb
/-- How many bytes, as small counts them, at most. -/
def chT (l : List Psmall.S43) : Nat := (l.map fun c => min c.f0.size 65535 + min c.f1.size 65535).sum
theorem chT_step (l : List Psmall.S43) (i : Nat) (h : i < l.length) : chT (l.take (i + 1)) = chT (l.take i) + (min (Psmall.rd_T43 l (i : Int)).f0.size 65535 + min (Psmall.rd_T43 l (i : Int)).f1.size 65535) := by
  unfold chT Psmall.rd_T43
  rw [List.take_succ_eq_append_getElem h, List.map_append, List.sum_append, Int.toNat_natCast, List.getD_eq_getElem?_getD, List.getElem?_eq_getElem h]
  simp
theorem wrap_one (i : Nat) (h : i ≤ 1000000) : wrap64 ((i : Int) + 1) = ((i + 1 : Nat) : Int) := by rw [wrap64_eq]; omega
theorem small_b (a x y : Nat) (h : a ≤ 16384) : a + (min x 16384 + min y 16384) ≤ 200000 := by omega
theorem small_w (a x y : Nat) (h : a ≤ 16384) : wrap64 ((a : Int) + (mn (x : Int) 16384 + mn (y : Int) 16384)) = ((a + (min x 16384 + min y 16384) : Nat) : Int) := by
  have e1 : mn (x : Int) 16384 = ((min x 16384 : Nat) : Int) := mn_nat _ 16384
  have e2 : mn (y : Int) 16384 = ((min y 16384 : Nat) : Int) := mn_nat _ 16384
  have hb := small_b a x y h
  rw [e1, e2, wrap64_eq]
  generalize min x 16384 = p at *
  generalize min y 16384 = q at *
  omega
theorem small_d (x : Nat) : min x 65535 ≤ 4 * min x 16384 := by omega
theorem small_c (s a x y : Nat) (h : s ≤ 4 * a) : s + (min x 65535 + min y 65535) ≤ 4 * (a + (min x 16384 + min y 16384)) := by
  have h1 := small_d x
  have h2 := small_d y
  generalize min x 16384 = p at *
  generalize min y 16384 = q at *
  generalize min x 65535 = p2 at *
  generalize min y 65535 = q2 at *
  omega
theorem small_l (l : List Psmall.S43) : ∀ (k i a : Nat), a ≤ 200000 → i ≤ 121 → 122 ≤ i + k → i ≤ l.length → chT (l.take i) ≤ 4 * a → ∃ r, Psmall.crannoglaw17_small.l0 k l (a : Int) (i : Int) = some r ∧ (r = true → l.length ≤ 120 ∧ chT l ≤ 65536)
  | 0, i, a, _, _, _, _, _ => by omega
  | k + 1, i, a, ha, hi, hk, hil, hc => by
    unfold Psmall.crannoglaw17_small.l0
    split
    · rename_i h1
      split
      · split
        · rename_i h2 h3
          rw [if_pos (by omega)]
          have h3' : a ≤ 16384 := by clear hc; omega
          have e3 : wrap64 ((i : Int) + 1) = ((i + 1 : Nat) : Int) := wrap_one i (by clear hc; omega)
          have hil2 : i < l.length := by clear hc; omega
          rw [small_w a _ _ h3', e3]
          refine small_l l k (i + 1) _ (small_b a _ _ h3') (by clear hc; omega) (by clear hc; omega) (by clear hc; omega) ?_
          rw [chT_step l i hil2]
          exact small_c _ a _ _ hc
        · rename_i h2 h3
          split
          · exact ⟨_, rfl, fun e => by simp at e; omega⟩
          · exact ⟨_, rfl, fun e => by cases e⟩
      · split
        · omega
        · exact ⟨_, rfl, fun e => by cases e⟩
    · rename_i h1
      split
      · rename_i h2
        refine ⟨_, rfl, fun e => ⟨by omega, ?_⟩⟩
        have e' : (a : Int) ≤ 16384 := by simpa using e
        rw [List.take_of_length_le (by omega)] at hc
        omega
      · exact ⟨_, rfl, fun e => by cases e⟩
theorem chT_eq (l : List Ch) : chT (l.map s43) = chTot l := by
  unfold chT chTot
  rw [List.map_map]
  rfl
/-- What is asked whether changes are few. -/
theorem small_any (l : List Ch) : ∃ r : Bool, (r = true → l.length ≤ 120 ∧ chTot l ≤ 65536) ∧ ∀ (A : Option Addr) (c : Nat) (w : World), ChsAt w A l → l.length ≤ c → l.length ≤ 9223372036854775807 → Calls Try.prog 9 #[.slice A l.length c] w (Ret (.bool r) w) := by
  obtain ⟨r, hr, h⟩ := small_l (l.map s43) 122 0 0 (by omega) (by omega) (by omega) (by omega) (by simp [chT])
  refine ⟨r, fun e => by have := h e; rwa [List.length_map, chT_eq] at this, fun A c w hA hc hl => ?_⟩
  have hC := C43 hA hl
  have := Psmall.crannoglaw17_small.calls 122 A c (l.map s43) r w hC (by rw [List.length_map]; exact hc) hr
  rw [List.length_map] at this
  exact this.mono fun e w' ⟨he, hb⟩ => by subst he; exact Ret.mk rfl hb
end Go.Proofs.Ytelhclamoapnhaa
