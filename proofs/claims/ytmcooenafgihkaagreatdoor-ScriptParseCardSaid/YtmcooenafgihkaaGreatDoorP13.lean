/- Helper lemmas: the kind of a word, by the program. No condition. -/
import Derived.Test.YtmcooenafgihkaaGreatDoorP12
set_option linter.unusedSimpArgs false
set_option linter.unusedVariables false
namespace Go.Proofs.YtmcooenafgihkaaGreatDoor
open Go.RowKit

set_option maxHeartbeats 8000000 in
set_option maxRecDepth 100000 in
theorem clo_any (a b : Bs) (q : Nat) (t : Bs) (w : World) (hq : w.cell? ⟨q, 0, none⟩ = some (str t)) : Calls Tryz.prog 78 #[.agg #[str a, str b], .pointer (some ⟨q, 0, none⟩)] w (fun e w' => e = .returned (.bool (a == t)) ∧ Below w.heap.size w w') := by
  have lq := leB_of_cell hq
  obtain ⟨A, hA⟩ : ∃ A : ByteArray, A = ⟨a.toArray⟩ := ⟨_, rfl⟩
  obtain ⟨U, hU⟩ : ∃ U : ByteArray, U = ⟨t.toArray⟩ := ⟨_, rfl⟩
  have HE := Lib.hid (show (A.toList == U.toList) = (a == t) by rw [ByteArray.toList_eq, ByteArray.toList_eq, hA, hU])
  have hsa : str a = .string A := by rw [hA]
  have hst : str t = .string U := by rw [hU]
  rw [hsa]
  rw [hst] at hq
  clear hA hU hsa hst
  obtain ⟨v, hv⟩ : ∃ v, (a == t) = v := ⟨_, rfl⟩
  rw [hv] at HE ⊢
  have he := HE.out
  clear hv
  go_enter Tryz.func78, Tryz.ntmps78
  go_wp2
  go_ret
  exact ⟨rfl, Below.alloc (Below.refl _ _) (Nat.le_refl _) _⟩
/-- Where a word stands among forms. -/
def IdxP (l : List (Bs × Bs)) (t : Bs) (w : World) (e : Ending) (w' : World) : Prop := e = .returned (.int .i64 (match findF l t with | some i => (i : Int) | none => -1)) ∧ Below w.heap.size w w'
theorem findF_none {l : List (Bs × Bs)} {t : Bs} (h : ∀ j, j < l.length → ((l.getD j ([], [])).1 == t) = false) : findF l t = none := by
  unfold findF
  rw [List.findIdx?_eq_none_iff]
  intro x hx
  obtain ⟨j, hj, rfl⟩ := List.getElem_of_mem hx
  have := h j hj
  rwa [List.getD_eq_getElem?_getD, List.getElem?_eq_getElem hj] at this
theorem findF_hit {l : List (Bs × Bs)} {t : Bs} {i : Nat} (hi : i < l.length) (h : ∀ j, j < i → ((l.getD j ([], [])).1 == t) = false) (h2 : ((l.getD i ([], [])).1 == t) = true) : findF l t = some i := by
  unfold findF
  rw [List.findIdx?_eq_some_iff_getElem]
  refine ⟨hi, ?_, fun j hj => ?_⟩
  · rwa [List.getD_eq_getElem?_getD, List.getElem?_eq_getElem hi] at h2
  · have := h j hj
    rw [List.getD_eq_getElem?_getD, List.getElem?_eq_getElem (by omega)] at this
    simpa using this
set_option maxHeartbeats 8000000 in
set_option maxRecDepth 100000 in
theorem index_any (l : List (Bs × Bs)) (n : Nat) (b q : Nat) (t : Bs) (w : World) (hn : l.length = n) (hn2 : n ≤ 100) (hq : w.cell? ⟨q, 0, none⟩ = some (str t)) (hf : FormsAt w b l) : Calls Tryz.prog 77 #[.slice (some ⟨b, 0, none⟩) n n, .func (.func 78) #[] #[.pointer (some ⟨q, 0, none⟩)]] w (IdxP l t w) := by
  have HN := Lib.hid hn
  have HN2 := Lib.hid hn2
  have HQ := Lib.hid hq
  have HF := Lib.hid hf
  clear hn hn2 hq hf
  go_enter Tryz.func77, Tryz.ntmps77
  go_wp2
  go_loopw [8] (fun v8 wr => ∃ (i : Nat), i ≤ n ∧ v8 = .int .i64 (i : Int) ∧ Hid (Below w.heap.size w wr) ∧ Hid (∀ j, j < i → ((l.getD j ([], [])).1 == t) = false)) (fun i _ => ((n : Int) - intOf i).toNat)
  case atStart => exact ⟨0, Nat.zero_le _, rfl, Lib.hid (Below.refl _ _), Lib.hid fun j hj => by omega⟩
  case round =>
    obtain ⟨i, hi, rfl, HB, HJ⟩ := hrel
    by_cases hin : i < n
    · have hlt : (i : Int) < (n : Int) := by omega
      have hge : (0 : Int) ≤ (i : Int) := by omega
      have hnl : ¬ (i : Int) < 0 := by omega
      have hwr : wrap64 ((i : Int) + 1) = ((i + 1 : Nat) : Int) := by have := HN2.out; rw [wrap64_eq]; omega
      obtain ⟨hf1, hf2⟩ := HF.out.later HB.out i (by rw [HN.out]; exact hin)
      have HQ2 := Lib.hid ((HB.out.cell (p := ⟨q, 0, none⟩) (World.block_lt_of_cell? w _ HQ.out)).trans HQ.out)
      obtain ⟨x, hx⟩ : ∃ x, l.getD i ([], []) = x := ⟨_, rfl⟩
      rw [hx] at hf1 hf2
      have HX := Lib.hid hx
      clear hx
      obtain ⟨a, c⟩ := x
      cases hm : (a == t) with
      | true =>
        have HC := Lib.hid (clo_any a c q t wr HQ2.out)
        rw [hm] at HC
        have HR := Lib.hid (findF_hit (l := l) (t := t) (i := i) (by rw [HN.out]; exact hin) HJ.out (by rw [HX.out]; exact hm))
        clear hm
        go_wp2_with (go_at_call 78; (with_reducible refine HC.out.mono ?_); rintro e1 w1 ⟨rfl, hb1⟩; have HB1 := Lib.hid hb1; clear hb1)
        go_ret
        exact ⟨by rw [HR.out]; rfl, below_tr HB.out HB1.out⟩
      | false =>
        have HC := Lib.hid (clo_any a c q t wr HQ2.out)
        rw [hm] at HC
        have HM := Lib.hid hm
        clear hm
        go_wp2_with (go_at_call 78; (with_reducible refine HC.out.mono ?_); rintro e1 w1 ⟨rfl, hb1⟩; have HB1 := Lib.hid hb1; clear hb1)
        go_roundw
        case rel => exact ⟨i + 1, hin, by rw [hwr], Lib.hid (below_tr HB.out HB1.out), Lib.hid fun j hj => by
          rcases Nat.lt_or_ge j i with h | h
          · exact HJ.out j h
          · obtain rfl : j = i := by omega
            rw [HX.out]; exact HM.out⟩
        case measure => rw [intOf_lit, intOf_lit, hwr]; omega
    · have hnlt : ¬ (i : Int) < (n : Int) := by omega
      have HR := Lib.hid (findF_none (l := l) (t := t) (fun j hj => HJ.out j (by rw [HN.out] at hj; omega)))
      go_wp2
      go_ret
      exact ⟨by rw [HR.out]; rfl, HB.out⟩
/-- The call tells a kind, or throws. -/
def FindC (R : Option Nat) (w : World) (e : Ending) (w' : World) : Prop := (∃ i, R = some i ∧ e = .returned (.int .i64 ((i : Int) + 1)) ∧ Below w.heap.size w w') ∨ (R = none ∧ e = .panicked [refusal] ∧ Below w.heap.size w w')
set_option maxHeartbeats 8000000 in
set_option maxRecDepth 100000 in
theorem find_any (l : List (Bs × Bs)) (n : Nat) (b : Nat) (t : Bs) (w : World) (hn : l.length = n) (hn2 : n ≤ 100) (hf : FormsAt w b l) : Calls Tryz.prog 56 #[.slice (some ⟨b, 0, none⟩) n n, str t] w (FindC (findF l t) w) := by
  have HN := Lib.hid hn
  have HIX : Hid (Calls Tryz.prog 77 #[.slice (some ⟨b, 0, none⟩) n n, .func (.func 78) #[] #[.pointer (some ⟨w.heap.size, 0, none⟩)]] (w.alloc (.cells #[str t] 9)) (IdxP l t (w.alloc (.cells #[str t] 9)))) := Lib.hid (index_any l n b w.heap.size t _ hn hn2 (cell_at (heap_alloc_new w _) rfl) (hf.later ((Below.refl _ _).alloc (Nat.le_refl _) _)))
  have hmf : ∀ (fn : Fn) (first cap : Array Value) (w : World), (Instr.makeFunc fn first cap).run Tryz.prog w = .ok (.func fn first cap) w := fun _ _ _ _ => rfl
  obtain ⟨R, hR⟩ : ∃ R, findF l t = R := ⟨_, rfl⟩
  have HRL := Lib.hid (show ∀ i, R = some i → i < 100 from fun i h => by have := findF_lt (hR.trans h); omega)
  unfold IdxP at HIX
  rw [hR] at HIX ⊢
  clear hR hf hn hn2
  cases R with
  | none =>
    replace HIX : Hid (Calls Tryz.prog 77 #[.slice (some ⟨b, 0, none⟩) n n, .func (.func 78) #[] #[.pointer (some ⟨w.heap.size, 0, none⟩)]] (w.alloc (.cells #[str t] 9)) fun e w' => e = .returned (.int .i64 (-1)) ∧ Below (w.alloc (.cells #[str t] 9)).heap.size (w.alloc (.cells #[str t] 9)) w') := HIX
    go_enter Tryz.func56, Tryz.ntmps56
    go_wp2_with (first | (go_at_call 77; (with_reducible refine HIX.out.mono ?_); rintro e1 w1 ⟨rfl, hb1⟩; have HB1 := Lib.hid (below_tr (Below.alloc (Below.refl w.heap.size w) (Nat.le_refl _) _) hb1); clear hb1) | (go_at_call 61; (with_reducible refine (need_no _).mono ?_); rintro e2 w2 ⟨rfl, j9, hw9⟩; have HB9 := Lib.hid (show Below _ _ w2 by rw [hw9]; exact w_ext_below _ _); clear hw9))
    exact ⟨rfl, Or.inr ⟨rfl, rfl, below_tr HB1.out HB9.out⟩⟩
  | some i =>
    have h0 : (0 : Int) ≤ (i : Int) := by omega
    have hwr : wrap64 ((i : Int) + 1) = (i : Int) + 1 := by have := HRL.out i rfl; rw [wrap64_eq]; omega
    replace HIX : Hid (Calls Tryz.prog 77 #[.slice (some ⟨b, 0, none⟩) n n, .func (.func 78) #[] #[.pointer (some ⟨w.heap.size, 0, none⟩)]] (w.alloc (.cells #[str t] 9)) fun e w' => e = .returned (.int .i64 (i : Int)) ∧ Below (w.alloc (.cells #[str t] 9)).heap.size (w.alloc (.cells #[str t] 9)) w') := HIX
    go_enter Tryz.func56, Tryz.ntmps56
    go_wp2_with (first | (go_at_call 77; (with_reducible refine HIX.out.mono ?_); rintro e1 w1 ⟨rfl, hb1⟩; have HB1 := Lib.hid (below_tr (Below.alloc (Below.refl w.heap.size w) (Nat.le_refl _) _) hb1); clear hb1) | (go_at_call 61; (with_reducible refine (need_yes _).mono ?_); rintro e2 w2 ⟨rfl, hw⟩; replace hw := hw.symm; subst hw))
    go_ret
    exact Or.inl ⟨i, rfl, (by rw [hwr]; rfl), HB1.out⟩
end Go.Proofs.YtmcooenafgihkaaGreatDoor
