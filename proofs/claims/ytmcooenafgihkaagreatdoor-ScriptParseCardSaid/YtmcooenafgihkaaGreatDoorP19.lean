/- Helper lemmas: the example, by the program. No condition. -/
import Derived.Test.YtmcooenafgihkaaGreatDoorP18
import Derived.Test.YtmcooenafgihkaaGreatDoorS6
set_option linter.unusedSimpArgs false
set_option linter.unusedVariables false
namespace Go.Proofs.YtmcooenafgihkaaGreatDoor
open Go.RowKit

theorem ints_at {w : World} {B : Nat} {A : Option Addr} {m c : Nat} {l : List Int} (h : OwnI w B (.slice A m c) l) : IntsAt w A l ∧ l.length = m := by
  have h' := h
  unfold OwnI at h
  rw [ints_len] at h
  obtain ⟨_, ⟨h1, h2⟩ | ⟨g, cap, cur, h1, hb, h2, h3, h4, h5, h6⟩⟩ := h
  · injection h1 with e1 e2 e3
    subst e2
    have : l = [] := List.eq_nil_of_length_eq_zero h2
    subst this
    exact ⟨fun i hi => by simp at hi, rfl⟩
  · injection h1 with e1 e2 e3
    subst e1; subst e2
    refine ⟨fun i hi => ⟨g, 0, rfl, ?_⟩, rfl⟩
    have hu : (ints l)[i]? = some (.int .i64 (l.getD i 0)) := by
      unfold ints
      rw [List.getElem?_map, List.getElem?_eq_getElem hi, List.getD_eq_getElem?_getD, List.getElem?_eq_getElem hi]
      rfl
    have := World.ownsRow.cells h' (g := g) rfl i _ hu
    rw [addr_add] at this
    exact this
set_option maxHeartbeats 8000000 in
set_option maxRecDepth 100000 in
theorem awake_any (w : World) (hg : GlobM w) : Calls Tryz.prog 8 #[] w (fun e w' => e = .returned (.bool true) ∧ Below w.heap.size w w') := by
  have HL : Hid (Calls Tryz.prog 20 #[.string ⟨#[99, 97, 108, 108, 32, 48, 32, 118, 48, 32, 109, 107, 100, 105, 114, 32, 47, 97, 32, 52, 57, 51, 32, 48]⟩] w fun e w' => ∃ (A : Option Addr) (m c : Nat), e = .returned (.tuple #[.agg (stepCells awakeR (.slice A m c)), .int .i64 0]) ∧ Hid (Below w.heap.size w w' ∧ OwnI w' w.heap.size (.slice A m c) [])) := Lib.hid ((line_any ⟨#[99, 97, 108, 108, 32, 48, 32, 118, 48, 32, 109, 107, 100, 105, 114, 32, 47, 97, 32, 52, 57, 51, 32, 48]⟩ w hg).mono (by
    rw [show (⟨#[99, 97, 108, 108, 32, 48, 32, 118, 48, 32, 109, 107, 100, 105, 114, 32, 47, 97, 32, 52, 57, 51, 32, 48]⟩ : ByteArray).data.toList = [99, 97, 108, 108, 32, 48, 32, 118, 48, 32, 109, 107, 100, 105, 114, 32, 47, 97, 32, 52, 57, 51, 32, 48] from rfl, awake_line]
    rintro e w' (⟨s, v, h1, h2, h3, h4⟩ | ⟨h1, _⟩)
    · injection h1 with h1
      subst h1
      obtain ⟨A, m, c, rfl⟩ := own_sl h4
      exact ⟨A, m, c, h2, Lib.hid ⟨h3, h4⟩⟩
    · cases h1))
  have HT : Hid (∀ W A m c, Glob W → OwnI W w.heap.size (.slice A m c) [] → Calls Tryz.prog 28 #[.agg (stepCells awakeR (.slice A m c))] W fun e w' => e = .returned (.tuple #[.string ⟨#[99, 97, 108, 108, 32, 48, 32, 118, 48, 32, 109, 107, 100, 105, 114, 32, 47, 97, 32, 52, 57, 51, 32, 48]⟩, .int .i64 0]) ∧ Below W.heap.size W w') := Lib.hid fun W A m c hG hO => by
    obtain ⟨⟨h1, h2⟩, _, ws, h3, h4⟩ := line_ok awake_line
    obtain ⟨hi, hm⟩ := ints_at hO
    have h := script_text awakeR A m c W h1 h2 hm (by rw [← hm]; decide) hi hG
    unfold LineP lineV at h
    rw [h3] at h
    simp only [h4] at h
    exact h
  have HG0 := Lib.hid hg.glob
  have HW := Lib.hid (fun W => told_of_ret (word_any ⟨#[97, 32, 98]⟩ W (by decide)))
  rw [show wordL (⟨#[97, 32, 98]⟩ : ByteArray).data.toList = [97, 37, 50, 48, 98] by decide +kernel] at HW
  go_enter Tryz.func8, Tryz.ntmps8
  go_wp2_with (fail)
  refine HL.out.mono ?_
  rintro e1 w1 ⟨A, m, c, rfl, hh⟩
  obtain ⟨hb1, ho1⟩ := hh.out
  obtain ⟨w2, hst, hs2⟩ := row_store (w := w1.alloc (.cells stepZero 33)) (ty := 33) (cs := stepCells awakeR (.slice A m c)) (heap_alloc_new w1 _) (by kernel_rfl) rfl (by simp [Value.oneCell'])
  have hb2 : Below w1.heap.size w1 w2 := ⟨hs2.os, hs2.tape, hs2.output, by rw [hs2.size]; simp, fun j hj => (hs2.rest j (by omega)).trans (Lib.alloc_old w1 _ j hj)⟩
  have HB1 := Lib.hid hb1
  have HB2 := Lib.hid (below_tr hb1 hb2)
  have HO2 : Hid (OwnI w2 w.heap.size (.slice A m c) []) := Lib.hid (own_below ho1 hb2)
  have hld := (row_load (ty := 33) hs2.at' Tryz.underlying33 (by kernel_rfl)).2
  have HR2 := Lib.hid hs2.at'
  clear hh hb1 ho1 hs2 hb2
  go_wp2_with (first | (refine store_step 33 _ _ rfl rfl rfl rfl hst ?_) | (refine load_step 33 _ rfl rfl rfl hld ?_))
  refine (HT.out _ _ _ _ (HG0.out.later HB2.out) HO2.out).mono ?_
  rintro e3 w3 ⟨rfl, hb3⟩
  have hr3 := (hb3.block w1.heap.size (Array.getElem?_eq_some_iff.1 HR2.out).1).trans HR2.out
  have c6 := cell_at (i := 6) hr3 rfl
  have c10 := cell_at (i := 10) hr3 rfl
  have HB3 := Lib.hid (below_tr HB2.out hb3)
  clear hb3 hr3
  go_wp2_with (go_at_call 26; (with_reducible refine (HW.out _).mono ?_); rintro e4 w4 ⟨rfl, hb4⟩; have HB4 := Lib.hid (below_tr HB3.out hb4); clear hb4)
  go_ret
  exact ⟨rfl, HB4.out⟩
end Go.Proofs.YtmcooenafgihkaaGreatDoor
