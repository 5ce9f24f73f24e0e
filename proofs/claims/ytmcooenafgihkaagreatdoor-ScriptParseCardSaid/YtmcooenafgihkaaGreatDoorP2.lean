/- Helper lemmas: a text as a word, by the program. No condition. -/
import Derived.Test.YtmcooenafgihkaaGreatDoorP1
set_option linter.unusedSimpArgs false
set_option linter.unusedVariables false
namespace Go.Proofs.YtmcooenafgihkaaGreatDoor
open Go.RowKit

theorem flat_take (l : List UInt8) (i : Nat) (h : i < l.length) : (l.take (i + 1)).flatMap wordC = (l.take i).flatMap wordC ++ wordC (l.getD i 0) := by
  rw [List.take_succ_eq_append_getElem h, List.flatMap_append, List.getD_eq_getElem?_getD, List.getElem?_eq_getElem h]
  simp
theorem and15 (c : UInt8) : Go.bits .and .u8 (c.toNat : Int) 15 = ((c.toNat % 16 : Nat) : Int) := by
  have h : ∀ n : Fin 256, Go.bits .and .u8 ((UInt8.ofNat n.val).toNat : Int) 15 = (((UInt8.ofNat n.val).toNat % 16 : Nat) : Int) := by decide +kernel
  have h2 := h ⟨c.toNat, c.toNat_lt⟩
  simpa using h2
theorem dig_at (a : Nat) (ha : a < 16) : ∀ h : a < (⟨#[48, 49, 50, 51, 52, 53, 54, 55, 56, 57, 97, 98, 99, 100, 101, 102]⟩ : ByteArray).size, (⟨#[48, 49, 50, 51, 52, 53, 54, 55, 56, 57, 97, 98, 99, 100, 101, 102]⟩ : ByteArray)[a]'h = hexd a := by
  have : a = 0 ∨ a = 1 ∨ a = 2 ∨ a = 3 ∨ a = 4 ∨ a = 5 ∨ a = 6 ∨ a = 7 ∨ a = 8 ∨ a = 9 ∨ a = 10 ∨ a = 11 ∨ a = 12 ∨ a = 13 ∨ a = 14 ∨ a = 15 := by omega
  rcases this with rfl | rfl | rfl | rfl | rfl | rfl | rfl | rfl | rfl | rfl | rfl | rfl | rfl | rfl | rfl | rfl <;> (intro h; rfl)
theorem flat_len (l : List UInt8) : (l.flatMap wordC).length ≤ 3 * l.length := by
  induction l with
  | nil => simp
  | cons c l ih =>
    rw [List.flatMap_cons, List.length_append, List.length_cons]
    have : (wordC c).length ≤ 3 := by unfold wordC; split <;> simp
    omega
set_option maxHeartbeats 8000000 in
set_option maxRecDepth 100000 in
theorem word_any (s : ByteArray) (w : World) (hs : s.size ≤ 30000000) : Calls Tryz.prog 26 #[.string s] w (Ret (.string ⟨(wordL s.data.toList).toArray⟩) w) := by
  by_cases h0 : s.size = 0
  · obtain rfl := empty_of_size h0
    go_enter Tryz.func26, Tryz.ntmps26
    go_wp2
    go_ret
    exact Ret.mk rfl (Below.refl _ _)
  obtain ⟨n, hn⟩ : ∃ n, s.size = n := ⟨_, rfl⟩
  have HN := Lib.hid (show s.data.toList.length = n by rw [Array.length_toList]; exact hn)
  have hne := nonempty_of_size (show 0 < s.size by omega)
  have HW := Lib.hid (show wordL s.data.toList = s.data.toList.flatMap wordC by
    unfold wordL
    rw [if_neg]
    intro e
    have := HN.out
    rw [e] at this
    simp at this
    omega)
  have HFL := Lib.hid (fun i => flat_len (s.data.toList.take i))
  have hs2 := hs
  rw [hn] at hs2
  clear h0 hs
  go_enter Tryz.func26, Tryz.ntmps26
  go_wp2
  go_loopw [4, 9] (fun v4 v9 wr => ∃ (i : Nat), i ≤ n ∧ v9 = .int .i64 (i : Int) ∧ Hid (Lib.IsBuilder 61 5 w.heap.size w.heap.size (Lib.byteCells ((s.data.toList.take i).flatMap wordC)) wr) ∧ Hid (Below w.heap.size w wr)) (fun _ i _ => ((n : Int) - intOf i).toNat)
  case atStart => exact ⟨0, Nat.zero_le _, rfl, Lib.hid (Lib.fresh_isBuilder 61 5 w), Lib.hid (Below.alloc (Below.refl _ _) (Nat.le_refl _) _)⟩
  case round =>
    obtain ⟨i, hi, rfl, HBU, HBW⟩ := hrel
    by_cases hin : i = n
    · subst hin
      have HBU2 : Hid (Lib.IsBuilder 61 5 w.heap.size w.heap.size (Lib.byteCells (wordL s.data.toList)) wr) := Lib.hid (by
        have h := HBU.out
        rw [List.take_of_length_le (by rw [HN.out]; exact Nat.le_refl _)] at h
        rw [HW.out]; exact h)
      clear HBU
      go_wp2_with (go_at_call 34; (with_reducible refine (Tryz.Builder_String_any _ _ (wordL s.data.toList) _ HBU2.out HBW.out.size).mono ?_); rintro e1 w3 ⟨rfl, hb3⟩; have HB3 := Lib.hid (HBW.out.trans hb3); clear hb3)
      go_ret
      exact Ret.mk rfl HB3.out
    · have hlt : (i : Int) < (n : Int) := by omega
      have hge : (0 : Int) ≤ (i : Int) := by omega
      have hnl : ¬ (i : Int) < 0 := by omega
      have hlt' : i < n := by omega
      have hwr : wrap64 ((i : Int) + 1) = ((i + 1 : Nat) : Int) := by rw [wrap64_eq]; omega
      have HFT := Lib.hid (flat_take s.data.toList i (by rw [HN.out]; omega))
      have HLEN := Lib.hid (show (Lib.byteCells ((s.data.toList.take i).flatMap wordC)).length ≤ 90000000 by
        have h1 := HFL.out i
        rw [Lib.byteCells_length]
        rw [List.length_take] at h1
        omega)
      have hidx : ∀ h : i < s.size, s[i]'h = s.data.toList.getD i 0 := fun h => by
        rw [List.getD_eq_getElem?_getD, List.getElem?_eq_getElem (by simpa using h)]
        simp [ByteArray.getElem_eq_getElem_data]
      generalize s.data.toList.getD i 0 = c at *
      have HC := Lib.hid (fun W => plain_any c W)
      cases hp : plainB c with
      | true =>
        rw [hp] at HC
        have HWC := Lib.hid (show wordC c = [c] by unfold wordC; rw [if_pos hp])
        clear hp
        go_wp2_with (first | (go_at_call 47; (with_reducible refine (HC.out _).mono ?_); rintro e1 w1 ⟨rfl, hw⟩; replace hw := hw.symm; subst hw) | (go_at_call 33; (with_reducible refine (wbyte_any _ _ _ (c.toNat : Int) _ HBU.out (Nat.le_trans HLEN.out (by decide)) HBW.out.size).mono ?_); rintro e2 w2 ⟨rfl, hbu, hbw⟩; have HBU2 := Lib.hid hbu; have HBW2 := Lib.hid (HBW.out.trans hbw); clear hbu hbw))
        go_roundw
        case rel => exact ⟨i + 1, by omega, by first | rfl | rw [hwr], Lib.hid (Or.inr (by rw [HFT.out, HWC.out, Lib.byteCells_append]; exact HBU2.out)), HBW2⟩
        case measure => first | (simp [intOf]; omega) | (rw [intOf_lit, intOf_lit, hwr]; omega)
      | false =>
        rw [hp] at HC
        have HWC := Lib.hid (show wordC c = [37] ++ ([hexd (c.toNat / 16)] ++ [hexd (c.toNat % 16)]) by unfold wordC; rw [if_neg (by rw [hp]; simp)]; rfl)
        clear hp
        have hx := c.toNat_lt
        obtain ⟨a, ha⟩ : ∃ a, c.toNat / 16 = a := ⟨_, rfl⟩
        obtain ⟨b, hb⟩ : ∃ b, c.toNat % 16 = b := ⟨_, rfl⟩
        have hbit : Go.bits .and .u8 (c.toNat : Int) 15 = (b : Int) := by rw [← hb]; exact and15 c
        rw [ha, hb] at HWC
        have hqa : (c.toNat : Int) / 16 = (a : Int) := by omega
        have ha16 : (a : Int) < 16 := by omega
        have hb16 : (b : Int) < 16 := by omega
        have ha0 : (0 : Int) ≤ (a : Int) := by omega
        have hb0 : (0 : Int) ≤ (b : Int) := by omega
        have hda := dig_at a (by omega)
        have hdb := dig_at b (by omega)
        clear ha hb
        generalize hexd a = ca at *
        generalize hexd b = cb at *
        go_wp2_with (first | (go_at_call 47; (with_reducible refine (HC.out _).mono ?_); rintro e1 w1 ⟨rfl, hw⟩; replace hw := hw.symm; subst hw) | (go_at_call 33; (with_reducible refine (wbyte_any _ _ _ 37 _ HBU.out (Nat.le_trans HLEN.out (by decide)) HBW.out.size).mono ?_); rintro e2 w2 ⟨rfl, hbu, hbw⟩; have HBU2 : Hid (Lib.IsBuilder 61 5 w.heap.size w.heap.size _ _) := Lib.hid (Or.inr hbu); have HBW2 := Lib.hid (HBW.out.trans hbw); clear hbu hbw) | (go_at_call 33; (with_reducible refine (wbyte_any _ _ _ (ca.toNat : Int) _ HBU2.out (by rw [List.length_append, List.length_singleton]; have := HLEN.out; omega) HBW2.out.size).mono ?_); rintro e3 w3 ⟨rfl, hbu, hbw⟩; have HBU3 : Hid (Lib.IsBuilder 61 5 w.heap.size w.heap.size _ _) := Lib.hid (Or.inr hbu); have HBW3 := Lib.hid (HBW2.out.trans hbw); clear hbu hbw) | (go_at_call 33; (with_reducible refine (wbyte_any _ _ _ (cb.toNat : Int) _ HBU3.out (by rw [List.length_append, List.length_append, List.length_singleton, List.length_singleton]; have := HLEN.out; omega) HBW3.out.size).mono ?_); rintro e4 w4 ⟨rfl, hbu, hbw⟩; have HBU4 : Hid (Lib.IsBuilder 61 5 w.heap.size w.heap.size _ _) := Lib.hid (Or.inr hbu); have HBW4 := Lib.hid (HBW3.out.trans hbw); clear hbu hbw))
        go_roundw
        case rel => exact ⟨i + 1, by omega, by first | rfl | rw [hwr], Lib.hid (by rw [HFT.out, HWC.out, Lib.byteCells_append, Lib.byteCells_append, Lib.byteCells_append, ← List.append_assoc, ← List.append_assoc]; exact HBU4.out), HBW4⟩
        case measure => first | (simp [intOf]; omega) | (rw [intOf_lit, intOf_lit, hwr]; omega)
end Go.Proofs.YtmcooenafgihkaaGreatDoor
