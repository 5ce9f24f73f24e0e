/- Helper lemmas: which bytes stand for themselves, by the reference. No condition. -/
import Derived.Test.YtmcooenafgihkaaGreatDoorP2
set_option linter.unusedSimpArgs false
set_option linter.unusedVariables false
namespace Go.Proofs.YtmcooenafgihkaaGreatDoor
open Go.RowKit

/-- A letter or a figure. -/
def alB (x : Int) : Bool := (decide (97 ≤ x) && decide (x ≤ 122)) || (decide (65 ≤ x) && decide (x ≤ 90)) || (decide (48 ≤ x) && decide (x ≤ 57))
theorem more_at (i : Nat) (hi : i < 9) : ∀ h : i < (⟨#[47, 46, 95, 45, 42, 63, 43, 58, 44]⟩ : ByteArray).size, (⟨#[47, 46, 95, 45, 42, 63, 43, 58, 44]⟩ : ByteArray)[i]'h = moreL.getD i 0 := by
  have : i = 0 ∨ i = 1 ∨ i = 2 ∨ i = 3 ∨ i = 4 ∨ i = 5 ∨ i = 6 ∨ i = 7 ∨ i = 8 := by omega
  rcases this with rfl | rfl | rfl | rfl | rfl | rfl | rfl | rfl | rfl <;> (intro h; rfl)
theorem more_take (i : Nat) (hi : i < 9) (c : UInt8) : (moreL.take (i + 1)).contains c = ((moreL.take i).contains c || (c == moreL.getD i 0)) := by
  have hl : i < moreL.length := hi
  rw [List.take_succ_eq_append_getElem hl, List.getD_eq_getElem?_getD, List.getElem?_eq_getElem hl, List.contains_eq_any_beq, List.contains_eq_any_beq, List.any_append]
  simp only [List.any_cons, List.any_nil, Bool.or_false, Option.getD_some]
set_option maxHeartbeats 8000000 in
set_option maxRecDepth 100000 in
theorem rplain_yes (c : UInt8) (x : Int) (w : World) (hx : (c.toNat : Int) = x) (HA : Hid (plainB c = true)) (h1 : (97 ≤ x ∧ x ≤ 122) ∨ (65 ≤ x ∧ x ≤ 90) ∨ (48 ≤ x ∧ x ≤ 57)) : Calls Tryz.prog 48 #[.int .u8 x] w (Tells (.bool (plainB c)) w) := by
  rw [HA.out]
  clear HA hx
  rcases h1 with ⟨h1, h2⟩ | ⟨h1, h2⟩ | ⟨h1, h2⟩
  · go_enter Tryz.func48, Tryz.ntmps48
    go_wp2
    go_ret
    exact ⟨rfl, rfl⟩
  · have h3 : ¬ 97 ≤ x := by omega
    go_enter Tryz.func48, Tryz.ntmps48
    go_wp2
    go_ret
    exact ⟨rfl, rfl⟩
  · have h3 : ¬ 97 ≤ x := by omega
    have h4 : ¬ 65 ≤ x := by omega
    go_enter Tryz.func48, Tryz.ntmps48
    go_wp2
    go_ret
    exact ⟨rfl, rfl⟩
set_option maxHeartbeats 8000000 in
set_option maxRecDepth 100000 in
theorem rplain_no (c : UInt8) (x : Int) (w : World) (HX : Hid ((c.toNat : Int) = x)) (HPL : Hid (plainB c = moreL.contains c)) (h1 : (x ≤ 47) ∨ (58 ≤ x ∧ x ≤ 64) ∨ (91 ≤ x ∧ x ≤ 96) ∨ 123 ≤ x) : Calls Tryz.prog 48 #[.int .u8 x] w (Tells (.bool (plainB c)) w) := by
  rcases h1 with h1 | h1 | h1 | h1
  · have fa : ¬ (97 : Int) ≤ x := by omega
    have fb : ¬ (65 : Int) ≤ x := by omega
    have fc : ¬ (48 : Int) ≤ x := by omega
    clear h1
    go_enter Tryz.func48, Tryz.ntmps48
    go_wp2
    go_loop [26] (fun v26 => ∃ (i : Nat), i ≤ 9 ∧ v26 = .int .i64 (i : Int) ∧ Hid ((moreL.take i).contains c = false)) (fun i => ((9 : Int) - intOf i).toNat)
    case atStart => exact ⟨0, Nat.zero_le _, rfl, Lib.hid rfl⟩
    case round =>
      obtain ⟨i, hi, rfl, HM⟩ := hrel
      by_cases hin : i < 9
      · have hlt : (i : Int) < 9 := by omega
        have hge : (0 : Int) ≤ (i : Int) := by omega
        have hnl : ¬ (i : Int) < 0 := by omega
        have hwr : wrap64 ((i : Int) + 1) = ((i + 1 : Nat) : Int) := by rw [wrap64_eq]; omega
        have hidx := more_at i hin
        have HT := Lib.hid (more_take i hin c)
        obtain ⟨d, hd⟩ : ∃ d, moreL.getD i 0 = d := ⟨_, rfl⟩
        rw [hd] at hidx HT
        have HDI := Lib.hid hd
        clear hd
        by_cases hcd : c = d
        · subst hcd
          have hq : ((c.toNat : Int) == x) = true := by simpa using HX.out
          have HY := Lib.hid (show plainB c = true by
            rw [plainB_eq c x HX.out]
            have hm : moreL.contains c = true := by
              rw [← List.take_append_drop (i + 1) moreL, List.contains_eq_any_beq, List.any_append, ← List.contains_eq_any_beq, HT.out]
              simp
            rw [hm]; simp)
          go_wp2
          go_ret
          exact ⟨by rw [HY.out]; rfl, rfl⟩
        · have hq : ((d.toNat : Int) == x) = false := by
            have := HX.out
            rw [beq_eq_false_iff_ne]
            intro e
            exact hcd (UInt8.toNat_inj.1 (by omega))
          have HM2 := Lib.hid (show (moreL.take (i + 1)).contains c = false by rw [HT.out, HM.out]; simp [hcd])
          go_wp2
          go_round
          case rel => exact ⟨i + 1, hin, (by first | rw [hwr] | rfl), HM2⟩
          case measure => rw [intOf_lit, intOf_lit]; omega
      · have hnlt : ¬ (i : Int) < 9 := by omega
        have HN := Lib.hid (show plainB c = false by
          rw [HPL.out, ← HM.out, List.take_of_length_le (by show moreL.length ≤ i; have : moreL.length = 9 := rfl; omega)])
        go_wp2
        go_ret
        exact ⟨by rw [HN.out]; rfl, rfl⟩
  · obtain ⟨h1, h2⟩ := h1
    have fa : ¬ (97 : Int) ≤ x := by omega
    have fb : ¬ (65 : Int) ≤ x := by omega
    have fc : (48 : Int) ≤ x := by omega
    have fd : ¬ x ≤ (57 : Int) := by omega
    clear h1 h2
    go_enter Tryz.func48, Tryz.ntmps48
    go_wp2
    go_loop [26] (fun v26 => ∃ (i : Nat), i ≤ 9 ∧ v26 = .int .i64 (i : Int) ∧ Hid ((moreL.take i).contains c = false)) (fun i => ((9 : Int) - intOf i).toNat)
    case atStart => exact ⟨0, Nat.zero_le _, rfl, Lib.hid rfl⟩
    case round =>
      obtain ⟨i, hi, rfl, HM⟩ := hrel
      by_cases hin : i < 9
      · have hlt : (i : Int) < 9 := by omega
        have hge : (0 : Int) ≤ (i : Int) := by omega
        have hnl : ¬ (i : Int) < 0 := by omega
        have hwr : wrap64 ((i : Int) + 1) = ((i + 1 : Nat) : Int) := by rw [wrap64_eq]; omega
        have hidx := more_at i hin
        have HT := Lib.hid (more_take i hin c)
        obtain ⟨d, hd⟩ : ∃ d, moreL.getD i 0 = d := ⟨_, rfl⟩
        rw [hd] at hidx HT
        have HDI := Lib.hid hd
        clear hd
        by_cases hcd : c = d
        · subst hcd
          have hq : ((c.toNat : Int) == x) = true := by simpa using HX.out
          have HY := Lib.hid (show plainB c = true by
            rw [plainB_eq c x HX.out]
            have hm : moreL.contains c = true := by
              rw [← List.take_append_drop (i + 1) moreL, List.contains_eq_any_beq, List.any_append, ← List.contains_eq_any_beq, HT.out]
              simp
            rw [hm]; simp)
          go_wp2
          go_ret
          exact ⟨by rw [HY.out]; rfl, rfl⟩
        · have hq : ((d.toNat : Int) == x) = false := by
            have := HX.out
            rw [beq_eq_false_iff_ne]
            intro e
            exact hcd (UInt8.toNat_inj.1 (by omega))
          have HM2 := Lib.hid (show (moreL.take (i + 1)).contains c = false by rw [HT.out, HM.out]; simp [hcd])
          go_wp2
          go_round
          case rel => exact ⟨i + 1, hin, (by first | rw [hwr] | rfl), HM2⟩
          case measure => rw [intOf_lit, intOf_lit]; omega
      · have hnlt : ¬ (i : Int) < 9 := by omega
        have HN := Lib.hid (show plainB c = false by
          rw [HPL.out, ← HM.out, List.take_of_length_le (by show moreL.length ≤ i; have : moreL.length = 9 := rfl; omega)])
        go_wp2
        go_ret
        exact ⟨by rw [HN.out]; rfl, rfl⟩
  · obtain ⟨h1, h2⟩ := h1
    have fa : ¬ (97 : Int) ≤ x := by omega
    have fb : (65 : Int) ≤ x := by omega
    have fb2 : ¬ x ≤ (90 : Int) := by omega
    have fc : (48 : Int) ≤ x := by omega
    have fd : ¬ x ≤ (57 : Int) := by omega
    clear h1 h2
    go_enter Tryz.func48, Tryz.ntmps48
    go_wp2
    go_loop [26] (fun v26 => ∃ (i : Nat), i ≤ 9 ∧ v26 = .int .i64 (i : Int) ∧ Hid ((moreL.take i).contains c = false)) (fun i => ((9 : Int) - intOf i).toNat)
    case atStart => exact ⟨0, Nat.zero_le _, rfl, Lib.hid rfl⟩
    case round =>
      obtain ⟨i, hi, rfl, HM⟩ := hrel
      by_cases hin : i < 9
      · have hlt : (i : Int) < 9 := by omega
        have hge : (0 : Int) ≤ (i : Int) := by omega
        have hnl : ¬ (i : Int) < 0 := by omega
        have hwr : wrap64 ((i : Int) + 1) = ((i + 1 : Nat) : Int) := by rw [wrap64_eq]; omega
        have hidx := more_at i hin
        have HT := Lib.hid (more_take i hin c)
        obtain ⟨d, hd⟩ : ∃ d, moreL.getD i 0 = d := ⟨_, rfl⟩
        rw [hd] at hidx HT
        have HDI := Lib.hid hd
        clear hd
        by_cases hcd : c = d
        · subst hcd
          have hq : ((c.toNat : Int) == x) = true := by simpa using HX.out
          have HY := Lib.hid (show plainB c = true by
            rw [plainB_eq c x HX.out]
            have hm : moreL.contains c = true := by
              rw [← List.take_append_drop (i + 1) moreL, List.contains_eq_any_beq, List.any_append, ← List.contains_eq_any_beq, HT.out]
              simp
            rw [hm]; simp)
          go_wp2
          go_ret
          exact ⟨by rw [HY.out]; rfl, rfl⟩
        · have hq : ((d.toNat : Int) == x) = false := by
            have := HX.out
            rw [beq_eq_false_iff_ne]
            intro e
            exact hcd (UInt8.toNat_inj.1 (by omega))
          have HM2 := Lib.hid (show (moreL.take (i + 1)).contains c = false by rw [HT.out, HM.out]; simp [hcd])
          go_wp2
          go_round
          case rel => exact ⟨i + 1, hin, (by first | rw [hwr] | rfl), HM2⟩
          case measure => rw [intOf_lit, intOf_lit]; omega
      · have hnlt : ¬ (i : Int) < 9 := by omega
        have HN := Lib.hid (show plainB c = false by
          rw [HPL.out, ← HM.out, List.take_of_length_le (by show moreL.length ≤ i; have : moreL.length = 9 := rfl; omega)])
        go_wp2
        go_ret
        exact ⟨by rw [HN.out]; rfl, rfl⟩
  · have fa : (97 : Int) ≤ x := by omega
    have fa2 : ¬ x ≤ (122 : Int) := by omega
    have fb : (65 : Int) ≤ x := by omega
    have fb2 : ¬ x ≤ (90 : Int) := by omega
    have fc : (48 : Int) ≤ x := by omega
    have fd : ¬ x ≤ (57 : Int) := by omega
    clear h1
    go_enter Tryz.func48, Tryz.ntmps48
    go_wp2
    go_loop [26] (fun v26 => ∃ (i : Nat), i ≤ 9 ∧ v26 = .int .i64 (i : Int) ∧ Hid ((moreL.take i).contains c = false)) (fun i => ((9 : Int) - intOf i).toNat)
    case atStart => exact ⟨0, Nat.zero_le _, rfl, Lib.hid rfl⟩
    case round =>
      obtain ⟨i, hi, rfl, HM⟩ := hrel
      by_cases hin : i < 9
      · have hlt : (i : Int) < 9 := by omega
        have hge : (0 : Int) ≤ (i : Int) := by omega
        have hnl : ¬ (i : Int) < 0 := by omega
        have hwr : wrap64 ((i : Int) + 1) = ((i + 1 : Nat) : Int) := by rw [wrap64_eq]; omega
        have hidx := more_at i hin
        have HT := Lib.hid (more_take i hin c)
        obtain ⟨d, hd⟩ : ∃ d, moreL.getD i 0 = d := ⟨_, rfl⟩
        rw [hd] at hidx HT
        have HDI := Lib.hid hd
        clear hd
        by_cases hcd : c = d
        · subst hcd
          have hq : ((c.toNat : Int) == x) = true := by simpa using HX.out
          have HY := Lib.hid (show plainB c = true by
            rw [plainB_eq c x HX.out]
            have hm : moreL.contains c = true := by
              rw [← List.take_append_drop (i + 1) moreL, List.contains_eq_any_beq, List.any_append, ← List.contains_eq_any_beq, HT.out]
              simp
            rw [hm]; simp)
          go_wp2
          go_ret
          exact ⟨by rw [HY.out]; rfl, rfl⟩
        · have hq : ((d.toNat : Int) == x) = false := by
            have := HX.out
            rw [beq_eq_false_iff_ne]
            intro e
            exact hcd (UInt8.toNat_inj.1 (by omega))
          have HM2 := Lib.hid (show (moreL.take (i + 1)).contains c = false by rw [HT.out, HM.out]; simp [hcd])
          go_wp2
          go_round
          case rel => exact ⟨i + 1, hin, (by first | rw [hwr] | rfl), HM2⟩
          case measure => rw [intOf_lit, intOf_lit]; omega
      · have hnlt : ¬ (i : Int) < 9 := by omega
        have HN := Lib.hid (show plainB c = false by
          rw [HPL.out, ← HM.out, List.take_of_length_le (by show moreL.length ≤ i; have : moreL.length = 9 := rfl; omega)])
        go_wp2
        go_ret
        exact ⟨by rw [HN.out]; rfl, rfl⟩
theorem rplain_any (c : UInt8) (w : World) : Calls Tryz.prog 48 #[.int .u8 (c.toNat : Int)] w (Tells (.bool (plainB c)) w) := by
  have e := plainB_eq c (c.toNat : Int) rfl
  obtain ⟨x, hx⟩ : ∃ x : Int, (c.toNat : Int) = x := ⟨_, rfl⟩
  rw [hx] at e ⊢
  by_cases h1 : (97 ≤ x ∧ x ≤ 122) ∨ (65 ≤ x ∧ x ≤ 90) ∨ (48 ≤ x ∧ x ≤ 57)
  · refine rplain_yes c x w hx (Lib.hid ?_) h1
    rw [e]
    rcases h1 with ⟨h1, h2⟩ | ⟨h1, h2⟩ | ⟨h1, h2⟩
    · rw [decide_eq_true h1, decide_eq_true h2]; simp
    · rw [decide_eq_true h1, decide_eq_true h2]; simp
    · rw [decide_eq_true h1, decide_eq_true h2]; simp
  · refine rplain_no c x w (Lib.hid hx) (Lib.hid ?_) (by have := c.toNat_lt; omega)
    rw [e]
    have g1 : (decide (97 ≤ x) && decide (x ≤ 122)) = false := by simp; omega
    have g2 : (decide (65 ≤ x) && decide (x ≤ 90)) = false := by simp; omega
    have g3 : (decide (48 ≤ x) && decide (x ≤ 57)) = false := by simp; omega
    rw [g1, g2, g3]; simp
end Go.Proofs.YtmcooenafgihkaaGreatDoor
