/- Helper lemmas: the step of a line, by the reference: lines that are wrong. No condition. -/
import Derived.Test.YtmcooenafgihkaaGreatDoorQ15
set_option linter.unusedSimpArgs false
set_option linter.unusedVariables false
namespace Go.Proofs.YtmcooenafgihkaaGreatDoor
open Go.RowKit

set_option maxHeartbeats 8000000 in
set_option maxRecDepth 100000 in
theorem rline_long (s : ByteArray) (w : World) (R : Option StepR) (hR : Hid (R = none)) (hl : 200 < (s.size : Int)) : Calls Tryz.prog 21 #[.string s] w (LineC R w) := by
  go_enter Tryz.func21, Tryz.ntmps21
  go_wp2
  have hx := heap_alloc_new w (.cells stepZero 33)
  have hv0 := cell_at (i := 0) hx rfl
  have hv1 := cell_at (i := 1) hx rfl
  have hv2 := cell_at (i := 2) hx rfl
  have hv3 := cell_at (i := 3) hx rfl
  have hv4 := cell_at (i := 4) hx rfl
  have hv5 := cell_at (i := 5) hx rfl
  have hv6 := cell_at (i := 6) hx rfl
  have hv7 := cell_at (i := 7) hx rfl
  have hv8 := cell_at (i := 8) hx rfl
  have hv9 := cell_at (i := 9) hx rfl
  have hv10 := cell_at (i := 10) hx rfl
  have hv11 := cell_at (i := 11) hx rfl
  have hv12 := cell_at (i := 12) hx rfl
  have HE := Lib.hid (show Below w.heap.size w (w.alloc (.cells stepZero 33)) from Below.alloc (Below.refl _ _) (Nat.le_refl _) _)
  exact bodyPost_ret (v := .tuple #[.agg (stepZero), .int .i64 205]) (by simp [results, Tryz.results21, go_sem, hv0, hv1, hv2, hv3, hv4, hv5, hv6, hv7, hv8, hv9, hv10, hv11, hv12]) rfl (LineC.no hR.out HE.out)
set_option maxHeartbeats 8000000 in
set_option maxRecDepth 100000 in
theorem rline_bad (s : ByteArray) (w : World) (R : Option StepR) (w0 : Bs) (ws : List Bs) (hl : ¬ 200 < (s.size : Int)) (HW : Hid (cutC 32 s.data.toList = w0 :: ws)) (HF : Hid (findF stepF w0 = none)) (HR : Hid (R = none)) : Calls Tryz.prog 21 #[.string s] w (LineC R w) := by
  have HSZ := Lib.hid (show s.size ≤ 200 by omega)
  have HLN := Lib.hid (show (w0 :: ws).length ≤ 201 by rw [← HW.out]; exact Nat.le_trans (cutC_many 32 _) (by rw [Array.length_toList]; exact Nat.succ_le_succ HSZ.out))
  have HWL := Lib.hid (fun t (ht : t ∈ w0 :: ws) => show t.length ≤ 200 by rw [← HW.out] at ht; exact Nat.le_trans (cutC_len 32 _ t ht) (by rw [Array.length_toList]; exact HSZ.out))
  have HWD := Lib.hid (fun W => rwords_any s W (by omega))
  rw [HW.out] at HWD
  obtain ⟨n, hn⟩ : ∃ n, ws.length = n := ⟨_, rfl⟩
  have hn1 : (w0 :: ws).length = n + 1 := by simp [hn]
  have hnb : n ≤ 200 := by have := HLN.out; omega
  have HN := Lib.hid hn
  go_enter Tryz.func21, Tryz.ntmps21
  go_wp2_with (fail)
  refine (HWD.out _).mono ?_
  rintro e1 w1 ⟨A, m, c, rfl, hb1, ho1⟩
  obtain ⟨g, cp, hv, hlc, hBg, hcells, hblk⟩ := own_block ho1 (by simp)
  rw [hn1] at hv hlc
  injection hv with e1 e2 e3
  subst e1; subst e2; subst e3
  have hs2 : SetRow w1.heap.size stepZero 33 (w1.alloc (.cells stepZero 33)) (w1.alloc (.cells stepZero 33)) := ⟨heap_alloc_new w1 _, fun _ _ => rfl, rfl, rfl, rfl, rfl⟩
  have HL2 := Lib.hid (Lst.start hb1 hcells hblk hs2)
  obtain ⟨q, hq⟩ : ∃ q, w1.heap.size = q := ⟨_, rfl⟩
  obtain ⟨d, rfl⟩ : ∃ d, c = d + 1 := ⟨c - 1, by omega⟩
  have g1 : (0 : Int) < (n : Int) + 1 := by omega
  have g1d : decide ((0 : Int) < (n : Int) + 1) = true := decide_eq_true g1
  have g2 : (1 : Int) ≤ (n : Int) + 1 := by omega
  have g3 : (1 : Int) ≤ (d : Int) + 1 := by omega
  have g4 : (n : Int) + 1 ≤ (d : Int) + 1 := by omega
  have HND := Lib.hid (show n ≤ d by omega)
  clear hb1 ho1 hBg hcells hblk hs2 HWD hn1 hn hlc
  go_wp2
  rw [hq] at HL2
  clear hq
  obtain ⟨o, ho⟩ : ∃ o : Option Nat, none = o := ⟨_, rfl⟩
  have HFO := Lib.hid (HF.out.trans ho)
  have HKD := Lib.hid (show seekK o 14 = 0 by rw [← ho]; rfl)
  have HSA : Hid (∀ W, Calls Tryz.prog 38 #[.int .i64 0] W fun e w' => e = .returned (.tuple #[.string ⟨#[]⟩, .string ⟨#[]⟩]) ∧ Below W.heap.size W w') := Lib.hid fun W => rstep_any 0 W
  clear ho
  go_loopw [27] (fun v27 wr => ∃ k : Nat, k ≤ 14 ∧ v27 = .int .i64 (k : Int) ∧ Hid (Lst w w.heap.size q g 0 (w0 :: ws) { zeroR with kind := seekK o k } (.slice none 0 0) wr)) (fun v27 _ => ((14 : Int) - intOf v27).toNat)
  case atStart => exact ⟨0, Nat.zero_le _, rfl, Lib.hid (by rw [seek_zero]; exact HL2.out)⟩
  case round =>
    obtain ⟨k, hk, rfl, HL⟩ := hrel
    by_cases hk14 : k < 14
    · have hlt : (k : Int) < 14 := by omega
      have hwr : wrap64 ((k : Int) + 1) = (k : Int) + 1 := by rw [wrap64_eq]; omega
      obtain ⟨a, ha⟩ : ∃ a : ByteArray, (⟨(stepK (k : Int)).1.toArray⟩ : ByteArray) = a := ⟨_, rfl⟩
      obtain ⟨b, hb⟩ : ∃ b : ByteArray, (⟨(stepK (k : Int)).2.toArray⟩ : ByteArray) = b := ⟨_, rfl⟩
      have HSK : Hid (∀ W, Calls Tryz.prog 38 #[.int .i64 (k : Int)] W fun e w' => e = .returned (.tuple #[.string a, .string b]) ∧ Below W.heap.size W w') := Lib.hid fun W => by
        rw [← ha, ← hb]
        exact rstep_any (k : Int) W
      obtain ⟨x, hx⟩ : ∃ x : ByteArray, (⟨w0.toArray⟩ : ByteArray) = x := ⟨_, rfl⟩
      go_wp2_with (fail)
      refine (HSK.out _).mono ?_
      rintro e3 w3 ⟨rfl, hb3⟩
      have HL3 := Lib.hid (HL.out.later hb3)
      have h0 : w3.cell? ⟨g, 0, none⟩ = some (.string x) := by
        rw [← hx]
        exact HL3.out.wds 0 (by simp)
      have lg := leB_of_cell h0
      clear hb3
      by_cases hq : (stepK (k : Int)).1 = w0
      · have hax : a = x := by rw [← ha, ← hx, hq]
        subst hax
        by_cases he : (stepK (k : Int)).1 = []
        · have HM := Lib.hid (seek_miss (o := o) (k := k) (fun i hi => step_miss hk14 (Or.inr he) i (HFO.out.trans hi)))
          rw [he] at ha
          have hae : a = ⟨#[]⟩ := ha.symm
          subst hae
          clear ha hb hx hq he
          go_wp2
          go_roundw
          case rel => exact ⟨k + 1, by omega, by first | exact cast1R _ | (rw [hwr]; exact cast1R _), Lib.hid (by rw [HM.out]; exact HL3.out)⟩
          case measure => first | (rw [intOf_lit, intOf_lit, hwr]; omega) | (rw [intOf_lit, intOf_lit]; omega)
        · obtain ⟨i, hi, hki⟩ := step_hit hk14 hq he
          have hoi := HFO.out.symm.trans hi
          have hae1 : a.toList.isEmpty = false := nonempty_of_size (by
            rw [← ha]
            exact List.length_pos_iff.2 he)
          have hae2 : (a.toList == []) = false := by cases hh : a.toList with
            | nil => rw [hh] at hae1; cases hae1
            | cons _ _ => rfl
          have HM := Lib.hid (show seekK o (k + 1) = (k : Int) by subst hki; exact seek_hit hoi)
          have f0 : w3.cell? ⟨q, 0, none⟩ = some (.int .i64 (seekK o k)) := cell_at HL3.out.box rfl
          have z0 : w3.frozen? ⟨q, 0, none⟩ = false := Lib.frozen_of_heap HL3.out.box 0
          have lq := leB_of_cell f0
          have HL4 := Lib.hid (HL3.out.set 0 (.int .i64 (k : Int)) { zeroR with kind := (k : Int) } (by rfl) rfl)
          clear ha hb hx hq he hi hki hoi
          go_wp2
          go_roundw
          case rel => exact ⟨k + 1, by omega, by first | exact cast1R _ | (rw [hwr]; exact cast1R _), Lib.hid (by rw [HM.out]; exact HL4.out)⟩
          case measure => first | (rw [intOf_lit, intOf_lit, hwr]; omega) | (rw [intOf_lit, intOf_lit]; omega)
      · have HM := Lib.hid (seek_miss (o := o) (k := k) (fun i hi => step_miss hk14 (Or.inl hq) i (HFO.out.trans hi)))
        have hax : (a.toList == x.toList) = false := by
          rw [beq_eq_false_iff_ne]
          refine toList_ne fun e => hq ?_
          rw [← ha, ← hx] at e
          injection e with e
          exact Array.toList_inj.2 e
        clear ha hb hx hq
        go_wp2
        go_roundw
        case rel => exact ⟨k + 1, by omega, by first | exact cast1R _ | (rw [hwr]; exact cast1R _), Lib.hid (by rw [HM.out]; exact HL3.out)⟩
        case measure => first | (rw [intOf_lit, intOf_lit, hwr]; omega) | (rw [intOf_lit, intOf_lit]; omega)
    · have hk15 : k = 14 := by omega
      subst hk15
      rw [HKD.out] at HL
      clear hk hk14
      have c0 : wr.cell? ⟨q, 0, none⟩ = some (.int .i64 0) := cell_at HL.out.box rfl
      have lq := leB_of_cell c0
      go_wp2_with (fail)
      refine (HSA.out _).mono ?_
      rintro e4 w4 ⟨rfl, hb4⟩
      have HL4 := Lib.hid (HL.out.later hb4)
      have d0 : w4.cell? ⟨q, 0, none⟩ = some (.int .i64 0) := cell_at HL4.out.box rfl
      have lq4 := leB_of_cell d0
      clear hb4 c0 lq HL
      rcases Nat.eq_zero_or_pos d with h0 | h0
      · subst h0
        obtain rfl : n = 0 := by have := HND.out; omega
        have rc0 : w4.cell? ⟨w.heap.size, 0, none⟩ = some (.int .i64 0) := cell_at HL4.out.res rfl
        have rz0 : w4.frozen? ⟨w.heap.size, 0, none⟩ = false := Lib.frozen_of_heap HL4.out.res 0
        have rs0 : w4.setCell ⟨w.heap.size, 0, none⟩ (.int .i64 0) = w4 := w_setCell_same rc0
        have rc1 : w4.cell? ⟨w.heap.size, 1, none⟩ = some (.int .i64 0) := cell_at HL4.out.res rfl
        have rz1 : w4.frozen? ⟨w.heap.size, 1, none⟩ = false := Lib.frozen_of_heap HL4.out.res 1
        have rs1 : w4.setCell ⟨w.heap.size, 1, none⟩ (.int .i64 0) = w4 := w_setCell_same rc1
        have rc2 : w4.cell? ⟨w.heap.size, 2, none⟩ = some (.string ⟨#[]⟩) := cell_at HL4.out.res rfl
        have rz2 : w4.frozen? ⟨w.heap.size, 2, none⟩ = false := Lib.frozen_of_heap HL4.out.res 2
        have rs2 : w4.setCell ⟨w.heap.size, 2, none⟩ (.string ⟨#[]⟩) = w4 := w_setCell_same rc2
        have rc3 : w4.cell? ⟨w.heap.size, 3, none⟩ = some (.string ⟨#[]⟩) := cell_at HL4.out.res rfl
        have rz3 : w4.frozen? ⟨w.heap.size, 3, none⟩ = false := Lib.frozen_of_heap HL4.out.res 3
        have rs3 : w4.setCell ⟨w.heap.size, 3, none⟩ (.string ⟨#[]⟩) = w4 := w_setCell_same rc3
        have rc4 : w4.cell? ⟨w.heap.size, 4, none⟩ = some (.int .i64 0) := cell_at HL4.out.res rfl
        have rz4 : w4.frozen? ⟨w.heap.size, 4, none⟩ = false := Lib.frozen_of_heap HL4.out.res 4
        have rs4 : w4.setCell ⟨w.heap.size, 4, none⟩ (.int .i64 0) = w4 := w_setCell_same rc4
        have rc5 : w4.cell? ⟨w.heap.size, 5, none⟩ = some (.slice none 0 0) := cell_at HL4.out.res rfl
        have rz5 : w4.frozen? ⟨w.heap.size, 5, none⟩ = false := Lib.frozen_of_heap HL4.out.res 5
        have rs5 : w4.setCell ⟨w.heap.size, 5, none⟩ (.slice none 0 0) = w4 := w_setCell_same rc5
        have rc6 : w4.cell? ⟨w.heap.size, 6, none⟩ = some (.int .i64 0) := cell_at HL4.out.res rfl
        have rz6 : w4.frozen? ⟨w.heap.size, 6, none⟩ = false := Lib.frozen_of_heap HL4.out.res 6
        have rs6 : w4.setCell ⟨w.heap.size, 6, none⟩ (.int .i64 0) = w4 := w_setCell_same rc6
        have rc7 : w4.cell? ⟨w.heap.size, 7, none⟩ = some (.string ⟨#[]⟩) := cell_at HL4.out.res rfl
        have rz7 : w4.frozen? ⟨w.heap.size, 7, none⟩ = false := Lib.frozen_of_heap HL4.out.res 7
        have rs7 : w4.setCell ⟨w.heap.size, 7, none⟩ (.string ⟨#[]⟩) = w4 := w_setCell_same rc7
        have rc8 : w4.cell? ⟨w.heap.size, 8, none⟩ = some (.string ⟨#[]⟩) := cell_at HL4.out.res rfl
        have rz8 : w4.frozen? ⟨w.heap.size, 8, none⟩ = false := Lib.frozen_of_heap HL4.out.res 8
        have rs8 : w4.setCell ⟨w.heap.size, 8, none⟩ (.string ⟨#[]⟩) = w4 := w_setCell_same rc8
        have rc9 : w4.cell? ⟨w.heap.size, 9, none⟩ = some (.int .i64 0) := cell_at HL4.out.res rfl
        have rz9 : w4.frozen? ⟨w.heap.size, 9, none⟩ = false := Lib.frozen_of_heap HL4.out.res 9
        have rs9 : w4.setCell ⟨w.heap.size, 9, none⟩ (.int .i64 0) = w4 := w_setCell_same rc9
        have rc10 : w4.cell? ⟨w.heap.size, 10, none⟩ = some (.int .i64 0) := cell_at HL4.out.res rfl
        have rz10 : w4.frozen? ⟨w.heap.size, 10, none⟩ = false := Lib.frozen_of_heap HL4.out.res 10
        have rs10 : w4.setCell ⟨w.heap.size, 10, none⟩ (.int .i64 0) = w4 := w_setCell_same rc10
        have rc11 : w4.cell? ⟨w.heap.size, 11, none⟩ = some (.string ⟨#[]⟩) := cell_at HL4.out.res rfl
        have rz11 : w4.frozen? ⟨w.heap.size, 11, none⟩ = false := Lib.frozen_of_heap HL4.out.res 11
        have rs11 : w4.setCell ⟨w.heap.size, 11, none⟩ (.string ⟨#[]⟩) = w4 := w_setCell_same rc11
        have rc12 : w4.cell? ⟨w.heap.size, 12, none⟩ = some (f64 0) := cell_at HL4.out.res rfl
        have rz12 : w4.frozen? ⟨w.heap.size, 12, none⟩ = false := Lib.frozen_of_heap HL4.out.res 12
        have rs12 : w4.setCell ⟨w.heap.size, 12, none⟩ (f64 0) = w4 := w_setCell_same rc12
        have lr := leB_of_cell rc0
        go_wp2
        exact bodyPost_ret (v := .tuple #[.agg (stepZero), .int .i64 205]) (by simp [results, Tryz.results21, go_sem, rc0, rc1, rc2, rc3, rc4, rc5, rc6, rc7, rc8, rc9, rc10, rc11, rc12]) rfl (LineC.no HR.out HL4.out.bel)
      · have hd1 : ¬ (d : Int) + 1 = 1 := by omega
        have hd2 : ¬ d = 0 := by omega
        have hd3 : ¬ (1 : Int) = (d : Int) + 1 := by omega
        clear h0
        have rc0 : w4.cell? ⟨w.heap.size, 0, none⟩ = some (.int .i64 0) := cell_at HL4.out.res rfl
        have rz0 : w4.frozen? ⟨w.heap.size, 0, none⟩ = false := Lib.frozen_of_heap HL4.out.res 0
        have rs0 : w4.setCell ⟨w.heap.size, 0, none⟩ (.int .i64 0) = w4 := w_setCell_same rc0
        have rc1 : w4.cell? ⟨w.heap.size, 1, none⟩ = some (.int .i64 0) := cell_at HL4.out.res rfl
        have rz1 : w4.frozen? ⟨w.heap.size, 1, none⟩ = false := Lib.frozen_of_heap HL4.out.res 1
        have rs1 : w4.setCell ⟨w.heap.size, 1, none⟩ (.int .i64 0) = w4 := w_setCell_same rc1
        have rc2 : w4.cell? ⟨w.heap.size, 2, none⟩ = some (.string ⟨#[]⟩) := cell_at HL4.out.res rfl
        have rz2 : w4.frozen? ⟨w.heap.size, 2, none⟩ = false := Lib.frozen_of_heap HL4.out.res 2
        have rs2 : w4.setCell ⟨w.heap.size, 2, none⟩ (.string ⟨#[]⟩) = w4 := w_setCell_same rc2
        have rc3 : w4.cell? ⟨w.heap.size, 3, none⟩ = some (.string ⟨#[]⟩) := cell_at HL4.out.res rfl
        have rz3 : w4.frozen? ⟨w.heap.size, 3, none⟩ = false := Lib.frozen_of_heap HL4.out.res 3
        have rs3 : w4.setCell ⟨w.heap.size, 3, none⟩ (.string ⟨#[]⟩) = w4 := w_setCell_same rc3
        have rc4 : w4.cell? ⟨w.heap.size, 4, none⟩ = some (.int .i64 0) := cell_at HL4.out.res rfl
        have rz4 : w4.frozen? ⟨w.heap.size, 4, none⟩ = false := Lib.frozen_of_heap HL4.out.res 4
        have rs4 : w4.setCell ⟨w.heap.size, 4, none⟩ (.int .i64 0) = w4 := w_setCell_same rc4
        have rc5 : w4.cell? ⟨w.heap.size, 5, none⟩ = some (.slice none 0 0) := cell_at HL4.out.res rfl
        have rz5 : w4.frozen? ⟨w.heap.size, 5, none⟩ = false := Lib.frozen_of_heap HL4.out.res 5
        have rs5 : w4.setCell ⟨w.heap.size, 5, none⟩ (.slice none 0 0) = w4 := w_setCell_same rc5
        have rc6 : w4.cell? ⟨w.heap.size, 6, none⟩ = some (.int .i64 0) := cell_at HL4.out.res rfl
        have rz6 : w4.frozen? ⟨w.heap.size, 6, none⟩ = false := Lib.frozen_of_heap HL4.out.res 6
        have rs6 : w4.setCell ⟨w.heap.size, 6, none⟩ (.int .i64 0) = w4 := w_setCell_same rc6
        have rc7 : w4.cell? ⟨w.heap.size, 7, none⟩ = some (.string ⟨#[]⟩) := cell_at HL4.out.res rfl
        have rz7 : w4.frozen? ⟨w.heap.size, 7, none⟩ = false := Lib.frozen_of_heap HL4.out.res 7
        have rs7 : w4.setCell ⟨w.heap.size, 7, none⟩ (.string ⟨#[]⟩) = w4 := w_setCell_same rc7
        have rc8 : w4.cell? ⟨w.heap.size, 8, none⟩ = some (.string ⟨#[]⟩) := cell_at HL4.out.res rfl
        have rz8 : w4.frozen? ⟨w.heap.size, 8, none⟩ = false := Lib.frozen_of_heap HL4.out.res 8
        have rs8 : w4.setCell ⟨w.heap.size, 8, none⟩ (.string ⟨#[]⟩) = w4 := w_setCell_same rc8
        have rc9 : w4.cell? ⟨w.heap.size, 9, none⟩ = some (.int .i64 0) := cell_at HL4.out.res rfl
        have rz9 : w4.frozen? ⟨w.heap.size, 9, none⟩ = false := Lib.frozen_of_heap HL4.out.res 9
        have rs9 : w4.setCell ⟨w.heap.size, 9, none⟩ (.int .i64 0) = w4 := w_setCell_same rc9
        have rc10 : w4.cell? ⟨w.heap.size, 10, none⟩ = some (.int .i64 0) := cell_at HL4.out.res rfl
        have rz10 : w4.frozen? ⟨w.heap.size, 10, none⟩ = false := Lib.frozen_of_heap HL4.out.res 10
        have rs10 : w4.setCell ⟨w.heap.size, 10, none⟩ (.int .i64 0) = w4 := w_setCell_same rc10
        have rc11 : w4.cell? ⟨w.heap.size, 11, none⟩ = some (.string ⟨#[]⟩) := cell_at HL4.out.res rfl
        have rz11 : w4.frozen? ⟨w.heap.size, 11, none⟩ = false := Lib.frozen_of_heap HL4.out.res 11
        have rs11 : w4.setCell ⟨w.heap.size, 11, none⟩ (.string ⟨#[]⟩) = w4 := w_setCell_same rc11
        have rc12 : w4.cell? ⟨w.heap.size, 12, none⟩ = some (f64 0) := cell_at HL4.out.res rfl
        have rz12 : w4.frozen? ⟨w.heap.size, 12, none⟩ = false := Lib.frozen_of_heap HL4.out.res 12
        have rs12 : w4.setCell ⟨w.heap.size, 12, none⟩ (f64 0) = w4 := w_setCell_same rc12
        have lr := leB_of_cell rc0
        go_wp2
        exact bodyPost_ret (v := .tuple #[.agg (stepZero), .int .i64 205]) (by simp [results, Tryz.results21, go_sem, rc0, rc1, rc2, rc3, rc4, rc5, rc6, rc7, rc8, rc9, rc10, rc11, rc12]) rfl (LineC.no HR.out HL4.out.bel)
end Go.Proofs.YtmcooenafgihkaaGreatDoor
