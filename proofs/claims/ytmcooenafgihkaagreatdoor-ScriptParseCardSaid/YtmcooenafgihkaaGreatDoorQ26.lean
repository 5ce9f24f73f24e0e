/- Helper lemmas: the step of a line with a call, by the reference. No condition. -/
import Derived.Test.YtmcooenafgihkaaGreatDoorQ16
import Derived.Test.YtmcooenafgihkaaGreatDoorK3
set_option linter.unusedSimpArgs false
set_option linter.unusedVariables false
namespace Go.Proofs.YtmcooenafgihkaaGreatDoor
open Go.RowKit

set_option maxHeartbeats 8000000 in
set_option maxRecDepth 100000 in
theorem rline_short (s : ByteArray) (w : World) (R : Option StepR) (w0 : Bs) (ws : List Bs) (hl : ¬ 200 < (s.size : Int)) (HW : Hid (cutC 32 s.data.toList = w0 :: ws)) (HS : Hid (¬ 2 < ws.length)) (HF : Hid (findF stepF w0 = some 0)) (HR : Hid (R = none)) : Calls Tryz.prog 21 #[.string s] w (LineC R w) := by
  have HSA : Hid (∀ W, Calls Tryz.prog 38 #[.int .i64 1] W fun e w' => e = .returned (.tuple #[.string ⟨#[99, 97, 108, 108]⟩, .string ⟨#[114, 118, 99]⟩]) ∧ Below W.heap.size W w') := Lib.hid fun W => rstep_any 1 W
  have HSZ := Lib.hid (show s.size ≤ 200 by omega)
  have HLN := Lib.hid (show (w0 :: ws).length ≤ 201 by rw [← HW.out]; exact Nat.le_trans (cutC_many 32 _) (by rw [Array.length_toList]; exact Nat.succ_le_succ HSZ.out))
  have HWL := Lib.hid (fun t (ht : t ∈ w0 :: ws) => show t.length ≤ 200 by rw [← HW.out] at ht; exact Nat.le_trans (cutC_len 32 _ t ht) (by rw [Array.length_toList]; exact HSZ.out))
  have HWD := Lib.hid (fun W => rwords_any s W (by omega))
  rw [HW.out] at HWD
  obtain ⟨n, hn⟩ : ∃ n, ws.length = n := ⟨_, rfl⟩
  have hn1 : (w0 :: ws).length = n + 1 := by simp [hn]
  have hnb : n ≤ 200 := by have := HLN.out; omega
  have HN := Lib.hid hn
  go_enter Tryz.func21, Tryz.ntmps21
  obtain ⟨QQ, hQQ⟩ : ∃ QQ, bodyPost Tryz.prog Tryz.f21 (LineC R w) = QQ := ⟨_, rfl⟩
  rw [hQQ]
  have HQQ := Lib.hid hQQ
  have HQP : Hid (∀ (c : List PanicEntry) (a : Act) (t : Tmp) (v : Value) (w' : World), QQ (.panic c) (a.put (some t) v) w' → QQ (.panic c) a w') := Lib.hid (by
    rw [← hQQ]
    intro c a t v w' h
    exact h)
  clear hQQ
  go_wp2_with (fail)
  refine (HWD.out _).mono ?_
  rintro e1 w1 ⟨A, m, c, rfl, hb1, ho1⟩
  obtain ⟨g, cp, hv, hlc, hBg, hcells, hblk⟩ := own_block ho1 (by simp)
  rw [hn1] at hv hlc
  injection hv with e1 e2 e3
  subst e1; subst e2; subst e3
  have hs2 : SetRow w1.heap.size stepZero 33 (w1.alloc (.cells stepZero 33)) (w1.alloc (.cells stepZero 33)) := ⟨heap_alloc_new w1 _, fun _ _ => rfl, rfl, rfl, rfl, rfl⟩
  have HL2 := Lib.hid (Lst.start hb1 hcells hblk hs2)
  obtain ⟨q, hq⟩ : ∃ q, w1.heap.size = q := ⟨_, rfl⟩
  obtain ⟨d, rfl⟩ : ∃ d, c = d + 1 := ⟨c - 1, by omega⟩
  have g1 : (0 : Int) < (n : Int) + 1 := by omega
  have g1d : decide ((0 : Int) < (n : Int) + 1) = true := decide_eq_true g1
  have g2 : (1 : Int) ≤ (n : Int) + 1 := by omega
  have g3 : (1 : Int) ≤ (d : Int) + 1 := by omega
  have g4 : (n : Int) + 1 ≤ (d : Int) + 1 := by omega
  have HND := Lib.hid (show n ≤ d by omega)
  clear hb1 ho1 hBg hcells hblk hs2 HWD hn1 hn hlc
  go_wp2
  rw [hq] at HL2
  clear hq
  have hn2 : ¬ (2 : Int) < (n : Int) := by have h1 := HS.out; rw [HN.out] at h1; omega
  obtain ⟨o, ho⟩ : ∃ o : Option Nat, some 0 = o := ⟨_, rfl⟩
  have HFO := Lib.hid (HF.out.trans ho)
  have HKD := Lib.hid (show seekK o 14 = 1 by rw [← ho]; rfl)
  clear ho
  go_loopw [27] (fun v27 wr => ∃ k : Nat, k ≤ 14 ∧ v27 = .int .i64 (k : Int) ∧ Hid (Lst w w.heap.size q g 0 (w0 :: ws) { zeroR with kind := seekK o k } (.slice none 0 0) wr)) (fun v27 _ => ((14 : Int) - intOf v27).toNat)
  case atStart => exact ⟨0, Nat.zero_le _, rfl, Lib.hid (by rw [seek_zero]; exact HL2.out)⟩
  case round =>
    obtain ⟨k, hk, rfl, HL⟩ := hrel
    by_cases hk14 : k < 14
    · have hlt : (k : Int) < 14 := by omega
      have hwr : wrap64 ((k : Int) + 1) = (k : Int) + 1 := by rw [wrap64_eq]; omega
      obtain ⟨a, ha⟩ : ∃ a : ByteArray, (⟨(stepK (k : Int)).1.toArray⟩ : ByteArray) = a := ⟨_, rfl⟩
      obtain ⟨b, hb⟩ : ∃ b : ByteArray, (⟨(stepK (k : Int)).2.toArray⟩ : ByteArray) = b := ⟨_, rfl⟩
      have HSK : Hid (∀ W, Calls Tryz.prog 38 #[.int .i64 (k : Int)] W fun e w' => e = .returned (.tuple #[.string a, .string b]) ∧ Below W.heap.size W w') := Lib.hid fun W => by
        rw [← ha, ← hb]
        exact rstep_any (k : Int) W
      obtain ⟨x, hx⟩ : ∃ x : ByteArray, (⟨w0.toArray⟩ : ByteArray) = x := ⟨_, rfl⟩
      go_wp2_with (fail)
      refine (HSK.out _).mono ?_
      rintro e3 w3 ⟨rfl, hb3⟩
      have HL3 := Lib.hid (HL.out.later hb3)
      have h0 : w3.cell? ⟨g, 0, none⟩ = some (.string x) := by
        rw [← hx]
        exact HL3.out.wds 0 (by simp)
      have lg := leB_of_cell h0
      clear hb3
      by_cases hq : (stepK (k : Int)).1 = w0
      · have hax : a = x := by rw [← ha, ← hx, hq]
        subst hax
        by_cases he : (stepK (k : Int)).1 = []
        · have HM := Lib.hid (seek_miss (o := o) (k := k) (fun i hi => step_miss hk14 (Or.inr he) i (HFO.out.trans hi)))
          rw [he] at ha
          have hae : a = ⟨#[]⟩ := ha.symm
          subst hae
          clear ha hb hx hq he
          go_wp2
          go_roundw
          case rel => exact ⟨k + 1, by omega, by first | exact cast1R _ | (rw [hwr]; exact cast1R _), Lib.hid (by rw [HM.out]; exact HL3.out)⟩
          case measure => first | (rw [intOf_lit, intOf_lit, hwr]; omega) | (rw [intOf_lit, intOf_lit]; omega)
        · obtain ⟨i, hi, hki⟩ := step_hit hk14 hq he
          have hoi := HFO.out.symm.trans hi
          have hae1 : a.toList.isEmpty = false := nonempty_of_size (by
            rw [← ha]
            exact List.length_pos_iff.2 he)
          have hae2 : (a.toList == []) = false := by cases hh : a.toList with
            | nil => rw [hh] at hae1; cases hae1
            | cons _ _ => rfl
          have HM := Lib.hid (show seekK o (k + 1) = (k : Int) by subst hki; exact seek_hit hoi)
          have f0 : w3.cell? ⟨q, 0, none⟩ = some (.int .i64 (seekK o k)) := cell_at HL3.out.box rfl
          have z0 : w3.frozen? ⟨q, 0, none⟩ = false := Lib.frozen_of_heap HL3.out.box 0
          have lq := leB_of_cell f0
          have HL4 := Lib.hid (HL3.out.set 0 (.int .i64 (k : Int)) { zeroR with kind := (k : Int) } (by rfl) rfl)
          clear ha hb hx hq he hi hki hoi
          go_wp2
          go_roundw
          case rel => exact ⟨k + 1, by omega, by first | exact cast1R _ | (rw [hwr]; exact cast1R _), Lib.hid (by rw [HM.out]; exact HL4.out)⟩
          case measure => first | (rw [intOf_lit, intOf_lit, hwr]; omega) | (rw [intOf_lit, intOf_lit]; omega)
      · have HM := Lib.hid (seek_miss (o := o) (k := k) (fun i hi => step_miss hk14 (Or.inl hq) i (HFO.out.trans hi)))
        have hax : (a.toList == x.toList) = false := by
          rw [beq_eq_false_iff_ne]
          refine toList_ne fun e => hq ?_
          rw [← ha, ← hx] at e
          injection e with e
          exact Array.toList_inj.2 e
        clear ha hb hx hq
        go_wp2
        go_roundw
        case rel => exact ⟨k + 1, by omega, by first | exact cast1R _ | (rw [hwr]; exact cast1R _), Lib.hid (by rw [HM.out]; exact HL3.out)⟩
        case measure => first | (rw [intOf_lit, intOf_lit, hwr]; omega) | (rw [intOf_lit, intOf_lit]; omega)
    · have hk15 : k = 14 := by omega
      subst hk15
      rw [HKD.out] at HL
      clear hk hk14
      have c0 : wr.cell? ⟨q, 0, none⟩ = some (.int .i64 1) := cell_at HL.out.box rfl
      have lq := leB_of_cell c0
      go_wp2_with (fail)
      refine (HSA.out _).mono ?_
      rintro e4 w4 ⟨rfl, hb4⟩
      have HL4 := Lib.hid (HL.out.later hb4)
      have d0 : w4.cell? ⟨q, 0, none⟩ = some (.int .i64 1) := cell_at HL4.out.box rfl
      have lq4 := leB_of_cell d0
      clear hb4 c0 lq HL
      have d6 : w4.cell? ⟨q, 6, none⟩ = some (.int .i64 0) := cell_at HL4.out.box rfl
      rcases Nat.eq_zero_or_pos d with h0 | h0
      · subst h0
        obtain rfl : n = 0 := by have := HND.out; omega
        have rc0 : w4.cell? ⟨w.heap.size, 0, none⟩ = some (.int .i64 0) := cell_at HL4.out.res rfl
        have rz0 : w4.frozen? ⟨w.heap.size, 0, none⟩ = false := Lib.frozen_of_heap HL4.out.res 0
        have rs0 : w4.setCell ⟨w.heap.size, 0, none⟩ (.int .i64 0) = w4 := w_setCell_same rc0
        have rc1 : w4.cell? ⟨w.heap.size, 1, none⟩ = some (.int .i64 0) := cell_at HL4.out.res rfl
        have rz1 : w4.frozen? ⟨w.heap.size, 1, none⟩ = false := Lib.frozen_of_heap HL4.out.res 1
        have rs1 : w4.setCell ⟨w.heap.size, 1, none⟩ (.int .i64 0) = w4 := w_setCell_same rc1
        have rc2 : w4.cell? ⟨w.heap.size, 2, none⟩ = some (.string ⟨#[]⟩) := cell_at HL4.out.res rfl
        have rz2 : w4.frozen? ⟨w.heap.size, 2, none⟩ = false := Lib.frozen_of_heap HL4.out.res 2
        have rs2 : w4.setCell ⟨w.heap.size, 2, none⟩ (.string ⟨#[]⟩) = w4 := w_setCell_same rc2
        have rc3 : w4.cell? ⟨w.heap.size, 3, none⟩ = some (.string ⟨#[]⟩) := cell_at HL4.out.res rfl
        have rz3 : w4.frozen? ⟨w.heap.size, 3, none⟩ = false := Lib.frozen_of_heap HL4.out.res 3
        have rs3 : w4.setCell ⟨w.heap.size, 3, none⟩ (.string ⟨#[]⟩) = w4 := w_setCell_same rc3
        have rc4 : w4.cell? ⟨w.heap.size, 4, none⟩ = some (.int .i64 0) := cell_at HL4.out.res rfl
        have rz4 : w4.frozen? ⟨w.heap.size, 4, none⟩ = false := Lib.frozen_of_heap HL4.out.res 4
        have rs4 : w4.setCell ⟨w.heap.size, 4, none⟩ (.int .i64 0) = w4 := w_setCell_same rc4
        have rc5 : w4.cell? ⟨w.heap.size, 5, none⟩ = some (.slice none 0 0) := cell_at HL4.out.res rfl
        have rz5 : w4.frozen? ⟨w.heap.size, 5, none⟩ = false := Lib.frozen_of_heap HL4.out.res 5
        have rs5 : w4.setCell ⟨w.heap.size, 5, none⟩ (.slice none 0 0) = w4 := w_setCell_same rc5
        have rc6 : w4.cell? ⟨w.heap.size, 6, none⟩ = some (.int .i64 0) := cell_at HL4.out.res rfl
        have rz6 : w4.frozen? ⟨w.heap.size, 6, none⟩ = false := Lib.frozen_of_heap HL4.out.res 6
        have rs6 : w4.setCell ⟨w.heap.size, 6, none⟩ (.int .i64 0) = w4 := w_setCell_same rc6
        have rc7 : w4.cell? ⟨w.heap.size, 7, none⟩ = some (.string ⟨#[]⟩) := cell_at HL4.out.res rfl
        have rz7 : w4.frozen? ⟨w.heap.size, 7, none⟩ = false := Lib.frozen_of_heap HL4.out.res 7
        have rs7 : w4.setCell ⟨w.heap.size, 7, none⟩ (.string ⟨#[]⟩) = w4 := w_setCell_same rc7
        have rc8 : w4.cell? ⟨w.heap.size, 8, none⟩ = some (.string ⟨#[]⟩) := cell_at HL4.out.res rfl
        have rz8 : w4.frozen? ⟨w.heap.size, 8, none⟩ = false := Lib.frozen_of_heap HL4.out.res 8
        have rs8 : w4.setCell ⟨w.heap.size, 8, none⟩ (.string ⟨#[]⟩) = w4 := w_setCell_same rc8
        have rc9 : w4.cell? ⟨w.heap.size, 9, none⟩ = some (.int .i64 0) := cell_at HL4.out.res rfl
        have rz9 : w4.frozen? ⟨w.heap.size, 9, none⟩ = false := Lib.frozen_of_heap HL4.out.res 9
        have rs9 : w4.setCell ⟨w.heap.size, 9, none⟩ (.int .i64 0) = w4 := w_setCell_same rc9
        have rc10 : w4.cell? ⟨w.heap.size, 10, none⟩ = some (.int .i64 0) := cell_at HL4.out.res rfl
        have rz10 : w4.frozen? ⟨w.heap.size, 10, none⟩ = false := Lib.frozen_of_heap HL4.out.res 10
        have rs10 : w4.setCell ⟨w.heap.size, 10, none⟩ (.int .i64 0) = w4 := w_setCell_same rc10
        have rc11 : w4.cell? ⟨w.heap.size, 11, none⟩ = some (.string ⟨#[]⟩) := cell_at HL4.out.res rfl
        have rz11 : w4.frozen? ⟨w.heap.size, 11, none⟩ = false := Lib.frozen_of_heap HL4.out.res 11
        have rs11 : w4.setCell ⟨w.heap.size, 11, none⟩ (.string ⟨#[]⟩) = w4 := w_setCell_same rc11
        have rc12 : w4.cell? ⟨w.heap.size, 12, none⟩ = some (f64 0) := cell_at HL4.out.res rfl
        have rz12 : w4.frozen? ⟨w.heap.size, 12, none⟩ = false := Lib.frozen_of_heap HL4.out.res 12
        have rs12 : w4.setCell ⟨w.heap.size, 12, none⟩ (f64 0) = w4 := w_setCell_same rc12
        have lr := leB_of_cell rc0
        go_wp2
        rw [← HQQ.out]; exact bodyPost_ret (v := .tuple #[.agg (stepZero), .int .i64 205]) (by simp [results, Tryz.results21, go_sem, rc0, rc1, rc2, rc3, rc4, rc5, rc6, rc7, rc8, rc9, rc10, rc11, rc12]) rfl (LineC.no HR.out HL4.out.bel)
      · have hd1 : ¬ (d : Int) + 1 = 1 := by omega
        have hd2 : ¬ d = 0 := by omega
        have hd3 : ¬ (1 : Int) = (d : Int) + 1 := by omega
        clear h0
        have rc0 : w4.cell? ⟨w.heap.size, 0, none⟩ = some (.int .i64 0) := cell_at HL4.out.res rfl
        have rz0 : w4.frozen? ⟨w.heap.size, 0, none⟩ = false := Lib.frozen_of_heap HL4.out.res 0
        have rs0 : w4.setCell ⟨w.heap.size, 0, none⟩ (.int .i64 0) = w4 := w_setCell_same rc0
        have rc1 : w4.cell? ⟨w.heap.size, 1, none⟩ = some (.int .i64 0) := cell_at HL4.out.res rfl
        have rz1 : w4.frozen? ⟨w.heap.size, 1, none⟩ = false := Lib.frozen_of_heap HL4.out.res 1
        have rs1 : w4.setCell ⟨w.heap.size, 1, none⟩ (.int .i64 0) = w4 := w_setCell_same rc1
        have rc2 : w4.cell? ⟨w.heap.size, 2, none⟩ = some (.string ⟨#[]⟩) := cell_at HL4.out.res rfl
        have rz2 : w4.frozen? ⟨w.heap.size, 2, none⟩ = false := Lib.frozen_of_heap HL4.out.res 2
        have rs2 : w4.setCell ⟨w.heap.size, 2, none⟩ (.string ⟨#[]⟩) = w4 := w_setCell_same rc2
        have rc3 : w4.cell? ⟨w.heap.size, 3, none⟩ = some (.string ⟨#[]⟩) := cell_at HL4.out.res rfl
        have rz3 : w4.frozen? ⟨w.heap.size, 3, none⟩ = false := Lib.frozen_of_heap HL4.out.res 3
        have rs3 : w4.setCell ⟨w.heap.size, 3, none⟩ (.string ⟨#[]⟩) = w4 := w_setCell_same rc3
        have rc4 : w4.cell? ⟨w.heap.size, 4, none⟩ = some (.int .i64 0) := cell_at HL4.out.res rfl
        have rz4 : w4.frozen? ⟨w.heap.size, 4, none⟩ = false := Lib.frozen_of_heap HL4.out.res 4
        have rs4 : w4.setCell ⟨w.heap.size, 4, none⟩ (.int .i64 0) = w4 := w_setCell_same rc4
        have rc5 : w4.cell? ⟨w.heap.size, 5, none⟩ = some (.slice none 0 0) := cell_at HL4.out.res rfl
        have rz5 : w4.frozen? ⟨w.heap.size, 5, none⟩ = false := Lib.frozen_of_heap HL4.out.res 5
        have rs5 : w4.setCell ⟨w.heap.size, 5, none⟩ (.slice none 0 0) = w4 := w_setCell_same rc5
        have rc6 : w4.cell? ⟨w.heap.size, 6, none⟩ = some (.int .i64 0) := cell_at HL4.out.res rfl
        have rz6 : w4.frozen? ⟨w.heap.size, 6, none⟩ = false := Lib.frozen_of_heap HL4.out.res 6
        have rs6 : w4.setCell ⟨w.heap.size, 6, none⟩ (.int .i64 0) = w4 := w_setCell_same rc6
        have rc7 : w4.cell? ⟨w.heap.size, 7, none⟩ = some (.string ⟨#[]⟩) := cell_at HL4.out.res rfl
        have rz7 : w4.frozen? ⟨w.heap.size, 7, none⟩ = false := Lib.frozen_of_heap HL4.out.res 7
        have rs7 : w4.setCell ⟨w.heap.size, 7, none⟩ (.string ⟨#[]⟩) = w4 := w_setCell_same rc7
        have rc8 : w4.cell? ⟨w.heap.size, 8, none⟩ = some (.string ⟨#[]⟩) := cell_at HL4.out.res rfl
        have rz8 : w4.frozen? ⟨w.heap.size, 8, none⟩ = false := Lib.frozen_of_heap HL4.out.res 8
        have rs8 : w4.setCell ⟨w.heap.size, 8, none⟩ (.string ⟨#[]⟩) = w4 := w_setCell_same rc8
        have rc9 : w4.cell? ⟨w.heap.size, 9, none⟩ = some (.int .i64 0) := cell_at HL4.out.res rfl
        have rz9 : w4.frozen? ⟨w.heap.size, 9, none⟩ = false := Lib.frozen_of_heap HL4.out.res 9
        have rs9 : w4.setCell ⟨w.heap.size, 9, none⟩ (.int .i64 0) = w4 := w_setCell_same rc9
        have rc10 : w4.cell? ⟨w.heap.size, 10, none⟩ = some (.int .i64 0) := cell_at HL4.out.res rfl
        have rz10 : w4.frozen? ⟨w.heap.size, 10, none⟩ = false := Lib.frozen_of_heap HL4.out.res 10
        have rs10 : w4.setCell ⟨w.heap.size, 10, none⟩ (.int .i64 0) = w4 := w_setCell_same rc10
        have rc11 : w4.cell? ⟨w.heap.size, 11, none⟩ = some (.string ⟨#[]⟩) := cell_at HL4.out.res rfl
        have rz11 : w4.frozen? ⟨w.heap.size, 11, none⟩ = false := Lib.frozen_of_heap HL4.out.res 11
        have rs11 : w4.setCell ⟨w.heap.size, 11, none⟩ (.string ⟨#[]⟩) = w4 := w_setCell_same rc11
        have rc12 : w4.cell? ⟨w.heap.size, 12, none⟩ = some (f64 0) := cell_at HL4.out.res rfl
        have rz12 : w4.frozen? ⟨w.heap.size, 12, none⟩ = false := Lib.frozen_of_heap HL4.out.res 12
        have rs12 : w4.setCell ⟨w.heap.size, 12, none⟩ (f64 0) = w4 := w_setCell_same rc12
        have lr := leB_of_cell rc0
        go_wp2
        rw [← HQQ.out]; exact bodyPost_ret (v := .tuple #[.agg (stepZero), .int .i64 205]) (by simp [results, Tryz.results21, go_sem, rc0, rc1, rc2, rc3, rc4, rc5, rc6, rc7, rc8, rc9, rc10, rc11, rc12]) rfl (LineC.no HR.out HL4.out.bel)
set_option maxHeartbeats 8000000 in
set_option maxRecDepth 100000 in
theorem rline_call (s : ByteArray) (w : World) (R : Option StepR) (w0 : Bs) (ws : List Bs) (hl : ¬ 200 < (s.size : Int)) (HW : Hid (cutC 32 s.data.toList = w0 :: ws)) (r1 v1 cw : Bs) (rest : List Bs) (HWS : Hid (ws = r1 :: v1 :: cw :: rest)) (o2 : Option Nat) (HFO2 : Hid (findF callF cw = o2)) (ck : Int) (HKD2 : Hid (seekK o2 20 = ck)) (more fw2 : ByteArray) (HCA : Hid (∀ W, Calls Tryz.prog 39 #[.int .i64 ck] W fun e w' => e = .returned (.tuple #[.string fw2, .string more]) ∧ Below W.heap.size W w')) (HMZ : Hid (more.size ≤ 10)) (HCS : Hid ((ck = 0 ∧ R = none) ∨ (¬ ck = 0 ∧ ∃ cs : Bs, R = runR cs { zeroR with kind := 1, ck := ck } (r1 :: v1 :: rest) ∧ (⟨#[114, 118]⟩ : ByteArray) ++ more = ⟨cs.toArray⟩ ∧ ∀ c ∈ cs, LetR c))) (HF : Hid (findF stepF w0 = some 0)) : Calls Tryz.prog 21 #[.string s] w (LineC R w) := by
  have HSA : Hid (∀ W, Calls Tryz.prog 38 #[.int .i64 1] W fun e w' => e = .returned (.tuple #[.string ⟨#[99, 97, 108, 108]⟩, .string ⟨#[114, 118, 99]⟩]) ∧ Below W.heap.size W w') := Lib.hid fun W => rstep_any 1 W
  have HSZ := Lib.hid (show s.size ≤ 200 by omega)
  have HLN := Lib.hid (show (w0 :: ws).length ≤ 201 by rw [← HW.out]; exact Nat.le_trans (cutC_many 32 _) (by rw [Array.length_toList]; exact Nat.succ_le_succ HSZ.out))
  have HWL := Lib.hid (fun t (ht : t ∈ w0 :: ws) => show t.length ≤ 200 by rw [← HW.out] at ht; exact Nat.le_trans (cutC_len 32 _ t ht) (by rw [Array.length_toList]; exact HSZ.out))
  have HWD := Lib.hid (fun W => rwords_any s W (by omega))
  rw [HW.out] at HWD
  obtain ⟨n, hn⟩ : ∃ n, ws.length = n := ⟨_, rfl⟩
  have hn1 : (w0 :: ws).length = n + 1 := by simp [hn]
  have hnb : n ≤ 200 := by have := HLN.out; omega
  have HN := Lib.hid hn
  go_enter Tryz.func21, Tryz.ntmps21
  obtain ⟨QQ, hQQ⟩ : ∃ QQ, bodyPost Tryz.prog Tryz.f21 (LineC R w) = QQ := ⟨_, rfl⟩
  rw [hQQ]
  have HQQ := Lib.hid hQQ
  have HQP : Hid (∀ (c : List PanicEntry) (a : Act) (t : Tmp) (v : Value) (w' : World), QQ (.panic c) (a.put (some t) v) w' → QQ (.panic c) a w') := Lib.hid (by
    rw [← hQQ]
    intro c a t v w' h
    exact h)
  clear hQQ
  go_wp2_with (fail)
  refine (HWD.out _).mono ?_
  rintro e1 w1 ⟨A, m, c, rfl, hb1, ho1⟩
  obtain ⟨g, cp, hv, hlc, hBg, hcells, hblk⟩ := own_block ho1 (by simp)
  rw [hn1] at hv hlc
  injection hv with e1 e2 e3
  subst e1; subst e2; subst e3
  have hs2 : SetRow w1.heap.size stepZero 33 (w1.alloc (.cells stepZero 33)) (w1.alloc (.cells stepZero 33)) := ⟨heap_alloc_new w1 _, fun _ _ => rfl, rfl, rfl, rfl, rfl⟩
  have HL2 := Lib.hid (Lst.start hb1 hcells hblk hs2)
  obtain ⟨q, hq⟩ : ∃ q, w1.heap.size = q := ⟨_, rfl⟩
  obtain ⟨d, rfl⟩ : ∃ d, c = d + 1 := ⟨c - 1, by omega⟩
  have g1 : (0 : Int) < (n : Int) + 1 := by omega
  have g1d : decide ((0 : Int) < (n : Int) + 1) = true := decide_eq_true g1
  have g2 : (1 : Int) ≤ (n : Int) + 1 := by omega
  have g3 : (1 : Int) ≤ (d : Int) + 1 := by omega
  have g4 : (n : Int) + 1 ≤ (d : Int) + 1 := by omega
  have HND := Lib.hid (show n ≤ d by omega)
  clear hb1 ho1 hBg hcells hblk hs2 HWD hn1 hn hlc
  go_wp2
  rw [hq] at HL2
  clear hq
  have HLS0 := HN
  have HK3 := Lib.hid (show rest.length + 3 = n by have := HN.out; rw [HWS.out] at this; simpa using this)
  have HGC := Lib.hid (show ws.getD 2 [] = cw by rw [HWS.out]; rfl)
  have HG2 := Lib.hid (show ∀ i, i < 2 → ws.getD i [] = [r1, v1].getD i [] by
    intro i hi
    rw [HWS.out]
    have : i = 0 ∨ i = 1 := by omega
    rcases this with rfl | rfl <;> rfl)
  obtain ⟨k3, hk3⟩ : ∃ k3, rest.length = k3 := ⟨_, rfl⟩
  have HRL := Lib.hid hk3
  obtain rfl : n = k3 + 3 := by have := HK3.out; omega
  obtain ⟨e3, rfl⟩ : ∃ e3, d = e3 + 3 := ⟨d - 3, by have := HND.out; omega⟩
  clear hk3
  obtain ⟨o, ho⟩ : ∃ o : Option Nat, some 0 = o := ⟨_, rfl⟩
  have HFO := Lib.hid (HF.out.trans ho)
  have HKD := Lib.hid (show seekK o 14 = 1 by rw [← ho]; rfl)
  clear ho
  go_loopw [27] (fun v27 wr => ∃ k : Nat, k ≤ 14 ∧ v27 = .int .i64 (k : Int) ∧ Hid (Lst w w.heap.size q g 0 (w0 :: ws) { zeroR with kind := seekK o k } (.slice none 0 0) wr)) (fun v27 _ => ((14 : Int) - intOf v27).toNat)
  case atStart => exact ⟨0, Nat.zero_le _, rfl, Lib.hid (by rw [seek_zero]; exact HL2.out)⟩
  case round =>
    obtain ⟨k, hk, rfl, HL⟩ := hrel
    by_cases hk14 : k < 14
    · have hlt : (k : Int) < 14 := by omega
      have hwr : wrap64 ((k : Int) + 1) = (k : Int) + 1 := by rw [wrap64_eq]; omega
      obtain ⟨a, ha⟩ : ∃ a : ByteArray, (⟨(stepK (k : Int)).1.toArray⟩ : ByteArray) = a := ⟨_, rfl⟩
      obtain ⟨b, hb⟩ : ∃ b : ByteArray, (⟨(stepK (k : Int)).2.toArray⟩ : ByteArray) = b := ⟨_, rfl⟩
      have HSK : Hid (∀ W, Calls Tryz.prog 38 #[.int .i64 (k : Int)] W fun e w' => e = .returned (.tuple #[.string a, .string b]) ∧ Below W.heap.size W w') := Lib.hid fun W => by
        rw [← ha, ← hb]
        exact rstep_any (k : Int) W
      obtain ⟨x, hx⟩ : ∃ x : ByteArray, (⟨w0.toArray⟩ : ByteArray) = x := ⟨_, rfl⟩
      go_wp2_with (fail)
      refine (HSK.out _).mono ?_
      rintro e3 w3 ⟨rfl, hb3⟩
      have HL3 := Lib.hid (HL.out.later hb3)
      have h0 : w3.cell? ⟨g, 0, none⟩ = some (.string x) := by
        rw [← hx]
        exact HL3.out.wds 0 (by simp)
      have lg := leB_of_cell h0
      clear hb3
      by_cases hq : (stepK (k : Int)).1 = w0
      · have hax : a = x := by rw [← ha, ← hx, hq]
        subst hax
        by_cases he : (stepK (k : Int)).1 = []
        · have HM := Lib.hid (seek_miss (o := o) (k := k) (fun i hi => step_miss hk14 (Or.inr he) i (HFO.out.trans hi)))
          rw [he] at ha
          have hae : a = ⟨#[]⟩ := ha.symm
          subst hae
          clear ha hb hx hq he
          go_wp2
          go_roundw
          case rel => exact ⟨k + 1, by omega, by first | exact cast1R _ | (rw [hwr]; exact cast1R _), Lib.hid (by rw [HM.out]; exact HL3.out)⟩
          case measure => first | (rw [intOf_lit, intOf_lit, hwr]; omega) | (rw [intOf_lit, intOf_lit]; omega)
        · obtain ⟨i, hi, hki⟩ := step_hit hk14 hq he
          have hoi := HFO.out.symm.trans hi
          have hae1 : a.toList.isEmpty = false := nonempty_of_size (by
            rw [← ha]
            exact List.length_pos_iff.2 he)
          have hae2 : (a.toList == []) = false := by cases hh : a.toList with
            | nil => rw [hh] at hae1; cases hae1
            | cons _ _ => rfl
          have HM := Lib.hid (show seekK o (k + 1) = (k : Int) by subst hki; exact seek_hit hoi)
          have f0 : w3.cell? ⟨q, 0, none⟩ = some (.int .i64 (seekK o k)) := cell_at HL3.out.box rfl
          have z0 : w3.frozen? ⟨q, 0, none⟩ = false := Lib.frozen_of_heap HL3.out.box 0
          have lq := leB_of_cell f0
          have HL4 := Lib.hid (HL3.out.set 0 (.int .i64 (k : Int)) { zeroR with kind := (k : Int) } (by rfl) rfl)
          clear ha hb hx hq he hi hki hoi
          go_wp2
          go_roundw
          case rel => exact ⟨k + 1, by omega, by first | exact cast1R _ | (rw [hwr]; exact cast1R _), Lib.hid (by rw [HM.out]; exact HL4.out)⟩
          case measure => first | (rw [intOf_lit, intOf_lit, hwr]; omega) | (rw [intOf_lit, intOf_lit]; omega)
      · have HM := Lib.hid (seek_miss (o := o) (k := k) (fun i hi => step_miss hk14 (Or.inl hq) i (HFO.out.trans hi)))
        have hax : (a.toList == x.toList) = false := by
          rw [beq_eq_false_iff_ne]
          refine toList_ne fun e => hq ?_
          rw [← ha, ← hx] at e
          injection e with e
          exact Array.toList_inj.2 e
        clear ha hb hx hq
        go_wp2
        go_roundw
        case rel => exact ⟨k + 1, by omega, by first | exact cast1R _ | (rw [hwr]; exact cast1R _), Lib.hid (by rw [HM.out]; exact HL3.out)⟩
        case measure => first | (rw [intOf_lit, intOf_lit, hwr]; omega) | (rw [intOf_lit, intOf_lit]; omega)
    · have hk15 : k = 14 := by omega
      subst hk15
      rw [HKD.out] at HL
      clear hk hk14
      have c0 : wr.cell? ⟨q, 0, none⟩ = some (.int .i64 1) := cell_at HL.out.box rfl
      have lq := leB_of_cell c0
      go_wp2_with (fail)
      refine (HSA.out _).mono ?_
      rintro e4 w4 ⟨rfl, hb4⟩
      have HL4 := Lib.hid (HL.out.later hb4)
      have d0 : w4.cell? ⟨q, 0, none⟩ = some (.int .i64 1) := cell_at HL4.out.box rfl
      have lq4 := leB_of_cell d0
      clear hb4 c0 lq HL
      have d6 : w4.cell? ⟨q, 6, none⟩ = some (.int .i64 0) := cell_at HL4.out.box rfl
      have HLT := Lib.hid (show Lst w w.heap.size q g 1 ws { zeroR with kind := 1 } (.slice none 0 0) w4 from HL4.out.tail)
      have hd0 : ¬ e3 + 3 = 0 := by omega
      have hd1 : ¬ ((e3 : Int) + 3) + 1 = 1 := by omega
      have hd3 : ¬ (1 : Int) = ((e3 : Int) + 3) + 1 := by omega
      have hn2 : (2 : Int) < (k3 : Int) + 3 := by omega
      obtain ⟨ar, har⟩ : ∃ ar : ByteArray, (⟨#[114, 118]⟩ : ByteArray) ++ more = ar := ⟨_, rfl⟩
      have HAR := Lib.hid har
      go_wp2
      go_loopw [63] (fun v63 wr => ∃ k : Nat, k ≤ 20 ∧ v63 = .int .i64 (k : Int) ∧ Hid (Lst w w.heap.size q g 1 ws { zeroR with kind := 1, ck := seekK o2 k } (.slice none 0 0) wr)) (fun v63 _ => ((20 : Int) - intOf v63).toNat)
      case atStart => exact ⟨0, Nat.zero_le _, rfl, Lib.hid (by rw [seek_zero]; exact HLT.out)⟩
      case round =>
        obtain ⟨k, hk, rfl, HL⟩ := hrel
        by_cases hk14 : k < 20
        · have hlt : (k : Int) < 20 := by omega
          have hwr : wrap64 ((k : Int) + 1) = (k : Int) + 1 := by rw [wrap64_eq]; omega
          obtain ⟨a, ha⟩ : ∃ a : ByteArray, (⟨(callK (k : Int)).1.toArray⟩ : ByteArray) = a := ⟨_, rfl⟩
          obtain ⟨b, hb⟩ : ∃ b : ByteArray, (⟨(callK (k : Int)).2.toArray⟩ : ByteArray) = b := ⟨_, rfl⟩
          have HSK : Hid (∀ W, Calls Tryz.prog 39 #[.int .i64 (k : Int)] W fun e w' => e = .returned (.tuple #[.string a, .string b]) ∧ Below W.heap.size W w') := Lib.hid fun W => by
            rw [← ha, ← hb]
            exact rcall_any (k : Int) W
          obtain ⟨x, hx⟩ : ∃ x : ByteArray, (⟨cw.toArray⟩ : ByteArray) = x := ⟨_, rfl⟩
          go_wp2_with (fail)
          refine (HSK.out _).mono ?_
          rintro e3 w3 ⟨rfl, hb3⟩
          have HL3 := Lib.hid (HL.out.later hb3)
          have h0 : w3.cell? ⟨g, 1 + 2, none⟩ = some (.string x) := by
            rw [← hx]
            have h := HL3.out.wds 2 (by rw [HLS0.out]; omega)
            rw [HGC.out] at h
            exact h
          have h0' : w3.cell? ⟨g, 3, none⟩ = some (.string x) := h0
          have lg := leB_of_cell h0
          clear hb3
          by_cases hq : (callK (k : Int)).1 = cw
          · have hax : a = x := by rw [← ha, ← hx, hq]
            subst hax
            by_cases he : (callK (k : Int)).1 = []
            · have HM := Lib.hid (seek_miss (o := o2) (k := k) (fun i hi => call_miss hk14 (Or.inr he) i (HFO2.out.trans hi)))
              rw [he] at ha
              have hae : a = ⟨#[]⟩ := ha.symm
              subst hae
              clear ha hb hx hq he
              go_wp2
              go_roundw
              case rel => exact ⟨k + 1, by omega, by first | exact cast1R _ | (rw [hwr]; exact cast1R _), Lib.hid (by rw [HM.out]; exact HL3.out)⟩
              case measure => first | (rw [intOf_lit, intOf_lit, hwr]; omega) | (rw [intOf_lit, intOf_lit]; omega)
            · obtain ⟨i, hi, hki⟩ := call_hit hk14 hq he
              have hoi := HFO2.out.symm.trans hi
              have hae1 : a.toList.isEmpty = false := nonempty_of_size (by
                rw [← ha]
                exact List.length_pos_iff.2 he)
              have hae2 : (a.toList == []) = false := by cases hh : a.toList with
                | nil => rw [hh] at hae1; cases hae1
                | cons _ _ => rfl
              have HM := Lib.hid (show seekK o2 (k + 1) = (k : Int) by subst hki; exact seek_hit hoi)
              have f0 : w3.cell? ⟨q, 6, none⟩ = some (.int .i64 (seekK o2 k)) := cell_at HL3.out.box rfl
              have z0 : w3.frozen? ⟨q, 6, none⟩ = false := Lib.frozen_of_heap HL3.out.box 6
              have lq := leB_of_cell f0
              have HL4 := Lib.hid (HL3.out.set 6 (.int .i64 (k : Int)) { zeroR with kind := 1, ck := (k : Int) } (by rfl) rfl)
              clear ha hb hx hq he hi hki hoi
              go_wp2
              go_roundw
              case rel => exact ⟨k + 1, by omega, by first | exact cast1R _ | (rw [hwr]; exact cast1R _), Lib.hid (by rw [HM.out]; exact HL4.out)⟩
              case measure => first | (rw [intOf_lit, intOf_lit, hwr]; omega) | (rw [intOf_lit, intOf_lit]; omega)
          · have HM := Lib.hid (seek_miss (o := o2) (k := k) (fun i hi => call_miss hk14 (Or.inl hq) i (HFO2.out.trans hi)))
            have hax : (a.toList == x.toList) = false := by
              rw [beq_eq_false_iff_ne]
              refine toList_ne fun e => hq ?_
              rw [← ha, ← hx] at e
              injection e with e
              exact Array.toList_inj.2 e
            clear ha hb hx hq
            go_wp2
            go_roundw
            case rel => exact ⟨k + 1, by omega, by first | exact cast1R _ | (rw [hwr]; exact cast1R _), Lib.hid (by rw [HM.out]; exact HL3.out)⟩
            case measure => first | (rw [intOf_lit, intOf_lit, hwr]; omega) | (rw [intOf_lit, intOf_lit]; omega)
        · have hk15 : k = 20 := by omega
          subst hk15
          rw [HKD2.out] at HL
          clear hk hk14
          have hz1 : (9223372036854775807 < (⟨#[114, 118]⟩ : ByteArray).size + more.size) = False := eq_false (by have : (⟨#[114, 118]⟩ : ByteArray).size = 2 := rfl; have := HMZ.out; omega)
          have hz2 : (9223372036854775807 < 2 + more.size) = False := eq_false (by have := HMZ.out; omega)
          have c6 : wr.cell? ⟨q, 6, none⟩ = some (.int .i64 ck) := cell_at HL.out.box rfl
          have lq6 := leB_of_cell c6
          go_wp2_with (fail)
          refine (HCA.out _).mono ?_
          rintro e6 w6 ⟨rfl, hb6⟩
          have HL6 := Lib.hid (HL.out.later hb6)
          have z0 : w6.cell? ⟨q, 0, none⟩ = some (.int .i64 1) := cell_at HL6.out.box rfl
          have z6 : w6.cell? ⟨q, 6, none⟩ = some (.int .i64 ck) := cell_at HL6.out.box rfl
          have lz := leB_of_cell z0
          clear hb6 c6 lq6 HL lq4 d0
          go_wp2
          have h3n : (3 : Int) ≤ (k3 : Int) + 3 := by omega
          have h3e : (3 : Int) ≤ (e3 : Int) + 3 := by omega
          have h2e : (2 : Int) ≤ (e3 : Int) + 3 := by omega
          have hke : (k3 : Int) + 3 ≤ (e3 : Int) + 3 := by have := HND.out; omega
          have hke2 : k3 ≤ e3 := by have := HND.out; omega
          rcases Nat.eq_zero_or_pos e3 with h0 | h0
          · subst h0
            obtain rfl : k3 = 0 := by omega
            refine wp_region_mix [(1, true), (2, true), (4, true), (5, true), (0, false), (3, false), (6, false), (7, true)] (by kernel_rfl) (by kernel_rfl) rfl (by kernel_rfl) (by intro _ _ d _ _ h; cases d; exact h; exact HQP.out _ _ _ _ _ h) ?_; intro j1
            have hbj : Below w6.heap.size w6 (wext w6 j1) := w_ext_below w6 j1
            have hbe : Below (wext w6 j1).heap.size (wext w6 j1) ((wext w6 j1).alloc (.cells #[] 9)) := Below.alloc (Below.refl _ _) (Nat.le_refl _) _
            have hbe6 := below_tr hbj hbe
            have hoe : OwnS ((wext w6 j1).alloc (.cells #[] 9)) w6.heap.size (.slice (some ⟨(wext w6 j1).heap.size, 0, none⟩) 0 0) [] := ⟨rfl, Or.inr ⟨_, 0, #[], rfl, hbj.size, heap_alloc_new _ _, Nat.le_refl _, Nat.zero_le _, rfl, rfl⟩⟩
            obtain ⟨v8, w8, happ8, ho8, hb8, -⟩ := app_news w6.heap.size ((wext w6 j1).alloc (.cells #[] 9)) _ [] [r1, v1] g 1 2 3 hoe hbe6.size (by simp) rfl (fun i hi => by
              have hi2 : i < 2 := hi
              have h := (HL6.out.later hbe6).wds i (by rw [HLS0.out]; omega)
              rw [HG2.out i hi2] at h
              exact h)
            rw [w_size_ext] at happ8
            have hB8 := hbe6.trans hb8
            obtain ⟨v9, w9, happ9, ho9, hb9, -⟩ := app_news w6.heap.size w8 v8 [r1, v1] rest g 1 0 0 ho8 hB8.size (by simp; have := HRL.out; omega) HRL.out.symm (fun i hi => by
              have h := (HL6.out.later hB8).wds (3 + i) (by rw [HLS0.out]; have := HRL.out; omega)
              have e : ws.getD (3 + i) [] = rest.getD i [] := by rw [HWS.out, Nat.add_comm]; rfl
              rw [e] at h
              exact absurd hi (by rw [HRL.out]; omega))
            have hB9 := hB8.trans hb9
            have HO9 : Hid (OwnS w9 w6.heap.size v9 (r1 :: v1 :: rest)) := Lib.hid ho9
            obtain ⟨A8, m8, c8, rfl⟩ := own_sl ho8
            obtain ⟨A9, m9, c9, rfl⟩ := own_sl ho9
            clear hoe ho8 ho9 hb8 hb9 hbe hbj
            (repeat (first | (refine wpMix_skipK rfl rfl ?_; intro K hK; go_simp; refine hK _ ?_; clear hK K) | (refine wpMix_light rfl rfl ?_; intro K hK; go_simp; refine hK _ ?_; clear hK K)))
            refine wpMix_heavy rfl rfl ?_; intro K hK; go_wp2_with (fail); refine ⟨w_ext_of_below (by (repeat' (first | (with_reducible exact Below.refl _ _) | (with_reducible assumption) | (with_reducible exact below_app _ _ _ _) | (with_reducible refine below_pre ?_; (simp only [List.append_assoc, List.prefix_append, List.prefix_refl, List.prefix_append_right_inj])) | (with_reducible refine Below.alloc ?_ ?_ _) | (with_reducible refine below_ext ?_ ?_ _) | (with_reducible refine Below.drew ?_) | (with_reducible refine below_drewN ?_ _) | (with_reducible refine Below.setCell ?_ ?_ _) | go_size | (simp only [w_size_ext, List.length_append, World.alloc_size]; omega) | (simp; done) | (simp; omega)))), ?_⟩
            refine wpMix_heavy rfl rfl ?_; intro K hK
            refine app_op 35 _ _ rfl rfl rfl rfl happ8 ?_
            go_simp
            refine hK _ _ ⟨w_ext_of_below hB8, ?_⟩; clear hK K
            refine wpMix_heavy rfl rfl ?_; intro K hK
            refine app_op 35 _ _ rfl rfl rfl rfl happ9 ?_
            go_simp
            refine hK _ _ ⟨w_ext_of_below hB9, ?_⟩; clear hK K
            (repeat (first | (refine wpMix_skipK rfl rfl ?_; intro K hK; go_simp; refine hK _ ?_; clear hK K) | (refine wpMix_light rfl rfl ?_; intro K hK; go_simp; refine hK _ ?_; clear hK K)))
            refine wpMix_nil ?_
            have HL9 := Lib.hid (HL6.out.later hB9)
            obtain ⟨g2, c2', hv9, _, _, hcells9, hblk9⟩ := own_block HO9.out (by simp)
            injection hv9 with e1 e2 e3
            subst e1; subst e2; subst e3
            have HLW := Lib.hid (show Lst w w.heap.size q g2 0 (r1 :: v1 :: rest) { zeroR with kind := 1, ck := ck } (.slice none 0 0) w9 from HL9.out.words (fun i hi => by rw [Nat.zero_add]; exact hcells9 i hi) hblk9)
            obtain ⟨n2, hn2'⟩ : ∃ n2, (r1 :: v1 :: rest).length = n2 := ⟨_, rfl⟩
            have HLS := Lib.hid hn2'
            have hnb2 : n2 ≤ 200 := by have := HRL.out; have : (r1 :: v1 :: rest).length = rest.length + 2 := rfl; omega
            rw [hn2']
            have y0 : w9.cell? ⟨q, 0, none⟩ = some (.int .i64 1) := cell_at HL9.out.box rfl
            have y6 : w9.cell? ⟨q, 6, none⟩ = some (.int .i64 ck) := cell_at HL9.out.box rfl
            have ly := leB_of_cell y0
            have HWL2 := Lib.hid (fun t (ht : t ∈ r1 :: v1 :: rest) => show t.length ≤ 200 from HWL.out t (by
              rw [HWS.out]
              simp only [List.mem_cons] at ht ⊢
              rcases ht with h | h | h
              · exact Or.inr (Or.inl h)
              · exact Or.inr (Or.inr (Or.inl h))
              · exact Or.inr (Or.inr (Or.inr (Or.inr h)))))
            clear happ8 happ9 hB8 hB9 hbe6 hcells9 hblk9 hn2' z0 z6 lz
            rcases HCS.out with ⟨rfl, hRN⟩ | ⟨hck, cs, hRC, hcs, hlet⟩
            · have HRN := Lib.hid hRN
              clear hRN
              have rc0 : w9.cell? ⟨w.heap.size, 0, none⟩ = some (.int .i64 0) := cell_at HL9.out.res rfl
              have rz0 : w9.frozen? ⟨w.heap.size, 0, none⟩ = false := Lib.frozen_of_heap HL9.out.res 0
              have rs0 : w9.setCell ⟨w.heap.size, 0, none⟩ (.int .i64 0) = w9 := w_setCell_same rc0
              have rc1 : w9.cell? ⟨w.heap.size, 1, none⟩ = some (.int .i64 0) := cell_at HL9.out.res rfl
              have rz1 : w9.frozen? ⟨w.heap.size, 1, none⟩ = false := Lib.frozen_of_heap HL9.out.res 1
              have rs1 : w9.setCell ⟨w.heap.size, 1, none⟩ (.int .i64 0) = w9 := w_setCell_same rc1
              have rc2 : w9.cell? ⟨w.heap.size, 2, none⟩ = some (.string ⟨#[]⟩) := cell_at HL9.out.res rfl
              have rz2 : w9.frozen? ⟨w.heap.size, 2, none⟩ = false := Lib.frozen_of_heap HL9.out.res 2
              have rs2 : w9.setCell ⟨w.heap.size, 2, none⟩ (.string ⟨#[]⟩) = w9 := w_setCell_same rc2
              have rc3 : w9.cell? ⟨w.heap.size, 3, none⟩ = some (.string ⟨#[]⟩) := cell_at HL9.out.res rfl
              have rz3 : w9.frozen? ⟨w.heap.size, 3, none⟩ = false := Lib.frozen_of_heap HL9.out.res 3
              have rs3 : w9.setCell ⟨w.heap.size, 3, none⟩ (.string ⟨#[]⟩) = w9 := w_setCell_same rc3
              have rc4 : w9.cell? ⟨w.heap.size, 4, none⟩ = some (.int .i64 0) := cell_at HL9.out.res rfl
              have rz4 : w9.frozen? ⟨w.heap.size, 4, none⟩ = false := Lib.frozen_of_heap HL9.out.res 4
              have rs4 : w9.setCell ⟨w.heap.size, 4, none⟩ (.int .i64 0) = w9 := w_setCell_same rc4
              have rc5 : w9.cell? ⟨w.heap.size, 5, none⟩ = some (.slice none 0 0) := cell_at HL9.out.res rfl
              have rz5 : w9.frozen? ⟨w.heap.size, 5, none⟩ = false := Lib.frozen_of_heap HL9.out.res 5
              have rs5 : w9.setCell ⟨w.heap.size, 5, none⟩ (.slice none 0 0) = w9 := w_setCell_same rc5
              have rc6 : w9.cell? ⟨w.heap.size, 6, none⟩ = some (.int .i64 0) := cell_at HL9.out.res rfl
              have rz6 : w9.frozen? ⟨w.heap.size, 6, none⟩ = false := Lib.frozen_of_heap HL9.out.res 6
              have rs6 : w9.setCell ⟨w.heap.size, 6, none⟩ (.int .i64 0) = w9 := w_setCell_same rc6
              have rc7 : w9.cell? ⟨w.heap.size, 7, none⟩ = some (.string ⟨#[]⟩) := cell_at HL9.out.res rfl
              have rz7 : w9.frozen? ⟨w.heap.size, 7, none⟩ = false := Lib.frozen_of_heap HL9.out.res 7
              have rs7 : w9.setCell ⟨w.heap.size, 7, none⟩ (.string ⟨#[]⟩) = w9 := w_setCell_same rc7
              have rc8 : w9.cell? ⟨w.heap.size, 8, none⟩ = some (.string ⟨#[]⟩) := cell_at HL9.out.res rfl
              have rz8 : w9.frozen? ⟨w.heap.size, 8, none⟩ = false := Lib.frozen_of_heap HL9.out.res 8
              have rs8 : w9.setCell ⟨w.heap.size, 8, none⟩ (.string ⟨#[]⟩) = w9 := w_setCell_same rc8
              have rc9 : w9.cell? ⟨w.heap.size, 9, none⟩ = some (.int .i64 0) := cell_at HL9.out.res rfl
              have rz9 : w9.frozen? ⟨w.heap.size, 9, none⟩ = false := Lib.frozen_of_heap HL9.out.res 9
              have rs9 : w9.setCell ⟨w.heap.size, 9, none⟩ (.int .i64 0) = w9 := w_setCell_same rc9
              have rc10 : w9.cell? ⟨w.heap.size, 10, none⟩ = some (.int .i64 0) := cell_at HL9.out.res rfl
              have rz10 : w9.frozen? ⟨w.heap.size, 10, none⟩ = false := Lib.frozen_of_heap HL9.out.res 10
              have rs10 : w9.setCell ⟨w.heap.size, 10, none⟩ (.int .i64 0) = w9 := w_setCell_same rc10
              have rc11 : w9.cell? ⟨w.heap.size, 11, none⟩ = some (.string ⟨#[]⟩) := cell_at HL9.out.res rfl
              have rz11 : w9.frozen? ⟨w.heap.size, 11, none⟩ = false := Lib.frozen_of_heap HL9.out.res 11
              have rs11 : w9.setCell ⟨w.heap.size, 11, none⟩ (.string ⟨#[]⟩) = w9 := w_setCell_same rc11
              have rc12 : w9.cell? ⟨w.heap.size, 12, none⟩ = some (f64 0) := cell_at HL9.out.res rfl
              have rz12 : w9.frozen? ⟨w.heap.size, 12, none⟩ = false := Lib.frozen_of_heap HL9.out.res 12
              have rs12 : w9.setCell ⟨w.heap.size, 12, none⟩ (f64 0) = w9 := w_setCell_same rc12
              have lr := leB_of_cell rc0
              go_wp2
              rw [← HQQ.out]; exact bodyPost_ret (v := .tuple #[.agg (stepZero), .int .i64 205]) (by simp [results, Tryz.results21, go_sem, rc0, rc1, rc2, rc3, rc4, rc5, rc6, rc7, rc8, rc9, rc10, rc11, rc12]) rfl (LineC.no HRN.out HL9.out.bel)
            · have HRC := Lib.hid hRC
              have HLETS := Lib.hid hlet
              have hck0 : (ck == 0) = false := by simpa using hck
              have HAD := Lib.hid (show ar.data.toList = cs by rw [← HAR.out, hcs])
              have HAS := Lib.hid (show ar.size = cs.length by rw [← HAD.out, Array.length_toList]; rfl)
              clear hRC hlet hcs hck
              have hcmp : n2 = ar.size ∨ ¬ n2 = ar.size := Decidable.em _
              rcases hcmp with hsz | hsz
              · have HSZ2 := Lib.hid hsz
                have he1 : ((n2 : Int) != (ar.size : Int)) = false := by rw [hsz]; simp
                clear hsz
                have HLEN := Lib.hid (show (cs : Bs).length = ((r1 :: v1 :: rest) : List Bs).length by rw [← HAS.out, ← HSZ2.out, HLS.out])
                go_wp2
                go_loopw [134] (fun v134 wr => ∃ (i : Nat) (s2 : StepR) (A2 : Option Addr) (m2 c2 : Nat), i ≤ n2 ∧ v134 = .int .i64 (i : Int) ∧ Hid (Lst w w.heap.size q g2 0 (r1 :: v1 :: rest) s2 (.slice A2 m2 c2) wr) ∧ Hid (RunsR R cs (r1 :: v1 :: rest) i s2) ∧ Hid (s2.keep.length ≤ i)) (fun v134 _ => ((n2 : Int) - intOf v134).toNat)
                case atStart => exact ⟨0, { zeroR with kind := 1, ck := ck }, none, 0, 0, Nat.zero_le _, rfl, HLW, Lib.hid (RunsR.start HRC.out), Lib.hid (Nat.zero_le _)⟩
                case round =>
                  obtain ⟨i, s2, A2, m2, c2, hi, rfl, HL, HRU, HKP⟩ := hrel
                  by_cases hin : i < n2
                  · have hlt : (i : Int) < (n2 : Int) := by omega
                    have hge : (0 : Int) ≤ (i : Int) := by omega
                    have hnl : ¬ (i : Int) < 0 := by omega
                    have hwr : wrap64 ((i : Int) + 1) = (i : Int) + 1 := by rw [wrap64_eq]; omega
                    have hil : (i : Int) < (ar.size : Int) := by have := HSZ2.out; omega
                    obtain ⟨t, ht⟩ : ∃ t, ((r1 :: v1 :: rest) : List Bs)[i]? = some t := ⟨_, List.getElem?_eq_getElem (by rw [HLS.out]; exact hin)⟩
                    obtain ⟨ch, hch⟩ : ∃ ch, (cs : Bs)[i]? = some ch := ⟨_, List.getElem?_eq_getElem (by rw [HLEN.out, HLS.out]; exact hin)⟩
                    have HT := Lib.hid ht
                    have HCH := Lib.hid hch
                    have HLET := Lib.hid (HLETS.out ch (List.mem_of_getElem? hch))
                    obtain ⟨x, hx⟩ : ∃ x : ByteArray, (⟨t.toArray⟩ : ByteArray) = x := ⟨_, rfl⟩
                    have HXD := Lib.hid (show x.data.toList = t by rw [← hx])
                    have HXS := Lib.hid (show x.size ≤ 200 by
                      have e : x.size = x.data.toList.length := by rw [Array.length_toList]; rfl
                      rw [e, HXD.out]
                      exact HWL2.out t (List.mem_of_getElem? ht))
                    have hc0 : wr.cell? ⟨g2, 0 + i, none⟩ = some (.string x) := by
                      have h := HL.out.wds i (by rw [HLS.out]; exact hin)
                      rw [List.getD_eq_getElem?_getD, ht] at h
                      rw [← hx]; exact h
                    have hc1 : wr.cell? ⟨g2, i, none⟩ = some (.string x) := by rw [Nat.zero_add] at hc0; exact hc0
                    have lg := leB_of_cell hc0
                    have hidx : ∀ h : i < ar.size, ar[i]'h = ch := fun h => by
                      rw [byte_at2 ar i h, List.getD_eq_getElem?_getD, HAD.out, hch]; rfl
                    clear ht hch hx
                    have HLD := Lib.hid (HL.out.later (Below.refl wr.heap.size wr).drew)
                    go_wp2
                    refine wp_region_ordC (fun W => W.heap[q]? = some (.cells (stepCells s2 (.slice A2 m2 c2)) 33 (0, 0))) (.take 0 (.take 1 (.take 2 (.take 3 (.take 4 (.two 5 9 (.take 6 (.take 7 (.take 8 (.one 9 (.one 10 (.take 11 .done)))))) (.one 5 (.take 6 (.take 7 (.take 8 (.one 10 (.take 11 .done)))))))))))) (by kernel_rfl) (by kernel_rfl) (by decide) (by kernel_rfl) (by intro _ _ d _ _ h; cases d; exact h; exact HQP.out _ _ _ _ _ h) HL.out.box ?_
                    refine wpOrdC_take rfl rfl ?_; intro K hK; refine ⟨.agg (stepCells s2 (.slice A2 m2 c2)), fun W hW => ?_, ?_⟩; (· have cc0 : W.cell? ⟨q, 0, none⟩ = some (.int .i64 s2.kind) := cell_at hW rfl; have cc1 : W.cell? ⟨q, 1, none⟩ = some (.int .i64 s2.rep) := cell_at hW rfl; have cc2 : W.cell? ⟨q, 2, none⟩ = some (.string s2.vol) := cell_at hW rfl; have cc3 : W.cell? ⟨q, 3, none⟩ = some (.string s2.dst) := cell_at hW rfl; have cc4 : W.cell? ⟨q, 4, none⟩ = some (.int .i64 s2.n) := cell_at hW rfl; have cc5 : W.cell? ⟨q, 5, none⟩ = some (.slice A2 m2 c2) := cell_at hW rfl; have cc6 : W.cell? ⟨q, 6, none⟩ = some (.int .i64 s2.ck) := cell_at hW rfl; have cc7 : W.cell? ⟨q, 7, none⟩ = some (.string s2.path) := cell_at hW rfl; have cc8 : W.cell? ⟨q, 8, none⟩ = some (.string s2.cto) := cell_at hW rfl; have cc9 : W.cell? ⟨q, 9, none⟩ = some (.int .i64 s2.off) := cell_at hW rfl; have cc10 : W.cell? ⟨q, 10, none⟩ = some (.int .i64 s2.cn) := cell_at hW rfl; have cc11 : W.cell? ⟨q, 11, none⟩ = some (.string s2.data) := cell_at hW rfl; have cc12 : W.cell? ⟨q, 12, none⟩ = some (f64 s2.time) := cell_at hW rfl; have lp := leB_of_cell cc0; clear hK; go_simp); go_simp; refine hK _ ?_; clear hK K
                    refine wpOrdC_take rfl rfl ?_; intro K hK; refine ⟨.string ar, fun W hW => ?_, ?_⟩; (· clear hK; go_simp); go_simp; refine hK _ ?_; clear hK K
                    refine wpOrdC_take rfl rfl ?_; intro K hK; refine ⟨.int .i64 (i : Int), fun W hW => ?_, ?_⟩; (· clear hK; go_simp); go_simp; refine hK _ ?_; clear hK K
                    refine wpOrdC_take rfl rfl ?_; intro K hK; refine ⟨.int .u8 (ch.toNat : Int), fun W hW => ?_, ?_⟩; (· clear hK; go_simp); go_simp; refine hK _ ?_; clear hK K
                    refine wpOrdC_take rfl rfl ?_; intro K hK; refine ⟨.string x, fun W hW => ?_, ?_⟩; (· clear hK; go_simp); go_simp; refine hK _ ?_; clear hK K
                    refine wpOrdC_two ?_ ?_
                    · refine wpOrdC_one rfl rfl ?_; intro K hK; go_wp2_with (fail)
                      refine (set_any s2 ch (.slice A2 m2 c2) x w.heap.size _ HLET.out (Lib.hid HLD.out.own) (Lib.hid HLD.out.bel.size) (Lib.hid (Nat.le_trans HXS.out (by decide))) (Lib.hid (Nat.le_trans HKP.out (by omega)))).mono ?_
                      rintro e1 w1 ⟨s', A', m', c', b, rfl, hR2, hm, ho1⟩
                      rw [HXD.out] at hR2
                      have hq1 := (hm.rest q (Array.getElem?_eq_some_iff.1 HLD.out.box).1 HLD.out.vq).trans HLD.out.box
                      refine hK _ _ hq1 ?_; clear hK K
                      refine wpOrdC_take rfl rfl ?_; intro K hK; refine ⟨.tuple #[.agg (stepCells s' (.slice A' m' c')), .bool b], fun W hW => ?_, ?_⟩; (· clear hK; go_simp); go_simp; refine hK _ ?_; clear hK K
                      refine wpOrdC_take rfl rfl ?_; intro K hK; refine ⟨.agg (stepCells s' (.slice A' m' c')), fun W hW => ?_, ?_⟩; (· clear hK; go_simp); go_simp; refine hK _ ?_; clear hK K
                      refine wpOrdC_take rfl rfl ?_; intro K hK; refine ⟨.bool b, fun W hW => ?_, ?_⟩; (· clear hK; go_simp); go_simp; refine hK _ ?_; clear hK K
                      refine wpOrdC_one rfl rfl ?_; intro K hK; go_wp2
                      refine hK _ _ ((Lib.alloc_old w1 _ q (Array.getElem?_eq_some_iff.1 hq1).1).trans hq1) ?_; clear hK K
                      refine wpOrdC_one rfl rfl ?_; intro K hK
                      refine store_op (W := _) (g := w1.heap.size) 33 _ _ rfl rfl rfl (heap_alloc_new w1 _) (by kernel_rfl) rfl (by simp [Value.oneCell']) ?_
                      intro w3 hs3
                      have hrr := (hm.rest w.heap.size (Array.getElem?_eq_some_iff.1 HLD.out.res).1 HLD.out.vr).trans HLD.out.res
                      have hpr : ¬ w.heap.size = w1.heap.size := by have := (Array.getElem?_eq_some_iff.1 hrr).1; omega
                      have hpq : ¬ q = w1.heap.size := by have := (Array.getElem?_eq_some_iff.1 hq1).1; omega
                      obtain ⟨csg, frg, hgb⟩ := HLD.out.blk
                      have hgg := (hm.rest g2 (Array.getElem?_eq_some_iff.1 hgb).1 HLD.out.vg).trans hgb
                      have hpg : ¬ g2 = w1.heap.size := by have := (Array.getElem?_eq_some_iff.1 hgg).1; omega
                      have hkp : Kept w1.heap.size w1 w3 := ⟨hs3.os, hs3.tape, hs3.output, by rw [hs3.size]; simp, fun k hk hne => (hs3.rest k hne).trans (Lib.alloc_old w1 _ k hk)⟩
                      have hp0 : w.heap.size ≤ w1.heap.size := (HLD.out.bel.trans hm.bel).size
                      have hpv : ¬ (Value.slice A' m' c').ownBlock = some w1.heap.size := fun e => by have := (ho1.lt _ e).2; omega
                      clear hrr hgb hgg
                      refine hK _ _ (HLD.out.stays hm hkp hpq) ?_; clear hK K
                      refine wpOrdC_take rfl rfl ?_; intro K hK; refine ⟨.bool b, fun W hW => ?_, ?_⟩; (· clear hK; go_simp); go_simp; refine hK _ ?_; clear hK K
                      refine wpOrdC_done ?_
                      have hq3 := HLD.out.stays hm hkp hpq
                      cases b
                      · have HRN := Lib.hid (HRU.out.fail HCH.out HT.out (by rw [hR2]; rfl))
                        obtain ⟨hres, hbel⟩ := HLD.out.near hm hkp hp0 hpr
                        have HRES := Lib.hid hres
                        have HBEL := Lib.hid hbel
                        clear hm hkp hs3 ho1 hq3 hres hbel hR2
                        have rc0 : w3.cell? ⟨w.heap.size, 0, none⟩ = some (.int .i64 0) := cell_at HRES.out rfl
                        have rz0 : w3.frozen? ⟨w.heap.size, 0, none⟩ = false := Lib.frozen_of_heap HRES.out 0
                        have rs0 : w3.setCell ⟨w.heap.size, 0, none⟩ (.int .i64 0) = w3 := w_setCell_same rc0
                        have rc1 : w3.cell? ⟨w.heap.size, 1, none⟩ = some (.int .i64 0) := cell_at HRES.out rfl
                        have rz1 : w3.frozen? ⟨w.heap.size, 1, none⟩ = false := Lib.frozen_of_heap HRES.out 1
                        have rs1 : w3.setCell ⟨w.heap.size, 1, none⟩ (.int .i64 0) = w3 := w_setCell_same rc1
                        have rc2 : w3.cell? ⟨w.heap.size, 2, none⟩ = some (.string ⟨#[]⟩) := cell_at HRES.out rfl
                        have rz2 : w3.frozen? ⟨w.heap.size, 2, none⟩ = false := Lib.frozen_of_heap HRES.out 2
                        have rs2 : w3.setCell ⟨w.heap.size, 2, none⟩ (.string ⟨#[]⟩) = w3 := w_setCell_same rc2
                        have rc3 : w3.cell? ⟨w.heap.size, 3, none⟩ = some (.string ⟨#[]⟩) := cell_at HRES.out rfl
                        have rz3 : w3.frozen? ⟨w.heap.size, 3, none⟩ = false := Lib.frozen_of_heap HRES.out 3
                        have rs3 : w3.setCell ⟨w.heap.size, 3, none⟩ (.string ⟨#[]⟩) = w3 := w_setCell_same rc3
                        have rc4 : w3.cell? ⟨w.heap.size, 4, none⟩ = some (.int .i64 0) := cell_at HRES.out rfl
                        have rz4 : w3.frozen? ⟨w.heap.size, 4, none⟩ = false := Lib.frozen_of_heap HRES.out 4
                        have rs4 : w3.setCell ⟨w.heap.size, 4, none⟩ (.int .i64 0) = w3 := w_setCell_same rc4
                        have rc5 : w3.cell? ⟨w.heap.size, 5, none⟩ = some (.slice none 0 0) := cell_at HRES.out rfl
                        have rz5 : w3.frozen? ⟨w.heap.size, 5, none⟩ = false := Lib.frozen_of_heap HRES.out 5
                        have rs5 : w3.setCell ⟨w.heap.size, 5, none⟩ (.slice none 0 0) = w3 := w_setCell_same rc5
                        have rc6 : w3.cell? ⟨w.heap.size, 6, none⟩ = some (.int .i64 0) := cell_at HRES.out rfl
                        have rz6 : w3.frozen? ⟨w.heap.size, 6, none⟩ = false := Lib.frozen_of_heap HRES.out 6
                        have rs6 : w3.setCell ⟨w.heap.size, 6, none⟩ (.int .i64 0) = w3 := w_setCell_same rc6
                        have rc7 : w3.cell? ⟨w.heap.size, 7, none⟩ = some (.string ⟨#[]⟩) := cell_at HRES.out rfl
                        have rz7 : w3.frozen? ⟨w.heap.size, 7, none⟩ = false := Lib.frozen_of_heap HRES.out 7
                        have rs7 : w3.setCell ⟨w.heap.size, 7, none⟩ (.string ⟨#[]⟩) = w3 := w_setCell_same rc7
                        have rc8 : w3.cell? ⟨w.heap.size, 8, none⟩ = some (.string ⟨#[]⟩) := cell_at HRES.out rfl
                        have rz8 : w3.frozen? ⟨w.heap.size, 8, none⟩ = false := Lib.frozen_of_heap HRES.out 8
                        have rs8 : w3.setCell ⟨w.heap.size, 8, none⟩ (.string ⟨#[]⟩) = w3 := w_setCell_same rc8
                        have rc9 : w3.cell? ⟨w.heap.size, 9, none⟩ = some (.int .i64 0) := cell_at HRES.out rfl
                        have rz9 : w3.frozen? ⟨w.heap.size, 9, none⟩ = false := Lib.frozen_of_heap HRES.out 9
                        have rs9 : w3.setCell ⟨w.heap.size, 9, none⟩ (.int .i64 0) = w3 := w_setCell_same rc9
                        have rc10 : w3.cell? ⟨w.heap.size, 10, none⟩ = some (.int .i64 0) := cell_at HRES.out rfl
                        have rz10 : w3.frozen? ⟨w.heap.size, 10, none⟩ = false := Lib.frozen_of_heap HRES.out 10
                        have rs10 : w3.setCell ⟨w.heap.size, 10, none⟩ (.int .i64 0) = w3 := w_setCell_same rc10
                        have rc11 : w3.cell? ⟨w.heap.size, 11, none⟩ = some (.string ⟨#[]⟩) := cell_at HRES.out rfl
                        have rz11 : w3.frozen? ⟨w.heap.size, 11, none⟩ = false := Lib.frozen_of_heap HRES.out 11
                        have rs11 : w3.setCell ⟨w.heap.size, 11, none⟩ (.string ⟨#[]⟩) = w3 := w_setCell_same rc11
                        have rc12 : w3.cell? ⟨w.heap.size, 12, none⟩ = some (f64 0) := cell_at HRES.out rfl
                        have rz12 : w3.frozen? ⟨w.heap.size, 12, none⟩ = false := Lib.frozen_of_heap HRES.out 12
                        have rs12 : w3.setCell ⟨w.heap.size, 12, none⟩ (f64 0) = w3 := w_setCell_same rc12
                        have lr := leB_of_cell rc0
                        go_wp2
                        rw [← HQQ.out]; exact bodyPost_ret (v := .tuple #[.agg (stepZero), .int .i64 205]) (by simp [results, Tryz.results21, go_sem, rc0, rc1, rc2, rc3, rc4, rc5, rc6, rc7, rc8, rc9, rc10, rc11, rc12]) rfl (LineC.no HRN.out HBEL.out)
                      · have hR3 : setR s2 ch t = some s' := by rw [hR2]; rfl
                        have HRU2 := Lib.hid (HRU.out.step HCH.out HT.out hR3)
                        have HK2 := Lib.hid (Nat.le_trans (setR_keep_len hR3) (Nat.succ_le_succ HKP.out))
                        have hld3 := (row_load (ty := 33) hs3.at' Tryz.underlying33 (by kernel_rfl)).2
                        obtain ⟨w5, hst5, hs5⟩ := row_store (ty := 33) (cs := stepCells s' (.slice A' m' c')) hq3 (by kernel_rfl) rfl (by simp [Value.oneCell'])
                        have HL5 := Lib.hid (HLD.out.put hm ho1 hkp hp0 hpr hpq hpg hpv hs5)
                        clear hm hkp hs3 ho1 hq3 hR2 hR3 hs5
                        go_wp2_with (first | (refine load_step 33 _ rfl rfl rfl hld3 ?_) | (refine store_step 33 _ _ rfl rfl rfl rfl hst5 ?_))
                        go_roundw
                        case rel => exact ⟨i + 1, s', A', m', c', hin, by first | exact cast1R _ | (rw [hwr]; exact cast1R _), HL5, HRU2, HK2⟩
                        case measure => first | (rw [intOf_lit, intOf_lit, hwr]; omega) | (rw [intOf_lit, intOf_lit]; omega)
                    · refine wpOrdC_one rfl rfl ?_; intro K hK; go_wp2
                      refine hK _ _ ((Lib.alloc_old wr.drew _ q (Array.getElem?_eq_some_iff.1 HLD.out.box).1).trans HLD.out.box) ?_; clear hK K
                      have HLA := Lib.hid (HLD.out.later (Below.alloc (Below.refl wr.drew.heap.size wr.drew) (Nat.le_refl _) (.cells stepZero 33)))
                      have hz := heap_alloc_new wr.drew (.cells stepZero 33)
                      have hzl := (Array.getElem?_eq_some_iff.1 hz).1
                      have hzv := own_ne HLA.out.own hz (fun _ _ e => by injection e with _ e2; exact absurd e2 (by decide))
                      refine wpOrdC_one rfl rfl ?_; intro K hK; go_wp2_with (fail)
                      refine (set_any s2 ch (.slice A2 m2 c2) x w.heap.size _ HLET.out (Lib.hid HLA.out.own) (Lib.hid HLA.out.bel.size) (Lib.hid (Nat.le_trans HXS.out (by decide))) (Lib.hid (Nat.le_trans HKP.out (by omega)))).mono ?_
                      rintro e1 w1 ⟨s', A', m', c', b, rfl, hR2, hm, ho1⟩
                      rw [HXD.out] at hR2
                      have hq1 := (hm.rest q (Array.getElem?_eq_some_iff.1 HLA.out.box).1 HLA.out.vq).trans HLA.out.box
                      refine hK _ _ hq1 ?_; clear hK K
                      refine wpOrdC_take rfl rfl ?_; intro K hK; refine ⟨.tuple #[.agg (stepCells s' (.slice A' m' c')), .bool b], fun W hW => ?_, ?_⟩; (· clear hK; go_simp); go_simp; refine hK _ ?_; clear hK K
                      refine wpOrdC_take rfl rfl ?_; intro K hK; refine ⟨.agg (stepCells s' (.slice A' m' c')), fun W hW => ?_, ?_⟩; (· clear hK; go_simp); go_simp; refine hK _ ?_; clear hK K
                      refine wpOrdC_take rfl rfl ?_; intro K hK; refine ⟨.bool b, fun W hW => ?_, ?_⟩; (· clear hK; go_simp); go_simp; refine hK _ ?_; clear hK K
                      have hz0 := (hm.rest wr.drew.heap.size hzl hzv).trans hz
                      have hz1 : w1.heap[wr.heap.size]? = some (.cells stepZero 33 (0, 0)) := hz0
                      clear hz0 hz hzl hzv
                      refine wpOrdC_one rfl rfl ?_; intro K hK
                      refine store_op (W := _) (g := wr.heap.size) 33 _ _ rfl rfl rfl hz1 (by kernel_rfl) rfl (by simp [Value.oneCell']) ?_
                      intro w3 hs3
                      have hpr : ¬ w.heap.size = wr.heap.size := by have := (Array.getElem?_eq_some_iff.1 HL.out.res).1; omega
                      have hpq : ¬ q = wr.heap.size := by have := (Array.getElem?_eq_some_iff.1 HL.out.box).1; omega
                      obtain ⟨csg, frg, hgb⟩ := HL.out.blk
                      have hpg : ¬ g2 = wr.heap.size := by have := (Array.getElem?_eq_some_iff.1 hgb).1; omega
                      have hkp : Kept wr.heap.size w1 w3 := ⟨hs3.os, hs3.tape, hs3.output, by rw [hs3.size]; exact Nat.le_refl _, fun k hk hne => hs3.rest k hne⟩
                      have hp0 : w.heap.size ≤ wr.heap.size := HL.out.bel.size
                      have hpv : ¬ (Value.slice A' m' c').ownBlock = some wr.heap.size := own_ne ho1 hz1 fun _ _ e => by injection e with _ e2; exact absurd e2 (by decide)
                      clear hgb hz1
                      refine hK _ _ (HLA.out.stays hm hkp hpq) ?_; clear hK K
                      refine wpOrdC_take rfl rfl ?_; intro K hK; refine ⟨.bool b, fun W hW => ?_, ?_⟩; (· clear hK; go_simp); go_simp; refine hK _ ?_; clear hK K
                      refine wpOrdC_done ?_
                      have hq3 := HLA.out.stays hm hkp hpq
                      cases b
                      · have HRN := Lib.hid (HRU.out.fail HCH.out HT.out (by rw [hR2]; rfl))
                        obtain ⟨hres, hbel⟩ := HLA.out.near hm hkp hp0 hpr
                        have HRES := Lib.hid hres
                        have HBEL := Lib.hid hbel
                        clear hm hkp hs3 ho1 hq3 hres hbel hR2
                        have rc0 : w3.cell? ⟨w.heap.size, 0, none⟩ = some (.int .i64 0) := cell_at HRES.out rfl
                        have rz0 : w3.frozen? ⟨w.heap.size, 0, none⟩ = false := Lib.frozen_of_heap HRES.out 0
                        have rs0 : w3.setCell ⟨w.heap.size, 0, none⟩ (.int .i64 0) = w3 := w_setCell_same rc0
                        have rc1 : w3.cell? ⟨w.heap.size, 1, none⟩ = some (.int .i64 0) := cell_at HRES.out rfl
                        have rz1 : w3.frozen? ⟨w.heap.size, 1, none⟩ = false := Lib.frozen_of_heap HRES.out 1
                        have rs1 : w3.setCell ⟨w.heap.size, 1, none⟩ (.int .i64 0) = w3 := w_setCell_same rc1
                        have rc2 : w3.cell? ⟨w.heap.size, 2, none⟩ = some (.string ⟨#[]⟩) := cell_at HRES.out rfl
                        have rz2 : w3.frozen? ⟨w.heap.size, 2, none⟩ = false := Lib.frozen_of_heap HRES.out 2
                        have rs2 : w3.setCell ⟨w.heap.size, 2, none⟩ (.string ⟨#[]⟩) = w3 := w_setCell_same rc2
                        have rc3 : w3.cell? ⟨w.heap.size, 3, none⟩ = some (.string ⟨#[]⟩) := cell_at HRES.out rfl
                        have rz3 : w3.frozen? ⟨w.heap.size, 3, none⟩ = false := Lib.frozen_of_heap HRES.out 3
                        have rs3 : w3.setCell ⟨w.heap.size, 3, none⟩ (.string ⟨#[]⟩) = w3 := w_setCell_same rc3
                        have rc4 : w3.cell? ⟨w.heap.size, 4, none⟩ = some (.int .i64 0) := cell_at HRES.out rfl
                        have rz4 : w3.frozen? ⟨w.heap.size, 4, none⟩ = false := Lib.frozen_of_heap HRES.out 4
                        have rs4 : w3.setCell ⟨w.heap.size, 4, none⟩ (.int .i64 0) = w3 := w_setCell_same rc4
                        have rc5 : w3.cell? ⟨w.heap.size, 5, none⟩ = some (.slice none 0 0) := cell_at HRES.out rfl
                        have rz5 : w3.frozen? ⟨w.heap.size, 5, none⟩ = false := Lib.frozen_of_heap HRES.out 5
                        have rs5 : w3.setCell ⟨w.heap.size, 5, none⟩ (.slice none 0 0) = w3 := w_setCell_same rc5
                        have rc6 : w3.cell? ⟨w.heap.size, 6, none⟩ = some (.int .i64 0) := cell_at HRES.out rfl
                        have rz6 : w3.frozen? ⟨w.heap.size, 6, none⟩ = false := Lib.frozen_of_heap HRES.out 6
                        have rs6 : w3.setCell ⟨w.heap.size, 6, none⟩ (.int .i64 0) = w3 := w_setCell_same rc6
                        have rc7 : w3.cell? ⟨w.heap.size, 7, none⟩ = some (.string ⟨#[]⟩) := cell_at HRES.out rfl
                        have rz7 : w3.frozen? ⟨w.heap.size, 7, none⟩ = false := Lib.frozen_of_heap HRES.out 7
                        have rs7 : w3.setCell ⟨w.heap.size, 7, none⟩ (.string ⟨#[]⟩) = w3 := w_setCell_same rc7
                        have rc8 : w3.cell? ⟨w.heap.size, 8, none⟩ = some (.string ⟨#[]⟩) := cell_at HRES.out rfl
                        have rz8 : w3.frozen? ⟨w.heap.size, 8, none⟩ = false := Lib.frozen_of_heap HRES.out 8
                        have rs8 : w3.setCell ⟨w.heap.size, 8, none⟩ (.string ⟨#[]⟩) = w3 := w_setCell_same rc8
                        have rc9 : w3.cell? ⟨w.heap.size, 9, none⟩ = some (.int .i64 0) := cell_at HRES.out rfl
                        have rz9 : w3.frozen? ⟨w.heap.size, 9, none⟩ = false := Lib.frozen_of_heap HRES.out 9
                        have rs9 : w3.setCell ⟨w.heap.size, 9, none⟩ (.int .i64 0) = w3 := w_setCell_same rc9
                        have rc10 : w3.cell? ⟨w.heap.size, 10, none⟩ = some (.int .i64 0) := cell_at HRES.out rfl
                        have rz10 : w3.frozen? ⟨w.heap.size, 10, none⟩ = false := Lib.frozen_of_heap HRES.out 10
                        have rs10 : w3.setCell ⟨w.heap.size, 10, none⟩ (.int .i64 0) = w3 := w_setCell_same rc10
                        have rc11 : w3.cell? ⟨w.heap.size, 11, none⟩ = some (.string ⟨#[]⟩) := cell_at HRES.out rfl
                        have rz11 : w3.frozen? ⟨w.heap.size, 11, none⟩ = false := Lib.frozen_of_heap HRES.out 11
                        have rs11 : w3.setCell ⟨w.heap.size, 11, none⟩ (.string ⟨#[]⟩) = w3 := w_setCell_same rc11
                        have rc12 : w3.cell? ⟨w.heap.size, 12, none⟩ = some (f64 0) := cell_at HRES.out rfl
                        have rz12 : w3.frozen? ⟨w.heap.size, 12, none⟩ = false := Lib.frozen_of_heap HRES.out 12
                        have rs12 : w3.setCell ⟨w.heap.size, 12, none⟩ (f64 0) = w3 := w_setCell_same rc12
                        have lr := leB_of_cell rc0
                        go_wp2
                        rw [← HQQ.out]; exact bodyPost_ret (v := .tuple #[.agg (stepZero), .int .i64 205]) (by simp [results, Tryz.results21, go_sem, rc0, rc1, rc2, rc3, rc4, rc5, rc6, rc7, rc8, rc9, rc10, rc11, rc12]) rfl (LineC.no HRN.out HBEL.out)
                      · have hR3 : setR s2 ch t = some s' := by rw [hR2]; rfl
                        have HRU2 := Lib.hid (HRU.out.step HCH.out HT.out hR3)
                        have HK2 := Lib.hid (Nat.le_trans (setR_keep_len hR3) (Nat.succ_le_succ HKP.out))
                        have hld3 := (row_load (ty := 33) hs3.at' Tryz.underlying33 (by kernel_rfl)).2
                        obtain ⟨w5, hst5, hs5⟩ := row_store (ty := 33) (cs := stepCells s' (.slice A' m' c')) hq3 (by kernel_rfl) rfl (by simp [Value.oneCell'])
                        have HL5 := Lib.hid (HLA.out.put hm ho1 hkp hp0 hpr hpq hpg hpv hs5)
                        clear hm hkp hs3 ho1 hq3 hR2 hR3 hs5
                        go_wp2_with (first | (refine load_step 33 _ rfl rfl rfl hld3 ?_) | (refine store_step 33 _ _ rfl rfl rfl rfl hst5 ?_))
                        go_roundw
                        case rel => exact ⟨i + 1, s', A', m', c', hin, by first | exact cast1R _ | (rw [hwr]; exact cast1R _), HL5, HRU2, HK2⟩
                        case measure => first | (rw [intOf_lit, intOf_lit, hwr]; omega) | (rw [intOf_lit, intOf_lit]; omega)
                  · have hnlt : ¬ (i : Int) < (n2 : Int) := by omega
                    have HRE := Lib.hid (HRU.out.done HLEN.out (by rw [HLS.out]; exact hin))
                    have hld := (row_load (ty := 33) HL.out.box Tryz.underlying33 (by kernel_rfl)).2
                    obtain ⟨w9, hst9, hs9⟩ := row_store (ty := 33) (cs := (stepCells s2 (.slice A2 m2 c2))) HL.out.res (by kernel_rfl) rfl (by simp [Value.oneCell'])
                    have hv0 := cell_at (i := 0) hs9.at' rfl
                    have hv1 := cell_at (i := 1) hs9.at' rfl
                    have hv2 := cell_at (i := 2) hs9.at' rfl
                    have hv3 := cell_at (i := 3) hs9.at' rfl
                    have hv4 := cell_at (i := 4) hs9.at' rfl
                    have hv5 := cell_at (i := 5) hs9.at' rfl
                    have hv6 := cell_at (i := 6) hs9.at' rfl
                    have hv7 := cell_at (i := 7) hs9.at' rfl
                    have hv8 := cell_at (i := 8) hs9.at' rfl
                    have hv9 := cell_at (i := 9) hs9.at' rfl
                    have hv10 := cell_at (i := 10) hs9.at' rfl
                    have hv11 := cell_at (i := 11) hs9.at' rfl
                    have hv12 := cell_at (i := 12) hs9.at' rfl
                    have HBE := Lib.hid (HL.out.res_store hs9)
                    have HOE := Lib.hid (HL.out.res_own hs9)
                    clear hs9
                    go_wp2_with (first | (refine load_step 33 _ rfl rfl rfl hld ?_) | (refine store_step 33 _ _ rfl rfl rfl rfl hst9 ?_))
                    rw [← HQQ.out]; exact bodyPost_ret (v := .tuple #[.agg ((stepCells s2 (.slice A2 m2 c2))), .int .i64 0]) (by simp [results, Tryz.results21, go_sem, hv0, hv1, hv2, hv3, hv4, hv5, hv6, hv7, hv8, hv9, hv10, hv11, hv12]) rfl (line_done HRE.out HBE.out HOE.out)
              · have he1 : ((n2 : Int) != (ar.size : Int)) = true := by
                  rw [bne_iff_ne]
                  intro e
                  exact hsz (by omega)
                have HRN := Lib.hid (show R = none by rw [HRC.out]; exact runR_len _ _ _ (by rw [← HAS.out, HLS.out]; exact fun e => hsz e.symm))
                clear hsz
                have rc0 : w9.cell? ⟨w.heap.size, 0, none⟩ = some (.int .i64 0) := cell_at HLW.out.res rfl
                have rz0 : w9.frozen? ⟨w.heap.size, 0, none⟩ = false := Lib.frozen_of_heap HLW.out.res 0
                have rs0 : w9.setCell ⟨w.heap.size, 0, none⟩ (.int .i64 0) = w9 := w_setCell_same rc0
                have rc1 : w9.cell? ⟨w.heap.size, 1, none⟩ = some (.int .i64 0) := cell_at HLW.out.res rfl
                have rz1 : w9.frozen? ⟨w.heap.size, 1, none⟩ = false := Lib.frozen_of_heap HLW.out.res 1
                have rs1 : w9.setCell ⟨w.heap.size, 1, none⟩ (.int .i64 0) = w9 := w_setCell_same rc1
                have rc2 : w9.cell? ⟨w.heap.size, 2, none⟩ = some (.string ⟨#[]⟩) := cell_at HLW.out.res rfl
                have rz2 : w9.frozen? ⟨w.heap.size, 2, none⟩ = false := Lib.frozen_of_heap HLW.out.res 2
                have rs2 : w9.setCell ⟨w.heap.size, 2, none⟩ (.string ⟨#[]⟩) = w9 := w_setCell_same rc2
                have rc3 : w9.cell? ⟨w.heap.size, 3, none⟩ = some (.string ⟨#[]⟩) := cell_at HLW.out.res rfl
                have rz3 : w9.frozen? ⟨w.heap.size, 3, none⟩ = false := Lib.frozen_of_heap HLW.out.res 3
                have rs3 : w9.setCell ⟨w.heap.size, 3, none⟩ (.string ⟨#[]⟩) = w9 := w_setCell_same rc3
                have rc4 : w9.cell? ⟨w.heap.size, 4, none⟩ = some (.int .i64 0) := cell_at HLW.out.res rfl
                have rz4 : w9.frozen? ⟨w.heap.size, 4, none⟩ = false := Lib.frozen_of_heap HLW.out.res 4
                have rs4 : w9.setCell ⟨w.heap.size, 4, none⟩ (.int .i64 0) = w9 := w_setCell_same rc4
                have rc5 : w9.cell? ⟨w.heap.size, 5, none⟩ = some (.slice none 0 0) := cell_at HLW.out.res rfl
                have rz5 : w9.frozen? ⟨w.heap.size, 5, none⟩ = false := Lib.frozen_of_heap HLW.out.res 5
                have rs5 : w9.setCell ⟨w.heap.size, 5, none⟩ (.slice none 0 0) = w9 := w_setCell_same rc5
                have rc6 : w9.cell? ⟨w.heap.size, 6, none⟩ = some (.int .i64 0) := cell_at HLW.out.res rfl
                have rz6 : w9.frozen? ⟨w.heap.size, 6, none⟩ = false := Lib.frozen_of_heap HLW.out.res 6
                have rs6 : w9.setCell ⟨w.heap.size, 6, none⟩ (.int .i64 0) = w9 := w_setCell_same rc6
                have rc7 : w9.cell? ⟨w.heap.size, 7, none⟩ = some (.string ⟨#[]⟩) := cell_at HLW.out.res rfl
                have rz7 : w9.frozen? ⟨w.heap.size, 7, none⟩ = false := Lib.frozen_of_heap HLW.out.res 7
                have rs7 : w9.setCell ⟨w.heap.size, 7, none⟩ (.string ⟨#[]⟩) = w9 := w_setCell_same rc7
                have rc8 : w9.cell? ⟨w.heap.size, 8, none⟩ = some (.string ⟨#[]⟩) := cell_at HLW.out.res rfl
                have rz8 : w9.frozen? ⟨w.heap.size, 8, none⟩ = false := Lib.frozen_of_heap HLW.out.res 8
                have rs8 : w9.setCell ⟨w.heap.size, 8, none⟩ (.string ⟨#[]⟩) = w9 := w_setCell_same rc8
                have rc9 : w9.cell? ⟨w.heap.size, 9, none⟩ = some (.int .i64 0) := cell_at HLW.out.res rfl
                have rz9 : w9.frozen? ⟨w.heap.size, 9, none⟩ = false := Lib.frozen_of_heap HLW.out.res 9
                have rs9 : w9.setCell ⟨w.heap.size, 9, none⟩ (.int .i64 0) = w9 := w_setCell_same rc9
                have rc10 : w9.cell? ⟨w.heap.size, 10, none⟩ = some (.int .i64 0) := cell_at HLW.out.res rfl
                have rz10 : w9.frozen? ⟨w.heap.size, 10, none⟩ = false := Lib.frozen_of_heap HLW.out.res 10
                have rs10 : w9.setCell ⟨w.heap.size, 10, none⟩ (.int .i64 0) = w9 := w_setCell_same rc10
                have rc11 : w9.cell? ⟨w.heap.size, 11, none⟩ = some (.string ⟨#[]⟩) := cell_at HLW.out.res rfl
                have rz11 : w9.frozen? ⟨w.heap.size, 11, none⟩ = false := Lib.frozen_of_heap HLW.out.res 11
                have rs11 : w9.setCell ⟨w.heap.size, 11, none⟩ (.string ⟨#[]⟩) = w9 := w_setCell_same rc11
                have rc12 : w9.cell? ⟨w.heap.size, 12, none⟩ = some (f64 0) := cell_at HLW.out.res rfl
                have rz12 : w9.frozen? ⟨w.heap.size, 12, none⟩ = false := Lib.frozen_of_heap HLW.out.res 12
                have rs12 : w9.setCell ⟨w.heap.size, 12, none⟩ (f64 0) = w9 := w_setCell_same rc12
                have lr := leB_of_cell rc0
                go_wp2
                rw [← HQQ.out]; exact bodyPost_ret (v := .tuple #[.agg (stepZero), .int .i64 205]) (by simp [results, Tryz.results21, go_sem, rc0, rc1, rc2, rc3, rc4, rc5, rc6, rc7, rc8, rc9, rc10, rc11, rc12]) rfl (LineC.no HRN.out HLW.out.bel)
          · have he1 : ¬ (e3 : Int) + 3 = 3 := by omega
            have he2 : ¬ e3 = 0 := by omega
            have he3 : ¬ (3 : Int) = (e3 : Int) + 3 := by omega
            clear h0
            refine wp_region_mix [(1, true), (2, true), (4, true), (5, true), (0, false), (3, false), (6, false), (7, true)] (by kernel_rfl) (by kernel_rfl) rfl (by kernel_rfl) (by intro _ _ d _ _ h; cases d; exact h; exact HQP.out _ _ _ _ _ h) ?_; intro j1
            have hbj : Below w6.heap.size w6 (wext w6 j1) := w_ext_below w6 j1
            have hbe : Below (wext w6 j1).heap.size (wext w6 j1) ((wext w6 j1).alloc (.cells #[] 9)) := Below.alloc (Below.refl _ _) (Nat.le_refl _) _
            have hbe6 := below_tr hbj hbe
            have hoe : OwnS ((wext w6 j1).alloc (.cells #[] 9)) w6.heap.size (.slice (some ⟨(wext w6 j1).heap.size, 0, none⟩) 0 0) [] := ⟨rfl, Or.inr ⟨_, 0, #[], rfl, hbj.size, heap_alloc_new _ _, Nat.le_refl _, Nat.zero_le _, rfl, rfl⟩⟩
            obtain ⟨v8, w8, happ8, ho8, hb8, -⟩ := app_news w6.heap.size ((wext w6 j1).alloc (.cells #[] 9)) _ [] [r1, v1] g 1 2 (e3 + 3) hoe hbe6.size (by simp) rfl (fun i hi => by
              have hi2 : i < 2 := hi
              have h := (HL6.out.later hbe6).wds i (by rw [HLS0.out]; omega)
              rw [HG2.out i hi2] at h
              exact h)
            rw [w_size_ext] at happ8
            have hB8 := hbe6.trans hb8
            obtain ⟨v9, w9, happ9, ho9, hb9, -⟩ := app_news w6.heap.size w8 v8 [r1, v1] rest g 4 k3 e3 ho8 hB8.size (by simp; have := HRL.out; omega) HRL.out.symm (fun i hi => by
              have h := (HL6.out.later hB8).wds (3 + i) (by rw [HLS0.out]; have := HRL.out; omega)
              have e : ws.getD (3 + i) [] = rest.getD i [] := by rw [HWS.out, Nat.add_comm]; rfl
              rw [e] at h
              rw [show 1 + (3 + i) = 4 + i by omega] at h; exact h)
            have hB9 := hB8.trans hb9
            have HO9 : Hid (OwnS w9 w6.heap.size v9 (r1 :: v1 :: rest)) := Lib.hid ho9
            obtain ⟨A8, m8, c8, rfl⟩ := own_sl ho8
            obtain ⟨A9, m9, c9, rfl⟩ := own_sl ho9
            clear hoe ho8 ho9 hb8 hb9 hbe hbj
            (repeat (first | (refine wpMix_skipK rfl rfl ?_; intro K hK; go_simp; refine hK _ ?_; clear hK K) | (refine wpMix_light rfl rfl ?_; intro K hK; go_simp; refine hK _ ?_; clear hK K)))
            refine wpMix_heavy rfl rfl ?_; intro K hK; go_wp2_with (fail); refine ⟨w_ext_of_below (by (repeat' (first | (with_reducible exact Below.refl _ _) | (with_reducible assumption) | (with_reducible exact below_app _ _ _ _) | (with_reducible refine below_pre ?_; (simp only [List.append_assoc, List.prefix_append, List.prefix_refl, List.prefix_append_right_inj])) | (with_reducible refine Below.alloc ?_ ?_ _) | (with_reducible refine below_ext ?_ ?_ _) | (with_reducible refine Below.drew ?_) | (with_reducible refine below_drewN ?_ _) | (with_reducible refine Below.setCell ?_ ?_ _) | go_size | (simp only [w_size_ext, List.length_append, World.alloc_size]; omega) | (simp; done) | (simp; omega)))), ?_⟩
            refine wpMix_heavy rfl rfl ?_; intro K hK
            refine app_op 35 _ _ rfl rfl rfl rfl happ8 ?_
            go_simp
            refine hK _ _ ⟨w_ext_of_below hB8, ?_⟩; clear hK K
            refine wpMix_heavy rfl rfl ?_; intro K hK
            refine app_op 35 _ _ rfl rfl rfl rfl happ9 ?_
            go_simp
            refine hK _ _ ⟨w_ext_of_below hB9, ?_⟩; clear hK K
            (repeat (first | (refine wpMix_skipK rfl rfl ?_; intro K hK; go_simp; refine hK _ ?_; clear hK K) | (refine wpMix_light rfl rfl ?_; intro K hK; go_simp; refine hK _ ?_; clear hK K)))
            refine wpMix_nil ?_
            have HL9 := Lib.hid (HL6.out.later hB9)
            obtain ⟨g2, c2', hv9, _, _, hcells9, hblk9⟩ := own_block HO9.out (by simp)
            injection hv9 with e1 e2 e3
            subst e1; subst e2; subst e3
            have HLW := Lib.hid (show Lst w w.heap.size q g2 0 (r1 :: v1 :: rest) { zeroR with kind := 1, ck := ck } (.slice none 0 0) w9 from HL9.out.words (fun i hi => by rw [Nat.zero_add]; exact hcells9 i hi) hblk9)
            obtain ⟨n2, hn2'⟩ : ∃ n2, (r1 :: v1 :: rest).length = n2 := ⟨_, rfl⟩
            have HLS := Lib.hid hn2'
            have hnb2 : n2 ≤ 200 := by have := HRL.out; have : (r1 :: v1 :: rest).length = rest.length + 2 := rfl; omega
            rw [hn2']
            have y0 : w9.cell? ⟨q, 0, none⟩ = some (.int .i64 1) := cell_at HL9.out.box rfl
            have y6 : w9.cell? ⟨q, 6, none⟩ = some (.int .i64 ck) := cell_at HL9.out.box rfl
            have ly := leB_of_cell y0
            have HWL2 := Lib.hid (fun t (ht : t ∈ r1 :: v1 :: rest) => show t.length ≤ 200 from HWL.out t (by
              rw [HWS.out]
              simp only [List.mem_cons] at ht ⊢
              rcases ht with h | h | h
              · exact Or.inr (Or.inl h)
              · exact Or.inr (Or.inr (Or.inl h))
              · exact Or.inr (Or.inr (Or.inr (Or.inr h)))))
            clear happ8 happ9 hB8 hB9 hbe6 hcells9 hblk9 hn2' z0 z6 lz
            rcases HCS.out with ⟨rfl, hRN⟩ | ⟨hck, cs, hRC, hcs, hlet⟩
            · have HRN := Lib.hid hRN
              clear hRN
              have rc0 : w9.cell? ⟨w.heap.size, 0, none⟩ = some (.int .i64 0) := cell_at HL9.out.res rfl
              have rz0 : w9.frozen? ⟨w.heap.size, 0, none⟩ = false := Lib.frozen_of_heap HL9.out.res 0
              have rs0 : w9.setCell ⟨w.heap.size, 0, none⟩ (.int .i64 0) = w9 := w_setCell_same rc0
              have rc1 : w9.cell? ⟨w.heap.size, 1, none⟩ = some (.int .i64 0) := cell_at HL9.out.res rfl
              have rz1 : w9.frozen? ⟨w.heap.size, 1, none⟩ = false := Lib.frozen_of_heap HL9.out.res 1
              have rs1 : w9.setCell ⟨w.heap.size, 1, none⟩ (.int .i64 0) = w9 := w_setCell_same rc1
              have rc2 : w9.cell? ⟨w.heap.size, 2, none⟩ = some (.string ⟨#[]⟩) := cell_at HL9.out.res rfl
              have rz2 : w9.frozen? ⟨w.heap.size, 2, none⟩ = false := Lib.frozen_of_heap HL9.out.res 2
              have rs2 : w9.setCell ⟨w.heap.size, 2, none⟩ (.string ⟨#[]⟩) = w9 := w_setCell_same rc2
              have rc3 : w9.cell? ⟨w.heap.size, 3, none⟩ = some (.string ⟨#[]⟩) := cell_at HL9.out.res rfl
              have rz3 : w9.frozen? ⟨w.heap.size, 3, none⟩ = false := Lib.frozen_of_heap HL9.out.res 3
              have rs3 : w9.setCell ⟨w.heap.size, 3, none⟩ (.string ⟨#[]⟩) = w9 := w_setCell_same rc3
              have rc4 : w9.cell? ⟨w.heap.size, 4, none⟩ = some (.int .i64 0) := cell_at HL9.out.res rfl
              have rz4 : w9.frozen? ⟨w.heap.size, 4, none⟩ = false := Lib.frozen_of_heap HL9.out.res 4
              have rs4 : w9.setCell ⟨w.heap.size, 4, none⟩ (.int .i64 0) = w9 := w_setCell_same rc4
              have rc5 : w9.cell? ⟨w.heap.size, 5, none⟩ = some (.slice none 0 0) := cell_at HL9.out.res rfl
              have rz5 : w9.frozen? ⟨w.heap.size, 5, none⟩ = false := Lib.frozen_of_heap HL9.out.res 5
              have rs5 : w9.setCell ⟨w.heap.size, 5, none⟩ (.slice none 0 0) = w9 := w_setCell_same rc5
              have rc6 : w9.cell? ⟨w.heap.size, 6, none⟩ = some (.int .i64 0) := cell_at HL9.out.res rfl
              have rz6 : w9.frozen? ⟨w.heap.size, 6, none⟩ = false := Lib.frozen_of_heap HL9.out.res 6
              have rs6 : w9.setCell ⟨w.heap.size, 6, none⟩ (.int .i64 0) = w9 := w_setCell_same rc6
              have rc7 : w9.cell? ⟨w.heap.size, 7, none⟩ = some (.string ⟨#[]⟩) := cell_at HL9.out.res rfl
              have rz7 : w9.frozen? ⟨w.heap.size, 7, none⟩ = false := Lib.frozen_of_heap HL9.out.res 7
              have rs7 : w9.setCell ⟨w.heap.size, 7, none⟩ (.string ⟨#[]⟩) = w9 := w_setCell_same rc7
              have rc8 : w9.cell? ⟨w.heap.size, 8, none⟩ = some (.string ⟨#[]⟩) := cell_at HL9.out.res rfl
              have rz8 : w9.frozen? ⟨w.heap.size, 8, none⟩ = false := Lib.frozen_of_heap HL9.out.res 8
              have rs8 : w9.setCell ⟨w.heap.size, 8, none⟩ (.string ⟨#[]⟩) = w9 := w_setCell_same rc8
              have rc9 : w9.cell? ⟨w.heap.size, 9, none⟩ = some (.int .i64 0) := cell_at HL9.out.res rfl
              have rz9 : w9.frozen? ⟨w.heap.size, 9, none⟩ = false := Lib.frozen_of_heap HL9.out.res 9
              have rs9 : w9.setCell ⟨w.heap.size, 9, none⟩ (.int .i64 0) = w9 := w_setCell_same rc9
              have rc10 : w9.cell? ⟨w.heap.size, 10, none⟩ = some (.int .i64 0) := cell_at HL9.out.res rfl
              have rz10 : w9.frozen? ⟨w.heap.size, 10, none⟩ = false := Lib.frozen_of_heap HL9.out.res 10
              have rs10 : w9.setCell ⟨w.heap.size, 10, none⟩ (.int .i64 0) = w9 := w_setCell_same rc10
              have rc11 : w9.cell? ⟨w.heap.size, 11, none⟩ = some (.string ⟨#[]⟩) := cell_at HL9.out.res rfl
              have rz11 : w9.frozen? ⟨w.heap.size, 11, none⟩ = false := Lib.frozen_of_heap HL9.out.res 11
              have rs11 : w9.setCell ⟨w.heap.size, 11, none⟩ (.string ⟨#[]⟩) = w9 := w_setCell_same rc11
              have rc12 : w9.cell? ⟨w.heap.size, 12, none⟩ = some (f64 0) := cell_at HL9.out.res rfl
              have rz12 : w9.frozen? ⟨w.heap.size, 12, none⟩ = false := Lib.frozen_of_heap HL9.out.res 12
              have rs12 : w9.setCell ⟨w.heap.size, 12, none⟩ (f64 0) = w9 := w_setCell_same rc12
              have lr := leB_of_cell rc0
              go_wp2
              rw [← HQQ.out]; exact bodyPost_ret (v := .tuple #[.agg (stepZero), .int .i64 205]) (by simp [results, Tryz.results21, go_sem, rc0, rc1, rc2, rc3, rc4, rc5, rc6, rc7, rc8, rc9, rc10, rc11, rc12]) rfl (LineC.no HRN.out HL9.out.bel)
            · have HRC := Lib.hid hRC
              have HLETS := Lib.hid hlet
              have hck0 : (ck == 0) = false := by simpa using hck
              have HAD := Lib.hid (show ar.data.toList = cs by rw [← HAR.out, hcs])
              have HAS := Lib.hid (show ar.size = cs.length by rw [← HAD.out, Array.length_toList]; rfl)
              clear hRC hlet hcs hck
              have hcmp : n2 = ar.size ∨ ¬ n2 = ar.size := Decidable.em _
              rcases hcmp with hsz | hsz
              · have HSZ2 := Lib.hid hsz
                have he1 : ((n2 : Int) != (ar.size : Int)) = false := by rw [hsz]; simp
                clear hsz
                have HLEN := Lib.hid (show (cs : Bs).length = ((r1 :: v1 :: rest) : List Bs).length by rw [← HAS.out, ← HSZ2.out, HLS.out])
                go_wp2
                go_loopw [134] (fun v134 wr => ∃ (i : Nat) (s2 : StepR) (A2 : Option Addr) (m2 c2 : Nat), i ≤ n2 ∧ v134 = .int .i64 (i : Int) ∧ Hid (Lst w w.heap.size q g2 0 (r1 :: v1 :: rest) s2 (.slice A2 m2 c2) wr) ∧ Hid (RunsR R cs (r1 :: v1 :: rest) i s2) ∧ Hid (s2.keep.length ≤ i)) (fun v134 _ => ((n2 : Int) - intOf v134).toNat)
                case atStart => exact ⟨0, { zeroR with kind := 1, ck := ck }, none, 0, 0, Nat.zero_le _, rfl, HLW, Lib.hid (RunsR.start HRC.out), Lib.hid (Nat.zero_le _)⟩
                case round =>
                  obtain ⟨i, s2, A2, m2, c2, hi, rfl, HL, HRU, HKP⟩ := hrel
                  by_cases hin : i < n2
                  · have hlt : (i : Int) < (n2 : Int) := by omega
                    have hge : (0 : Int) ≤ (i : Int) := by omega
                    have hnl : ¬ (i : Int) < 0 := by omega
                    have hwr : wrap64 ((i : Int) + 1) = (i : Int) + 1 := by rw [wrap64_eq]; omega
                    have hil : (i : Int) < (ar.size : Int) := by have := HSZ2.out; omega
                    obtain ⟨t, ht⟩ : ∃ t, ((r1 :: v1 :: rest) : List Bs)[i]? = some t := ⟨_, List.getElem?_eq_getElem (by rw [HLS.out]; exact hin)⟩
                    obtain ⟨ch, hch⟩ : ∃ ch, (cs : Bs)[i]? = some ch := ⟨_, List.getElem?_eq_getElem (by rw [HLEN.out, HLS.out]; exact hin)⟩
                    have HT := Lib.hid ht
                    have HCH := Lib.hid hch
                    have HLET := Lib.hid (HLETS.out ch (List.mem_of_getElem? hch))
                    obtain ⟨x, hx⟩ : ∃ x : ByteArray, (⟨t.toArray⟩ : ByteArray) = x := ⟨_, rfl⟩
                    have HXD := Lib.hid (show x.data.toList = t by rw [← hx])
                    have HXS := Lib.hid (show x.size ≤ 200 by
                      have e : x.size = x.data.toList.length := by rw [Array.length_toList]; rfl
                      rw [e, HXD.out]
                      exact HWL2.out t (List.mem_of_getElem? ht))
                    have hc0 : wr.cell? ⟨g2, 0 + i, none⟩ = some (.string x) := by
                      have h := HL.out.wds i (by rw [HLS.out]; exact hin)
                      rw [List.getD_eq_getElem?_getD, ht] at h
                      rw [← hx]; exact h
                    have hc1 : wr.cell? ⟨g2, i, none⟩ = some (.string x) := by rw [Nat.zero_add] at hc0; exact hc0
                    have lg := leB_of_cell hc0
                    have hidx : ∀ h : i < ar.size, ar[i]'h = ch := fun h => by
                      rw [byte_at2 ar i h, List.getD_eq_getElem?_getD, HAD.out, hch]; rfl
                    clear ht hch hx
                    have HLD := Lib.hid (HL.out.later (Below.refl wr.heap.size wr).drew)
                    go_wp2
                    refine wp_region_ordC (fun W => W.heap[q]? = some (.cells (stepCells s2 (.slice A2 m2 c2)) 33 (0, 0))) (.take 0 (.take 1 (.take 2 (.take 3 (.take 4 (.two 5 9 (.take 6 (.take 7 (.take 8 (.one 9 (.one 10 (.take 11 .done)))))) (.one 5 (.take 6 (.take 7 (.take 8 (.one 10 (.take 11 .done)))))))))))) (by kernel_rfl) (by kernel_rfl) (by decide) (by kernel_rfl) (by intro _ _ d _ _ h; cases d; exact h; exact HQP.out _ _ _ _ _ h) HL.out.box ?_
                    refine wpOrdC_take rfl rfl ?_; intro K hK; refine ⟨.agg (stepCells s2 (.slice A2 m2 c2)), fun W hW => ?_, ?_⟩; (· have cc0 : W.cell? ⟨q, 0, none⟩ = some (.int .i64 s2.kind) := cell_at hW rfl; have cc1 : W.cell? ⟨q, 1, none⟩ = some (.int .i64 s2.rep) := cell_at hW rfl; have cc2 : W.cell? ⟨q, 2, none⟩ = some (.string s2.vol) := cell_at hW rfl; have cc3 : W.cell? ⟨q, 3, none⟩ = some (.string s2.dst) := cell_at hW rfl; have cc4 : W.cell? ⟨q, 4, none⟩ = some (.int .i64 s2.n) := cell_at hW rfl; have cc5 : W.cell? ⟨q, 5, none⟩ = some (.slice A2 m2 c2) := cell_at hW rfl; have cc6 : W.cell? ⟨q, 6, none⟩ = some (.int .i64 s2.ck) := cell_at hW rfl; have cc7 : W.cell? ⟨q, 7, none⟩ = some (.string s2.path) := cell_at hW rfl; have cc8 : W.cell? ⟨q, 8, none⟩ = some (.string s2.cto) := cell_at hW rfl; have cc9 : W.cell? ⟨q, 9, none⟩ = some (.int .i64 s2.off) := cell_at hW rfl; have cc10 : W.cell? ⟨q, 10, none⟩ = some (.int .i64 s2.cn) := cell_at hW rfl; have cc11 : W.cell? ⟨q, 11, none⟩ = some (.string s2.data) := cell_at hW rfl; have cc12 : W.cell? ⟨q, 12, none⟩ = some (f64 s2.time) := cell_at hW rfl; have lp := leB_of_cell cc0; clear hK; go_simp); go_simp; refine hK _ ?_; clear hK K
                    refine wpOrdC_take rfl rfl ?_; intro K hK; refine ⟨.string ar, fun W hW => ?_, ?_⟩; (· clear hK; go_simp); go_simp; refine hK _ ?_; clear hK K
                    refine wpOrdC_take rfl rfl ?_; intro K hK; refine ⟨.int .i64 (i : Int), fun W hW => ?_, ?_⟩; (· clear hK; go_simp); go_simp; refine hK _ ?_; clear hK K
                    refine wpOrdC_take rfl rfl ?_; intro K hK; refine ⟨.int .u8 (ch.toNat : Int), fun W hW => ?_, ?_⟩; (· clear hK; go_simp); go_simp; refine hK _ ?_; clear hK K
                    refine wpOrdC_take rfl rfl ?_; intro K hK; refine ⟨.string x, fun W hW => ?_, ?_⟩; (· clear hK; go_simp); go_simp; refine hK _ ?_; clear hK K
                    refine wpOrdC_two ?_ ?_
                    · refine wpOrdC_one rfl rfl ?_; intro K hK; go_wp2_with (fail)
                      refine (set_any s2 ch (.slice A2 m2 c2) x w.heap.size _ HLET.out (Lib.hid HLD.out.own) (Lib.hid HLD.out.bel.size) (Lib.hid (Nat.le_trans HXS.out (by decide))) (Lib.hid (Nat.le_trans HKP.out (by omega)))).mono ?_
                      rintro e1 w1 ⟨s', A', m', c', b, rfl, hR2, hm, ho1⟩
                      rw [HXD.out] at hR2
                      have hq1 := (hm.rest q (Array.getElem?_eq_some_iff.1 HLD.out.box).1 HLD.out.vq).trans HLD.out.box
                      refine hK _ _ hq1 ?_; clear hK K
                      refine wpOrdC_take rfl rfl ?_; intro K hK; refine ⟨.tuple #[.agg (stepCells s' (.slice A' m' c')), .bool b], fun W hW => ?_, ?_⟩; (· clear hK; go_simp); go_simp; refine hK _ ?_; clear hK K
                      refine wpOrdC_take rfl rfl ?_; intro K hK; refine ⟨.agg (stepCells s' (.slice A' m' c')), fun W hW => ?_, ?_⟩; (· clear hK; go_simp); go_simp; refine hK _ ?_; clear hK K
                      refine wpOrdC_take rfl rfl ?_; intro K hK; refine ⟨.bool b, fun W hW => ?_, ?_⟩; (· clear hK; go_simp); go_simp; refine hK _ ?_; clear hK K
                      refine wpOrdC_one rfl rfl ?_; intro K hK; go_wp2
                      refine hK _ _ ((Lib.alloc_old w1 _ q (Array.getElem?_eq_some_iff.1 hq1).1).trans hq1) ?_; clear hK K
                      refine wpOrdC_one rfl rfl ?_; intro K hK
                      refine store_op (W := _) (g := w1.heap.size) 33 _ _ rfl rfl rfl (heap_alloc_new w1 _) (by kernel_rfl) rfl (by simp [Value.oneCell']) ?_
                      intro w3 hs3
                      have hrr := (hm.rest w.heap.size (Array.getElem?_eq_some_iff.1 HLD.out.res).1 HLD.out.vr).trans HLD.out.res
                      have hpr : ¬ w.heap.size = w1.heap.size := by have := (Array.getElem?_eq_some_iff.1 hrr).1; omega
                      have hpq : ¬ q = w1.heap.size := by have := (Array.getElem?_eq_some_iff.1 hq1).1; omega
                      obtain ⟨csg, frg, hgb⟩ := HLD.out.blk
                      have hgg := (hm.rest g2 (Array.getElem?_eq_some_iff.1 hgb).1 HLD.out.vg).trans hgb
                      have hpg : ¬ g2 = w1.heap.size := by have := (Array.getElem?_eq_some_iff.1 hgg).1; omega
                      have hkp : Kept w1.heap.size w1 w3 := ⟨hs3.os, hs3.tape, hs3.output, by rw [hs3.size]; simp, fun k hk hne => (hs3.rest k hne).trans (Lib.alloc_old w1 _ k hk)⟩
                      have hp0 : w.heap.size ≤ w1.heap.size := (HLD.out.bel.trans hm.bel).size
                      have hpv : ¬ (Value.slice A' m' c').ownBlock = some w1.heap.size := fun e => by have := (ho1.lt _ e).2; omega
                      clear hrr hgb hgg
                      refine hK _ _ (HLD.out.stays hm hkp hpq) ?_; clear hK K
                      refine wpOrdC_take rfl rfl ?_; intro K hK; refine ⟨.bool b, fun W hW => ?_, ?_⟩; (· clear hK; go_simp); go_simp; refine hK _ ?_; clear hK K
                      refine wpOrdC_done ?_
                      have hq3 := HLD.out.stays hm hkp hpq
                      cases b
                      · have HRN := Lib.hid (HRU.out.fail HCH.out HT.out (by rw [hR2]; rfl))
                        obtain ⟨hres, hbel⟩ := HLD.out.near hm hkp hp0 hpr
                        have HRES := Lib.hid hres
                        have HBEL := Lib.hid hbel
                        clear hm hkp hs3 ho1 hq3 hres hbel hR2
                        have rc0 : w3.cell? ⟨w.heap.size, 0, none⟩ = some (.int .i64 0) := cell_at HRES.out rfl
                        have rz0 : w3.frozen? ⟨w.heap.size, 0, none⟩ = false := Lib.frozen_of_heap HRES.out 0
                        have rs0 : w3.setCell ⟨w.heap.size, 0, none⟩ (.int .i64 0) = w3 := w_setCell_same rc0
                        have rc1 : w3.cell? ⟨w.heap.size, 1, none⟩ = some (.int .i64 0) := cell_at HRES.out rfl
                        have rz1 : w3.frozen? ⟨w.heap.size, 1, none⟩ = false := Lib.frozen_of_heap HRES.out 1
                        have rs1 : w3.setCell ⟨w.heap.size, 1, none⟩ (.int .i64 0) = w3 := w_setCell_same rc1
                        have rc2 : w3.cell? ⟨w.heap.size, 2, none⟩ = some (.string ⟨#[]⟩) := cell_at HRES.out rfl
                        have rz2 : w3.frozen? ⟨w.heap.size, 2, none⟩ = false := Lib.frozen_of_heap HRES.out 2
                        have rs2 : w3.setCell ⟨w.heap.size, 2, none⟩ (.string ⟨#[]⟩) = w3 := w_setCell_same rc2
                        have rc3 : w3.cell? ⟨w.heap.size, 3, none⟩ = some (.string ⟨#[]⟩) := cell_at HRES.out rfl
                        have rz3 : w3.frozen? ⟨w.heap.size, 3, none⟩ = false := Lib.frozen_of_heap HRES.out 3
                        have rs3 : w3.setCell ⟨w.heap.size, 3, none⟩ (.string ⟨#[]⟩) = w3 := w_setCell_same rc3
                        have rc4 : w3.cell? ⟨w.heap.size, 4, none⟩ = some (.int .i64 0) := cell_at HRES.out rfl
                        have rz4 : w3.frozen? ⟨w.heap.size, 4, none⟩ = false := Lib.frozen_of_heap HRES.out 4
                        have rs4 : w3.setCell ⟨w.heap.size, 4, none⟩ (.int .i64 0) = w3 := w_setCell_same rc4
                        have rc5 : w3.cell? ⟨w.heap.size, 5, none⟩ = some (.slice none 0 0) := cell_at HRES.out rfl
                        have rz5 : w3.frozen? ⟨w.heap.size, 5, none⟩ = false := Lib.frozen_of_heap HRES.out 5
                        have rs5 : w3.setCell ⟨w.heap.size, 5, none⟩ (.slice none 0 0) = w3 := w_setCell_same rc5
                        have rc6 : w3.cell? ⟨w.heap.size, 6, none⟩ = some (.int .i64 0) := cell_at HRES.out rfl
                        have rz6 : w3.frozen? ⟨w.heap.size, 6, none⟩ = false := Lib.frozen_of_heap HRES.out 6
                        have rs6 : w3.setCell ⟨w.heap.size, 6, none⟩ (.int .i64 0) = w3 := w_setCell_same rc6
                        have rc7 : w3.cell? ⟨w.heap.size, 7, none⟩ = some (.string ⟨#[]⟩) := cell_at HRES.out rfl
                        have rz7 : w3.frozen? ⟨w.heap.size, 7, none⟩ = false := Lib.frozen_of_heap HRES.out 7
                        have rs7 : w3.setCell ⟨w.heap.size, 7, none⟩ (.string ⟨#[]⟩) = w3 := w_setCell_same rc7
                        have rc8 : w3.cell? ⟨w.heap.size, 8, none⟩ = some (.string ⟨#[]⟩) := cell_at HRES.out rfl
                        have rz8 : w3.frozen? ⟨w.heap.size, 8, none⟩ = false := Lib.frozen_of_heap HRES.out 8
                        have rs8 : w3.setCell ⟨w.heap.size, 8, none⟩ (.string ⟨#[]⟩) = w3 := w_setCell_same rc8
                        have rc9 : w3.cell? ⟨w.heap.size, 9, none⟩ = some (.int .i64 0) := cell_at HRES.out rfl
                        have rz9 : w3.frozen? ⟨w.heap.size, 9, none⟩ = false := Lib.frozen_of_heap HRES.out 9
                        have rs9 : w3.setCell ⟨w.heap.size, 9, none⟩ (.int .i64 0) = w3 := w_setCell_same rc9
                        have rc10 : w3.cell? ⟨w.heap.size, 10, none⟩ = some (.int .i64 0) := cell_at HRES.out rfl
                        have rz10 : w3.frozen? ⟨w.heap.size, 10, none⟩ = false := Lib.frozen_of_heap HRES.out 10
                        have rs10 : w3.setCell ⟨w.heap.size, 10, none⟩ (.int .i64 0) = w3 := w_setCell_same rc10
                        have rc11 : w3.cell? ⟨w.heap.size, 11, none⟩ = some (.string ⟨#[]⟩) := cell_at HRES.out rfl
                        have rz11 : w3.frozen? ⟨w.heap.size, 11, none⟩ = false := Lib.frozen_of_heap HRES.out 11
                        have rs11 : w3.setCell ⟨w.heap.size, 11, none⟩ (.string ⟨#[]⟩) = w3 := w_setCell_same rc11
                        have rc12 : w3.cell? ⟨w.heap.size, 12, none⟩ = some (f64 0) := cell_at HRES.out rfl
                        have rz12 : w3.frozen? ⟨w.heap.size, 12, none⟩ = false := Lib.frozen_of_heap HRES.out 12
                        have rs12 : w3.setCell ⟨w.heap.size, 12, none⟩ (f64 0) = w3 := w_setCell_same rc12
                        have lr := leB_of_cell rc0
                        go_wp2
                        rw [← HQQ.out]; exact bodyPost_ret (v := .tuple #[.agg (stepZero), .int .i64 205]) (by simp [results, Tryz.results21, go_sem, rc0, rc1, rc2, rc3, rc4, rc5, rc6, rc7, rc8, rc9, rc10, rc11, rc12]) rfl (LineC.no HRN.out HBEL.out)
                      · have hR3 : setR s2 ch t = some s' := by rw [hR2]; rfl
                        have HRU2 := Lib.hid (HRU.out.step HCH.out HT.out hR3)
                        have HK2 := Lib.hid (Nat.le_trans (setR_keep_len hR3) (Nat.succ_le_succ HKP.out))
                        have hld3 := (row_load (ty := 33) hs3.at' Tryz.underlying33 (by kernel_rfl)).2
                        obtain ⟨w5, hst5, hs5⟩ := row_store (ty := 33) (cs := stepCells s' (.slice A' m' c')) hq3 (by kernel_rfl) rfl (by simp [Value.oneCell'])
                        have HL5 := Lib.hid (HLD.out.put hm ho1 hkp hp0 hpr hpq hpg hpv hs5)
                        clear hm hkp hs3 ho1 hq3 hR2 hR3 hs5
                        go_wp2_with (first | (refine load_step 33 _ rfl rfl rfl hld3 ?_) | (refine store_step 33 _ _ rfl rfl rfl rfl hst5 ?_))
                        go_roundw
                        case rel => exact ⟨i + 1, s', A', m', c', hin, by first | exact cast1R _ | (rw [hwr]; exact cast1R _), HL5, HRU2, HK2⟩
                        case measure => first | (rw [intOf_lit, intOf_lit, hwr]; omega) | (rw [intOf_lit, intOf_lit]; omega)
                    · refine wpOrdC_one rfl rfl ?_; intro K hK; go_wp2
                      refine hK _ _ ((Lib.alloc_old wr.drew _ q (Array.getElem?_eq_some_iff.1 HLD.out.box).1).trans HLD.out.box) ?_; clear hK K
                      have HLA := Lib.hid (HLD.out.later (Below.alloc (Below.refl wr.drew.heap.size wr.drew) (Nat.le_refl _) (.cells stepZero 33)))
                      have hz := heap_alloc_new wr.drew (.cells stepZero 33)
                      have hzl := (Array.getElem?_eq_some_iff.1 hz).1
                      have hzv := own_ne HLA.out.own hz (fun _ _ e => by injection e with _ e2; exact absurd e2 (by decide))
                      refine wpOrdC_one rfl rfl ?_; intro K hK; go_wp2_with (fail)
                      refine (set_any s2 ch (.slice A2 m2 c2) x w.heap.size _ HLET.out (Lib.hid HLA.out.own) (Lib.hid HLA.out.bel.size) (Lib.hid (Nat.le_trans HXS.out (by decide))) (Lib.hid (Nat.le_trans HKP.out (by omega)))).mono ?_
                      rintro e1 w1 ⟨s', A', m', c', b, rfl, hR2, hm, ho1⟩
                      rw [HXD.out] at hR2
                      have hq1 := (hm.rest q (Array.getElem?_eq_some_iff.1 HLA.out.box).1 HLA.out.vq).trans HLA.out.box
                      refine hK _ _ hq1 ?_; clear hK K
                      refine wpOrdC_take rfl rfl ?_; intro K hK; refine ⟨.tuple #[.agg (stepCells s' (.slice A' m' c')), .bool b], fun W hW => ?_, ?_⟩; (· clear hK; go_simp); go_simp; refine hK _ ?_; clear hK K
                      refine wpOrdC_take rfl rfl ?_; intro K hK; refine ⟨.agg (stepCells s' (.slice A' m' c')), fun W hW => ?_, ?_⟩; (· clear hK; go_simp); go_simp; refine hK _ ?_; clear hK K
                      refine wpOrdC_take rfl rfl ?_; intro K hK; refine ⟨.bool b, fun W hW => ?_, ?_⟩; (· clear hK; go_simp); go_simp; refine hK _ ?_; clear hK K
                      have hz0 := (hm.rest wr.drew.heap.size hzl hzv).trans hz
                      have hz1 : w1.heap[wr.heap.size]? = some (.cells stepZero 33 (0, 0)) := hz0
                      clear hz0 hz hzl hzv
                      refine wpOrdC_one rfl rfl ?_; intro K hK
                      refine store_op (W := _) (g := wr.heap.size) 33 _ _ rfl rfl rfl hz1 (by kernel_rfl) rfl (by simp [Value.oneCell']) ?_
                      intro w3 hs3
                      have hpr : ¬ w.heap.size = wr.heap.size := by have := (Array.getElem?_eq_some_iff.1 HL.out.res).1; omega
                      have hpq : ¬ q = wr.heap.size := by have := (Array.getElem?_eq_some_iff.1 HL.out.box).1; omega
                      obtain ⟨csg, frg, hgb⟩ := HL.out.blk
                      have hpg : ¬ g2 = wr.heap.size := by have := (Array.getElem?_eq_some_iff.1 hgb).1; omega
                      have hkp : Kept wr.heap.size w1 w3 := ⟨hs3.os, hs3.tape, hs3.output, by rw [hs3.size]; exact Nat.le_refl _, fun k hk hne => hs3.rest k hne⟩
                      have hp0 : w.heap.size ≤ wr.heap.size := HL.out.bel.size
                      have hpv : ¬ (Value.slice A' m' c').ownBlock = some wr.heap.size := own_ne ho1 hz1 fun _ _ e => by injection e with _ e2; exact absurd e2 (by decide)
                      clear hgb hz1
                      refine hK _ _ (HLA.out.stays hm hkp hpq) ?_; clear hK K
                      refine wpOrdC_take rfl rfl ?_; intro K hK; refine ⟨.bool b, fun W hW => ?_, ?_⟩; (· clear hK; go_simp); go_simp; refine hK _ ?_; clear hK K
                      refine wpOrdC_done ?_
                      have hq3 := HLA.out.stays hm hkp hpq
                      cases b
                      · have HRN := Lib.hid (HRU.out.fail HCH.out HT.out (by rw [hR2]; rfl))
                        obtain ⟨hres, hbel⟩ := HLA.out.near hm hkp hp0 hpr
                        have HRES := Lib.hid hres
                        have HBEL := Lib.hid hbel
                        clear hm hkp hs3 ho1 hq3 hres hbel hR2
                        have rc0 : w3.cell? ⟨w.heap.size, 0, none⟩ = some (.int .i64 0) := cell_at HRES.out rfl
                        have rz0 : w3.frozen? ⟨w.heap.size, 0, none⟩ = false := Lib.frozen_of_heap HRES.out 0
                        have rs0 : w3.setCell ⟨w.heap.size, 0, none⟩ (.int .i64 0) = w3 := w_setCell_same rc0
                        have rc1 : w3.cell? ⟨w.heap.size, 1, none⟩ = some (.int .i64 0) := cell_at HRES.out rfl
                        have rz1 : w3.frozen? ⟨w.heap.size, 1, none⟩ = false := Lib.frozen_of_heap HRES.out 1
                        have rs1 : w3.setCell ⟨w.heap.size, 1, none⟩ (.int .i64 0) = w3 := w_setCell_same rc1
                        have rc2 : w3.cell? ⟨w.heap.size, 2, none⟩ = some (.string ⟨#[]⟩) := cell_at HRES.out rfl
                        have rz2 : w3.frozen? ⟨w.heap.size, 2, none⟩ = false := Lib.frozen_of_heap HRES.out 2
                        have rs2 : w3.setCell ⟨w.heap.size, 2, none⟩ (.string ⟨#[]⟩) = w3 := w_setCell_same rc2
                        have rc3 : w3.cell? ⟨w.heap.size, 3, none⟩ = some (.string ⟨#[]⟩) := cell_at HRES.out rfl
                        have rz3 : w3.frozen? ⟨w.heap.size, 3, none⟩ = false := Lib.frozen_of_heap HRES.out 3
                        have rs3 : w3.setCell ⟨w.heap.size, 3, none⟩ (.string ⟨#[]⟩) = w3 := w_setCell_same rc3
                        have rc4 : w3.cell? ⟨w.heap.size, 4, none⟩ = some (.int .i64 0) := cell_at HRES.out rfl
                        have rz4 : w3.frozen? ⟨w.heap.size, 4, none⟩ = false := Lib.frozen_of_heap HRES.out 4
                        have rs4 : w3.setCell ⟨w.heap.size, 4, none⟩ (.int .i64 0) = w3 := w_setCell_same rc4
                        have rc5 : w3.cell? ⟨w.heap.size, 5, none⟩ = some (.slice none 0 0) := cell_at HRES.out rfl
                        have rz5 : w3.frozen? ⟨w.heap.size, 5, none⟩ = false := Lib.frozen_of_heap HRES.out 5
                        have rs5 : w3.setCell ⟨w.heap.size, 5, none⟩ (.slice none 0 0) = w3 := w_setCell_same rc5
                        have rc6 : w3.cell? ⟨w.heap.size, 6, none⟩ = some (.int .i64 0) := cell_at HRES.out rfl
                        have rz6 : w3.frozen? ⟨w.heap.size, 6, none⟩ = false := Lib.frozen_of_heap HRES.out 6
                        have rs6 : w3.setCell ⟨w.heap.size, 6, none⟩ (.int .i64 0) = w3 := w_setCell_same rc6
                        have rc7 : w3.cell? ⟨w.heap.size, 7, none⟩ = some (.string ⟨#[]⟩) := cell_at HRES.out rfl
                        have rz7 : w3.frozen? ⟨w.heap.size, 7, none⟩ = false := Lib.frozen_of_heap HRES.out 7
                        have rs7 : w3.setCell ⟨w.heap.size, 7, none⟩ (.string ⟨#[]⟩) = w3 := w_setCell_same rc7
                        have rc8 : w3.cell? ⟨w.heap.size, 8, none⟩ = some (.string ⟨#[]⟩) := cell_at HRES.out rfl
                        have rz8 : w3.frozen? ⟨w.heap.size, 8, none⟩ = false := Lib.frozen_of_heap HRES.out 8
                        have rs8 : w3.setCell ⟨w.heap.size, 8, none⟩ (.string ⟨#[]⟩) = w3 := w_setCell_same rc8
                        have rc9 : w3.cell? ⟨w.heap.size, 9, none⟩ = some (.int .i64 0) := cell_at HRES.out rfl
                        have rz9 : w3.frozen? ⟨w.heap.size, 9, none⟩ = false := Lib.frozen_of_heap HRES.out 9
                        have rs9 : w3.setCell ⟨w.heap.size, 9, none⟩ (.int .i64 0) = w3 := w_setCell_same rc9
                        have rc10 : w3.cell? ⟨w.heap.size, 10, none⟩ = some (.int .i64 0) := cell_at HRES.out rfl
                        have rz10 : w3.frozen? ⟨w.heap.size, 10, none⟩ = false := Lib.frozen_of_heap HRES.out 10
                        have rs10 : w3.setCell ⟨w.heap.size, 10, none⟩ (.int .i64 0) = w3 := w_setCell_same rc10
                        have rc11 : w3.cell? ⟨w.heap.size, 11, none⟩ = some (.string ⟨#[]⟩) := cell_at HRES.out rfl
                        have rz11 : w3.frozen? ⟨w.heap.size, 11, none⟩ = false := Lib.frozen_of_heap HRES.out 11
                        have rs11 : w3.setCell ⟨w.heap.size, 11, none⟩ (.string ⟨#[]⟩) = w3 := w_setCell_same rc11
                        have rc12 : w3.cell? ⟨w.heap.size, 12, none⟩ = some (f64 0) := cell_at HRES.out rfl
                        have rz12 : w3.frozen? ⟨w.heap.size, 12, none⟩ = false := Lib.frozen_of_heap HRES.out 12
                        have rs12 : w3.setCell ⟨w.heap.size, 12, none⟩ (f64 0) = w3 := w_setCell_same rc12
                        have lr := leB_of_cell rc0
                        go_wp2
                        rw [← HQQ.out]; exact bodyPost_ret (v := .tuple #[.agg (stepZero), .int .i64 205]) (by simp [results, Tryz.results21, go_sem, rc0, rc1, rc2, rc3, rc4, rc5, rc6, rc7, rc8, rc9, rc10, rc11, rc12]) rfl (LineC.no HRN.out HBEL.out)
                      · have hR3 : setR s2 ch t = some s' := by rw [hR2]; rfl
                        have HRU2 := Lib.hid (HRU.out.step HCH.out HT.out hR3)
                        have HK2 := Lib.hid (Nat.le_trans (setR_keep_len hR3) (Nat.succ_le_succ HKP.out))
                        have hld3 := (row_load (ty := 33) hs3.at' Tryz.underlying33 (by kernel_rfl)).2
                        obtain ⟨w5, hst5, hs5⟩ := row_store (ty := 33) (cs := stepCells s' (.slice A' m' c')) hq3 (by kernel_rfl) rfl (by simp [Value.oneCell'])
                        have HL5 := Lib.hid (HLA.out.put hm ho1 hkp hp0 hpr hpq hpg hpv hs5)
                        clear hm hkp hs3 ho1 hq3 hR2 hR3 hs5
                        go_wp2_with (first | (refine load_step 33 _ rfl rfl rfl hld3 ?_) | (refine store_step 33 _ _ rfl rfl rfl rfl hst5 ?_))
                        go_roundw
                        case rel => exact ⟨i + 1, s', A', m', c', hin, by first | exact cast1R _ | (rw [hwr]; exact cast1R _), HL5, HRU2, HK2⟩
                        case measure => first | (rw [intOf_lit, intOf_lit, hwr]; omega) | (rw [intOf_lit, intOf_lit]; omega)
                  · have hnlt : ¬ (i : Int) < (n2 : Int) := by omega
                    have HRE := Lib.hid (HRU.out.done HLEN.out (by rw [HLS.out]; exact hin))
                    have hld := (row_load (ty := 33) HL.out.box Tryz.underlying33 (by kernel_rfl)).2
                    obtain ⟨w9, hst9, hs9⟩ := row_store (ty := 33) (cs := (stepCells s2 (.slice A2 m2 c2))) HL.out.res (by kernel_rfl) rfl (by simp [Value.oneCell'])
                    have hv0 := cell_at (i := 0) hs9.at' rfl
                    have hv1 := cell_at (i := 1) hs9.at' rfl
                    have hv2 := cell_at (i := 2) hs9.at' rfl
                    have hv3 := cell_at (i := 3) hs9.at' rfl
                    have hv4 := cell_at (i := 4) hs9.at' rfl
                    have hv5 := cell_at (i := 5) hs9.at' rfl
                    have hv6 := cell_at (i := 6) hs9.at' rfl
                    have hv7 := cell_at (i := 7) hs9.at' rfl
                    have hv8 := cell_at (i := 8) hs9.at' rfl
                    have hv9 := cell_at (i := 9) hs9.at' rfl
                    have hv10 := cell_at (i := 10) hs9.at' rfl
                    have hv11 := cell_at (i := 11) hs9.at' rfl
                    have hv12 := cell_at (i := 12) hs9.at' rfl
                    have HBE := Lib.hid (HL.out.res_store hs9)
                    have HOE := Lib.hid (HL.out.res_own hs9)
                    clear hs9
                    go_wp2_with (first | (refine load_step 33 _ rfl rfl rfl hld ?_) | (refine store_step 33 _ _ rfl rfl rfl rfl hst9 ?_))
                    rw [← HQQ.out]; exact bodyPost_ret (v := .tuple #[.agg ((stepCells s2 (.slice A2 m2 c2))), .int .i64 0]) (by simp [results, Tryz.results21, go_sem, hv0, hv1, hv2, hv3, hv4, hv5, hv6, hv7, hv8, hv9, hv10, hv11, hv12]) rfl (line_done HRE.out HBE.out HOE.out)
              · have he1 : ((n2 : Int) != (ar.size : Int)) = true := by
                  rw [bne_iff_ne]
                  intro e
                  exact hsz (by omega)
                have HRN := Lib.hid (show R = none by rw [HRC.out]; exact runR_len _ _ _ (by rw [← HAS.out, HLS.out]; exact fun e => hsz e.symm))
                clear hsz
                have rc0 : w9.cell? ⟨w.heap.size, 0, none⟩ = some (.int .i64 0) := cell_at HLW.out.res rfl
                have rz0 : w9.frozen? ⟨w.heap.size, 0, none⟩ = false := Lib.frozen_of_heap HLW.out.res 0
                have rs0 : w9.setCell ⟨w.heap.size, 0, none⟩ (.int .i64 0) = w9 := w_setCell_same rc0
                have rc1 : w9.cell? ⟨w.heap.size, 1, none⟩ = some (.int .i64 0) := cell_at HLW.out.res rfl
                have rz1 : w9.frozen? ⟨w.heap.size, 1, none⟩ = false := Lib.frozen_of_heap HLW.out.res 1
                have rs1 : w9.setCell ⟨w.heap.size, 1, none⟩ (.int .i64 0) = w9 := w_setCell_same rc1
                have rc2 : w9.cell? ⟨w.heap.size, 2, none⟩ = some (.string ⟨#[]⟩) := cell_at HLW.out.res rfl
                have rz2 : w9.frozen? ⟨w.heap.size, 2, none⟩ = false := Lib.frozen_of_heap HLW.out.res 2
                have rs2 : w9.setCell ⟨w.heap.size, 2, none⟩ (.string ⟨#[]⟩) = w9 := w_setCell_same rc2
                have rc3 : w9.cell? ⟨w.heap.size, 3, none⟩ = some (.string ⟨#[]⟩) := cell_at HLW.out.res rfl
                have rz3 : w9.frozen? ⟨w.heap.size, 3, none⟩ = false := Lib.frozen_of_heap HLW.out.res 3
                have rs3 : w9.setCell ⟨w.heap.size, 3, none⟩ (.string ⟨#[]⟩) = w9 := w_setCell_same rc3
                have rc4 : w9.cell? ⟨w.heap.size, 4, none⟩ = some (.int .i64 0) := cell_at HLW.out.res rfl
                have rz4 : w9.frozen? ⟨w.heap.size, 4, none⟩ = false := Lib.frozen_of_heap HLW.out.res 4
                have rs4 : w9.setCell ⟨w.heap.size, 4, none⟩ (.int .i64 0) = w9 := w_setCell_same rc4
                have rc5 : w9.cell? ⟨w.heap.size, 5, none⟩ = some (.slice none 0 0) := cell_at HLW.out.res rfl
                have rz5 : w9.frozen? ⟨w.heap.size, 5, none⟩ = false := Lib.frozen_of_heap HLW.out.res 5
                have rs5 : w9.setCell ⟨w.heap.size, 5, none⟩ (.slice none 0 0) = w9 := w_setCell_same rc5
                have rc6 : w9.cell? ⟨w.heap.size, 6, none⟩ = some (.int .i64 0) := cell_at HLW.out.res rfl
                have rz6 : w9.frozen? ⟨w.heap.size, 6, none⟩ = false := Lib.frozen_of_heap HLW.out.res 6
                have rs6 : w9.setCell ⟨w.heap.size, 6, none⟩ (.int .i64 0) = w9 := w_setCell_same rc6
                have rc7 : w9.cell? ⟨w.heap.size, 7, none⟩ = some (.string ⟨#[]⟩) := cell_at HLW.out.res rfl
                have rz7 : w9.frozen? ⟨w.heap.size, 7, none⟩ = false := Lib.frozen_of_heap HLW.out.res 7
                have rs7 : w9.setCell ⟨w.heap.size, 7, none⟩ (.string ⟨#[]⟩) = w9 := w_setCell_same rc7
                have rc8 : w9.cell? ⟨w.heap.size, 8, none⟩ = some (.string ⟨#[]⟩) := cell_at HLW.out.res rfl
                have rz8 : w9.frozen? ⟨w.heap.size, 8, none⟩ = false := Lib.frozen_of_heap HLW.out.res 8
                have rs8 : w9.setCell ⟨w.heap.size, 8, none⟩ (.string ⟨#[]⟩) = w9 := w_setCell_same rc8
                have rc9 : w9.cell? ⟨w.heap.size, 9, none⟩ = some (.int .i64 0) := cell_at HLW.out.res rfl
                have rz9 : w9.frozen? ⟨w.heap.size, 9, none⟩ = false := Lib.frozen_of_heap HLW.out.res 9
                have rs9 : w9.setCell ⟨w.heap.size, 9, none⟩ (.int .i64 0) = w9 := w_setCell_same rc9
                have rc10 : w9.cell? ⟨w.heap.size, 10, none⟩ = some (.int .i64 0) := cell_at HLW.out.res rfl
                have rz10 : w9.frozen? ⟨w.heap.size, 10, none⟩ = false := Lib.frozen_of_heap HLW.out.res 10
                have rs10 : w9.setCell ⟨w.heap.size, 10, none⟩ (.int .i64 0) = w9 := w_setCell_same rc10
                have rc11 : w9.cell? ⟨w.heap.size, 11, none⟩ = some (.string ⟨#[]⟩) := cell_at HLW.out.res rfl
                have rz11 : w9.frozen? ⟨w.heap.size, 11, none⟩ = false := Lib.frozen_of_heap HLW.out.res 11
                have rs11 : w9.setCell ⟨w.heap.size, 11, none⟩ (.string ⟨#[]⟩) = w9 := w_setCell_same rc11
                have rc12 : w9.cell? ⟨w.heap.size, 12, none⟩ = some (f64 0) := cell_at HLW.out.res rfl
                have rz12 : w9.frozen? ⟨w.heap.size, 12, none⟩ = false := Lib.frozen_of_heap HLW.out.res 12
                have rs12 : w9.setCell ⟨w.heap.size, 12, none⟩ (f64 0) = w9 := w_setCell_same rc12
                have lr := leB_of_cell rc0
                go_wp2
                rw [← HQQ.out]; exact bodyPost_ret (v := .tuple #[.agg (stepZero), .int .i64 205]) (by simp [results, Tryz.results21, go_sem, rc0, rc1, rc2, rc3, rc4, rc5, rc6, rc7, rc8, rc9, rc10, rc11, rc12]) rfl (LineC.no HRN.out HLW.out.bel)
end Go.Proofs.YtmcooenafgihkaaGreatDoor
