/- Helper lemmas: the law on names within others: its walk. No condition. -/
import Derived.Test.YtaingleopdnkiaaDoorA5
set_option linter.unusedSimpArgs false
set_option linter.unusedVariables false
namespace Go.Proofs.YtaingleopdnkiaaDoor
open Go.RowKit

theorem wpMix_skipK {P : Program} {ops : Array Oper} {Q : Exit → Act → World → Prop} {w0 : World} {i : Nat} {b : Bool} {rest : List (Nat × Bool)} {o : Oper} {a : Act} {w : World} (ho : ops[i]? = some o) (hw : Region.wanted o (yielded ops a.tmps) = false)
    (h : ∀ K : Act → Prop, (∀ a', wpMix P ops Q w0 rest a' w → K a') → K (a.put o.dst undef)) : wpMix P ops Q w0 ((i, b) :: rest) a w := wpMix_skip ho hw (h _ (fun _ h => h))
set_option maxHeartbeats 8000000 in
set_option maxRecDepth 100000 in
theorem names_law (A B : Option Addr) (c d : Nat) (l t : List ByteArray) (mx : Int) (w : World) (hm : w.cell? ⟨0, 0, none⟩ = some (.int .i64 mx)) (hA : StrsAt w A l) (hB : StrsAt w B t) (hc0 : l.length ≤ c) (hcm0 : c ≤ maxLen) (htm : t.length ≤ maxLen) (h0n : A = none → c = 0) : Calls Tryd.prog 5 #[.slice A l.length c, .slice B t.length d] w (Ret (.bool true) w) := by
  have HM := Lib.hid hm
  have HL0 := Lib.hid (leB_of_cell hm)
  have HA := Lib.hid hA
  have HB := Lib.hid hB
  have hc := Lib.hid hc0
  have hcm := Lib.hid hcm0
  have hlm := Lib.hid (show l.length ≤ maxLen from Nat.le_trans hc0 hcm0)
  have htl := Lib.hid htm
  have htn := hlm.out
  simp only [maxLen] at htm htn
  clear hm hA hB hc0 hcm0
  by_cases hle : (t.length : Int) ≤ (l.length : Int)
  · have hk0 := Lib.hid (show okP l t 0 = true by rw [okP_zero]; exact decide_eq_true (by omega))
    go_enter Tryd.func5, Tryd.ntmps5
    go_wp2_with (first | (go_at_call 10; (with_reducible refine (awake_m mx _ ?_).mono ?_); (· simp [go_sem, HL0.out, HM.out]); rintro e1 w1 ⟨rfl, j9, rfl⟩) | (go_at_call 17; (with_reducible refine (short_any A c l _ ?_ hlm.out).mono ?_); (· exact HA.out.later (by (repeat' (first | (with_reducible exact Below.refl _ _) | (with_reducible assumption) | (with_reducible exact below_app _ _ _ _) | (with_reducible refine below_pre ?_; (simp only [List.append_assoc, List.prefix_append, List.prefix_refl, List.prefix_append_right_inj])) | (with_reducible refine Below.alloc ?_ ?_ _) | (with_reducible refine below_ext ?_ ?_ _) | (with_reducible refine Below.drew ?_) | (with_reducible refine below_drewN ?_ _) | (with_reducible refine Below.setCell ?_ ?_ _) | go_size | (simp only [w_size_ext, List.length_append, World.alloc_size]; omega) | (simp; done) | (simp; omega))))); rintro e1 w1 hsb; obtain ⟨b1, rfl, j1, rfl⟩ := hsb; cases b1) | (go_at_call 17; (with_reducible refine (short_any B d t _ ?_ htl.out).mono ?_); (· exact HB.out.later (by (repeat' (first | (with_reducible exact Below.refl _ _) | (with_reducible assumption) | (with_reducible exact below_app _ _ _ _) | (with_reducible refine below_pre ?_; (simp only [List.append_assoc, List.prefix_append, List.prefix_refl, List.prefix_append_right_inj])) | (with_reducible refine Below.alloc ?_ ?_ _) | (with_reducible refine below_ext ?_ ?_ _) | (with_reducible refine Below.drew ?_) | (with_reducible refine below_drewN ?_ _) | (with_reducible refine Below.setCell ?_ ?_ _) | go_size | (simp only [w_size_ext, List.length_append, World.alloc_size]; omega) | (simp; done) | (simp; omega))))); rintro e1 w1 hsb; obtain ⟨b1, rfl, j1, rfl⟩ := hsb; cases b1))
    · go_ret
      exact Ret.mk (by first | rfl | simp) (by (repeat' (first | (with_reducible exact Below.refl _ _) | (with_reducible assumption) | (with_reducible exact below_app _ _ _ _) | (with_reducible refine below_pre ?_; (simp only [List.append_assoc, List.prefix_append, List.prefix_refl, List.prefix_append_right_inj])) | (with_reducible refine Below.alloc ?_ ?_ _) | (with_reducible refine below_ext ?_ ?_ _) | (with_reducible refine Below.drew ?_) | (with_reducible refine below_drewN ?_ _) | (with_reducible refine Below.setCell ?_ ?_ _) | go_size | (simp only [w_size_ext, List.length_append, World.alloc_size]; omega) | (simp; done) | (simp; omega))))
    · go_ret
      exact Ret.mk (by first | rfl | simp) (by (repeat' (first | (with_reducible exact Below.refl _ _) | (with_reducible assumption) | (with_reducible exact below_app _ _ _ _) | (with_reducible refine below_pre ?_; (simp only [List.append_assoc, List.prefix_append, List.prefix_refl, List.prefix_append_right_inj])) | (with_reducible refine Below.alloc ?_ ?_ _) | (with_reducible refine below_ext ?_ ?_ _) | (with_reducible refine Below.drew ?_) | (with_reducible refine below_drewN ?_ _) | (with_reducible refine Below.setCell ?_ ?_ _) | go_size | (simp only [w_size_ext, List.length_append, World.alloc_size]; omega) | (simp; done) | (simp; omega))))
    · go_loopw [5, 23] (fun v5 v23 wr => ∃ (i : Nat) (j : Junk), i ≤ t.length ∧ v23 = .int .i64 (i : Int) ∧ v5 = .bool (okP l t i) ∧ wr = wext w j) (fun _ i _ => ((t.length : Int) - intOf i).toNat)
      case atStart => exact ⟨0, _, Nat.zero_le _, rfl, by first | (rw [hk0.out]; done) | (rw [hk0.out]; simp; omega), by first | rfl | exact wext_same _⟩
      case round =>
        obtain ⟨i, j, hi, rfl, rfl, rfl⟩ := hrel
        by_cases h0 : i = t.length
        · subst h0
          rw [okP_end]
          obtain ⟨bw, hbw⟩ : ∃ bw, WB l t = bw := ⟨_, rfl⟩
          rw [hbw]
          have HBW := Lib.hid hbw
          clear hbw
          go_wp2_with (first | (go_at_call 10; (with_reducible refine (awake_m mx _ ?_).mono ?_); (· simp [go_sem, HL0.out, HM.out]); rintro e1 w1 ⟨rfl, j9, rfl⟩) | (go_at_call 18; (with_reducible refine (within_any A B c d l t _ ?_ ?_ hc.out hcm.out h0n).mono ?_); (· exact HA.out.later (by (repeat' (first | (with_reducible exact Below.refl _ _) | (with_reducible assumption) | (with_reducible exact below_app _ _ _ _) | (with_reducible refine below_pre ?_; (simp only [List.append_assoc, List.prefix_append, List.prefix_refl, List.prefix_append_right_inj])) | (with_reducible refine Below.alloc ?_ ?_ _) | (with_reducible refine below_ext ?_ ?_ _) | (with_reducible refine Below.drew ?_) | (with_reducible refine below_drewN ?_ _) | (with_reducible refine Below.setCell ?_ ?_ _) | go_size | (simp only [w_size_ext, List.length_append, World.alloc_size]; omega) | (simp; done) | (simp; omega))))); (· exact HB.out.later (by (repeat' (first | (with_reducible exact Below.refl _ _) | (with_reducible assumption) | (with_reducible exact below_app _ _ _ _) | (with_reducible refine below_pre ?_; (simp only [List.append_assoc, List.prefix_append, List.prefix_refl, List.prefix_append_right_inj])) | (with_reducible refine Below.alloc ?_ ?_ _) | (with_reducible refine below_ext ?_ ?_ _) | (with_reducible refine Below.drew ?_) | (with_reducible refine below_drewN ?_ _) | (with_reducible refine Below.setCell ?_ ?_ _) | go_size | (simp only [w_size_ext, List.length_append, World.alloc_size]; omega) | (simp; done) | (simp; omega))))); rintro e1 w1 ⟨rfl, j8, rfl⟩))
          go_ret
          exact Ret.mk (by first | rfl | simp) (by (repeat' (first | (with_reducible exact Below.refl _ _) | (with_reducible assumption) | (with_reducible exact below_app _ _ _ _) | (with_reducible refine below_pre ?_; (simp only [List.append_assoc, List.prefix_append, List.prefix_refl, List.prefix_append_right_inj])) | (with_reducible refine Below.alloc ?_ ?_ _) | (with_reducible refine below_ext ?_ ?_ _) | (with_reducible refine Below.drew ?_) | (with_reducible refine below_drewN ?_ _) | (with_reducible refine Below.setCell ?_ ?_ _) | go_size | (simp only [w_size_ext, List.length_append, World.alloc_size]; omega) | (simp; done) | (simp; omega))))
        · have hit : i < t.length := by omega
          have hlt : (i : Int) < (t.length : Int) := by omega
          have hge : (0 : Int) ≤ (i : Int) := by omega
          have hnl : ¬ (i : Int) < 0 := by omega
          have hwr : wrap64 ((i : Int) + 1) = ((i + 1 : Nat) : Int) := by rw [wrap64_eq]; omega
          cases hok : okP l t i with
          | false =>
            have hok2 := Lib.hid (okP_false hit hok)
            clear hok
            go_wp2
            refine wp_region_mix [(0, true), (1, true), (2, true), (3, true), (4, true), (5, true), (6, true), (7, true), (8, true), (9, true), (10, true), (11, true), (12, true), (13, true), (14, true), (15, true), (16, true), (17, true), (18, true)] (by kernel_rfl) (by kernel_rfl) rfl (by kernel_rfl) (by intro _ _ d _ _ h; cases d <;> exact h) ?_; intro j1; (repeat (first | (refine wpMix_skipK rfl rfl ?_; intro K hK; go_simp; refine hK _ ?_; clear hK K) | (refine wpMix_light rfl rfl ?_; intro K hK; go_simp; refine hK _ ?_; clear hK K) | (refine wpMix_heavy rfl rfl ?_; intro K hK; go_wp2_with (fail); refine ⟨w_ext_of_below (by (repeat' (first | (with_reducible exact Below.refl _ _) | (with_reducible assumption) | (with_reducible exact below_app _ _ _ _) | (with_reducible refine below_pre ?_; (simp only [List.append_assoc, List.prefix_append, List.prefix_refl, List.prefix_append_right_inj])) | (with_reducible refine Below.alloc ?_ ?_ _) | (with_reducible refine below_ext ?_ ?_ _) | (with_reducible refine Below.drew ?_) | (with_reducible refine below_drewN ?_ _) | (with_reducible refine Below.setCell ?_ ?_ _) | go_size | (simp only [w_size_ext, List.length_append, World.alloc_size]; omega) | (simp; done) | (simp; omega)))), ?_⟩))); refine wpMix_nil ?_
            go_wp2
            go_roundw
            case rel => exact ⟨i + 1, _, by omega, by first | rfl | rw [hwr], by rw [hok2.out], rfl⟩
            case measure => first | (simp [intOf]; omega) | (rw [intOf_lit, intOf_lit, hwr]; exact meas_step _ _ hlt)
          | true =>
            have hil : i < l.length := by have := okP_len hok; omega
            have hil2 : (i : Int) < (l.length : Int) := by omega
            have hokt := okP_true hit hok
            obtain ⟨b, o, eA, hcl⟩ := HA.out i hil
            obtain ⟨b', o', eB, hct⟩ := HB.out i hit
            subst eA
            subst eB
            have hlb := leB_of_cell hcl
            have hlb' := leB_of_cell hct
            clear hok
            by_cases hq : l.getD i ByteArray.empty = t.getD i ByteArray.empty
            · rw [decide_eq_true hq] at hokt
              have hok2 := Lib.hid hokt
              rw [← hq] at hct
              clear hq hokt
              generalize l.getD i ByteArray.empty = q at *
              go_wp2
              refine wp_region_mix [(0, true), (1, true), (2, true), (3, true), (4, true), (5, true), (6, true), (7, true), (8, true), (9, true), (10, true), (11, true), (12, true), (13, true), (14, true), (15, true), (16, true), (17, true), (18, true)] (by kernel_rfl) (by kernel_rfl) rfl (by kernel_rfl) (by intro _ _ d _ _ h; cases d <;> exact h) ?_; intro j1; (repeat (first | (refine wpMix_skipK rfl rfl ?_; intro K hK; go_simp; refine hK _ ?_; clear hK K) | (refine wpMix_light rfl rfl ?_; intro K hK; go_simp; refine hK _ ?_; clear hK K) | (refine wpMix_heavy rfl rfl ?_; intro K hK; go_wp2_with (fail); refine ⟨w_ext_of_below (by (repeat' (first | (with_reducible exact Below.refl _ _) | (with_reducible assumption) | (with_reducible exact below_app _ _ _ _) | (with_reducible refine below_pre ?_; (simp only [List.append_assoc, List.prefix_append, List.prefix_refl, List.prefix_append_right_inj])) | (with_reducible refine Below.alloc ?_ ?_ _) | (with_reducible refine below_ext ?_ ?_ _) | (with_reducible refine Below.drew ?_) | (with_reducible refine below_drewN ?_ _) | (with_reducible refine Below.setCell ?_ ?_ _) | go_size | (simp only [w_size_ext, List.length_append, World.alloc_size]; omega) | (simp; done) | (simp; omega)))), ?_⟩))); refine wpMix_nil ?_
              go_wp2
              go_roundw
              case rel => exact ⟨i + 1, _, by omega, by first | rfl | rw [hwr], by rw [hok2.out], rfl⟩
              case measure => first | (simp [intOf]; omega) | (rw [intOf_lit, intOf_lit, hwr]; exact meas_step _ _ hlt)
            · rw [decide_eq_false hq] at hokt
              have hok2 := Lib.hid hokt
              have hq2 := toList_ne hq
              clear hokt
              generalize l.getD i ByteArray.empty = q at *
              generalize t.getD i ByteArray.empty = q' at *
              have hq3 : (q.toList != q'.toList) = true := by simpa using hq2
              have hq4 : (q.toList == q'.toList) = false := by simpa using hq2
              go_wp2
              refine wp_region_mix [(0, true), (1, true), (2, true), (3, true), (4, true), (5, true), (6, true), (7, true), (8, true), (9, true), (10, true), (11, true), (12, true), (13, true), (14, true), (15, true), (16, true), (17, true), (18, true)] (by kernel_rfl) (by kernel_rfl) rfl (by kernel_rfl) (by intro _ _ d _ _ h; cases d <;> exact h) ?_; intro j1; (repeat (first | (refine wpMix_skipK rfl rfl ?_; intro K hK; go_simp; refine hK _ ?_; clear hK K) | (refine wpMix_light rfl rfl ?_; intro K hK; go_simp; refine hK _ ?_; clear hK K) | (refine wpMix_heavy rfl rfl ?_; intro K hK; go_wp2_with (fail); refine ⟨w_ext_of_below (by (repeat' (first | (with_reducible exact Below.refl _ _) | (with_reducible assumption) | (with_reducible exact below_app _ _ _ _) | (with_reducible refine below_pre ?_; (simp only [List.append_assoc, List.prefix_append, List.prefix_refl, List.prefix_append_right_inj])) | (with_reducible refine Below.alloc ?_ ?_ _) | (with_reducible refine below_ext ?_ ?_ _) | (with_reducible refine Below.drew ?_) | (with_reducible refine below_drewN ?_ _) | (with_reducible refine Below.setCell ?_ ?_ _) | go_size | (simp only [w_size_ext, List.length_append, World.alloc_size]; omega) | (simp; done) | (simp; omega)))), ?_⟩))); refine wpMix_nil ?_
              go_wp2
              go_roundw
              case rel => exact ⟨i + 1, _, by omega, by first | rfl | rw [hwr], by first | (rw [hok2.out]; done) | (rw [hok2.out]; simp), rfl⟩
              case measure => first | (simp [intOf]; omega) | (rw [intOf_lit, intOf_lit, hwr]; exact meas_step _ _ hlt)
  · have hk0 := Lib.hid (show okP l t 0 = false by rw [okP_zero]; exact decide_eq_false (by omega))
    have hle2 : (l.length : Int) < (t.length : Int) := by omega
    go_enter Tryd.func5, Tryd.ntmps5
    go_wp2_with (first | (go_at_call 10; (with_reducible refine (awake_m mx _ ?_).mono ?_); (· simp [go_sem, HL0.out, HM.out]); rintro e1 w1 ⟨rfl, j9, rfl⟩) | (go_at_call 17; (with_reducible refine (short_any A c l _ ?_ hlm.out).mono ?_); (· exact HA.out.later (by (repeat' (first | (with_reducible exact Below.refl _ _) | (with_reducible assumption) | (with_reducible exact below_app _ _ _ _) | (with_reducible refine below_pre ?_; (simp only [List.append_assoc, List.prefix_append, List.prefix_refl, List.prefix_append_right_inj])) | (with_reducible refine Below.alloc ?_ ?_ _) | (with_reducible refine below_ext ?_ ?_ _) | (with_reducible refine Below.drew ?_) | (with_reducible refine below_drewN ?_ _) | (with_reducible refine Below.setCell ?_ ?_ _) | go_size | (simp only [w_size_ext, List.length_append, World.alloc_size]; omega) | (simp; done) | (simp; omega))))); rintro e1 w1 hsb; obtain ⟨b1, rfl, j1, rfl⟩ := hsb; cases b1) | (go_at_call 17; (with_reducible refine (short_any B d t _ ?_ htl.out).mono ?_); (· exact HB.out.later (by (repeat' (first | (with_reducible exact Below.refl _ _) | (with_reducible assumption) | (with_reducible exact below_app _ _ _ _) | (with_reducible refine below_pre ?_; (simp only [List.append_assoc, List.prefix_append, List.prefix_refl, List.prefix_append_right_inj])) | (with_reducible refine Below.alloc ?_ ?_ _) | (with_reducible refine below_ext ?_ ?_ _) | (with_reducible refine Below.drew ?_) | (with_reducible refine below_drewN ?_ _) | (with_reducible refine Below.setCell ?_ ?_ _) | go_size | (simp only [w_size_ext, List.length_append, World.alloc_size]; omega) | (simp; done) | (simp; omega))))); rintro e1 w1 hsb; obtain ⟨b1, rfl, j1, rfl⟩ := hsb; cases b1))
    · go_ret
      exact Ret.mk (by first | rfl | simp) (by (repeat' (first | (with_reducible exact Below.refl _ _) | (with_reducible assumption) | (with_reducible exact below_app _ _ _ _) | (with_reducible refine below_pre ?_; (simp only [List.append_assoc, List.prefix_append, List.prefix_refl, List.prefix_append_right_inj])) | (with_reducible refine Below.alloc ?_ ?_ _) | (with_reducible refine below_ext ?_ ?_ _) | (with_reducible refine Below.drew ?_) | (with_reducible refine below_drewN ?_ _) | (with_reducible refine Below.setCell ?_ ?_ _) | go_size | (simp only [w_size_ext, List.length_append, World.alloc_size]; omega) | (simp; done) | (simp; omega))))
    · go_ret
      exact Ret.mk (by first | rfl | simp) (by (repeat' (first | (with_reducible exact Below.refl _ _) | (with_reducible assumption) | (with_reducible exact below_app _ _ _ _) | (with_reducible refine below_pre ?_; (simp only [List.append_assoc, List.prefix_append, List.prefix_refl, List.prefix_append_right_inj])) | (with_reducible refine Below.alloc ?_ ?_ _) | (with_reducible refine below_ext ?_ ?_ _) | (with_reducible refine Below.drew ?_) | (with_reducible refine below_drewN ?_ _) | (with_reducible refine Below.setCell ?_ ?_ _) | go_size | (simp only [w_size_ext, List.length_append, World.alloc_size]; omega) | (simp; done) | (simp; omega))))
    · go_loopw [5, 23] (fun v5 v23 wr => ∃ (i : Nat) (j : Junk), i ≤ t.length ∧ v23 = .int .i64 (i : Int) ∧ v5 = .bool (okP l t i) ∧ wr = wext w j) (fun _ i _ => ((t.length : Int) - intOf i).toNat)
      case atStart => exact ⟨0, _, Nat.zero_le _, rfl, by first | (rw [hk0.out]; done) | (rw [hk0.out]; simp; omega), by first | rfl | exact wext_same _⟩
      case round =>
        obtain ⟨i, j, hi, rfl, rfl, rfl⟩ := hrel
        by_cases h0 : i = t.length
        · subst h0
          rw [okP_end]
          obtain ⟨bw, hbw⟩ : ∃ bw, WB l t = bw := ⟨_, rfl⟩
          rw [hbw]
          have HBW := Lib.hid hbw
          clear hbw
          go_wp2_with (first | (go_at_call 10; (with_reducible refine (awake_m mx _ ?_).mono ?_); (· simp [go_sem, HL0.out, HM.out]); rintro e1 w1 ⟨rfl, j9, rfl⟩) | (go_at_call 18; (with_reducible refine (within_any A B c d l t _ ?_ ?_ hc.out hcm.out h0n).mono ?_); (· exact HA.out.later (by (repeat' (first | (with_reducible exact Below.refl _ _) | (with_reducible assumption) | (with_reducible exact below_app _ _ _ _) | (with_reducible refine below_pre ?_; (simp only [List.append_assoc, List.prefix_append, List.prefix_refl, List.prefix_append_right_inj])) | (with_reducible refine Below.alloc ?_ ?_ _) | (with_reducible refine below_ext ?_ ?_ _) | (with_reducible refine Below.drew ?_) | (with_reducible refine below_drewN ?_ _) | (with_reducible refine Below.setCell ?_ ?_ _) | go_size | (simp only [w_size_ext, List.length_append, World.alloc_size]; omega) | (simp; done) | (simp; omega))))); (· exact HB.out.later (by (repeat' (first | (with_reducible exact Below.refl _ _) | (with_reducible assumption) | (with_reducible exact below_app _ _ _ _) | (with_reducible refine below_pre ?_; (simp only [List.append_assoc, List.prefix_append, List.prefix_refl, List.prefix_append_right_inj])) | (with_reducible refine Below.alloc ?_ ?_ _) | (with_reducible refine below_ext ?_ ?_ _) | (with_reducible refine Below.drew ?_) | (with_reducible refine below_drewN ?_ _) | (with_reducible refine Below.setCell ?_ ?_ _) | go_size | (simp only [w_size_ext, List.length_append, World.alloc_size]; omega) | (simp; done) | (simp; omega))))); rintro e1 w1 ⟨rfl, j8, rfl⟩))
          go_ret
          exact Ret.mk (by first | rfl | simp) (by (repeat' (first | (with_reducible exact Below.refl _ _) | (with_reducible assumption) | (with_reducible exact below_app _ _ _ _) | (with_reducible refine below_pre ?_; (simp only [List.append_assoc, List.prefix_append, List.prefix_refl, List.prefix_append_right_inj])) | (with_reducible refine Below.alloc ?_ ?_ _) | (with_reducible refine below_ext ?_ ?_ _) | (with_reducible refine Below.drew ?_) | (with_reducible refine below_drewN ?_ _) | (with_reducible refine Below.setCell ?_ ?_ _) | go_size | (simp only [w_size_ext, List.length_append, World.alloc_size]; omega) | (simp; done) | (simp; omega))))
        · have hit : i < t.length := by omega
          have hlt : (i : Int) < (t.length : Int) := by omega
          have hge : (0 : Int) ≤ (i : Int) := by omega
          have hnl : ¬ (i : Int) < 0 := by omega
          have hwr : wrap64 ((i : Int) + 1) = ((i + 1 : Nat) : Int) := by rw [wrap64_eq]; omega
          cases hok : okP l t i with
          | false =>
            have hok2 := Lib.hid (okP_false hit hok)
            clear hok
            go_wp2
            refine wp_region_mix [(0, true), (1, true), (2, true), (3, true), (4, true), (5, true), (6, true), (7, true), (8, true), (9, true), (10, true), (11, true), (12, true), (13, true), (14, true), (15, true), (16, true), (17, true), (18, true)] (by kernel_rfl) (by kernel_rfl) rfl (by kernel_rfl) (by intro _ _ d _ _ h; cases d <;> exact h) ?_; intro j1; (repeat (first | (refine wpMix_skipK rfl rfl ?_; intro K hK; go_simp; refine hK _ ?_; clear hK K) | (refine wpMix_light rfl rfl ?_; intro K hK; go_simp; refine hK _ ?_; clear hK K) | (refine wpMix_heavy rfl rfl ?_; intro K hK; go_wp2_with (fail); refine ⟨w_ext_of_below (by (repeat' (first | (with_reducible exact Below.refl _ _) | (with_reducible assumption) | (with_reducible exact below_app _ _ _ _) | (with_reducible refine below_pre ?_; (simp only [List.append_assoc, List.prefix_append, List.prefix_refl, List.prefix_append_right_inj])) | (with_reducible refine Below.alloc ?_ ?_ _) | (with_reducible refine below_ext ?_ ?_ _) | (with_reducible refine Below.drew ?_) | (with_reducible refine below_drewN ?_ _) | (with_reducible refine Below.setCell ?_ ?_ _) | go_size | (simp only [w_size_ext, List.length_append, World.alloc_size]; omega) | (simp; done) | (simp; omega)))), ?_⟩))); refine wpMix_nil ?_
            go_wp2
            go_roundw
            case rel => exact ⟨i + 1, _, by omega, by first | rfl | rw [hwr], by rw [hok2.out], rfl⟩
            case measure => first | (simp [intOf]; omega) | (rw [intOf_lit, intOf_lit, hwr]; exact meas_step _ _ hlt)
          | true =>
            have hil : i < l.length := by have := okP_len hok; omega
            have hil2 : (i : Int) < (l.length : Int) := by omega
            have hokt := okP_true hit hok
            obtain ⟨b, o, eA, hcl⟩ := HA.out i hil
            obtain ⟨b', o', eB, hct⟩ := HB.out i hit
            subst eA
            subst eB
            have hlb := leB_of_cell hcl
            have hlb' := leB_of_cell hct
            clear hok
            by_cases hq : l.getD i ByteArray.empty = t.getD i ByteArray.empty
            · rw [decide_eq_true hq] at hokt
              have hok2 := Lib.hid hokt
              rw [← hq] at hct
              clear hq hokt
              generalize l.getD i ByteArray.empty = q at *
              go_wp2
              refine wp_region_mix [(0, true), (1, true), (2, true), (3, true), (4, true), (5, true), (6, true), (7, true), (8, true), (9, true), (10, true), (11, true), (12, true), (13, true), (14, true), (15, true), (16, true), (17, true), (18, true)] (by kernel_rfl) (by kernel_rfl) rfl (by kernel_rfl) (by intro _ _ d _ _ h; cases d <;> exact h) ?_; intro j1; (repeat (first | (refine wpMix_skipK rfl rfl ?_; intro K hK; go_simp; refine hK _ ?_; clear hK K) | (refine wpMix_light rfl rfl ?_; intro K hK; go_simp; refine hK _ ?_; clear hK K) | (refine wpMix_heavy rfl rfl ?_; intro K hK; go_wp2_with (fail); refine ⟨w_ext_of_below (by (repeat' (first | (with_reducible exact Below.refl _ _) | (with_reducible assumption) | (with_reducible exact below_app _ _ _ _) | (with_reducible refine below_pre ?_; (simp only [List.append_assoc, List.prefix_append, List.prefix_refl, List.prefix_append_right_inj])) | (with_reducible refine Below.alloc ?_ ?_ _) | (with_reducible refine below_ext ?_ ?_ _) | (with_reducible refine Below.drew ?_) | (with_reducible refine below_drewN ?_ _) | (with_reducible refine Below.setCell ?_ ?_ _) | go_size | (simp only [w_size_ext, List.length_append, World.alloc_size]; omega) | (simp; done) | (simp; omega)))), ?_⟩))); refine wpMix_nil ?_
              go_wp2
              go_roundw
              case rel => exact ⟨i + 1, _, by omega, by first | rfl | rw [hwr], by rw [hok2.out], rfl⟩
              case measure => first | (simp [intOf]; omega) | (rw [intOf_lit, intOf_lit, hwr]; exact meas_step _ _ hlt)
            · rw [decide_eq_false hq] at hokt
              have hok2 := Lib.hid hokt
              have hq2 := toList_ne hq
              clear hokt
              generalize l.getD i ByteArray.empty = q at *
              generalize t.getD i ByteArray.empty = q' at *
              have hq3 : (q.toList != q'.toList) = true := by simpa using hq2
              have hq4 : (q.toList == q'.toList) = false := by simpa using hq2
              go_wp2
              refine wp_region_mix [(0, true), (1, true), (2, true), (3, true), (4, true), (5, true), (6, true), (7, true), (8, true), (9, true), (10, true), (11, true), (12, true), (13, true), (14, true), (15, true), (16, true), (17, true), (18, true)] (by kernel_rfl) (by kernel_rfl) rfl (by kernel_rfl) (by intro _ _ d _ _ h; cases d <;> exact h) ?_; intro j1; (repeat (first | (refine wpMix_skipK rfl rfl ?_; intro K hK; go_simp; refine hK _ ?_; clear hK K) | (refine wpMix_light rfl rfl ?_; intro K hK; go_simp; refine hK _ ?_; clear hK K) | (refine wpMix_heavy rfl rfl ?_; intro K hK; go_wp2_with (fail); refine ⟨w_ext_of_below (by (repeat' (first | (with_reducible exact Below.refl _ _) | (with_reducible assumption) | (with_reducible exact below_app _ _ _ _) | (with_reducible refine below_pre ?_; (simp only [List.append_assoc, List.prefix_append, List.prefix_refl, List.prefix_append_right_inj])) | (with_reducible refine Below.alloc ?_ ?_ _) | (with_reducible refine below_ext ?_ ?_ _) | (with_reducible refine Below.drew ?_) | (with_reducible refine below_drewN ?_ _) | (with_reducible refine Below.setCell ?_ ?_ _) | go_size | (simp only [w_size_ext, List.length_append, World.alloc_size]; omega) | (simp; done) | (simp; omega)))), ?_⟩))); refine wpMix_nil ?_
              go_wp2
              go_roundw
              case rel => exact ⟨i + 1, _, by omega, by first | rfl | rw [hwr], by first | (rw [hok2.out]; done) | (rw [hok2.out]; simp), rfl⟩
              case measure => first | (simp [intOf]; omega) | (rw [intOf_lit, intOf_lit, hwr]; exact meas_step _ _ hlt)
end Go.Proofs.YtaingleopdnkiaaDoor
