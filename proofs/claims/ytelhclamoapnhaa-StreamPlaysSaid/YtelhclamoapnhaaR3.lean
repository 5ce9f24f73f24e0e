/- Helper lemmas: do changes stand by rising keys, by the document? No condition. -/
import Derived.Test.YtelhclamoapnhaaQ5
import Derived.WalkLawsBesides
import Derived.Outline
set_option linter.unusedSimpArgs false
set_option linter.unusedVariables false
namespace Go.Proofs.Ytelhclamoapnhaa
open Go.RowKit

theorem okCh_eq (k v : ByteArray) (g : Bool) : okCh ⟨k, v, g⟩ = ((decide (0 < k.size) && decide (k.size ≤ 64)) && decide (v.size ≤ 300) && !(g && decide (0 < v.size))) := rfl
set_option maxHeartbeats 8000000 in
set_option maxRecDepth 100000 in
theorem refsorted_any (A : Option Addr) (c : Nat) (l : List Ch) (w : World) (hA : ChsAt w A l) (hl : l.length ≤ 100000000) (hsz : ∀ i, (l.getD i noCh).key.size < 9223372036854775807) : Calls Try.prog 23 #[.slice A l.length c] w (Ret (.bool (sortedP l)) w) := by
  have HA := Lib.hid hA
  have HSZ := Lib.hid hsz
  obtain ⟨n, hn⟩ : ∃ n, l.length = n := ⟨_, rfl⟩
  have HNO := Lib.hid (sortedP_no l)
  have HYES := Lib.hid (show (∀ i, i < n → goodAt l i = true) → sortedP l = true from fun h => decide_eq_true (by rw [hn]; exact h))
  rw [hn] at hl ⊢
  have HN := Lib.hid hn
  generalize sortedP l = r at *
  clear hA hn hsz
  go_enter Try.func23, Try.ntmps23
  go_wp2
  go_loopw [3, 4, 7] (fun v3 v4 v7 wr => ∃ (i : Nat), i ≤ n ∧ v7 = .int .i64 (i : Int) ∧ Hid (Below w.heap.size w wr) ∧ Hid (∀ j, j < i → goodAt l j = true)) (fun _ _ i _ => ((n : Int) - intOf i).toNat)
  case atStart => exact ⟨0, Nat.zero_le _, rfl, Lib.hid (Below.refl _ _), Lib.hid fun j hj => by omega⟩
  case round =>
    obtain ⟨i, hi, rfl, HB, HG⟩ := hrel
    by_cases hin : i = n
    · subst hin
      have HF := Lib.hid (HYES.out HG.out)
      go_wp2
      go_ret
      exact Ret.mk (by rw [HF.out]; rfl) HB.out
    · have hlt : (i : Int) < (n : Int) := by omega
      have hge : (0 : Int) ≤ (i : Int) := by omega
      have hnl : ¬ (i : Int) < 0 := by omega
      have hwr : wrap64 ((i : Int) + 1) = ((i + 1 : Nat) : Int) := by rw [wrap64_eq]; omega
      obtain ⟨b, o, eA, h0, h1, h2⟩ := (HA.out.later HB.out) i (by rw [HN.out]; omega)
      have HPREV := Lib.hid (fun (h : 0 < i) => (HA.out.later HB.out) (i - 1) (by rw [HN.out]; omega))
      subst eA
      have hlb := leB_of_cell h0
      have HGA := Lib.hid (show goodAt l i = (okCh (l.getD i noCh) && (decide (i = 0) || !(leS (l.getD i noCh).key (l.getD (i - 1) noCh).key))) from rfl)
      have HNF := Lib.hid (fun h => HNO.out i (by rw [HN.out]; omega) h)
      have HGS := Lib.hid (show goodAt l i = true → ∀ j, j < i + 1 → goodAt l j = true from fun h j hj => by
        by_cases e : j = i
        · rw [e]; exact h
        · exact HG.out j (by omega))
      have hszk := HSZ.out i
      generalize goodAt l i = g at *
      generalize l.getD i noCh = ch at *
      obtain ⟨key, val, gone⟩ := ch
      simp only at h0 h1 h2 HGA hszk
      rw [okCh_eq] at HGA
      have HK := Lib.hid (fun W => key_any key W)
      have HV := Lib.hid (fun W => val_any val W)
      have HSZK := Lib.hid hszk
      clear hszk
      generalize (decide (0 < key.size) && decide (key.size ≤ 64)) = kb at *
      generalize decide (val.size ≤ 300) = vb at *
      cases kb with
      | false =>
        have HF := Lib.hid (HNF.out (by rw [HGA.out]; rfl))
        go_wp2
        refine wp_region_mix [(0, true), (1, true), (2, false), (3, true), (4, true), (5, true), (6, true), (7, false), (8, true), (9, true), (10, true), (11, true), (12, true), (13, true), (14, true), (15, true), (16, true), (17, true), (18, true), (19, true), (20, true), (21, true), (22, true), (23, true), (24, true), (25, true), (26, true), (27, true), (28, true), (29, true), (30, true), (31, false), (32, true), (33, true), (34, true)] (by kernel_rfl) (by kernel_rfl) rfl (by kernel_rfl) (by intro _ _ d _ _ h; cases d <;> exact h) ?_; intro j1; (repeat (first | (refine wpMix_skipK rfl rfl ?_; intro K hK; go_simp; refine hK _ ?_; clear hK K) | (refine wpMix_light rfl rfl ?_; intro K hK; go_simp; refine hK _ ?_; clear hK K) | (refine wpMix_heavy rfl rfl ?_; intro K hK; go_wp2_with ((first | (go_at_call 39; (with_reducible refine (HK.out _).mono ?_); rintro e1 w1 ⟨rfl, j9, rfl⟩) | (go_at_call 40; (with_reducible refine (HV.out _).mono ?_); rintro e1 w1 ⟨rfl, j9, rfl⟩) | (go_at_call 41; (with_reducible refine (HL.out _).mono ?_); rintro e1 w1 ⟨rfl, j9, rfl⟩))); refine ⟨w_ext_of_below (by (repeat' (first | (with_reducible exact Below.refl _ _) | (with_reducible assumption) | (with_reducible exact below_app _ _ _ _) | (with_reducible refine below_pre ?_; (simp only [List.append_assoc, List.prefix_append, List.prefix_refl, List.prefix_append_right_inj])) | (with_reducible refine Below.alloc ?_ ?_ _) | (with_reducible refine below_ext ?_ ?_ _) | (with_reducible refine Below.drew ?_) | (with_reducible refine below_drewN ?_ _) | (with_reducible refine Below.setCell ?_ ?_ _) | go_size | (simp only [w_size_ext, List.length_append, World.alloc_size]; omega) | (simp; done) | (simp; omega)))), ?_⟩))); refine wpMix_nil ?_
        go_wp2
        go_ret
        exact Ret.mk (by rw [HF.out]; rfl) (below_tr HB.out (by (repeat' (first | (with_reducible exact Below.refl _ _) | (with_reducible assumption) | (with_reducible exact below_app _ _ _ _) | (with_reducible refine below_pre ?_; (simp only [List.append_assoc, List.prefix_append, List.prefix_refl, List.prefix_append_right_inj])) | (with_reducible refine Below.alloc ?_ ?_ _) | (with_reducible refine below_ext ?_ ?_ _) | (with_reducible refine Below.drew ?_) | (with_reducible refine below_drewN ?_ _) | (with_reducible refine Below.setCell ?_ ?_ _) | go_size | (simp only [w_size_ext, List.length_append, World.alloc_size]; omega) | (simp; done) | (simp; omega)))))

      | true =>
      cases vb with
      | false =>
        have HF := Lib.hid (HNF.out (by rw [HGA.out]; rfl))
        go_wp2
        refine wp_region_mix [(0, true), (1, true), (2, false), (3, true), (4, true), (5, true), (6, true), (7, false), (8, true), (9, true), (10, true), (11, true), (12, true), (13, true), (14, true), (15, true), (16, true), (17, true), (18, true), (19, true), (20, true), (21, true), (22, true), (23, true), (24, true), (25, true), (26, true), (27, true), (28, true), (29, true), (30, true), (31, false), (32, true), (33, true), (34, true)] (by kernel_rfl) (by kernel_rfl) rfl (by kernel_rfl) (by intro _ _ d _ _ h; cases d <;> exact h) ?_; intro j1; (repeat (first | (refine wpMix_skipK rfl rfl ?_; intro K hK; go_simp; refine hK _ ?_; clear hK K) | (refine wpMix_light rfl rfl ?_; intro K hK; go_simp; refine hK _ ?_; clear hK K) | (refine wpMix_heavy rfl rfl ?_; intro K hK; go_wp2_with ((first | (go_at_call 39; (with_reducible refine (HK.out _).mono ?_); rintro e1 w1 ⟨rfl, j9, rfl⟩) | (go_at_call 40; (with_reducible refine (HV.out _).mono ?_); rintro e1 w1 ⟨rfl, j9, rfl⟩) | (go_at_call 41; (with_reducible refine (HL.out _).mono ?_); rintro e1 w1 ⟨rfl, j9, rfl⟩))); refine ⟨w_ext_of_below (by (repeat' (first | (with_reducible exact Below.refl _ _) | (with_reducible assumption) | (with_reducible exact below_app _ _ _ _) | (with_reducible refine below_pre ?_; (simp only [List.append_assoc, List.prefix_append, List.prefix_refl, List.prefix_append_right_inj])) | (with_reducible refine Below.alloc ?_ ?_ _) | (with_reducible refine below_ext ?_ ?_ _) | (with_reducible refine Below.drew ?_) | (with_reducible refine below_drewN ?_ _) | (with_reducible refine Below.setCell ?_ ?_ _) | go_size | (simp only [w_size_ext, List.length_append, World.alloc_size]; omega) | (simp; done) | (simp; omega)))), ?_⟩))); refine wpMix_nil ?_
        go_wp2
        go_ret
        exact Ret.mk (by rw [HF.out]; rfl) (below_tr HB.out (by (repeat' (first | (with_reducible exact Below.refl _ _) | (with_reducible assumption) | (with_reducible exact below_app _ _ _ _) | (with_reducible refine below_pre ?_; (simp only [List.append_assoc, List.prefix_append, List.prefix_refl, List.prefix_append_right_inj])) | (with_reducible refine Below.alloc ?_ ?_ _) | (with_reducible refine below_ext ?_ ?_ _) | (with_reducible refine Below.drew ?_) | (with_reducible refine below_drewN ?_ _) | (with_reducible refine Below.setCell ?_ ?_ _) | go_size | (simp only [w_size_ext, List.length_append, World.alloc_size]; omega) | (simp; done) | (simp; omega)))))

      | true =>
      cases gone with
      | false =>
        have HOK : Hid ((true && true && !(false && decide (0 < val.size))) = true) := Lib.hid rfl
        by_cases h00 : i = 0
        · have HG2 := Lib.hid (HGS.out (by rw [HGA.out, HOK.out, decide_eq_true h00]; rfl))
          have hd0 : decide (0 < i) = false := decide_eq_false (by omega)
          clear HPREV h00
          go_wp2
          refine wp_region_mix [(0, true), (1, true), (2, false), (3, true), (4, true), (5, true), (6, true), (7, false), (8, true), (9, true), (10, true), (11, true), (12, true), (13, true), (14, true), (15, true), (16, true), (17, true), (18, true), (19, true), (20, true), (21, true), (22, true), (23, true), (24, true), (25, true), (26, true), (27, true), (28, true), (29, true), (30, true), (31, false), (32, true), (33, true), (34, true)] (by kernel_rfl) (by kernel_rfl) rfl (by kernel_rfl) (by intro _ _ d _ _ h; cases d <;> exact h) ?_; intro j1; (repeat (first | (refine wpMix_skipK rfl rfl ?_; intro K hK; go_simp; refine hK _ ?_; clear hK K) | (refine wpMix_light rfl rfl ?_; intro K hK; go_simp; refine hK _ ?_; clear hK K) | (refine wpMix_heavy rfl rfl ?_; intro K hK; go_wp2_with ((first | (go_at_call 39; (with_reducible refine (HK.out _).mono ?_); rintro e1 w1 ⟨rfl, j9, rfl⟩) | (go_at_call 40; (with_reducible refine (HV.out _).mono ?_); rintro e1 w1 ⟨rfl, j9, rfl⟩) | (go_at_call 41; (with_reducible refine (HL.out _).mono ?_); rintro e1 w1 ⟨rfl, j9, rfl⟩))); refine ⟨w_ext_of_below (by (repeat' (first | (with_reducible exact Below.refl _ _) | (with_reducible assumption) | (with_reducible exact below_app _ _ _ _) | (with_reducible refine below_pre ?_; (simp only [List.append_assoc, List.prefix_append, List.prefix_refl, List.prefix_append_right_inj])) | (with_reducible refine Below.alloc ?_ ?_ _) | (with_reducible refine below_ext ?_ ?_ _) | (with_reducible refine Below.drew ?_) | (with_reducible refine below_drewN ?_ _) | (with_reducible refine Below.setCell ?_ ?_ _) | go_size | (simp only [w_size_ext, List.length_append, World.alloc_size]; omega) | (simp; done) | (simp; omega)))), ?_⟩))); refine wpMix_nil ?_
          go_wp2
          go_roundw
          case rel => exact ⟨i + 1, by omega, by first | rfl | rw [hwr], Lib.hid (below_tr HB.out (by (repeat' (first | (with_reducible exact Below.refl _ _) | (with_reducible assumption) | (with_reducible exact below_app _ _ _ _) | (with_reducible refine below_pre ?_; (simp only [List.append_assoc, List.prefix_append, List.prefix_refl, List.prefix_append_right_inj])) | (with_reducible refine Below.alloc ?_ ?_ _) | (with_reducible refine below_ext ?_ ?_ _) | (with_reducible refine Below.drew ?_) | (with_reducible refine below_drewN ?_ _) | (with_reducible refine Below.setCell ?_ ?_ _) | go_size | (simp only [w_size_ext, List.length_append, World.alloc_size]; omega) | (simp; done) | (simp; omega))))), HG2⟩
          case measure => first | (simp [intOf]; omega) | (rw [intOf_lit, intOf_lit, hwr]; omega)

        · have hd0 : decide (0 < i) = true := decide_eq_true (by omega)
          have hq0 := HPREV.out (by omega)
          obtain ⟨q, hq⟩ : ∃ q, i - 1 = q := ⟨_, rfl⟩
          rw [hq] at hq0 HGA
          obtain ⟨b2, o2, eB, p0, -, -⟩ := hq0
          injection eB with eB
          injection eB with e1 e2
          subst e1; subst e2
          have hi1 : (0 : Int) < (i : Int) := by omega
          have hp1 : (0 : Int) ≤ (q : Int) := by omega
          have hp2 : (q : Int) < (n : Int) := by omega
          have hp3 : IntKind.i64.wrap ((i : Int) - 1) = (q : Int) := by rw [IntKind.wrap_i64]; omega
          have HL := Lib.hid (fun W => lessR_any (l.getD q noCh).key key W HSZK.out)
          have HLE := leS_not key (l.getD q noCh).key
          generalize (l.getD q noCh).key = pk at *
          have hlb2 := leB_of_cell p0
          clear hq HPREV
          cases hlt2 : ltL pk.data.toList key.data.toList with
          | true =>
            rw [hlt2] at HL
            have HG2 := Lib.hid (HGS.out (by rw [HGA.out, HOK.out, HLE, hlt2, Bool.or_true]; rfl))
            clear hlt2 HLE
            go_wp2
            refine wp_region_mix [(0, true), (1, true), (2, false), (3, true), (4, true), (5, true), (6, true), (7, false), (8, true), (9, true), (10, true), (11, true), (12, true), (13, true), (14, true), (15, true), (16, true), (17, true), (18, true), (19, true), (20, true), (21, true), (22, true), (23, true), (24, true), (25, true), (26, true), (27, true), (28, true), (29, true), (30, true), (31, false), (32, true), (33, true), (34, true)] (by kernel_rfl) (by kernel_rfl) rfl (by kernel_rfl) (by intro _ _ d _ _ h; cases d <;> exact h) ?_; intro j1; (repeat (first | (refine wpMix_skipK rfl rfl ?_; intro K hK; go_simp; refine hK _ ?_; clear hK K) | (refine wpMix_light rfl rfl ?_; intro K hK; go_simp; refine hK _ ?_; clear hK K) | (refine wpMix_heavy rfl rfl ?_; intro K hK; go_wp2_with ((first | (go_at_call 39; (with_reducible refine (HK.out _).mono ?_); rintro e1 w1 ⟨rfl, j9, rfl⟩) | (go_at_call 40; (with_reducible refine (HV.out _).mono ?_); rintro e1 w1 ⟨rfl, j9, rfl⟩) | (go_at_call 41; (with_reducible refine (HL.out _).mono ?_); rintro e1 w1 ⟨rfl, j9, rfl⟩))); refine ⟨w_ext_of_below (by (repeat' (first | (with_reducible exact Below.refl _ _) | (with_reducible assumption) | (with_reducible exact below_app _ _ _ _) | (with_reducible refine below_pre ?_; (simp only [List.append_assoc, List.prefix_append, List.prefix_refl, List.prefix_append_right_inj])) | (with_reducible refine Below.alloc ?_ ?_ _) | (with_reducible refine below_ext ?_ ?_ _) | (with_reducible refine Below.drew ?_) | (with_reducible refine below_drewN ?_ _) | (with_reducible refine Below.setCell ?_ ?_ _) | go_size | (simp only [w_size_ext, List.length_append, World.alloc_size]; omega) | (simp; done) | (simp; omega)))), ?_⟩))); refine wpMix_nil ?_
            go_wp2
            go_roundw
            case rel => exact ⟨i + 1, by omega, by first | rfl | rw [hwr], Lib.hid (below_tr HB.out (by (repeat' (first | (with_reducible exact Below.refl _ _) | (with_reducible assumption) | (with_reducible exact below_app _ _ _ _) | (with_reducible refine below_pre ?_; (simp only [List.append_assoc, List.prefix_append, List.prefix_refl, List.prefix_append_right_inj])) | (with_reducible refine Below.alloc ?_ ?_ _) | (with_reducible refine below_ext ?_ ?_ _) | (with_reducible refine Below.drew ?_) | (with_reducible refine below_drewN ?_ _) | (with_reducible refine Below.setCell ?_ ?_ _) | go_size | (simp only [w_size_ext, List.length_append, World.alloc_size]; omega) | (simp; done) | (simp; omega))))), HG2⟩
            case measure => first | (simp [intOf]; omega) | (rw [intOf_lit, intOf_lit, hwr]; omega)

          | false =>
            rw [hlt2] at HL
            have HF := Lib.hid (HNF.out (by rw [HGA.out, HOK.out, HLE, hlt2, decide_eq_false h00]; rfl))
            clear hlt2 HLE
            go_wp2
            refine wp_region_mix [(0, true), (1, true), (2, false), (3, true), (4, true), (5, true), (6, true), (7, false), (8, true), (9, true), (10, true), (11, true), (12, true), (13, true), (14, true), (15, true), (16, true), (17, true), (18, true), (19, true), (20, true), (21, true), (22, true), (23, true), (24, true), (25, true), (26, true), (27, true), (28, true), (29, true), (30, true), (31, false), (32, true), (33, true), (34, true)] (by kernel_rfl) (by kernel_rfl) rfl (by kernel_rfl) (by intro _ _ d _ _ h; cases d <;> exact h) ?_; intro j1; (repeat (first | (refine wpMix_skipK rfl rfl ?_; intro K hK; go_simp; refine hK _ ?_; clear hK K) | (refine wpMix_light rfl rfl ?_; intro K hK; go_simp; refine hK _ ?_; clear hK K) | (refine wpMix_heavy rfl rfl ?_; intro K hK; go_wp2_with ((first | (go_at_call 39; (with_reducible refine (HK.out _).mono ?_); rintro e1 w1 ⟨rfl, j9, rfl⟩) | (go_at_call 40; (with_reducible refine (HV.out _).mono ?_); rintro e1 w1 ⟨rfl, j9, rfl⟩) | (go_at_call 41; (with_reducible refine (HL.out _).mono ?_); rintro e1 w1 ⟨rfl, j9, rfl⟩))); refine ⟨w_ext_of_below (by (repeat' (first | (with_reducible exact Below.refl _ _) | (with_reducible assumption) | (with_reducible exact below_app _ _ _ _) | (with_reducible refine below_pre ?_; (simp only [List.append_assoc, List.prefix_append, List.prefix_refl, List.prefix_append_right_inj])) | (with_reducible refine Below.alloc ?_ ?_ _) | (with_reducible refine below_ext ?_ ?_ _) | (with_reducible refine Below.drew ?_) | (with_reducible refine below_drewN ?_ _) | (with_reducible refine Below.setCell ?_ ?_ _) | go_size | (simp only [w_size_ext, List.length_append, World.alloc_size]; omega) | (simp; done) | (simp; omega)))), ?_⟩))); refine wpMix_nil ?_
            go_wp2
            go_ret
            exact Ret.mk (by rw [HF.out]; rfl) (below_tr HB.out (by (repeat' (first | (with_reducible exact Below.refl _ _) | (with_reducible assumption) | (with_reducible exact below_app _ _ _ _) | (with_reducible refine below_pre ?_; (simp only [List.append_assoc, List.prefix_append, List.prefix_refl, List.prefix_append_right_inj])) | (with_reducible refine Below.alloc ?_ ?_ _) | (with_reducible refine below_ext ?_ ?_ _) | (with_reducible refine Below.drew ?_) | (with_reducible refine below_drewN ?_ _) | (with_reducible refine Below.setCell ?_ ?_ _) | go_size | (simp only [w_size_ext, List.length_append, World.alloc_size]; omega) | (simp; done) | (simp; omega)))))


      | true =>
        by_cases hv : 0 < val.size
        · have HF := Lib.hid (HNF.out (by rw [HGA.out, decide_eq_true hv]; rfl))
          have hve := nonempty_of_size hv
          clear hv
          go_wp2
          refine wp_region_mix [(0, true), (1, true), (2, false), (3, true), (4, true), (5, true), (6, true), (7, false), (8, true), (9, true), (10, true), (11, true), (12, true), (13, true), (14, true), (15, true), (16, true), (17, true), (18, true), (19, true), (20, true), (21, true), (22, true), (23, true), (24, true), (25, true), (26, true), (27, true), (28, true), (29, true), (30, true), (31, false), (32, true), (33, true), (34, true)] (by kernel_rfl) (by kernel_rfl) rfl (by kernel_rfl) (by intro _ _ d _ _ h; cases d <;> exact h) ?_; intro j1; (repeat (first | (refine wpMix_skipK rfl rfl ?_; intro K hK; go_simp; refine hK _ ?_; clear hK K) | (refine wpMix_light rfl rfl ?_; intro K hK; go_simp; refine hK _ ?_; clear hK K) | (refine wpMix_heavy rfl rfl ?_; intro K hK; go_wp2_with ((first | (go_at_call 39; (with_reducible refine (HK.out _).mono ?_); rintro e1 w1 ⟨rfl, j9, rfl⟩) | (go_at_call 40; (with_reducible refine (HV.out _).mono ?_); rintro e1 w1 ⟨rfl, j9, rfl⟩) | (go_at_call 41; (with_reducible refine (HL.out _).mono ?_); rintro e1 w1 ⟨rfl, j9, rfl⟩))); refine ⟨w_ext_of_below (by (repeat' (first | (with_reducible exact Below.refl _ _) | (with_reducible assumption) | (with_reducible exact below_app _ _ _ _) | (with_reducible refine below_pre ?_; (simp only [List.append_assoc, List.prefix_append, List.prefix_refl, List.prefix_append_right_inj])) | (with_reducible refine Below.alloc ?_ ?_ _) | (with_reducible refine below_ext ?_ ?_ _) | (with_reducible refine Below.drew ?_) | (with_reducible refine below_drewN ?_ _) | (with_reducible refine Below.setCell ?_ ?_ _) | go_size | (simp only [w_size_ext, List.length_append, World.alloc_size]; omega) | (simp; done) | (simp; omega)))), ?_⟩))); refine wpMix_nil ?_
          go_wp2
          go_ret
          exact Ret.mk (by rw [HF.out]; rfl) (below_tr HB.out (by (repeat' (first | (with_reducible exact Below.refl _ _) | (with_reducible assumption) | (with_reducible exact below_app _ _ _ _) | (with_reducible refine below_pre ?_; (simp only [List.append_assoc, List.prefix_append, List.prefix_refl, List.prefix_append_right_inj])) | (with_reducible refine Below.alloc ?_ ?_ _) | (with_reducible refine below_ext ?_ ?_ _) | (with_reducible refine Below.drew ?_) | (with_reducible refine below_drewN ?_ _) | (with_reducible refine Below.setCell ?_ ?_ _) | go_size | (simp only [w_size_ext, List.length_append, World.alloc_size]; omega) | (simp; done) | (simp; omega)))))

        · obtain rfl : val = ⟨#[]⟩ := empty_of_size (by omega)
          have HOK : Hid ((true && true && !(true && decide (0 < (⟨#[]⟩ : ByteArray).size))) = true) := Lib.hid rfl
          clear hv
          by_cases h00 : i = 0
          · have HG2 := Lib.hid (HGS.out (by rw [HGA.out, HOK.out, decide_eq_true h00]; rfl))
            have hd0 : decide (0 < i) = false := decide_eq_false (by omega)
            clear HPREV h00
            go_wp2
            refine wp_region_mix [(0, true), (1, true), (2, false), (3, true), (4, true), (5, true), (6, true), (7, false), (8, true), (9, true), (10, true), (11, true), (12, true), (13, true), (14, true), (15, true), (16, true), (17, true), (18, true), (19, true), (20, true), (21, true), (22, true), (23, true), (24, true), (25, true), (26, true), (27, true), (28, true), (29, true), (30, true), (31, false), (32, true), (33, true), (34, true)] (by kernel_rfl) (by kernel_rfl) rfl (by kernel_rfl) (by intro _ _ d _ _ h; cases d <;> exact h) ?_; intro j1; (repeat (first | (refine wpMix_skipK rfl rfl ?_; intro K hK; go_simp; refine hK _ ?_; clear hK K) | (refine wpMix_light rfl rfl ?_; intro K hK; go_simp; refine hK _ ?_; clear hK K) | (refine wpMix_heavy rfl rfl ?_; intro K hK; go_wp2_with ((first | (go_at_call 39; (with_reducible refine (HK.out _).mono ?_); rintro e1 w1 ⟨rfl, j9, rfl⟩) | (go_at_call 40; (with_reducible refine (HV.out _).mono ?_); rintro e1 w1 ⟨rfl, j9, rfl⟩) | (go_at_call 41; (with_reducible refine (HL.out _).mono ?_); rintro e1 w1 ⟨rfl, j9, rfl⟩))); refine ⟨w_ext_of_below (by (repeat' (first | (with_reducible exact Below.refl _ _) | (with_reducible assumption) | (with_reducible exact below_app _ _ _ _) | (with_reducible refine below_pre ?_; (simp only [List.append_assoc, List.prefix_append, List.prefix_refl, List.prefix_append_right_inj])) | (with_reducible refine Below.alloc ?_ ?_ _) | (with_reducible refine below_ext ?_ ?_ _) | (with_reducible refine Below.drew ?_) | (with_reducible refine below_drewN ?_ _) | (with_reducible refine Below.setCell ?_ ?_ _) | go_size | (simp only [w_size_ext, List.length_append, World.alloc_size]; omega) | (simp; done) | (simp; omega)))), ?_⟩))); refine wpMix_nil ?_
            go_wp2
            go_roundw
            case rel => exact ⟨i + 1, by omega, by first | rfl | rw [hwr], Lib.hid (below_tr HB.out (by (repeat' (first | (with_reducible exact Below.refl _ _) | (with_reducible assumption) | (with_reducible exact below_app _ _ _ _) | (with_reducible refine below_pre ?_; (simp only [List.append_assoc, List.prefix_append, List.prefix_refl, List.prefix_append_right_inj])) | (with_reducible refine Below.alloc ?_ ?_ _) | (with_reducible refine below_ext ?_ ?_ _) | (with_reducible refine Below.drew ?_) | (with_reducible refine below_drewN ?_ _) | (with_reducible refine Below.setCell ?_ ?_ _) | go_size | (simp only [w_size_ext, List.length_append, World.alloc_size]; omega) | (simp; done) | (simp; omega))))), HG2⟩
            case measure => first | (simp [intOf]; omega) | (rw [intOf_lit, intOf_lit, hwr]; omega)

          · have hd0 : decide (0 < i) = true := decide_eq_true (by omega)
            have hq0 := HPREV.out (by omega)
            obtain ⟨q, hq⟩ : ∃ q, i - 1 = q := ⟨_, rfl⟩
            rw [hq] at hq0 HGA
            obtain ⟨b2, o2, eB, p0, -, -⟩ := hq0
            injection eB with eB
            injection eB with e1 e2
            subst e1; subst e2
            have hi1 : (0 : Int) < (i : Int) := by omega
            have hp1 : (0 : Int) ≤ (q : Int) := by omega
            have hp2 : (q : Int) < (n : Int) := by omega
            have hp3 : IntKind.i64.wrap ((i : Int) - 1) = (q : Int) := by rw [IntKind.wrap_i64]; omega
            have HL := Lib.hid (fun W => lessR_any (l.getD q noCh).key key W HSZK.out)
            have HLE := leS_not key (l.getD q noCh).key
            generalize (l.getD q noCh).key = pk at *
            have hlb2 := leB_of_cell p0
            clear hq HPREV
            cases hlt2 : ltL pk.data.toList key.data.toList with
            | true =>
              rw [hlt2] at HL
              have HG2 := Lib.hid (HGS.out (by rw [HGA.out, HOK.out, HLE, hlt2, Bool.or_true]; rfl))
              clear hlt2 HLE
              go_wp2
              refine wp_region_mix [(0, true), (1, true), (2, false), (3, true), (4, true), (5, true), (6, true), (7, false), (8, true), (9, true), (10, true), (11, true), (12, true), (13, true), (14, true), (15, true), (16, true), (17, true), (18, true), (19, true), (20, true), (21, true), (22, true), (23, true), (24, true), (25, true), (26, true), (27, true), (28, true), (29, true), (30, true), (31, false), (32, true), (33, true), (34, true)] (by kernel_rfl) (by kernel_rfl) rfl (by kernel_rfl) (by intro _ _ d _ _ h; cases d <;> exact h) ?_; intro j1; (repeat (first | (refine wpMix_skipK rfl rfl ?_; intro K hK; go_simp; refine hK _ ?_; clear hK K) | (refine wpMix_light rfl rfl ?_; intro K hK; go_simp; refine hK _ ?_; clear hK K) | (refine wpMix_heavy rfl rfl ?_; intro K hK; go_wp2_with ((first | (go_at_call 39; (with_reducible refine (HK.out _).mono ?_); rintro e1 w1 ⟨rfl, j9, rfl⟩) | (go_at_call 40; (with_reducible refine (HV.out _).mono ?_); rintro e1 w1 ⟨rfl, j9, rfl⟩) | (go_at_call 41; (with_reducible refine (HL.out _).mono ?_); rintro e1 w1 ⟨rfl, j9, rfl⟩))); refine ⟨w_ext_of_below (by (repeat' (first | (with_reducible exact Below.refl _ _) | (with_reducible assumption) | (with_reducible exact below_app _ _ _ _) | (with_reducible refine below_pre ?_; (simp only [List.append_assoc, List.prefix_append, List.prefix_refl, List.prefix_append_right_inj])) | (with_reducible refine Below.alloc ?_ ?_ _) | (with_reducible refine below_ext ?_ ?_ _) | (with_reducible refine Below.drew ?_) | (with_reducible refine below_drewN ?_ _) | (with_reducible refine Below.setCell ?_ ?_ _) | go_size | (simp only [w_size_ext, List.length_append, World.alloc_size]; omega) | (simp; done) | (simp; omega)))), ?_⟩))); refine wpMix_nil ?_
              go_wp2
              go_roundw
              case rel => exact ⟨i + 1, by omega, by first | rfl | rw [hwr], Lib.hid (below_tr HB.out (by (repeat' (first | (with_reducible exact Below.refl _ _) | (with_reducible assumption) | (with_reducible exact below_app _ _ _ _) | (with_reducible refine below_pre ?_; (simp only [List.append_assoc, List.prefix_append, List.prefix_refl, List.prefix_append_right_inj])) | (with_reducible refine Below.alloc ?_ ?_ _) | (with_reducible refine below_ext ?_ ?_ _) | (with_reducible refine Below.drew ?_) | (with_reducible refine below_drewN ?_ _) | (with_reducible refine Below.setCell ?_ ?_ _) | go_size | (simp only [w_size_ext, List.length_append, World.alloc_size]; omega) | (simp; done) | (simp; omega))))), HG2⟩
              case measure => first | (simp [intOf]; omega) | (rw [intOf_lit, intOf_lit, hwr]; omega)

            | false =>
              rw [hlt2] at HL
              have HF := Lib.hid (HNF.out (by rw [HGA.out, HOK.out, HLE, hlt2, decide_eq_false h00]; rfl))
              clear hlt2 HLE
              go_wp2
              refine wp_region_mix [(0, true), (1, true), (2, false), (3, true), (4, true), (5, true), (6, true), (7, false), (8, true), (9, true), (10, true), (11, true), (12, true), (13, true), (14, true), (15, true), (16, true), (17, true), (18, true), (19, true), (20, true), (21, true), (22, true), (23, true), (24, true), (25, true), (26, true), (27, true), (28, true), (29, true), (30, true), (31, false), (32, true), (33, true), (34, true)] (by kernel_rfl) (by kernel_rfl) rfl (by kernel_rfl) (by intro _ _ d _ _ h; cases d <;> exact h) ?_; intro j1; (repeat (first | (refine wpMix_skipK rfl rfl ?_; intro K hK; go_simp; refine hK _ ?_; clear hK K) | (refine wpMix_light rfl rfl ?_; intro K hK; go_simp; refine hK _ ?_; clear hK K) | (refine wpMix_heavy rfl rfl ?_; intro K hK; go_wp2_with ((first | (go_at_call 39; (with_reducible refine (HK.out _).mono ?_); rintro e1 w1 ⟨rfl, j9, rfl⟩) | (go_at_call 40; (with_reducible refine (HV.out _).mono ?_); rintro e1 w1 ⟨rfl, j9, rfl⟩) | (go_at_call 41; (with_reducible refine (HL.out _).mono ?_); rintro e1 w1 ⟨rfl, j9, rfl⟩))); refine ⟨w_ext_of_below (by (repeat' (first | (with_reducible exact Below.refl _ _) | (with_reducible assumption) | (with_reducible exact below_app _ _ _ _) | (with_reducible refine below_pre ?_; (simp only [List.append_assoc, List.prefix_append, List.prefix_refl, List.prefix_append_right_inj])) | (with_reducible refine Below.alloc ?_ ?_ _) | (with_reducible refine below_ext ?_ ?_ _) | (with_reducible refine Below.drew ?_) | (with_reducible refine below_drewN ?_ _) | (with_reducible refine Below.setCell ?_ ?_ _) | go_size | (simp only [w_size_ext, List.length_append, World.alloc_size]; omega) | (simp; done) | (simp; omega)))), ?_⟩))); refine wpMix_nil ?_
              go_wp2
              go_ret
              exact Ret.mk (by rw [HF.out]; rfl) (below_tr HB.out (by (repeat' (first | (with_reducible exact Below.refl _ _) | (with_reducible assumption) | (with_reducible exact below_app _ _ _ _) | (with_reducible refine below_pre ?_; (simp only [List.append_assoc, List.prefix_append, List.prefix_refl, List.prefix_append_right_inj])) | (with_reducible refine Below.alloc ?_ ?_ _) | (with_reducible refine below_ext ?_ ?_ _) | (with_reducible refine Below.drew ?_) | (with_reducible refine below_drewN ?_ _) | (with_reducible refine Below.setCell ?_ ?_ _) | go_size | (simp only [w_size_ext, List.length_append, World.alloc_size]; omega) | (simp; done) | (simp; omega)))))


end Go.Proofs.Ytelhclamoapnhaa
