/- Helper lemmas of this seat, joined. No condition. -/
import Derived.Test.YtelhclamoapnhaaGB
import Derived.Test.YtelhclamoapnhaaGA
import Derived.WalkLawsBesides
import Derived.OrdersHeld
set_option linter.unusedSimpArgs false
set_option linter.unusedVariables false
namespace Go.Proofs.Ytelhclamoapnhaa
open Go.RowKit

/-- Is a text below another one, or the same? -/
def leS (a b : ByteArray) : Bool := Op.bytesLess a.toList b.toList || a.toList == b.toList
/-- May this be a change? -/
def okCh (c : Ch) : Bool := decide (0 < c.key.size) && decide (c.key.size ≤ 64) && decide (c.val.size ≤ 300) && !(c.gone && decide (0 < c.val.size))
theorem okCh_iff (k v : ByteArray) (g : Bool) : okCh ⟨k, v, g⟩ = true ↔ (0 < k.size ∧ k.size ≤ 64 ∧ v.size ≤ 300 ∧ ¬ (g = true ∧ 0 < v.size)) := by
  unfold okCh
  cases g <;> simp [and_assoc]
theorem okCh_no (k v : ByteArray) (g : Bool) (h : ¬ (0 < k.size ∧ k.size ≤ 64 ∧ v.size ≤ 300 ∧ ¬ (g = true ∧ 0 < v.size))) : okCh ⟨k, v, g⟩ = false := by
  rw [← Bool.not_eq_true, okCh_iff]; exact h
/-- May this stand here? -/
def goodAt (l : List Ch) (i : Nat) : Bool := okCh (l.getD i noCh) && (decide (i = 0) || !(leS (l.getD i noCh).key (l.getD (i - 1) noCh).key))
/-- Do changes stand by rising keys, each once, and may be? -/
def sortedP (l : List Ch) : Bool := decide (∀ i, i < l.length → goodAt l i = true)
theorem sortedP_no (l : List Ch) (i : Nat) (hi : i < l.length) (h : goodAt l i = false) : sortedP l = false := decide_eq_false fun e => by rw [e i hi] at h; cases h
set_option maxHeartbeats 2000000 in
set_option maxRecDepth 100000 in
theorem sorted_any (A : Option Addr) (c : Nat) (l : List Ch) (w : World) (hA : ChsAt w A l) (hl : l.length ≤ 100000000) : Calls Try.prog 17 #[.slice A l.length c] w (Ret (.bool (sortedP l)) w) := by
  have HA := Lib.hid hA
  obtain ⟨n, hn⟩ : ∃ n, l.length = n := ⟨_, rfl⟩
  have HNO := Lib.hid (sortedP_no l)
  have HYES := Lib.hid (show (∀ i, i < n → goodAt l i = true) → sortedP l = true from fun h => decide_eq_true (by rw [hn]; exact h))
  rw [hn] at hl ⊢
  have HN := Lib.hid hn
  generalize sortedP l = r at *
  clear hA hn
  go_enter Try.func17, Try.ntmps17
  go_wp2
  go_loopw [7] (fun v7 wr => ∃ (i : Nat), i ≤ n ∧ v7 = .int .i64 (i : Int) ∧ Hid (Below w.heap.size w wr) ∧ Hid (∀ j, j < i → goodAt l j = true)) (fun i _ => ((n : Int) - intOf i).toNat)
  case atStart => exact ⟨0, Nat.zero_le _, rfl, Lib.hid (Below.refl _ _), Lib.hid fun j hj => by omega⟩
  case round =>
    obtain ⟨i, hi, rfl, HB, HG⟩ := hrel
    by_cases hin : i = n
    · subst hin
      have HF := Lib.hid (HYES.out HG.out)
      go_wp2
      go_ret
      exact Ret.mk (by rw [HF.out]; rfl) HB.out
    · have hlt : (i : Int) < (n : Int) := by omega
      have hge : (0 : Int) ≤ (i : Int) := by omega
      have hnl : ¬ (i : Int) < 0 := by omega
      have hwr : wrap64 ((i : Int) + 1) = ((i + 1 : Nat) : Int) := by rw [wrap64_eq]; omega
      obtain ⟨b, o, eA, h0, h1, h2⟩ := (HA.out.later HB.out) i (by rw [HN.out]; omega)
      subst eA
      have hlb := leB_of_cell h0
      have HPREV := Lib.hid (fun (h : 0 < i) => (HA.out.later HB.out) (i - 1) (by rw [HN.out]; omega))
      have HGA := Lib.hid (show goodAt l i = (okCh (l.getD i noCh) && (decide (i = 0) || !(leS (l.getD i noCh).key (l.getD (i - 1) noCh).key))) from rfl)
      have HNF := Lib.hid (fun h => HNO.out i (by rw [HN.out]; omega) h)
      have HGS := Lib.hid (show goodAt l i = true → ∀ j, j < i + 1 → goodAt l j = true from fun h j hj => by
        by_cases e : j = i
        · rw [e]; exact h
        · exact HG.out j (by omega))
      generalize goodAt l i = g at *
      generalize l.getD i noCh = ch at *
      obtain ⟨key, val, gone⟩ := ch
      simp only at h0 h1 h2 HGA
      by_cases hk : key.size = 0
      · have HF := Lib.hid (HNF.out (by rw [HGA.out, okCh_no _ _ _ (by omega), Bool.false_and]))
        obtain rfl : key = ⟨#[]⟩ := ByteArray.ext (Array.eq_empty_of_size_eq_zero hk)
        clear hk
        go_wp2
        refine wp_region_mix [(0, true), (1, true), (2, true), (3, true), (4, true), (5, true), (6, true), (7, true), (8, true), (9, true), (10, true), (11, true), (12, true), (13, true), (14, true), (15, true), (16, true), (17, true), (18, true), (19, true), (20, true), (21, true), (22, true), (23, true), (24, true), (25, true), (26, true), (27, true), (28, true), (29, true), (30, true), (31, true), (32, true), (33, true), (34, true), (35, true), (36, true), (37, true), (38, true)] (by kernel_rfl) (by kernel_rfl) rfl (by kernel_rfl) (by intro _ _ d _ _ h; cases d <;> exact h) ?_; intro j1; (repeat (first | (refine wpMix_skipK rfl rfl ?_; intro K hK; go_simp; refine hK _ ?_; clear hK K) | (refine wpMix_light rfl rfl ?_; intro K hK; go_simp; refine hK _ ?_; clear hK K) | (refine wpMix_heavy rfl rfl ?_; intro K hK; go_wp2_with (fail); refine ⟨w_ext_of_below (by (repeat' (first | (with_reducible exact Below.refl _ _) | (with_reducible assumption) | (with_reducible exact below_app _ _ _ _) | (with_reducible refine below_pre ?_; (simp only [List.append_assoc, List.prefix_append, List.prefix_refl, List.prefix_append_right_inj])) | (with_reducible refine Below.alloc ?_ ?_ _) | (with_reducible refine below_ext ?_ ?_ _) | (with_reducible refine Below.drew ?_) | (with_reducible refine below_drewN ?_ _) | (with_reducible refine Below.setCell ?_ ?_ _) | go_size | (simp only [w_size_ext, List.length_append, World.alloc_size]; omega) | (simp; done) | (simp; omega)))), ?_⟩))); refine wpMix_nil ?_
        go_wp2
        go_ret
        exact Ret.mk (by rw [HF.out]; rfl) (below_tr HB.out (by (repeat' (first | (with_reducible exact Below.refl _ _) | (with_reducible assumption) | (with_reducible exact below_app _ _ _ _) | (with_reducible refine below_pre ?_; (simp only [List.append_assoc, List.prefix_append, List.prefix_refl, List.prefix_append_right_inj])) | (with_reducible refine Below.alloc ?_ ?_ _) | (with_reducible refine below_ext ?_ ?_ _) | (with_reducible refine Below.drew ?_) | (with_reducible refine below_drewN ?_ _) | (with_reducible refine Below.setCell ?_ ?_ _) | go_size | (simp only [w_size_ext, List.length_append, World.alloc_size]; omega) | (simp; done) | (simp; omega)))))

      have hem := nonempty_of_size (show 0 < key.size by omega)
      by_cases hk64 : (64 : Int) < (key.size : Int)
      · have HF := Lib.hid (HNF.out (by rw [HGA.out, okCh_no _ _ _ (by omega), Bool.false_and]))
        clear hk
        go_wp2
        refine wp_region_mix [(0, true), (1, true), (2, true), (3, true), (4, true), (5, true), (6, true), (7, true), (8, true), (9, true), (10, true), (11, true), (12, true), (13, true), (14, true), (15, true), (16, true), (17, true), (18, true), (19, true), (20, true), (21, true), (22, true), (23, true), (24, true), (25, true), (26, true), (27, true), (28, true), (29, true), (30, true), (31, true), (32, true), (33, true), (34, true), (35, true), (36, true), (37, true), (38, true)] (by kernel_rfl) (by kernel_rfl) rfl (by kernel_rfl) (by intro _ _ d _ _ h; cases d <;> exact h) ?_; intro j1; (repeat (first | (refine wpMix_skipK rfl rfl ?_; intro K hK; go_simp; refine hK _ ?_; clear hK K) | (refine wpMix_light rfl rfl ?_; intro K hK; go_simp; refine hK _ ?_; clear hK K) | (refine wpMix_heavy rfl rfl ?_; intro K hK; go_wp2_with (fail); refine ⟨w_ext_of_below (by (repeat' (first | (with_reducible exact Below.refl _ _) | (with_reducible assumption) | (with_reducible exact below_app _ _ _ _) | (with_reducible refine below_pre ?_; (simp only [List.append_assoc, List.prefix_append, List.prefix_refl, List.prefix_append_right_inj])) | (with_reducible refine Below.alloc ?_ ?_ _) | (with_reducible refine below_ext ?_ ?_ _) | (with_reducible refine Below.drew ?_) | (with_reducible refine below_drewN ?_ _) | (with_reducible refine Below.setCell ?_ ?_ _) | go_size | (simp only [w_size_ext, List.length_append, World.alloc_size]; omega) | (simp; done) | (simp; omega)))), ?_⟩))); refine wpMix_nil ?_
        go_wp2
        go_ret
        exact Ret.mk (by rw [HF.out]; rfl) (below_tr HB.out (by (repeat' (first | (with_reducible exact Below.refl _ _) | (with_reducible assumption) | (with_reducible exact below_app _ _ _ _) | (with_reducible refine below_pre ?_; (simp only [List.append_assoc, List.prefix_append, List.prefix_refl, List.prefix_append_right_inj])) | (with_reducible refine Below.alloc ?_ ?_ _) | (with_reducible refine below_ext ?_ ?_ _) | (with_reducible refine Below.drew ?_) | (with_reducible refine below_drewN ?_ _) | (with_reducible refine Below.setCell ?_ ?_ _) | go_size | (simp only [w_size_ext, List.length_append, World.alloc_size]; omega) | (simp; done) | (simp; omega)))))

      have hd64 : decide ((64 : Int) < (key.size : Int)) = false := decide_eq_false hk64
      by_cases hv : (300 : Int) < (val.size : Int)
      · have HF := Lib.hid (HNF.out (by rw [HGA.out, okCh_no _ _ _ (by omega), Bool.false_and]))
        clear hk
        go_wp2
        refine wp_region_mix [(0, true), (1, true), (2, true), (3, true), (4, true), (5, true), (6, true), (7, true), (8, true), (9, true), (10, true), (11, true), (12, true), (13, true), (14, true), (15, true), (16, true), (17, true), (18, true), (19, true), (20, true), (21, true), (22, true), (23, true), (24, true), (25, true), (26, true), (27, true), (28, true), (29, true), (30, true), (31, true), (32, true), (33, true), (34, true), (35, true), (36, true), (37, true), (38, true)] (by kernel_rfl) (by kernel_rfl) rfl (by kernel_rfl) (by intro _ _ d _ _ h; cases d <;> exact h) ?_; intro j1; (repeat (first | (refine wpMix_skipK rfl rfl ?_; intro K hK; go_simp; refine hK _ ?_; clear hK K) | (refine wpMix_light rfl rfl ?_; intro K hK; go_simp; refine hK _ ?_; clear hK K) | (refine wpMix_heavy rfl rfl ?_; intro K hK; go_wp2_with (fail); refine ⟨w_ext_of_below (by (repeat' (first | (with_reducible exact Below.refl _ _) | (with_reducible assumption) | (with_reducible exact below_app _ _ _ _) | (with_reducible refine below_pre ?_; (simp only [List.append_assoc, List.prefix_append, List.prefix_refl, List.prefix_append_right_inj])) | (with_reducible refine Below.alloc ?_ ?_ _) | (with_reducible refine below_ext ?_ ?_ _) | (with_reducible refine Below.drew ?_) | (with_reducible refine below_drewN ?_ _) | (with_reducible refine Below.setCell ?_ ?_ _) | go_size | (simp only [w_size_ext, List.length_append, World.alloc_size]; omega) | (simp; done) | (simp; omega)))), ?_⟩))); refine wpMix_nil ?_
        go_wp2
        go_ret
        exact Ret.mk (by rw [HF.out]; rfl) (below_tr HB.out (by (repeat' (first | (with_reducible exact Below.refl _ _) | (with_reducible assumption) | (with_reducible exact below_app _ _ _ _) | (with_reducible refine below_pre ?_; (simp only [List.append_assoc, List.prefix_append, List.prefix_refl, List.prefix_append_right_inj])) | (with_reducible refine Below.alloc ?_ ?_ _) | (with_reducible refine below_ext ?_ ?_ _) | (with_reducible refine Below.drew ?_) | (with_reducible refine below_drewN ?_ _) | (with_reducible refine Below.setCell ?_ ?_ _) | go_size | (simp only [w_size_ext, List.length_append, World.alloc_size]; omega) | (simp; done) | (simp; omega)))))

      have hd300 : decide ((300 : Int) < (val.size : Int)) = false := decide_eq_false hv
      by_cases hg : gone = true ∧ 0 < val.size
      · obtain ⟨rfl, hg⟩ := hg
        have HF := Lib.hid (HNF.out (by rw [HGA.out, okCh_no _ _ _ (fun e => e.2.2.2 ⟨rfl, hg⟩), Bool.false_and]))
        have hve := nonempty_of_size hg
        clear hk hg
        go_wp2
        refine wp_region_mix [(0, true), (1, true), (2, true), (3, true), (4, true), (5, true), (6, true), (7, true), (8, true), (9, true), (10, true), (11, true), (12, true), (13, true), (14, true), (15, true), (16, true), (17, true), (18, true), (19, true), (20, true), (21, true), (22, true), (23, true), (24, true), (25, true), (26, true), (27, true), (28, true), (29, true), (30, true), (31, true), (32, true), (33, true), (34, true), (35, true), (36, true), (37, true), (38, true)] (by kernel_rfl) (by kernel_rfl) rfl (by kernel_rfl) (by intro _ _ d _ _ h; cases d <;> exact h) ?_; intro j1; (repeat (first | (refine wpMix_skipK rfl rfl ?_; intro K hK; go_simp; refine hK _ ?_; clear hK K) | (refine wpMix_light rfl rfl ?_; intro K hK; go_simp; refine hK _ ?_; clear hK K) | (refine wpMix_heavy rfl rfl ?_; intro K hK; go_wp2_with (fail); refine ⟨w_ext_of_below (by (repeat' (first | (with_reducible exact Below.refl _ _) | (with_reducible assumption) | (with_reducible exact below_app _ _ _ _) | (with_reducible refine below_pre ?_; (simp only [List.append_assoc, List.prefix_append, List.prefix_refl, List.prefix_append_right_inj])) | (with_reducible refine Below.alloc ?_ ?_ _) | (with_reducible refine below_ext ?_ ?_ _) | (with_reducible refine Below.drew ?_) | (with_reducible refine below_drewN ?_ _) | (with_reducible refine Below.setCell ?_ ?_ _) | go_size | (simp only [w_size_ext, List.length_append, World.alloc_size]; omega) | (simp; done) | (simp; omega)))), ?_⟩))); refine wpMix_nil ?_
        go_wp2
        go_ret
        exact Ret.mk (by rw [HF.out]; rfl) (below_tr HB.out (by (repeat' (first | (with_reducible exact Below.refl _ _) | (with_reducible assumption) | (with_reducible exact below_app _ _ _ _) | (with_reducible refine below_pre ?_; (simp only [List.append_assoc, List.prefix_append, List.prefix_refl, List.prefix_append_right_inj])) | (with_reducible refine Below.alloc ?_ ?_ _) | (with_reducible refine below_ext ?_ ?_ _) | (with_reducible refine Below.drew ?_) | (with_reducible refine below_drewN ?_ _) | (with_reducible refine Below.setCell ?_ ?_ _) | go_size | (simp only [w_size_ext, List.length_append, World.alloc_size]; omega) | (simp; done) | (simp; omega)))))

      have HOK := Lib.hid (show okCh ⟨key, val, gone⟩ = true from (okCh_iff _ _ _).2 ⟨by omega, by omega, by omega, hg⟩)
      have hcs : gone = false ∨ (gone = true ∧ val = ⟨#[]⟩) := by
        cases gone with
        | false => exact Or.inl rfl
        | true => exact Or.inr ⟨rfl, ByteArray.ext (Array.eq_empty_of_size_eq_zero (Nat.eq_zero_of_not_pos fun h => hg ⟨rfl, h⟩))⟩
      clear hg
      by_cases h00 : i = 0
      · have HG2 := Lib.hid (HGS.out (by rw [HGA.out, HOK.out, decide_eq_true h00]; rfl))
        have hd0 : decide (0 < i) = false := decide_eq_false (by omega)
        clear hk h00
        rcases hcs with rfl | ⟨rfl, rfl⟩
        · go_wp2
          refine wp_region_mix [(0, true), (1, true), (2, true), (3, true), (4, true), (5, true), (6, true), (7, true), (8, true), (9, true), (10, true), (11, true), (12, true), (13, true), (14, true), (15, true), (16, true), (17, true), (18, true), (19, true), (20, true), (21, true), (22, true), (23, true), (24, true), (25, true), (26, true), (27, true), (28, true), (29, true), (30, true), (31, true), (32, true), (33, true), (34, true), (35, true), (36, true), (37, true), (38, true)] (by kernel_rfl) (by kernel_rfl) rfl (by kernel_rfl) (by intro _ _ d _ _ h; cases d <;> exact h) ?_; intro j1; (repeat (first | (refine wpMix_skipK rfl rfl ?_; intro K hK; go_simp; refine hK _ ?_; clear hK K) | (refine wpMix_light rfl rfl ?_; intro K hK; go_simp; refine hK _ ?_; clear hK K) | (refine wpMix_heavy rfl rfl ?_; intro K hK; go_wp2_with (fail); refine ⟨w_ext_of_below (by (repeat' (first | (with_reducible exact Below.refl _ _) | (with_reducible assumption) | (with_reducible exact below_app _ _ _ _) | (with_reducible refine below_pre ?_; (simp only [List.append_assoc, List.prefix_append, List.prefix_refl, List.prefix_append_right_inj])) | (with_reducible refine Below.alloc ?_ ?_ _) | (with_reducible refine below_ext ?_ ?_ _) | (with_reducible refine Below.drew ?_) | (with_reducible refine below_drewN ?_ _) | (with_reducible refine Below.setCell ?_ ?_ _) | go_size | (simp only [w_size_ext, List.length_append, World.alloc_size]; omega) | (simp; done) | (simp; omega)))), ?_⟩))); refine wpMix_nil ?_
          go_wp2
          go_roundw
          case rel => exact ⟨i + 1, by omega, by first | rfl | rw [hwr], Lib.hid (below_tr HB.out (by (repeat' (first | (with_reducible exact Below.refl _ _) | (with_reducible assumption) | (with_reducible exact below_app _ _ _ _) | (with_reducible refine below_pre ?_; (simp only [List.append_assoc, List.prefix_append, List.prefix_refl, List.prefix_append_right_inj])) | (with_reducible refine Below.alloc ?_ ?_ _) | (with_reducible refine below_ext ?_ ?_ _) | (with_reducible refine Below.drew ?_) | (with_reducible refine below_drewN ?_ _) | (with_reducible refine Below.setCell ?_ ?_ _) | go_size | (simp only [w_size_ext, List.length_append, World.alloc_size]; omega) | (simp; done) | (simp; omega))))), HG2⟩
          case measure => first | (simp [intOf]; omega) | (rw [intOf_lit, intOf_lit, hwr]; omega)

        · go_wp2
          refine wp_region_mix [(0, true), (1, true), (2, true), (3, true), (4, true), (5, true), (6, true), (7, true), (8, true), (9, true), (10, true), (11, true), (12, true), (13, true), (14, true), (15, true), (16, true), (17, true), (18, true), (19, true), (20, true), (21, true), (22, true), (23, true), (24, true), (25, true), (26, true), (27, true), (28, true), (29, true), (30, true), (31, true), (32, true), (33, true), (34, true), (35, true), (36, true), (37, true), (38, true)] (by kernel_rfl) (by kernel_rfl) rfl (by kernel_rfl) (by intro _ _ d _ _ h; cases d <;> exact h) ?_; intro j1; (repeat (first | (refine wpMix_skipK rfl rfl ?_; intro K hK; go_simp; refine hK _ ?_; clear hK K) | (refine wpMix_light rfl rfl ?_; intro K hK; go_simp; refine hK _ ?_; clear hK K) | (refine wpMix_heavy rfl rfl ?_; intro K hK; go_wp2_with (fail); refine ⟨w_ext_of_below (by (repeat' (first | (with_reducible exact Below.refl _ _) | (with_reducible assumption) | (with_reducible exact below_app _ _ _ _) | (with_reducible refine below_pre ?_; (simp only [List.append_assoc, List.prefix_append, List.prefix_refl, List.prefix_append_right_inj])) | (with_reducible refine Below.alloc ?_ ?_ _) | (with_reducible refine below_ext ?_ ?_ _) | (with_reducible refine Below.drew ?_) | (with_reducible refine below_drewN ?_ _) | (with_reducible refine Below.setCell ?_ ?_ _) | go_size | (simp only [w_size_ext, List.length_append, World.alloc_size]; omega) | (simp; done) | (simp; omega)))), ?_⟩))); refine wpMix_nil ?_
          go_wp2
          go_roundw
          case rel => exact ⟨i + 1, by omega, by first | rfl | rw [hwr], Lib.hid (below_tr HB.out (by (repeat' (first | (with_reducible exact Below.refl _ _) | (with_reducible assumption) | (with_reducible exact below_app _ _ _ _) | (with_reducible refine below_pre ?_; (simp only [List.append_assoc, List.prefix_append, List.prefix_refl, List.prefix_append_right_inj])) | (with_reducible refine Below.alloc ?_ ?_ _) | (with_reducible refine below_ext ?_ ?_ _) | (with_reducible refine Below.drew ?_) | (with_reducible refine below_drewN ?_ _) | (with_reducible refine Below.setCell ?_ ?_ _) | go_size | (simp only [w_size_ext, List.length_append, World.alloc_size]; omega) | (simp; done) | (simp; omega))))), HG2⟩
          case measure => first | (simp [intOf]; omega) | (rw [intOf_lit, intOf_lit, hwr]; omega)

      · have hq0 := HPREV.out (by omega)
        have HGA2 := Lib.hid (show g = !(leS key (l.getD (i - 1) noCh).key) by rw [HGA.out, HOK.out, decide_eq_false h00]; simp)
        obtain ⟨q, hq⟩ : ∃ q, i - 1 = q := ⟨_, rfl⟩
        rw [hq] at hq0 HGA2
        obtain ⟨b', o', eP, p0, _, _⟩ := hq0
        injection eP with eP
        injection eP with e1 e2
        subst e1; subst e2
        have hi1 : (0 : Int) < (i : Int) := by omega
        have hp1 : (0 : Int) ≤ (q : Int) := by omega
        have hp2 : (q : Int) < (n : Int) := by omega
        have hp3 : IntKind.i64.wrap ((i : Int) - 1) = (q : Int) := by rw [IntKind.wrap_i64]; omega
        have hd0 : decide (0 < i) = true := decide_eq_true (by omega)
        generalize (l.getD q noCh).key = pk at *
        obtain ⟨lb, hlbv⟩ : ∃ lb, leS key pk = lb := ⟨_, rfl⟩
        have hle : (Op.bytesLess key.toList pk.toList || key.toList == pk.toList) = lb := hlbv
        clear hk hq
        cases lb with
        | true =>
          have HF := Lib.hid (HNF.out (by rw [HGA2.out, hlbv]; rfl))
          clear hlbv
          rcases hcs with rfl | ⟨rfl, rfl⟩
          · go_wp2
            refine wp_region_mix [(0, true), (1, true), (2, true), (3, true), (4, true), (5, true), (6, true), (7, true), (8, true), (9, true), (10, true), (11, true), (12, true), (13, true), (14, true), (15, true), (16, true), (17, true), (18, true), (19, true), (20, true), (21, true), (22, true), (23, true), (24, true), (25, true), (26, true), (27, true), (28, true), (29, true), (30, true), (31, true), (32, true), (33, true), (34, true), (35, true), (36, true), (37, true), (38, true)] (by kernel_rfl) (by kernel_rfl) rfl (by kernel_rfl) (by intro _ _ d _ _ h; cases d <;> exact h) ?_; intro j1; (repeat (first | (refine wpMix_skipK rfl rfl ?_; intro K hK; go_simp; refine hK _ ?_; clear hK K) | (refine wpMix_light rfl rfl ?_; intro K hK; go_simp; refine hK _ ?_; clear hK K) | (refine wpMix_heavy rfl rfl ?_; intro K hK; go_wp2_with (fail); refine ⟨w_ext_of_below (by (repeat' (first | (with_reducible exact Below.refl _ _) | (with_reducible assumption) | (with_reducible exact below_app _ _ _ _) | (with_reducible refine below_pre ?_; (simp only [List.append_assoc, List.prefix_append, List.prefix_refl, List.prefix_append_right_inj])) | (with_reducible refine Below.alloc ?_ ?_ _) | (with_reducible refine below_ext ?_ ?_ _) | (with_reducible refine Below.drew ?_) | (with_reducible refine below_drewN ?_ _) | (with_reducible refine Below.setCell ?_ ?_ _) | go_size | (simp only [w_size_ext, List.length_append, World.alloc_size]; omega) | (simp; done) | (simp; omega)))), ?_⟩))); refine wpMix_nil ?_
            go_wp2
            go_ret
            exact Ret.mk (by rw [HF.out]; rfl) (below_tr HB.out (by (repeat' (first | (with_reducible exact Below.refl _ _) | (with_reducible assumption) | (with_reducible exact below_app _ _ _ _) | (with_reducible refine below_pre ?_; (simp only [List.append_assoc, List.prefix_append, List.prefix_refl, List.prefix_append_right_inj])) | (with_reducible refine Below.alloc ?_ ?_ _) | (with_reducible refine below_ext ?_ ?_ _) | (with_reducible refine Below.drew ?_) | (with_reducible refine below_drewN ?_ _) | (with_reducible refine Below.setCell ?_ ?_ _) | go_size | (simp only [w_size_ext, List.length_append, World.alloc_size]; omega) | (simp; done) | (simp; omega)))))

          · go_wp2
            refine wp_region_mix [(0, true), (1, true), (2, true), (3, true), (4, true), (5, true), (6, true), (7, true), (8, true), (9, true), (10, true), (11, true), (12, true), (13, true), (14, true), (15, true), (16, true), (17, true), (18, true), (19, true), (20, true), (21, true), (22, true), (23, true), (24, true), (25, true), (26, true), (27, true), (28, true), (29, true), (30, true), (31, true), (32, true), (33, true), (34, true), (35, true), (36, true), (37, true), (38, true)] (by kernel_rfl) (by kernel_rfl) rfl (by kernel_rfl) (by intro _ _ d _ _ h; cases d <;> exact h) ?_; intro j1; (repeat (first | (refine wpMix_skipK rfl rfl ?_; intro K hK; go_simp; refine hK _ ?_; clear hK K) | (refine wpMix_light rfl rfl ?_; intro K hK; go_simp; refine hK _ ?_; clear hK K) | (refine wpMix_heavy rfl rfl ?_; intro K hK; go_wp2_with (fail); refine ⟨w_ext_of_below (by (repeat' (first | (with_reducible exact Below.refl _ _) | (with_reducible assumption) | (with_reducible exact below_app _ _ _ _) | (with_reducible refine below_pre ?_; (simp only [List.append_assoc, List.prefix_append, List.prefix_refl, List.prefix_append_right_inj])) | (with_reducible refine Below.alloc ?_ ?_ _) | (with_reducible refine below_ext ?_ ?_ _) | (with_reducible refine Below.drew ?_) | (with_reducible refine below_drewN ?_ _) | (with_reducible refine Below.setCell ?_ ?_ _) | go_size | (simp only [w_size_ext, List.length_append, World.alloc_size]; omega) | (simp; done) | (simp; omega)))), ?_⟩))); refine wpMix_nil ?_
            go_wp2
            go_ret
            exact Ret.mk (by rw [HF.out]; rfl) (below_tr HB.out (by (repeat' (first | (with_reducible exact Below.refl _ _) | (with_reducible assumption) | (with_reducible exact below_app _ _ _ _) | (with_reducible refine below_pre ?_; (simp only [List.append_assoc, List.prefix_append, List.prefix_refl, List.prefix_append_right_inj])) | (with_reducible refine Below.alloc ?_ ?_ _) | (with_reducible refine below_ext ?_ ?_ _) | (with_reducible refine Below.drew ?_) | (with_reducible refine below_drewN ?_ _) | (with_reducible refine Below.setCell ?_ ?_ _) | go_size | (simp only [w_size_ext, List.length_append, World.alloc_size]; omega) | (simp; done) | (simp; omega)))))

        | false =>
          have HG2 := Lib.hid (HGS.out (by rw [HGA2.out, hlbv]; rfl))
          clear hlbv
          rcases hcs with rfl | ⟨rfl, rfl⟩
          · go_wp2
            refine wp_region_mix [(0, true), (1, true), (2, true), (3, true), (4, true), (5, true), (6, true), (7, true), (8, true), (9, true), (10, true), (11, true), (12, true), (13, true), (14, true), (15, true), (16, true), (17, true), (18, true), (19, true), (20, true), (21, true), (22, true), (23, true), (24, true), (25, true), (26, true), (27, true), (28, true), (29, true), (30, true), (31, true), (32, true), (33, true), (34, true), (35, true), (36, true), (37, true), (38, true)] (by kernel_rfl) (by kernel_rfl) rfl (by kernel_rfl) (by intro _ _ d _ _ h; cases d <;> exact h) ?_; intro j1; (repeat (first | (refine wpMix_skipK rfl rfl ?_; intro K hK; go_simp; refine hK _ ?_; clear hK K) | (refine wpMix_light rfl rfl ?_; intro K hK; go_simp; refine hK _ ?_; clear hK K) | (refine wpMix_heavy rfl rfl ?_; intro K hK; go_wp2_with (fail); refine ⟨w_ext_of_below (by (repeat' (first | (with_reducible exact Below.refl _ _) | (with_reducible assumption) | (with_reducible exact below_app _ _ _ _) | (with_reducible refine below_pre ?_; (simp only [List.append_assoc, List.prefix_append, List.prefix_refl, List.prefix_append_right_inj])) | (with_reducible refine Below.alloc ?_ ?_ _) | (with_reducible refine below_ext ?_ ?_ _) | (with_reducible refine Below.drew ?_) | (with_reducible refine below_drewN ?_ _) | (with_reducible refine Below.setCell ?_ ?_ _) | go_size | (simp only [w_size_ext, List.length_append, World.alloc_size]; omega) | (simp; done) | (simp; omega)))), ?_⟩))); refine wpMix_nil ?_
            go_wp2
            go_roundw
            case rel => exact ⟨i + 1, by omega, by first | rfl | rw [hwr], Lib.hid (below_tr HB.out (by (repeat' (first | (with_reducible exact Below.refl _ _) | (with_reducible assumption) | (with_reducible exact below_app _ _ _ _) | (with_reducible refine below_pre ?_; (simp only [List.append_assoc, List.prefix_append, List.prefix_refl, List.prefix_append_right_inj])) | (with_reducible refine Below.alloc ?_ ?_ _) | (with_reducible refine below_ext ?_ ?_ _) | (with_reducible refine Below.drew ?_) | (with_reducible refine below_drewN ?_ _) | (with_reducible refine Below.setCell ?_ ?_ _) | go_size | (simp only [w_size_ext, List.length_append, World.alloc_size]; omega) | (simp; done) | (simp; omega))))), HG2⟩
            case measure => first | (simp [intOf]; omega) | (rw [intOf_lit, intOf_lit, hwr]; omega)

          · go_wp2
            refine wp_region_mix [(0, true), (1, true), (2, true), (3, true), (4, true), (5, true), (6, true), (7, true), (8, true), (9, true), (10, true), (11, true), (12, true), (13, true), (14, true), (15, true), (16, true), (17, true), (18, true), (19, true), (20, true), (21, true), (22, true), (23, true), (24, true), (25, true), (26, true), (27, true), (28, true), (29, true), (30, true), (31, true), (32, true), (33, true), (34, true), (35, true), (36, true), (37, true), (38, true)] (by kernel_rfl) (by kernel_rfl) rfl (by kernel_rfl) (by intro _ _ d _ _ h; cases d <;> exact h) ?_; intro j1; (repeat (first | (refine wpMix_skipK rfl rfl ?_; intro K hK; go_simp; refine hK _ ?_; clear hK K) | (refine wpMix_light rfl rfl ?_; intro K hK; go_simp; refine hK _ ?_; clear hK K) | (refine wpMix_heavy rfl rfl ?_; intro K hK; go_wp2_with (fail); refine ⟨w_ext_of_below (by (repeat' (first | (with_reducible exact Below.refl _ _) | (with_reducible assumption) | (with_reducible exact below_app _ _ _ _) | (with_reducible refine below_pre ?_; (simp only [List.append_assoc, List.prefix_append, List.prefix_refl, List.prefix_append_right_inj])) | (with_reducible refine Below.alloc ?_ ?_ _) | (with_reducible refine below_ext ?_ ?_ _) | (with_reducible refine Below.drew ?_) | (with_reducible refine below_drewN ?_ _) | (with_reducible refine Below.setCell ?_ ?_ _) | go_size | (simp only [w_size_ext, List.length_append, World.alloc_size]; omega) | (simp; done) | (simp; omega)))), ?_⟩))); refine wpMix_nil ?_
            go_wp2
            go_roundw
            case rel => exact ⟨i + 1, by omega, by first | rfl | rw [hwr], Lib.hid (below_tr HB.out (by (repeat' (first | (with_reducible exact Below.refl _ _) | (with_reducible assumption) | (with_reducible exact below_app _ _ _ _) | (with_reducible refine below_pre ?_; (simp only [List.append_assoc, List.prefix_append, List.prefix_refl, List.prefix_append_right_inj])) | (with_reducible refine Below.alloc ?_ ?_ _) | (with_reducible refine below_ext ?_ ?_ _) | (with_reducible refine Below.drew ?_) | (with_reducible refine below_drewN ?_ _) | (with_reducible refine Below.setCell ?_ ?_ _) | go_size | (simp only [w_size_ext, List.length_append, World.alloc_size]; omega) | (simp; done) | (simp; omega))))), HG2⟩
            case measure => first | (simp [intOf]; omega) | (rw [intOf_lit, intOf_lit, hwr]; omega)

end Go.Proofs.Ytelhclamoapnhaa

set_option linter.unusedSimpArgs false
set_option linter.unusedVariables false
namespace Go.Proofs.Ytelhclamoapnhaa
open Go.RowKit

/-- The orders of a statement: some operation is taken first, one alone may come, or one of two. -/
inductive Ord where
  | done
  | take (i : Nat) (t : Ord)
  | one (i : Nat) (t : Ord)
  | two (i j : Nat) (t u : Ord)
def wpOrd (P : Program) (ops : Array Oper) (Q : Exit → Act → World → Prop) : Ord → Act → World → Prop
  | .done, a, w => Q .normal a w
  | .take i t, a, w => ∃ o v, ops[i]? = some o ∧ Region.wanted o (yielded ops a.tmps) = true ∧ (∀ w, (execOp a.eval o).run P w = .ok (.value v) w) ∧ wpOrd P ops Q t (a.put o.dst v) w
  | .one i t, a, w => ∃ o, ops[i]? = some o ∧ Region.wanted o (yielded ops a.tmps) = true ∧ o.wp P a w (fun a' w' => wpOrd P ops Q t a' w') Q
  | .two i j t u, a, w => (∃ o, ops[i]? = some o ∧ Region.wanted o (yielded ops a.tmps) = true ∧ o.wp P a w (fun a' w' => wpOrd P ops Q t a' w') Q) ∧
      (∃ o, ops[j]? = some o ∧ Region.wanted o (yielded ops a.tmps) = true ∧ o.wp P a w (fun a' w' => wpOrd P ops Q u a' w') Q)
def ordOk (ops : Array Oper) : Ord → Array Bool → Bool
  | .done, l => (Region.ready .any ops l).isEmpty
  | .take i t, l => ((Region.ready .any ops l).contains i && Region.free .any ops l i) && ordOk ops t (l.setIfInBounds i true)
  | .one i t, l => (Region.ready .any ops l == [i]) && ordOk ops t (l.setIfInBounds i true)
  | .two i j t u, l => (Region.ready .any ops l == [i, j]) && (ordOk ops t (l.setIfInBounds i true) && ordOk ops u (l.setIfInBounds j true))
def Ord.deep : Ord → Nat
  | .done => 0
  | .take _ t => t.deep + 1
  | .one _ t => t.deep + 1
  | .two _ _ t u => max t.deep u.deep + 1
section
variable {P : Program} {ops : Array Oper} {Q : Exit → Act → World → Prop}
theorem wpAnyH_of_ord (hs : Region.noSelect ops = true) (hQ : ∀ (c : List PanicEntry) (a : Act) (d : Option Tmp) (v : Value) (w : World), Q (.panic c) (a.put d v) w → Q (.panic c) a w) :
    ∀ (t : Ord) (n : Nat) (listed : Array Bool) (a : Act) (w : World), t.deep ≤ n → ordOk ops t listed = true → wpOrd P ops Q t a w → wpAnyH P .any ops Q (fun _ => True) n listed a w
  | .done, n, listed, a, w, _, hok, h => by
    simp only [ordOk, List.isEmpty_iff] at hok
    exact wpAnyH_done hok h _
  | .take i t, n, listed, a, w, hn, hok, h => by
    obtain ⟨n, rfl⟩ : ∃ m, n = m + 1 := ⟨n - 1, by simp only [Ord.deep] at hn; omega⟩
    simp only [ordOk, Bool.and_eq_true] at hok
    obtain ⟨⟨hr, hf⟩, hok⟩ := hok
    obtain ⟨o, v, ho, hw, hv, h⟩ := h
    exact wpAnyH_take ho hs hf hr (fun c a w => hQ c a _ _ w) (.inl ⟨hw, fun w _ => hv w⟩) trivial (wpAnyH_of_ord hs hQ t n _ _ _ (by simp only [Ord.deep] at hn; omega) hok h)
  | .one i t, n, listed, a, w, hn, hok, h => by
    obtain ⟨n, rfl⟩ : ∃ m, n = m + 1 := ⟨n - 1, by simp only [Ord.deep] at hn; omega⟩
    simp only [ordOk, Bool.and_eq_true, beq_iff_eq] at hok
    obtain ⟨hr, hok⟩ := hok
    obtain ⟨o, ho, hw, h⟩ := h
    refine wpAnyH_all hr (by simp) fun k hk => ?_
    obtain rfl : k = i := by simpa using hk
    unfold Go.wpOp
    simp only [ho]
    rw [if_pos hw]
    exact .inl (Oper.wp_mono (fun a' w' h' => ⟨trivial, wpAnyH_of_ord hs hQ t n _ _ _ (by simp only [Ord.deep] at hn; omega) hok h'⟩) h)
  | .two i j t u, n, listed, a, w, hn, hok, h => by
    obtain ⟨n, rfl⟩ : ∃ m, n = m + 1 := ⟨n - 1, by simp only [Ord.deep] at hn; omega⟩
    simp only [ordOk, Bool.and_eq_true, beq_iff_eq] at hok
    obtain ⟨hr, hok1, hok2⟩ := hok
    obtain ⟨⟨o, ho, hw, h1⟩, ⟨o', ho', hw', h2⟩⟩ := h
    refine wpAnyH_all hr (by simp) fun k hk => ?_
    have hk' : k = i ∨ k = j := by simpa using hk
    rcases hk' with rfl | rfl
    · unfold Go.wpOp
      simp only [ho]
      rw [if_pos hw]
      exact .inl (Oper.wp_mono (fun a' w' h' => ⟨trivial, wpAnyH_of_ord hs hQ t n _ _ _ (by simp only [Ord.deep] at hn; omega) hok1 h'⟩) h1)
    · unfold Go.wpOp
      simp only [ho']
      rw [if_pos hw']
      exact .inl (Oper.wp_mono (fun a' w' h' => ⟨trivial, wpAnyH_of_ord hs hQ u n _ _ _ (by simp only [Ord.deep] at hn; omega) hok2 h'⟩) h2)

theorem wp_region_ord {id : Nat} {a : Act} {l : List Oper} {w : World} (t : Ord) (hm : P.follows .mixedOrders = true) (hs : Region.noSelect l.toArray = true) (hn : t.deep ≤ l.length)
    (hok : ordOk l.toArray t (Array.replicate l.length false) = true) (hQ : ∀ (c : List PanicEntry) (a : Act) (d : Option Tmp) (v : Value) (w : World), Q (.panic c) (a.put d v) w → Q (.panic c) a w)
    (h : wpOrd P l.toArray Q t a w.drew) : (Code.region id l.toArray true).wp P Q a w := by
  refine wp_region_held (S := fun _ => True) hm ?_
  have h1 := wpAnyH_of_ord hs hQ t l.length (Array.replicate l.length false) a _ hn hok h
  simpa using h1
theorem wpOrd_done {a : Act} {w : World} (h : Q .normal a w) : wpOrd P ops Q .done a w := h
theorem wpOrd_take {i : Nat} {t : Ord} {o : Oper} {a : Act} {w : World} (ho : ops[i]? = some o) (hw : Region.wanted o (yielded ops a.tmps) = true)
    (h : ∀ K : Act → Prop, (∀ a', wpOrd P ops Q t a' w → K a') → ∃ v, (∀ w, (execOp a.eval o).run P w = .ok (.value v) w) ∧ K (a.put o.dst v)) : wpOrd P ops Q (.take i t) a w := by
  obtain ⟨v, h1, h2⟩ := h _ (fun _ h => h)
  exact ⟨o, v, ho, hw, h1, h2⟩
theorem wpOrd_one {i : Nat} {t : Ord} {o : Oper} {a : Act} {w : World} (ho : ops[i]? = some o) (hw : Region.wanted o (yielded ops a.tmps) = true)
    (h : ∀ K : Act → World → Prop, (∀ a' w', wpOrd P ops Q t a' w' → K a' w') → o.wp P a w K Q) : wpOrd P ops Q (.one i t) a w := ⟨o, ho, hw, h _ (fun _ _ h => h)⟩
theorem wpOrd_oneIf {i : Nat} {t : Ord} {o : Oper} {a : Act} {w : World} (ho : ops[i]? = some o) (hw : Region.wanted o (yielded ops a.tmps) = true)
    (h : ∀ K : Act → World → Prop, (∀ a' w', wpOrd P ops Q t a' w' → K a' w') → if Region.wanted o (yielded ops a.tmps) = true then o.wp P a w K Q else K (a.put o.dst undef) w) : wpOrd P ops Q (.one i t) a w := ⟨o, ho, hw, by
  have := h _ (fun _ _ h => h)
  rwa [if_pos hw] at this⟩
theorem wpOrd_two {i j : Nat} {t u : Ord} {a : Act} {w : World} (h1 : wpOrd P ops Q (.one i t) a w) (h2 : wpOrd P ops Q (.one j u) a w) : wpOrd P ops Q (.two i j t u) a w := ⟨h1, h2⟩
end


/-- The cells of changes. -/
def chCells (l : List Ch) : List Value := l.flatMap fun c => [.string c.key, .string c.val, .bool c.gone]
theorem chCells_app (l : List Ch) (c : Ch) : chCells (l ++ [c]) = chCells l ++ [.string c.key, .string c.val, .bool c.gone] := by simp [chCells]
theorem chCells_len : ∀ l : List Ch, (chCells l).length = l.length * 3
  | [] => rfl
  | c :: l => by
    have ih := chCells_len l
    unfold chCells at ih ⊢
    rw [List.flatMap_cons, List.length_append, ih]
    simp
    omega
theorem chCells_at : ∀ (l : List Ch) (i : Nat), i < l.length → (chCells l)[i * 3]? = some (.string (l.getD i noCh).key) ∧ (chCells l)[i * 3 + 1]? = some (.string (l.getD i noCh).val) ∧ (chCells l)[i * 3 + 2]? = some (.bool (l.getD i noCh).gone)
  | [], i, h => by simp at h
  | c :: l, 0, _ => ⟨rfl, rfl, rfl⟩
  | c :: l, i + 1, h => by
    have ih := chCells_at l i (by simpa using h)
    have e : ∀ k, (chCells (c :: l))[(i + 1) * 3 + k]? = (chCells l)[i * 3 + k]? := fun k => by
      rw [show (i + 1) * 3 + k = (i * 3 + k) + 3 by omega]
      rfl
    exact ⟨(e 0).trans ih.1, (e 1).trans ih.2.1, (e 2).trans ih.2.2⟩
theorem chs_of_own {w : World} {B : Nat} {v : Value} {l : List Ch} (h : w.ownsRow B 43 3 v l.length (chCells l)) : ∃ (A : Option Addr) (c : Nat), v = .slice A l.length c ∧ ChsAt w A l ∧ l.length ≤ c ∧ c ≤ maxLen ∧ (A = none → l.length = 0) := by
  obtain ⟨_, ⟨rfl, h0⟩ | ⟨g, cap, cur, rfl, h1, h2, h3, h4, h5, h6⟩⟩ := id h
  · exact ⟨none, 0, by rw [h0], fun i hi => by omega, by omega, Nat.zero_le _, fun _ => h0⟩
  · refine ⟨some ⟨g, 0, none⟩, cap, rfl, fun i hi => ?_, h3, h4, fun h => by cases h⟩
    obtain ⟨c0, c1, c2⟩ := chCells_at l i hi
    have hc : ∀ k u, (chCells l)[k]? = some u → w.cell? ⟨g, 0 + k, none⟩ = some u := fun k u hu => by
      have h7 := h.cells (g := g) rfl k u hu
      have ha : (⟨g, 0, none⟩ : Addr).add k = ⟨g, 0 + k, none⟩ := by unfold Addr.add; split <;> simp_all
      rwa [ha] at h7
    exact ⟨g, 0, rfl, hc _ _ c0, by rw [Nat.add_assoc]; exact hc _ _ c1, by rw [Nat.add_assoc]; exact hc _ _ c2⟩
theorem own_same {w w' : World} {B e k n : Nat} {v : Value} {xs : List Value} (h : w.ownsRow B e k v n xs) (hs : ∀ g, B ≤ g → g < w.heap.size → w'.heap[g]? = w.heap[g]?) : w'.ownsRow B e k v n xs := by
  obtain ⟨h0, h1 | ⟨g, cap, cur, rfl, hb, h2, h3⟩⟩ := h
  · exact ⟨h0, Or.inl h1⟩
  · have hlt : g < w.heap.size := (Array.getElem?_eq_some_iff.1 h2).1
    exact ⟨h0, Or.inr ⟨g, cap, cur, rfl, hb, (hs g hb hlt).trans h2, h3⟩⟩
/-- The state of a looking: the changes so far in a variable's block, the eye in its own; all else below B is as it was. -/
structure St (W0 : World) (B pl b : Nat) (v : Value) (l : List Ch) (s : ByteArray) (w : World) : Prop where
  os : w.os = W0.os
  tape : w.tape = W0.tape
  output : w.output = W0.output
  size : B ≤ w.heap.size
  plB : pl < B
  bB : b < B
  ne : ¬ pl = b
  var : w.heap[pl]? = some (.cells #[v] 22 (0, 0))
  eye : w.heap[b]? = some (.cells #[.string s, .bool true] 95 (0, 0))
  rest : ∀ k, k < B → ¬ k = pl → ¬ k = b → w.heap[k]? = W0.heap[k]?
  own : w.ownsRow B 43 3 v l.length (chCells l)
section
variable {W0 w w' : World} {B pl b : Nat} {v : Value} {l : List Ch} {s : ByteArray}
theorem St.below (h : St W0 B pl b v l s w) (hb : Below w.heap.size w w') : St W0 B pl b v l s w' := by
  have hk : ∀ k, k < w.heap.size → w'.heap[k]? = w.heap[k]? := hb.block
  have h1 := h.size
  have h2 := h.plB
  have h3 := h.bB
  exact ⟨hb.os.trans h.os, hb.tape.trans h.tape, hb.output.trans h.output, Nat.le_trans h.size hb.size, h.plB, h.bB, h.ne, (hk pl (by omega)).trans h.var, (hk b (by omega)).trans h.eye,
    fun k hkB h4 h5 => (hk k (by omega)).trans (h.rest k hkB h4 h5), own_same h.own fun g _ hg => hk g hg⟩
theorem St.cell (h : St W0 B pl b v l s w) : w.cell? ⟨pl, 0, none⟩ = some v ∧ w.cell? ⟨b, 0, none⟩ = some (.string s) ∧ w.cell? ⟨b, 1, none⟩ = some (.bool true) ∧ w.frozen? ⟨b, 0, none⟩ = false ∧ w.frozen? ⟨pl, 0, none⟩ = false ∧ w.frozen? ⟨b, 1, none⟩ = false := by
  refine ⟨?_, ?_, ?_, ?_, ?_, ?_⟩
  · simp [World.cell?, h.var]
  · simp [World.cell?, h.eye]
  · simp [World.cell?, h.eye]
  · simp [World.frozen?, h.eye]
  · simp [World.frozen?, h.var]
  · simp [World.frozen?, h.eye]
theorem heap_set_other (w : World) (a : Addr) (u : Value) (k : Nat) (h : ¬ k = a.block) : (w.setCell a u).heap[k]? = w.heap[k]? := Below.heap_setCell _ _ _ _ h
theorem St.look (h : St W0 B pl b v l s w) (t : ByteArray) : St W0 B pl b v l t (eyeSet w b t) := by
  have h1 := h.size
  have h2 := h.plB
  have h3 := h.bB
  have hsz : (eyeSet w b t).heap.size = w.heap.size := by simp [eyeSet, World.setCell]
  refine ⟨h.os, h.tape, h.output, by rw [hsz]; exact h.size, h.plB, h.bB, h.ne, ?_, ?_, fun k hkB h4 h5 => ?_, own_same h.own fun g hg hg2 => ?_⟩
  · rw [eyeSet, heap_set_other _ _ _ _ h.ne]; exact h.var
  · simp [eyeSet, World.setCell, Array.getElem?_modify, h.eye]
  · rw [eyeSet, heap_set_other _ _ _ _ h5]; exact h.rest k hkB h4 h5
  · rw [eyeSet, heap_set_other _ _ _ _ (show ¬ g = b by omega)]
theorem St.turn {v2 : Value} {l2 : List Ch} (h : St W0 B pl b v l s w) (hb : Below B w w') (ho : w'.ownsRow B 43 3 v2 l2.length (chCells l2)) : St W0 B pl b v2 l2 s (w'.setCell ⟨pl, 0, none⟩ v2) := by
  have h1 := h.size
  have h2 := h.plB
  have h3 := h.bB
  have hk : ∀ k, k < B → w'.heap[k]? = w.heap[k]? := hb.block
  have hsz : (w'.setCell ⟨pl, 0, none⟩ v2).heap.size = w'.heap.size := by simp [World.setCell]
  refine ⟨hb.os.trans h.os, hb.tape.trans h.tape, hb.output.trans h.output, by rw [hsz]; exact Nat.le_trans h.size hb.size, h.plB, h.bB, h.ne, ?_, ?_, fun k hkB h4 h5 => ?_, own_same ho fun g hg hg2 => ?_⟩
  · have := (hk pl h2).trans h.var
    simp [World.setCell, Array.getElem?_modify, this]
  · rw [heap_set_other _ _ _ _ (fun e => h.ne e.symm)]; exact (hk b h3).trans h.eye
  · rw [heap_set_other _ _ _ _ h4]; exact (hk k hkB).trans (h.rest k hkB h4 h5)
  · rw [heap_set_other _ _ _ _ (show ¬ g = pl by omega)]
end
/-- A change behind those so far. -/
theorem app_ch (B : Nat) (W : World) (v : Value) (l : List Ch) (c : Ch) (HO : W.ownsRow B 43 3 v l.length (chCells l)) (hB : B ≤ W.heap.size) (hl : l.length ≤ 1000000000) :
    ∃ (v2 : Value) (w2 : World), (Builtin.append_ #[22, 22] 22 #[v, .slice (some ⟨W.heap.size, 0, none⟩) 1 1]).run Try.prog (W.alloc (.cells #[.string c.key, .string c.val, .bool c.gone] 43)) = .ok v2 w2 ∧ Hid (w2.ownsRow B 43 3 v2 (l ++ [c]).length (chCells (l ++ [c]))) ∧ Hid (Below B W w2) := by
  obtain ⟨i0, hi, hzz⟩ := Option.map_eq_some_iff.1 (show (Try.prog.info? 43).map (fun i => (i.zero, i.size, i.bytes)) = some (some (.agg #[.string ⟨#[]⟩, .string ⟨#[]⟩, .bool false]), 3, 40) by kernel_rfl)
  simp only [Prod.mk.injEq] at hzz
  obtain ⟨hz0, hz1, hz2⟩ := hzz
  obtain ⟨v2, w2, hr, hown, hg, _, _⟩ := run_append_own_at (P := Try.prog) (W.alloc (.cells #[.string c.key, .string c.val, .bool c.gone] 43)) B 22 22 43 i0 (.agg #[.string ⟨#[]⟩, .string ⟨#[]⟩, .bool false]) 3 40 Try.underlying22 hi hz0 hz1 hz2 rfl (by decide) v l.length (chCells l) (HO.alloc _) ⟨W.heap.size, 0, none⟩ 1 1 [.string c.key, .string c.val, .bool c.gone] rfl
    (World.news_of_block (cs := #[.string c.key, .string c.val, .bool c.gone]) (t := 43) (fr := (0, 0)) (heap_alloc_new W _)) (by simp [Value.oneCell']) (by simp only [maxLen]; omega) (by omega) (by simp; omega)
  have own_b : ∀ k, v.ownBlock = some k → B ≤ k := fun k hk => by
    obtain ⟨_, ⟨rfl, _⟩ | ⟨g, cap, cur, rfl, hb, _⟩⟩ := HO
    · simp [Value.ownBlock] at hk
    · have : g = k := by simpa [Value.ownBlock] using hk
      omega
  refine ⟨v2, w2, hr, Lib.hid ?_, Lib.hid (((Below.refl B W).alloc hB _).grown hg (by simp; omega) own_b)⟩
  rw [List.length_append, chCells_app]
  exact hown
end Go.Proofs.Ytelhclamoapnhaa

set_option linter.unusedSimpArgs false
set_option linter.unusedVariables false
namespace Go.Proofs.Ytelhclamoapnhaa
open Go.RowKit

theorem numP_err {s : ByteArray} {n c : Int} (h : numP s n = .error c) : ¬ c = 0 := by
  unfold numP at h
  (repeat' split at h) <;> first | (injection h with h; omega) | cases h
theorem rawP_err {s : ByteArray} {n c : Int} (h : rawP s n = .error c) : ¬ c = 0 := by
  unfold rawP at h
  (repeat' split at h) <;> first | (injection h with h; omega) | cases h
theorem textP_err {s : ByteArray} {n c : Int} (h : textP s n = .error c) : ¬ c = 0 := by
  unfold textP at h
  split at h
  · rename_i c2 hc2
    injection h with h
    have := numP_err hc2
    omega
  · split at h
    · injection h with h; omega
    · exact rawP_err h
section
variable {W0 : World} {B pl b : Nat}
/-- A fault is thrown out of a looking. -/
def Thrown (W0 : World) (B pl b : Nat) (e : Ending) (w' : World) : Prop := ∃ (c : Int) (v : Value) (l : List Ch) (s : ByteArray), e = .panicked [fault c] ∧ St W0 B pl b v l s w' ∧ ¬ c = 0
/-- A value is told, with so much left. -/
def Looked (W0 : World) (B pl b : Nat) (v : Value) (l : List Ch) (u : Value) (t : ByteArray) (e : Ending) (w' : World) : Prop := e = .returned u ∧ St W0 B pl b v l t w'
theorem num_st {v : Value} {l : List Ch} {s t : ByteArray} {w : World} {n : Int} {m : Nat} (h : St W0 B pl b v l s w) (hp : numP s n = .ok (m, t)) : Calls Try.prog 50 #[eyeP b, .int .i64 n] w (Looked W0 B pl b v l (.int .i64 (m : Int)) t) := by
  obtain ⟨_, c1, c2, c3, _⟩ := h.cell
  refine (num_ok b s t n m w c1 c2 c3 hp).mono ?_
  rintro e w' ⟨rfl, j, rfl⟩
  exact ⟨rfl, (h.look t).below (w_ext_below _ _)⟩
theorem num_stE {v : Value} {l : List Ch} {s : ByteArray} {w : World} {n c : Int} (h : St W0 B pl b v l s w) (hp : numP s n = .error c) : Calls Try.prog 50 #[eyeP b, .int .i64 n] w (Thrown W0 B pl b) := by
  obtain ⟨_, c1, c2, c3, _⟩ := h.cell
  refine (num_err b s n c w c1 c2 c3 hp).mono ?_
  rintro e w' ⟨rfl, s', j, rfl⟩
  exact ⟨c, v, l, s', rfl, (h.look s').below (w_ext_below _ _), numP_err hp⟩
theorem text_st {v : Value} {l : List Ch} {s x t : ByteArray} {w : World} {n : Int} (h : St W0 B pl b v l s w) (hp : textP s n = .ok (x, t)) : Calls Try.prog 52 #[eyeP b, .int .i64 n] w (Looked W0 B pl b v l (.string x) t) := by
  obtain ⟨_, c1, c2, c3, _⟩ := h.cell
  refine (text_ok b s x t n w c1 c2 c3 hp).mono ?_
  rintro e w' ⟨rfl, j, rfl⟩
  exact ⟨rfl, (h.look t).below (w_ext_below _ _)⟩
theorem text_stE {v : Value} {l : List Ch} {s : ByteArray} {w : World} {n c : Int} (h : St W0 B pl b v l s w) (hp : textP s n = .error c) : Calls Try.prog 52 #[eyeP b, .int .i64 n] w (Thrown W0 B pl b) := by
  obtain ⟨_, c1, c2, c3, _⟩ := h.cell
  refine (text_err b s n c w c1 c2 c3 hp).mono ?_
  rintro e w' ⟨rfl, s', j, rfl⟩
  exact ⟨c, v, l, s', rfl, (h.look s').below (w_ext_below _ _), textP_err hp⟩
theorem fail_st {v : Value} {l : List Ch} {s : ByteArray} {w : World} {c : Int} (h : St W0 B pl b v l s w) (hc : ¬ c = 0) : Calls Try.prog 51 #[eyeP b, .int .i64 c] w (Thrown W0 B pl b) := by
  obtain ⟨_, c1, c2, c3, _⟩ := h.cell
  refine (fail_on b c w c2).mono ?_
  rintro e w' ⟨rfl, j, rfl⟩
  exact ⟨c, v, l, s, rfl, h.below (w_ext_below _ _), hc⟩
theorem sorted_st {v : Value} {l : List Ch} {s : ByteArray} {w : World} (h : St W0 B pl b v l s w) (hl : l.length ≤ 100000000) : Calls Try.prog 17 #[v] w (Looked W0 B pl b v l (.bool (sortedP l)) s) := by
  obtain ⟨A, c, rfl, hA, _⟩ := chs_of_own h.own
  refine (sorted_any A c l w hA hl).mono ?_
  rintro e w' ⟨rfl, j, rfl⟩
  exact ⟨rfl, h.below (w_ext_below _ _)⟩
end
/-- One change of bytes, and what is left. -/
def parse1 (s : ByteArray) : Option (Ch × ByteArray) := match numP s 1 with
  | .error _ => none
  | .ok (g, s1) => if 1 < g then none else match textP s1 64 with
    | .error _ => none
    | .ok (k, s2) => match textP s2 300 with
      | .error _ => none
      | .ok (v, s3) => some (⟨k, v, (g : Int) == 1⟩, s3)
/-- So many changes of bytes, behind others. -/
def parseN : Nat → ByteArray → List Ch → Option (List Ch × ByteArray)
  | 0, s, l => some (l, s)
  | n + 1, s, l => match parse1 s with
    | none => none
    | some (c, t) => parseN n t (l ++ [c])
/-- Changes of bytes, and what is left. -/
def getG (s : ByteArray) : Option (List Ch × ByteArray) := match numP s 4 with
  | .error _ => none
  | .ok (m, t) => match parseN m t [] with
    | none => none
    | some (l, u) => if sortedP l = true then some (l, u) else none
theorem numP_len {s t : ByteArray} {n : Int} {m : Nat} (h : numP s n = .ok (m, t)) : t.size + 1 ≤ s.size := by
  unfold numP at h
  split at h
  · split at h
    · cases h
    · split at h
      · injection h with h
        injection h with _ h
        rw [← h, ByteArray.size_extract]
        omega
      · cases h
  · cases h
theorem rawP_len {s x t : ByteArray} {n : Int} (h : rawP s n = .ok (x, t)) : t.size ≤ s.size := by
  unfold rawP at h
  split at h
  · cases h
  · injection h with h
    injection h with _ h
    rw [← h, ByteArray.size_extract]
    omega
theorem textP_len {s x t : ByteArray} {n : Int} (h : textP s n = .ok (x, t)) : t.size ≤ s.size := by
  unfold textP at h
  split at h
  · cases h
  · rename_i q hq
    obtain ⟨m, u⟩ := q
    simp only at h
    split at h
    · cases h
    · have h1 := numP_len hq
      have h2 := rawP_len h
      omega
end Go.Proofs.Ytelhclamoapnhaa
