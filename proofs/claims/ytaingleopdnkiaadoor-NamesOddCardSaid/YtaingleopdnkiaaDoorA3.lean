/- Helper lemmas: lists of texts: how two compare, whether they may be gone through. No condition. -/
import Derived.Test.YtaingleopdnkiaaDoorA2
set_option linter.unusedSimpArgs false
set_option linter.unusedVariables false
namespace Go.Proofs.YtaingleopdnkiaaDoor
open Go.RowKit

/-- Texts that lie in a slice. -/
def StrsAt (w : World) (A : Option Addr) (x : List ByteArray) : Prop := ∀ i, i < x.length → ∃ b o : Nat, A = some ⟨b, o, none⟩ ∧ w.cell? ⟨b, o + i, none⟩ = some (.string (x.getD i ByteArray.empty))
theorem StrsAt.later {w w' : World} {A : Option Addr} {x : List ByteArray} (h : StrsAt w A x) (hb : Below w.heap.size w w') : StrsAt w' A x := fun i hi => by
  obtain ⟨b, o, e, h0⟩ := h i hi
  exact ⟨b, o, e, by rw [hb.cell (p := ⟨b, o + i, none⟩) (World.block_lt_of_cell? w _ h0)]; exact h0⟩
theorem StrsAt.take {w : World} {A : Option Addr} {x : List ByteArray} (h : StrsAt w A x) (m : Nat) : StrsAt w A (x.take m) := fun i hi => by
  rw [List.length_take] at hi
  obtain ⟨b, o, e, h0⟩ := h i (by omega)
  refine ⟨b, o, e, ?_⟩
  rw [h0, List.getD_eq_getElem?_getD, List.getD_eq_getElem?_getD, List.getElem?_take_of_lt (by omega)]
theorem leB_of_cell {w : World} {b o : Nat} {v : Value} (h : w.cell? ⟨b, o, none⟩ = some v) : leB (b + 1) w.heap.size = true := by
  have := World.block_lt_of_cell? w _ h
  simp only at this
  simp [leB]
  omega
theorem wrap64_eq (x : Int) : wrap64 x = (x + 9223372036854775808) % 18446744073709551616 - 9223372036854775808 := by
  unfold wrap64; omega
theorem wext_same (W : World) : W = wext W ⟨[], W.drawn⟩ := by simp [wext]
theorem intOf_lit (k : IntKind) (x : Int) : intOf (.int k x) = x := rfl
theorem meas_step (i m : Nat) (h : (i : Int) < (m : Int)) : ((m : Int) - ((i + 1 : Nat) : Int)).toNat < ((m : Int) - (i : Int)).toNat := by omega
theorem list_eq_of (x y : List ByteArray) (hl : x.length = y.length) (h : ∀ j, j < x.length → x.getD j ByteArray.empty = y.getD j ByteArray.empty) : x = y := by
  apply List.ext_getElem hl
  intro i h1 h2
  have := h i h1
  rw [List.getD_eq_getElem?_getD, List.getD_eq_getElem?_getD, List.getElem?_eq_getElem h1, List.getElem?_eq_getElem h2] at this
  exact this
theorem toList_ne {a b : ByteArray} (h : ¬ a = b) : ¬ a.toList = b.toList := fun e => h (by
  apply ByteArray.ext
  apply Array.toList_inj.1
  rw [← ByteArray.toList_eq, ← ByteArray.toList_eq]
  exact e)
set_option maxHeartbeats 2000000 in
set_option maxRecDepth 100000 in
theorem eq_len (A B : Option Addr) (c d n m : Nat) (w : World) (h : ¬ (n : Int) = (m : Int)) : Calls Tryd.prog 24 #[.slice A n c, .slice B m d] w (Ret (.bool false) w) := by
  go_enter Tryd.func24, Tryd.ntmps24
  go_wp2
  go_ret
  exact Ret.mk rfl (Below.refl _ _)
set_option maxHeartbeats 2000000 in
set_option maxRecDepth 100000 in
theorem eq_same (A B : Option Addr) (c d : Nat) (x y : List ByteArray) (w : World) (hA : StrsAt w A x) (hB : StrsAt w B y) (hl : x.length = y.length) (hm : x.length ≤ maxLen) : Calls Tryd.prog 24 #[.slice A x.length c, .slice B x.length d] w (Ret (.bool (decide (x = y))) w) := by
  have HA := Lib.hid hA
  have HB := Lib.hid hB
  have HLL := Lib.hid hl
  obtain ⟨n, hn⟩ : ∃ n, x.length = n := ⟨_, rfl⟩
  rw [hn] at hm ⊢
  have HN := Lib.hid hn
  simp only [maxLen] at hm
  obtain ⟨bv, hbv⟩ : ∃ bv, decide (x = y) = bv := ⟨_, rfl⟩
  rw [hbv]
  have HBV := Lib.hid hbv
  clear hA hB hl hn hbv
  go_enter Tryd.func24, Tryd.ntmps24
  go_wp2
  go_loopw [13] (fun v13 wr => ∃ (i : Nat) (j : Junk), i ≤ n ∧ v13 = .int .i64 (i : Int) ∧ wr = wext w j ∧ Hid (∀ k, k < i → x.getD k ByteArray.empty = y.getD k ByteArray.empty)) (fun i _ => ((n : Int) - intOf i).toNat)
  case atStart => exact ⟨0, ⟨[], _⟩, Nat.zero_le _, rfl, wext_same _, Lib.hid (fun k hk => by omega)⟩
  case round =>
    obtain ⟨i, j, hi, rfl, rfl, HE⟩ := hrel
    by_cases h0 : i = n
    · subst h0
      have hr := Lib.hid (show bv = true from HBV.out.symm.trans (decide_eq_true (list_eq_of x y HLL.out (fun k hk => HE.out k (by rw [HN.out] at hk; exact hk)))))
      go_wp2
      go_ret
      exact Ret.mk (by rw [hr.out]; rfl) (w_ext_below _ _)
    · obtain ⟨b, o, eA, hc⟩ := HA.out i (by rw [HN.out]; omega)
      obtain ⟨b', o', eB, hc'⟩ := HB.out i (by rw [← HLL.out, HN.out]; omega)
      subst eA
      subst eB
      have hlb := leB_of_cell hc
      have hlb' := leB_of_cell hc'
      have hlt : (i : Int) < (n : Int) := by omega
      have hge : (0 : Int) ≤ (i : Int) := by omega
      have hnl : ¬ (i : Int) < 0 := by omega
      have hwr : wrap64 ((i : Int) + 1) = ((i + 1 : Nat) : Int) := by rw [wrap64_eq]; omega
      by_cases hq : x.getD i ByteArray.empty = y.getD i ByteArray.empty
      · have HE2 : Hid (∀ k, k < i + 1 → x.getD k ByteArray.empty = y.getD k ByteArray.empty) := Lib.hid (fun k hk => by
          by_cases hki : k = i
          · subst hki; exact hq
          · exact HE.out k (by omega))
        rw [← hq] at hc'
        clear hq
        generalize x.getD i ByteArray.empty = q at *
        go_wp2
        refine wp_region_mix [(0, true), (1, true), (2, true), (3, true), (4, true), (5, true), (6, true), (7, true), (8, true)] (by kernel_rfl) (by kernel_rfl) rfl (by kernel_rfl) (by intro _ _ d _ _ h; cases d <;> exact h) ?_; intro j1; (repeat (first | (refine wpMix_skip rfl rfl ?_; simp only [Act.put, List.setIfInBounds_toArray, List.set_cons_zero, List.set_cons_succ]) | (refine wpMix_light rfl rfl ?_; intro K hK; go_simp; refine hK _ ?_; clear hK K) | (refine wpMix_heavy rfl rfl ?_; intro K hK; go_wp2_with (fail); refine ⟨w_ext_of_below (by (repeat' (first | (with_reducible exact Below.refl _ _) | (with_reducible assumption) | (with_reducible exact below_app _ _ _ _) | (with_reducible refine below_pre ?_; (simp only [List.append_assoc, List.prefix_append, List.prefix_refl, List.prefix_append_right_inj])) | (with_reducible refine Below.alloc ?_ ?_ _) | (with_reducible refine below_ext ?_ ?_ _) | (with_reducible refine Below.drew ?_) | (with_reducible refine below_drewN ?_ _) | (with_reducible refine Below.setCell ?_ ?_ _) | go_size | (simp only [w_size_ext, List.length_append, World.alloc_size]; omega) | (simp; done) | (simp; omega)))), ?_⟩))); refine wpMix_nil ?_
        go_wp2
        go_roundw
        case rel => exact ⟨i + 1, _, by omega, by first | rfl | rw [hwr], rfl, HE2⟩
        case measure => first | (simp [intOf]; omega) | (rw [intOf_lit, intOf_lit, hwr]; exact meas_step _ _ hlt)
      · have hr := Lib.hid (show bv = false from HBV.out.symm.trans (decide_eq_false (fun e => hq (by rw [e]))))
        have hq2 := toList_ne hq
        generalize x.getD i ByteArray.empty = q at *
        generalize y.getD i ByteArray.empty = q' at *
        have hq3 : (q.toList != q'.toList) = true := by simpa using hq2
        have hq4 : (q.toList == q'.toList) = false := by simpa using hq2
        go_wp2
        refine wp_region_mix [(0, true), (1, true), (2, true), (3, true), (4, true), (5, true), (6, true), (7, true), (8, true)] (by kernel_rfl) (by kernel_rfl) rfl (by kernel_rfl) (by intro _ _ d _ _ h; cases d <;> exact h) ?_; intro j1; (repeat (first | (refine wpMix_skip rfl rfl ?_; simp only [Act.put, List.setIfInBounds_toArray, List.set_cons_zero, List.set_cons_succ]) | (refine wpMix_light rfl rfl ?_; intro K hK; go_simp; refine hK _ ?_; clear hK K) | (refine wpMix_heavy rfl rfl ?_; intro K hK; go_wp2_with (fail); refine ⟨w_ext_of_below (by (repeat' (first | (with_reducible exact Below.refl _ _) | (with_reducible assumption) | (with_reducible exact below_app _ _ _ _) | (with_reducible refine below_pre ?_; (simp only [List.append_assoc, List.prefix_append, List.prefix_refl, List.prefix_append_right_inj])) | (with_reducible refine Below.alloc ?_ ?_ _) | (with_reducible refine below_ext ?_ ?_ _) | (with_reducible refine Below.drew ?_) | (with_reducible refine below_drewN ?_ _) | (with_reducible refine Below.setCell ?_ ?_ _) | go_size | (simp only [w_size_ext, List.length_append, World.alloc_size]; omega) | (simp; done) | (simp; omega)))), ?_⟩))); refine wpMix_nil ?_
        go_wp2
        go_ret
        exact Ret.mk (by rw [hr.out]; first | rfl | simp) (by (repeat' (first | (with_reducible exact Below.refl _ _) | (with_reducible assumption) | (with_reducible exact below_app _ _ _ _) | (with_reducible refine below_pre ?_; (simp only [List.append_assoc, List.prefix_append, List.prefix_refl, List.prefix_append_right_inj])) | (with_reducible refine Below.alloc ?_ ?_ _) | (with_reducible refine below_ext ?_ ?_ _) | (with_reducible refine Below.drew ?_) | (with_reducible refine below_drewN ?_ _) | (with_reducible refine Below.setCell ?_ ?_ _) | go_size | (simp only [w_size_ext, List.length_append, World.alloc_size]; omega) | (simp; done) | (simp; omega))))
theorem eq_any (A B : Option Addr) (c d : Nat) (x y : List ByteArray) (w : World) (hA : StrsAt w A x) (hB : StrsAt w B y) (hm : x.length ≤ maxLen) : Calls Tryd.prog 24 #[.slice A x.length c, .slice B y.length d] w (Ret (.bool (decide (x = y))) w) := by
  by_cases hl : x.length = y.length
  · rw [← hl]
    exact eq_same A B c d x y w hA hB hl hm
  · rw [decide_eq_false (fun e => hl (by rw [e]))]
    exact eq_len A B c d _ _ w (by omega)
end Go.Proofs.YtaingleopdnkiaaDoor
