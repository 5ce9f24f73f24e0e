/- Helper lemmas: the reference's Join at every list of names. No condition. -/
import Derived.Test.YtaingleopdnkiaaDoorE2
import Derived.Test.YtaingleopdnkiaaDoorA6
import Derived.Outline
set_option linter.unusedSimpArgs false
set_option linter.unusedVariables false
namespace Go.Proofs.YtaingleopdnkiaaDoor
open Go.RowKit

theorem pathT_step (l : List ByteArray) (i : Nat) (h : i < l.length) : (pathT (l.take i) ++ ⟨#[47]⟩) ++ l.getD i ByteArray.empty = pathT (l.take (i + 1)) := by
  apply ByteArray.ext
  rw [ByteArray.data_append, ByteArray.data_append]
  apply Array.toList_inj.1
  show _ = (Lib.joinTail [47] ((l.take (i + 1)).map (·.data.toList))).toArray.toList
  rw [Array.toList_append, Array.toList_append, List.map_take, Lib.joinTail_take_succ [47] (l.map (·.data.toList)) i (l.getD i ByteArray.empty).data.toList (by
    rw [List.getElem?_map, List.getElem?_eq_getElem h, List.getD_eq_getElem?_getD, List.getElem?_eq_getElem h]; rfl), ← List.map_take]
  rfl
/-- Are these the same, as far as the loop has come? -/
def sameP (k l : List ByteArray) (i : Nat) : Bool := decide (k.length = l.length) && decide (k.take i = l.take i)
theorem sameP_zero (k l : List ByteArray) : sameP k l 0 = decide (k.length = l.length) := by simp [sameP]
theorem sameP_end (k l : List ByteArray) : sameP k l k.length = decide (k = l) := by
  by_cases h : k.length = l.length
  · rw [sameP, decide_eq_true h, Bool.true_and, List.take_length, h, List.take_length]
  · rw [sameP, decide_eq_false h, Bool.false_and]
    exact (decide_eq_false (fun e => h (by rw [e]))).symm
theorem sameP_len {k l : List ByteArray} {i : Nat} (h : sameP k l i = true) : k.length = l.length := by
  simp [sameP] at h
  exact h.1
theorem sameP_false {k l : List ByteArray} {i : Nat} (h : sameP k l i = false) : sameP k l (i + 1) = false := by
  cases h2 : sameP k l (i + 1) with
  | false => rfl
  | true =>
    simp [sameP] at h h2
    obtain ⟨h3, h4⟩ := h2
    refine absurd ?_ (h h3)
    have := congrArg (List.take i) h4
    rw [List.take_take, List.take_take, Nat.min_eq_left (by omega)] at this
    exact this
theorem sameP_true {k l : List ByteArray} {i : Nat} (hi : i < k.length) (h : sameP k l i = true) : sameP k l (i + 1) = decide (k.getD i ByteArray.empty = l.getD i ByteArray.empty) := by
  have hl := sameP_len h
  simp only [sameP, Bool.and_eq_true, decide_eq_true_eq] at h
  rw [sameP, decide_eq_true hl, Bool.true_and]
  rw [List.take_succ_eq_append_getElem hi, List.take_succ_eq_append_getElem (show i < l.length by omega), h.2]
  rw [List.getD_eq_getElem?_getD, List.getElem?_eq_getElem hi, List.getD_eq_getElem?_getD, List.getElem?_eq_getElem (show i < l.length by omega)]
  have key : (List.take i l ++ [k[i]] = List.take i l ++ [l[i]]) ↔ k[i] = l[i] := ⟨fun h => (by have := List.append_cancel_left h; injection this), fun h => (by rw [h])⟩
  exact decide_eq_decide.2 key
set_option maxHeartbeats 2000000 in
set_option maxRecDepth 100000 in
theorem refjoin_many (A : Option Addr) (c n : Nat) (w : World) (h8 : (8 : Int) < (n : Int)) : Calls Tryd.prog 27 #[.slice A n c] w (Ret (.tuple #[.string ⟨#[]⟩, .int .i64 36]) w) := by
  go_enter Tryd.func27, Tryd.ntmps27
  go_wp2
  go_ret2
  exact Ret.mk rfl (Below.refl _ _)
set_option maxHeartbeats 2000000 in
set_option maxRecDepth 100000 in
theorem refjoin_none (A : Option Addr) (c : Nat) (w : World) : Calls Tryd.prog 27 #[.slice A 0 c] w (Ret (.tuple #[.string ⟨#[47]⟩, .int .i64 0]) w) := by
  go_enter Tryd.func27, Tryd.ntmps27
  go_wp2
  refine wp_loop_rounds 1 ?_
  rw [rounds_succ]
  go_wp2
  go_ret2
  exact Ret.mk rfl (Below.refl _ _)
set_option maxHeartbeats 2000000 in
set_option maxRecDepth 100000 in
theorem refjoin_some (A : Option Addr) (c n : Nat) (l : List ByteArray) (w : World) (hA : StrsAt w A l) (hn : l.length = n) (h0 : 0 < n) (h8 : n ≤ 8) (ht : totL l ≤ 5000) : Calls Tryd.prog 27 #[.slice A n c] w (Ret (.tuple #[.string (joinR l).1, .int .i64 (joinR l).2]) w) := by
  have hne : l ≠ [] := fun e => by rw [e] at hn; simp at hn; omega
  have hj : joinR l = if (splitR (pathT l)).2 = 0 then (if (splitR (pathT l)).1 = l then (pathT l, 0) else (⟨#[]⟩, 22)) else (⟨#[]⟩, (splitR (pathT l)).2) := by
    unfold joinR
    rw [if_neg (by omega), if_neg hne]
  have HPS := Lib.hid (fun i => pathT_size (l.take i))
  have HTK := Lib.hid (fun i => totL_le l i)
  have HST := Lib.hid (pathT_step l)
  have HA := Lib.hid hA
  have HN := Lib.hid hn
  have HJR := Lib.hid hj
  have HTT := Lib.hid ht
  clear hA hn hj hne ht
  have h9 : ¬ (8 : Int) < (n : Int) := by omega
  go_enter Tryd.func27, Tryd.ntmps27
  go_wp2
  go_loopw [4, 16] (fun v4 v16 wr => ∃ (i : Nat), i ≤ n ∧ v16 = .int .i64 (i : Int) ∧ v4 = .string (pathT (l.take i)) ∧ wr = w) (fun _ i _ => ((n : Int) - intOf i).toNat)
  case atStart => exact ⟨0, Nat.zero_le _, rfl, rfl, by first | rfl | trivial⟩
  case round =>
    obtain ⟨i, hi, rfl, rfl, rfl⟩ := hrel
    by_cases hin : i = n
    · subst hin
      have e1 : l.take i = l := List.take_of_length_le (by rw [HN.out]; omega)
      rw [e1]
      clear e1
      have hps := pathT_size l
      have her := split_err (pathT l)
      have hsl := split_len (pathT l)
      have HS := Lib.hid (fun w' => refsplit_ref (pathT l) w')
      have hj := HJR.out
      have hl0 : l.length = i := HN.out
      generalize pathT l = p at *
      generalize splitR p = r at *
      obtain ⟨k, x⟩ := r
      simp only at her hj hsl
      have hpl : p.toList.length = p.size := by rw [ByteArray.toList_eq, Array.length_toList]; rfl
      have hemp : p.toList.isEmpty = false := by
        cases hpp : p.toList with
        | nil => rw [hpp] at hpl; simp at hpl; omega
        | cons _ _ => rfl
      have hemp2 : ¬ p.toList = [] := fun e => by rw [e] at hemp; cases hemp
      clear hpl hps
      have hjx := Lib.hid hj
      clear hj hl0 HPS HTK HST HJR hi
      have hi0 : (0 : Int) ≤ (i : Int) := by omega
      by_cases hx : x = 0
      · subst hx
        have hjr := Lib.hid (show joinR l = if k = l then (p, 0) else (⟨#[]⟩, 22) from hjx.out.trans (if_pos rfl))
        clear hjx her
        obtain ⟨m, hm⟩ : ∃ m, k.length = m := ⟨_, rfl⟩
        have hml : m ≤ 8 := by omega
        have HK := Lib.hid hm
        have hk0 := Lib.hid (show sameP k l 0 = decide (m = i) by rw [sameP_zero, HK.out, HN.out])
        clear hsl
        clear hm
        have hi8 : (i : Int) ≤ 9223372036854775807 := by omega
        have hbe : ∃ bb : Bool, ((m : Int) == (i : Int)) = bb ∧ sameP k l 0 = bb := by
          by_cases hmi : m = i
          · exact ⟨true, by simp [hmi], by rw [hk0.out]; exact decide_eq_true hmi⟩
          · exact ⟨false, beq_eq_false_iff_ne.2 (by omega), by rw [hk0.out]; exact decide_eq_false hmi⟩
        obtain ⟨bb, hb1, hb2⟩ := hbe
        have HBB := Lib.hid hb2
        clear hb2 hk0
        go_wp2_with (go_at_call 20; (with_reducible refine (HS.out _).mono ?_); rintro e1 w2 ⟨A2, c2, rfl, HB2, HS2, HC2⟩; rw [HK.out])
        clear hb1
        go_loopw [9, 42] (fun v9 v42 wr2 => ∃ (t : Nat) (j : Junk), t ≤ m ∧ v42 = .int .i64 (t : Int) ∧ v9 = .bool (sameP k l t) ∧ wr2 = wext w2 j) (fun _ t _ => ((m : Int) - intOf t).toNat)
        case atStart => exact ⟨0, _, Nat.zero_le _, rfl, by rw [HBB.out], by first | rfl | exact wext_same _⟩
        case round =>
          obtain ⟨t, j, hti, rfl, rfl, rfl⟩ := hrel
          by_cases htm : t = m
          · have e2 := sameP_end k l
            rw [HK.out] at e2
            rw [htm, e2]
            subst htm
            clear e2
            by_cases hkl : k = l
            · have hf := Lib.hid (show joinR l = (p, 0) by rw [hjr.out, if_pos hkl])
              rw [decide_eq_true hkl]
              clear hkl
              go_wp2
              go_ret2
              exact Ret.mk (by rw [hf.out]; rfl) (below_two HB2.out _)
            · have hf := Lib.hid (show joinR l = (⟨#[]⟩, 22) by rw [hjr.out, if_neg hkl])
              rw [decide_eq_false hkl]
              clear hkl
              go_wp2
              go_ret2
              exact Ret.mk (by rw [hf.out]; rfl) (below_two HB2.out _)
          · have htlt : (t : Int) < (m : Int) := by omega
            have htge : (0 : Int) ≤ (t : Int) := by omega
            have htnl : ¬ (t : Int) < 0 := by omega
            have hwt : wrap64 ((t : Int) + 1) = ((t + 1 : Nat) : Int) := by rw [wrap64_eq]; omega
            cases hok : sameP k l t with
            | false =>
              have hok2 := Lib.hid (sameP_false hok)
              clear hok
              go_wp2
              refine wp_region_mix [(0, true), (1, true), (2, true), (3, true), (4, true), (5, true), (6, true), (7, true), (8, true), (9, true), (10, true), (11, true), (12, true), (13, true), (14, true), (15, true), (16, true), (17, true), (18, true)] (by kernel_rfl) (by kernel_rfl) rfl (by kernel_rfl) (by intro _ _ d _ _ h; cases d <;> exact h) ?_; intro j1; (repeat (first | (refine wpMix_skipK rfl rfl ?_; intro K hK; go_simp; refine hK _ ?_; clear hK K) | (refine wpMix_light rfl rfl ?_; intro K hK; go_simp; refine hK _ ?_; clear hK K) | (refine wpMix_heavy rfl rfl ?_; intro K hK; go_wp2_with (fail); refine ⟨w_ext_of_below (by (repeat' (first | (with_reducible exact Below.refl _ _) | (with_reducible assumption) | (with_reducible exact below_app _ _ _ _) | (with_reducible refine below_pre ?_; (simp only [List.append_assoc, List.prefix_append, List.prefix_refl, List.prefix_append_right_inj])) | (with_reducible refine Below.alloc ?_ ?_ _) | (with_reducible refine below_ext ?_ ?_ _) | (with_reducible refine Below.drew ?_) | (with_reducible refine below_drewN ?_ _) | (with_reducible refine Below.setCell ?_ ?_ _) | go_size | (simp only [w_size_ext, List.length_append, World.alloc_size]; omega) | (simp; done) | (simp; omega)))), ?_⟩))); refine wpMix_nil ?_
              go_wp2
              go_roundw
              case rel => exact ⟨t + 1, _, by omega, by first | rfl | rw [hwt], by rw [hok2.out], rfl⟩
              case measure => first | (simp [intOf]; omega) | (rw [intOf_lit, intOf_lit, hwt]; exact meas_step _ _ htlt)
            | true =>
              have hmi : m = i := by have := sameP_len hok; rw [HK.out, HN.out] at this; exact this
              have hokt := sameP_true (show t < k.length by rw [HK.out]; omega) hok
              have hti2 : (t : Int) < (i : Int) := by omega
              obtain ⟨b, o, eA, hcl⟩ := HA.out t (by rw [HN.out]; omega)
              obtain ⟨b', o', eB, hct⟩ := HS2.out t (by rw [HK.out]; omega)
              replace hcl := HB2.out.cell (p := ⟨b, o + t, none⟩) (World.block_lt_of_cell? _ _ hcl) |>.trans hcl
              subst eA
              subst eB
              have hlb := leB_of_cell hcl
              have hlb' := leB_of_cell hct
              clear hok hmi
              by_cases hq : k.getD t ByteArray.empty = l.getD t ByteArray.empty
              · rw [decide_eq_true hq] at hokt
                have hok2 := Lib.hid hokt
                rw [hq] at hct
                clear hq hokt
                generalize l.getD t ByteArray.empty = q at *
                go_wp2
                refine wp_region_mix [(0, true), (1, true), (2, true), (3, true), (4, true), (5, true), (6, true), (7, true), (8, true), (9, true), (10, true), (11, true), (12, true), (13, true), (14, true), (15, true), (16, true), (17, true), (18, true)] (by kernel_rfl) (by kernel_rfl) rfl (by kernel_rfl) (by intro _ _ d _ _ h; cases d <;> exact h) ?_; intro j1; (repeat (first | (refine wpMix_skipK rfl rfl ?_; intro K hK; go_simp; refine hK _ ?_; clear hK K) | (refine wpMix_light rfl rfl ?_; intro K hK; go_simp; refine hK _ ?_; clear hK K) | (refine wpMix_heavy rfl rfl ?_; intro K hK; go_wp2_with (fail); refine ⟨w_ext_of_below (by (repeat' (first | (with_reducible exact Below.refl _ _) | (with_reducible assumption) | (with_reducible exact below_app _ _ _ _) | (with_reducible refine below_pre ?_; (simp only [List.append_assoc, List.prefix_append, List.prefix_refl, List.prefix_append_right_inj])) | (with_reducible refine Below.alloc ?_ ?_ _) | (with_reducible refine below_ext ?_ ?_ _) | (with_reducible refine Below.drew ?_) | (with_reducible refine below_drewN ?_ _) | (with_reducible refine Below.setCell ?_ ?_ _) | go_size | (simp only [w_size_ext, List.length_append, World.alloc_size]; omega) | (simp; done) | (simp; omega)))), ?_⟩))); refine wpMix_nil ?_
                go_wp2
                go_roundw
                case rel => exact ⟨t + 1, _, by omega, by first | rfl | rw [hwt], by rw [hok2.out], rfl⟩
                case measure => first | (simp [intOf]; omega) | (rw [intOf_lit, intOf_lit, hwt]; exact meas_step _ _ htlt)
              · rw [decide_eq_false hq] at hokt
                have hok2 := Lib.hid hokt
                have hq2 := toList_ne hq
                clear hokt
                generalize l.getD t ByteArray.empty = q' at *
                generalize k.getD t ByteArray.empty = q at *
                have hq3 : (q.toList != q'.toList) = true := by simpa using hq2
                have hq4 : (q.toList == q'.toList) = false := by simpa using hq2
                go_wp2
                refine wp_region_mix [(0, true), (1, true), (2, true), (3, true), (4, true), (5, true), (6, true), (7, true), (8, true), (9, true), (10, true), (11, true), (12, true), (13, true), (14, true), (15, true), (16, true), (17, true), (18, true)] (by kernel_rfl) (by kernel_rfl) rfl (by kernel_rfl) (by intro _ _ d _ _ h; cases d <;> exact h) ?_; intro j1; (repeat (first | (refine wpMix_skipK rfl rfl ?_; intro K hK; go_simp; refine hK _ ?_; clear hK K) | (refine wpMix_light rfl rfl ?_; intro K hK; go_simp; refine hK _ ?_; clear hK K) | (refine wpMix_heavy rfl rfl ?_; intro K hK; go_wp2_with (fail); refine ⟨w_ext_of_below (by (repeat' (first | (with_reducible exact Below.refl _ _) | (with_reducible assumption) | (with_reducible exact below_app _ _ _ _) | (with_reducible refine below_pre ?_; (simp only [List.append_assoc, List.prefix_append, List.prefix_refl, List.prefix_append_right_inj])) | (with_reducible refine Below.alloc ?_ ?_ _) | (with_reducible refine below_ext ?_ ?_ _) | (with_reducible refine Below.drew ?_) | (with_reducible refine below_drewN ?_ _) | (with_reducible refine Below.setCell ?_ ?_ _) | go_size | (simp only [w_size_ext, List.length_append, World.alloc_size]; omega) | (simp; done) | (simp; omega)))), ?_⟩))); refine wpMix_nil ?_
                go_wp2
                go_roundw
                case rel => exact ⟨t + 1, _, by omega, by first | rfl | rw [hwt], by first | (rw [hok2.out]; done) | (rw [hok2.out]; simp), rfl⟩
                case measure => first | (simp [intOf]; omega) | (rw [intOf_lit, intOf_lit, hwt]; exact meas_step _ _ htlt)
      · have hj2 := Lib.hid (show joinR l = (⟨#[]⟩, x) from hjx.out.trans (if_neg hx))
        have hx3 : (x != 0) = true := by simpa using hx
        go_wp2_with (go_at_call 20; (with_reducible refine (HS.out _).mono ?_); rintro e1 w2 ⟨A2, c2, rfl, HB2, HS2, HC2⟩)
        go_ret2
        exact Ret.mk (by rw [hj2.out]; rfl) HB2.out
    · have hlt : (i : Int) < (n : Int) := by omega
      have hge : (0 : Int) ≤ (i : Int) := by omega
      have hnl : ¬ (i : Int) < 0 := by omega
      have hwr : wrap64 ((i : Int) + 1) = ((i + 1 : Nat) : Int) := by rw [wrap64_eq]; omega
      obtain ⟨b, o, eA, hcell⟩ := HA.out i (by rw [HN.out]; omega)
      subst eA
      have hlb := leB_of_cell hcell
      have HS2 := Lib.hid (HST.out i (by rw [HN.out]; omega))
      have hp1 := HPS.out i
      have hp2 := HTK.out i
      have hp3 := HTT.out
      have hp4 : (l.take i).length ≤ i := List.length_take_le _ _
      have hp5 := HPS.out (i + 1)
      have hp6 := HTK.out (i + 1)
      have hp7 : (l.take (i + 1)).length ≤ i + 1 := List.length_take_le _ _
      have hq : (l.getD i ByteArray.empty).size ≤ 5008 + 1 := by
        have := congrArg ByteArray.size HS2.out
        rw [ByteArray.size_append] at this
        omega
      generalize l.getD i ByteArray.empty = q at *
      generalize pathT (l.take i) = p at *
      have hps : p.size ≤ 5010 := by omega
      clear hp1 hp2 hp3 hp4 hp5 hp6 hp7
      have ha1 : ¬ 9223372036854775807 < p.size + 1 := by omega
      have ha2 : ¬ 9223372036854775807 < p.size + 1 + q.size := by omega
      go_wp2
      go_roundw
      case rel => exact ⟨i + 1, by omega, by first | rfl | rw [hwr], by rw [← HS2.out], by first | rfl | trivial⟩
      case measure => first | (simp [intOf]; omega) | (rw [intOf_lit, intOf_lit, hwr]; exact meas_step _ _ hlt)
theorem refjoin_any (A : Option Addr) (c : Nat) (l : List ByteArray) (w : World) (hA : StrsAt w A l) (ht : totL l ≤ 5000) : Calls Tryd.prog 27 #[.slice A l.length c] w (Ret (.tuple #[.string (joinR l).1, .int .i64 (joinR l).2]) w) := by
  by_cases h8 : 8 < l.length
  · have e : joinR l = (⟨#[]⟩, 36) := by unfold joinR; rw [if_pos (by omega)]
    rw [e]
    exact refjoin_many A c _ w (by omega)
  by_cases h0 : 0 < l.length
  · exact refjoin_some A c _ l w hA rfl h0 (by omega) ht
  · obtain rfl : l = [] := List.eq_nil_of_length_eq_zero (by omega)
    have e : joinR [] = (⟨#[47]⟩, 0) := by unfold joinR; rw [if_neg (by simp), if_pos rfl]
    rw [e]
    exact refjoin_none A c w
end Go.Proofs.YtaingleopdnkiaaDoor
