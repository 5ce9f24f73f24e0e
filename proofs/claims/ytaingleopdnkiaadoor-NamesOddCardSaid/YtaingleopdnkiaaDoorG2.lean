/- Helper lemmas: names.Odd at every event. No condition. -/
import Derived.Test.YtaingleopdnkiaaDoorG1
set_option linter.unusedSimpArgs false
set_option linter.unusedVariables false
namespace Go.Proofs.YtaingleopdnkiaaDoor
open Go.RowKit

theorem i64_and15 (n : Int) : bits .and .i64 n 15 = n % 16 := by
  have h15 : (BitVec.ofInt 64 15).toNat = 2 ^ 4 - 1 := by decide
  have key : (BitVec.ofInt 64 n &&& BitVec.ofInt 64 15).toNat = (n % ((2 ^ 64 : Nat) : Int)).toNat % 2 ^ 4 := by
    rw [BitVec.toNat_and, BitVec.toNat_ofInt, h15, Nat.and_two_pow_sub_one_eq_mod]
  show IntKind.i64.wrap ((BitVec.ofInt 64 n &&& BitVec.ofInt 64 15).toNat : Nat) = n % 16
  rw [key, IntKind.wrap_i64]
  omega
theorem u64_and15 (m : Nat) (h : m < 18446744073709551616) : bits .and .u64 (m : Int) 15 = ((m % 16 : Nat) : Int) := by
  have h1 := u64_and_nat m 15 h (by omega)
  rw [Nat.and_two_pow_sub_one_eq_mod m 4] at h1
  exact h1
/-- An event's time, as it stands in the name. -/
def tN (t : Int) : Nat := (t % 18446744073709551616).toNat
/-- Whose an event is, as it stands in the name. -/
def wN (x : Int) : Nat := (x % 16).toNat
/-- The name of an event. -/
def oddT (t x : Int) : ByteArray := bsG (oddL (tN t) (wN x))
def strLen : Value → Nat
  | .string s => s.size
  | _ => 0
theorem strLen_str (s : ByteArray) : strLen (.string s) = s.size := rfl
theorem dig_at (k : Nat) (h : k < 16) (h2 : k < (⟨#[48, 49, 50, 51, 52, 53, 54, 55, 56, 57, 97, 98, 99, 100, 101, 102]⟩ : ByteArray).size) : ((⟨#[48, 49, 50, 51, 52, 53, 54, 55, 56, 57, 97, 98, 99, 100, 101, 102]⟩ : ByteArray)[k]'h2).toNat = (dig k).toNat := by
  unfold dig
  rw [List.getD_eq_getElem?_getD, List.getElem?_eq_getElem (show k < digS.data.toList.length from h)]
  rfl
theorem bsG_size (l : List UInt8) : (bsG l).size = l.length := by
  show l.toArray.size = _
  rw [List.size_toArray]
theorem bsG_app (a b : List UInt8) : bsG a ++ bsG b = bsG (a ++ b) := by
  apply ByteArray.ext
  rw [ByteArray.data_append]
  show a.toArray ++ b.toArray = (a ++ b).toArray
  simp
theorem bsG_list (a : List UInt8) : (bsG a).toList = a := by
  rw [ByteArray.toList_eq]; rfl
theorem w_alloc_ext (w : World) (j : Junk) (o : Obj) : (wext w j).alloc o = wext w ⟨j.l ++ [o], j.m⟩ := by
  simp only [wext, World.alloc]
  congr 1
  apply Array.toList_inj.1
  simp
set_option maxHeartbeats 2000000 in
set_option maxRecDepth 100000 in
theorem odd_any (t x : Int) (w : World) : Calls Tryd.prog 13 #[.agg #[.int .i64 t, .int .i64 x]] w (Ret (.string (oddT t x)) w) := by
  have hn0 : IntKind.u64.wrap t = (tN t : Int) := by
    rw [IntKind.wrap_u64]; unfold tN; omega
  have hn64 : tN t < 18446744073709551616 := by unfold tN; omega
  unfold oddT
  generalize tN t = n at *
  generalize hL : lenD n = L at *
  have HL := Lib.hid hL
  clear hL
  go_enter Tryd.func13, Tryd.ntmps13
  go_wp2
  clear hn0
  go_loopw [3, 4] (fun v3 v4 wr => ∃ (i m : Nat) (j : Junk) (p : ByteArray), i ≤ L ∧ v3 = .string p ∧ v4 = .int .u64 (m : Int) ∧ wr = wext (w.alloc (.cells #[.int .i64 t, .int .i64 x] 23)) j ∧ Hid (m = n / 16 ^ i) ∧ Hid (p = bsG (padD i n))) (fun v3 _ _ => L - strLen v3)
  case atStart => exact ⟨0, n, _, ⟨#[]⟩, Nat.zero_le _, rfl, rfl, by first | rfl | exact wext_same _, Lib.hid (by simp), Lib.hid rfl⟩
  case round =>
    obtain ⟨i, m, j, p, hi, rfl, rfl, rfl, HM, HP⟩ := hrel
    have hps := Lib.hid (show p.size = i by rw [HP.out, bsG_size, padD_len])
    have hm64 : m < 18446744073709551616 := by rw [HM.out]; exact Nat.lt_of_le_of_lt (Nat.div_le_self _ _) hn64
    by_cases hil : i < L
    · have hor := (more_lenD i n).2 (by rw [HL.out]; exact hil)
      rw [← HM.out] at hor
      obtain ⟨k, hk⟩ : ∃ k, m % 16 = k := ⟨_, rfl⟩
      have hk16 : k < 16 := by omega
      have hk16' : (k : Int) < 16 := by omega
      have hk0 : (0 : Int) ≤ (k : Int) := by omega
      have hkn : ¬ (k : Int) < 0 := by omega
      have hand : bits .and .u64 (m : Int) 15 = (k : Int) := by rw [u64_and15 m hm64, hk]
      have hdg := fun h => dig_at k hk16 h
      have HK := Lib.hid (show dig k = dig (n / 16 ^ i % 16) by rw [← hk, HM.out])
      clear hk
      generalize dig k = c at *
      have hcv := fun W g hW => conv_one c W g _ rfl hW
      have ha : ¬ 9223372036854775807 < 1 + p.size := by rw [hps.out]; have h0 := lenD_le 16 n (by omega) (by omega); rw [HL.out] at h0; omega
      have HP2 := Lib.hid (show (⟨#[c]⟩ : ByteArray) ++ p = bsG (padD (i + 1) n) by
        rw [HP.out, padD_front, ← HK.out]
        exact bsG_app [c] (padD i n))
      have HM2 := Lib.hid (show m / 16 = n / 16 ^ (i + 1) by rw [HM.out, Nat.div_div_eq_div_mul, Nat.pow_succ])
      by_cases hm0 : 0 < m
      · have hm0' : (0 : Int) < (m : Int) := by omega
        clear hor hm0
        go_wp2
        go_roundw
        case rel => exact ⟨i + 1, m / 16, _, _, by omega, rfl, by first | rfl | simp, by first | rfl | exact w_alloc_ext _ _ _, HM2, HP2⟩
        case measure => rw [strLen_str, strLen_str, ByteArray.size_append, hps.out]; show L - (1 + i) < L - i; omega
      · obtain rfl : m = 0 := by omega
        obtain rfl : i = 0 := by
          rcases hor with h | h
          · exact absurd h hm0
          · exact h
        obtain rfl : p = ⟨#[]⟩ := HP.out
        have hand0 : bits .and .u64 0 15 = (k : Int) := hand
        clear hor hm0 hand
        go_wp2
        go_roundw
        case rel => exact ⟨1, 0, _, _, by omega, rfl, by first | rfl | simp, by first | rfl | exact w_alloc_ext _ _ _, Lib.hid (by rw [← HM2.out]), HP2⟩
        case measure => rw [strLen_str, strLen_str, ByteArray.size_append]; show L - (1 + 0) < L - 0; omega
    · have hm0 : m = 0 := by
        have h := more_lenD i n
        rw [← HM.out, HL.out] at h
        rcases Nat.eq_zero_or_pos m with h0 | h0
        · exact h0
        · exact absurd (h.1 (Or.inl h0)) hil
      subst hm0
      obtain rfl : i = L := by omega
      have hL1 : 1 ≤ i := by rw [← HL.out]; exact lenD_pos n
      have hL16 : i ≤ 16 := by rw [← HL.out]; exact lenD_le 16 n (by omega) (by omega)
      have hemp : p.toList.isEmpty = false := by
        rw [HP.out, bsG_list]
        cases hpp : padD i n with
        | nil => have := padD_len i n; rw [hpp] at this; simp at this; omega
        | cons _ _ => rfl
      have hps1 : p.size = i := hps.out
      obtain ⟨q, hq⟩ : ∃ q, i - 12 = q := ⟨_, rfl⟩
      have hmx : max (0 : Int) (IntKind.i64.wrap ((p.size : Int) - 12)) = (q : Int) := by rw [wrapE, wrap64_eq, hps1]; omega
      have hqp : (q : Int) ≤ (p.size : Int) := by rw [hps1]; omega
      have hqn : ¬ (p.size : Int) < (q : Int) := by omega
      have hq0 : (0 : Int) ≤ (q : Int) := by omega
      have HX := Lib.hid (show p.extract q p.size = bsG (padD (min i 12) n) by
        have h := last_12 n
        rw [HL.out, hq] at h
        have e5 : (bsG (padD i n)).size = i := by rw [bsG_size, padD_len]
        rw [HP.out, e5, ← h]
        apply ByteArray.ext
        apply Array.toList_inj.1
        rw [seg_dat]
        show List.take (i - q) (List.drop q (padD i n)) = List.drop q (padD i n)
        exact List.take_of_length_le (by rw [List.length_drop, padD_len]; exact Nat.le_refl _))
      have hmin : min i 12 ≤ 12 := Nat.min_le_right _ _
      obtain ⟨r, hr⟩ : ∃ r, p.extract q p.size = r := ⟨_, rfl⟩
      have hrs : r.size ≤ 12 := by rw [← hr, HX.out, bsG_size, padD_len]; exact hmin
      have HR := Lib.hid (show r = bsG (padD (min i 12) n) from hr.symm.trans HX.out)
      obtain ⟨k, hk⟩ : ∃ k, wN x = k := ⟨_, rfl⟩
      have hk16 : k < 16 := by rw [← hk]; unfold wN; omega
      have hk16' : (k : Int) < 16 := by omega
      have hk0 : (0 : Int) ≤ (k : Int) := by omega
      have hkn : ¬ (k : Int) < 0 := by omega
      have hand : bits .and .i64 x 15 = (k : Int) := by rw [i64_and15, ← hk]; unfold wN; omega
      have hdg := fun h => dig_at k hk16 h
      have HKD := Lib.hid hk
      clear hk
      have HC := Lib.hid (show bsG (oddL n (wN x)) = ((⟨#[99]⟩ ++ r) ++ ⟨#[45]⟩) ++ (⟨#[dig k]⟩ : ByteArray) by
        rw [HR.out, HKD.out]
        show _ = ((bsG [99] ++ _) ++ bsG [45]) ++ bsG [dig k]
        rw [bsG_app, bsG_app, bsG_app, oddL, HL.out])
      generalize dig k = c at *
      have hcv := fun W g hW => conv_one c W g _ rfl hW
      have ha1 : ¬ 9223372036854775807 < 1 + r.size := by omega
      have ha2 : ¬ 9223372036854775807 < 1 + r.size + 1 := by omega
      have ha3 : ¬ 9223372036854775807 < 1 + r.size + 1 + 1 := by omega
      clear hps1 hq hi hil
      go_wp2
      refine wp_region_mix [(0, true), (1, true), (2, true), (3, true), (4, true), (5, true), (6, true), (7, true), (8, true), (9, true), (10, true), (11, true), (12, false), (13, false), (14, true), (15, true)] (by kernel_rfl) (by kernel_rfl) rfl (by kernel_rfl) (by intro _ _ d _ _ h; cases d <;> exact h) ?_; intro j1; (repeat (first | (refine wpMix_skip rfl rfl ?_; simp only [Act.put, List.setIfInBounds_toArray, List.set_cons_zero, List.set_cons_succ]) | (refine wpMix_light rfl rfl ?_; intro K hK; go_simp; refine hK _ ?_; clear hK K) | (refine wpMix_heavy rfl rfl ?_; intro K hK; go_wp2_with (fail); refine ⟨w_ext_of_below (by (repeat' (first | (with_reducible exact Below.refl _ _) | (with_reducible assumption) | (with_reducible exact below_app _ _ _ _) | (with_reducible refine below_pre ?_; (simp only [List.append_assoc, List.prefix_append, List.prefix_refl, List.prefix_append_right_inj])) | (with_reducible refine Below.alloc ?_ ?_ _) | (with_reducible refine below_ext ?_ ?_ _) | (with_reducible refine Below.drew ?_) | (with_reducible refine below_drewN ?_ _) | (with_reducible refine Below.setCell ?_ ?_ _) | go_size | (simp only [w_size_ext, List.length_append, World.alloc_size]; omega) | (simp; done) | (simp; omega)))), ?_⟩))); refine wpMix_nil ?_
      go_wp2
      go_ret
      exact Ret.mk (by rw [HC.out]; rfl) (by (repeat' (first | (with_reducible exact Below.refl _ _) | (with_reducible assumption) | (with_reducible exact below_app _ _ _ _) | (with_reducible refine below_pre ?_; (simp only [List.append_assoc, List.prefix_append, List.prefix_refl, List.prefix_append_right_inj])) | (with_reducible refine Below.alloc ?_ ?_ _) | (with_reducible refine below_ext ?_ ?_ _) | (with_reducible refine Below.drew ?_) | (with_reducible refine below_drewN ?_ _) | (with_reducible refine Below.setCell ?_ ?_ _) | go_size | (simp only [w_size_ext, List.length_append, World.alloc_size]; omega) | (simp; done) | (simp; omega))))
end Go.Proofs.YtaingleopdnkiaaDoor
