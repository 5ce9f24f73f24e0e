/- Helper lemmas: the reference's Odd at every event. No condition. -/
import Derived.Test.YtaingleopdnkiaaDoorG2
set_option linter.unusedSimpArgs false
set_option linter.unusedVariables false
namespace Go.Proofs.YtaingleopdnkiaaDoor
open Go.RowKit

theorem dig_ext (k : Nat) (h : k < 16) : (⟨#[48, 49, 50, 51, 52, 53, 54, 55, 56, 57, 97, 98, 99, 100, 101, 102]⟩ : ByteArray).extract k (k + 1) = ⟨#[dig k]⟩ := by
  have h0 : ∀ k : Fin 16, (⟨#[48, 49, 50, 51, 52, 53, 54, 55, 56, 57, 97, 98, 99, 100, 101, 102]⟩ : ByteArray).extract k.1 (k.1 + 1) = ⟨#[dig k.1]⟩ := by decide +kernel
  exact h0 ⟨k, h⟩
theorem bsG_data (a : List UInt8) : (bsG a).data.toList = a := rfl
theorem bsG_ext (a : List UInt8) (i j : Nat) : (bsG a).extract i j = bsG ((a.drop i).take (j - i)) := by
  apply ByteArray.ext
  apply Array.toList_inj.1
  rw [seg_dat, bsG_data, bsG_data]
set_option maxHeartbeats 2000000 in
set_option maxRecDepth 100000 in
theorem refodd_any (t x : Int) (w : World) : Calls Tryd.prog 14 #[.agg #[.int .i64 t, .int .i64 x]] w (Ret (.string (oddT t x)) w) := by
  have hn0 : IntKind.u64.wrap t = (tN t : Int) := by
    rw [IntKind.wrap_u64]; unfold tN; omega
  have hn64 : tN t < 18446744073709551616 := by unfold tN; omega
  obtain ⟨y, hx1, hx0⟩ : ∃ y : Nat, IntKind.u64.wrap x = (y : Int) ∧ (y : Int) % 16 = (wN x : Int) := ⟨(x % 18446744073709551616).toNat, by rw [IntKind.wrap_u64]; omega, by unfold wN; omega⟩
  have hw16 : wN x < 16 := by unfold wN; omega
  unfold oddT
  generalize tN t = n at *
  generalize wN x = k2 at *
  generalize hL : lenD n = L at *
  have HL := Lib.hid hL
  clear hL
  go_enter Tryd.func14, Tryd.ntmps14
  go_wp2
  go_loopw [3, 4, 10] (fun v3 v4 v10 wr => ∃ (i m : Nat) (p : ByteArray), i ≤ 16 ∧ v10 = .int .i64 (i : Int) ∧ v3 = .string p ∧ v4 = .int .u64 (m : Int) ∧ wr = w.alloc (.cells #[.int .i64 t, .int .i64 x] 23) ∧ Hid (m = n / 16 ^ i) ∧ Hid (p = bsG (padD i n))) (fun _ _ i _ => (16 - intOf i).toNat)
  case atStart => exact ⟨0, n, ⟨#[]⟩, Nat.zero_le _, rfl, rfl, rfl, by first | rfl | exact wext_same _, Lib.hid (by simp), Lib.hid rfl⟩
  case round =>
    obtain ⟨i, m, p, hi, rfl, rfl, rfl, rfl, HM, HP⟩ := hrel
    have hps := Lib.hid (show p.size = i by rw [HP.out, bsG_size, padD_len])
    have hm64 : m < 18446744073709551616 := by rw [HM.out]; exact Nat.lt_of_le_of_lt (Nat.div_le_self _ _) hn64
    by_cases hil : i < 16
    · have hil2 : (i : Int) < 16 := by omega
      obtain ⟨k, hk⟩ : ∃ k, m % 16 = k := ⟨_, rfl⟩
      have hk16 : k < 16 := by omega
      have hkm : (m : Int) % 16 = (k : Int) := by omega
      have hdm : IntKind.u64.wrap ((m : Int) / 16) = ((m / 16 : Nat) : Int) := by rw [IntKind.wrap_u64]; omega
      have hk16' : (k : Int) < 16 := by omega
      have hk0 : (0 : Int) ≤ (k : Int) := by omega
      have hkn : ¬ (k : Int) < 0 := by omega
      have hdg := dig_ext k hk16
      have HK := Lib.hid (show dig k = dig (n / 16 ^ i % 16) by rw [← hk, HM.out])
      clear hk
      generalize dig k = c at *
      have ha : ¬ 9223372036854775807 < 1 + p.size := by rw [hps.out]; omega
      have HP2 := Lib.hid (show (⟨#[c]⟩ : ByteArray) ++ p = bsG (padD (i + 1) n) by
        rw [HP.out, padD_front, ← HK.out]
        exact bsG_app [c] (padD i n))
      have HM2 := Lib.hid (show m / 16 = n / 16 ^ (i + 1) by rw [HM.out, Nat.div_div_eq_div_mul, Nat.pow_succ])
      have hwr : wrap64 ((i : Int) + 1) = ((i + 1 : Nat) : Int) := by rw [wrap64_eq]; omega
      clear hm64 hn64 hn0 hx0 hps
      go_wp2
      go_roundw
      case rel => exact ⟨i + 1, m / 16, _, by omega, by first | rfl | rw [hwr], rfl, by first | (rw [hdm]; done) | rfl, by first | rfl | trivial, HM2, HP2⟩
      case measure => first | (simp [intOf]; omega) | (rw [intOf_lit, intOf_lit, hwr]; omega)
    · obtain rfl : i = 16 := by omega
      have hps1 : p.size = 16 := hps.out
      have HX := Lib.hid (show p.extract 4 16 = bsG (padD 12 n) by
        rw [HP.out, bsG_ext, ← padD_drop 12 n 4]
        exact congrArg bsG (List.take_of_length_le (by rw [List.length_drop, padD_len]; exact Nat.le_refl _)))
      have hw16' : (k2 : Int) < 16 := by omega
      have hk0 : (0 : Int) ≤ (k2 : Int) := by omega
      have hkn : ¬ (k2 : Int) < 0 := by omega
      have hdg := dig_ext k2 hw16
      have HF := Lib.hid (fun (r : ByteArray) (hr : r = bsG (padD (min L 12) n)) => show bsG (oddL n k2) = ((⟨#[99]⟩ ++ r) ++ ⟨#[45]⟩) ++ (⟨#[dig k2]⟩ : ByteArray) by
        rw [hr]
        show _ = ((bsG [99] ++ _) ++ bsG [45]) ++ bsG [dig k2]
        rw [bsG_app, bsG_app, bsG_app, oddL, HL.out])
      generalize dig k2 = c at *
      clear hil hi hm64
      by_cases h48 : n < 281474976710656
      · have h48' : (n : Int) < 281474976710656 := by omega
        have hL12 : L ≤ 12 := by rw [← HL.out]; exact lenD_le 12 n (by omega) (by omega)
        have HFIT := Lib.hid (show n < 16 ^ 12 by omega)
        clear h48 hn64
        go_wp2
        clear hps1 h48'
        have HX' := Lib.hid (show ∃ i, 1 ≤ i ∧ i ≤ 12 ∧ p.extract 4 16 = bsG (padD i n) ∧ n < 16 ^ i from ⟨12, by omega, by omega, HX.out, HFIT.out⟩)
        generalize p.extract 4 16 = r0 at *
        go_loopw [3] (fun v3 wr => ∃ (i : Nat) (r : ByteArray), 1 ≤ i ∧ i ≤ 12 ∧ v3 = .string r ∧ wr = w.alloc (.cells #[.int .i64 t, .int .i64 x] 23) ∧ Hid (r = bsG (padD i n)) ∧ Hid (n < 16 ^ i)) (fun v3 _ => strLen v3)
        case atStart =>
          obtain ⟨i, h1, h2, h3, h4⟩ := HX'.out
          exact ⟨i, r0, h1, h2, rfl, by first | rfl | trivial, Lib.hid h3, Lib.hid h4⟩
        case round =>
          obtain ⟨i, r, hi1, hi12, rfl, rfl, HR, HN⟩ := hrel
          have hrs : r.size = i := by rw [HR.out, bsG_size, padD_len]
          obtain ⟨i, rfl⟩ : ∃ i', i = i' + 1 := ⟨i - 1, by omega⟩
          have HFr := HR.out
          rw [padD_front] at HFr
          have hr0 : r[0]'(by omega) = dig (n / 16 ^ i % 16) := by
            have : r.data.toList[0]'(by rw [HFr, bsG_data]; simp) = dig (n / 16 ^ i % 16) := by simp only [HFr, bsG_data, List.getElem_cons_zero]
            exact this
          have HT := Lib.hid (show r.extract 1 (i + 1) = bsG (padD i n) by
            rw [HFr, bsG_ext, List.drop_one, List.tail_cons]
            exact congrArg bsG (List.take_of_length_le (by rw [padD_len]; omega)))
          have hlt := HN.out
          have HDIV := Lib.hid (show n / 16 ^ i < 16 by
            rw [Nat.div_lt_iff_lt_mul (Nat.pow_pos (by omega))]
            rw [Nat.pow_succ] at hlt
            omega)
          clear HFr hlt
          have hb := HDIV.out
          obtain ⟨f, hf⟩ : ∃ f, n / 16 ^ i = f := ⟨_, rfl⟩
          rw [hf] at hb hr0
          rw [Nat.mod_eq_of_lt hb] at hr0
          have HFE := Lib.hid hf
          clear hf
          have hps2 : r.size ≤ 12 := by omega
          have hpos : 0 < r.size := by omega
          have hpos' : (0 : Int) < (r.size : Int) := by omega
          by_cases hgo : 1 ≤ i ∧ f = 0
          · obtain ⟨g1, rfl⟩ := hgo
            have g1' : (1 : Int) < (r.size : Int) := by omega
            have g1n : (1 : Int) ≤ (r.size : Int) := by omega
            have h48z : (r[0]'hpos).toNat = 48 := by rw [hr0]; rfl
            have HN2 := Lib.hid (show n < 16 ^ i by
              have := HFE.out
              have hp : 0 < 16 ^ i := Nat.pow_pos (by omega)
              rcases Nat.div_eq_zero_iff.1 this with h | h
              · omega
              · exact h)
            have HT2 := Lib.hid (show r.extract 1 r.size = bsG (padD i n) by rw [hrs]; exact HT.out)
            have HRS := Lib.hid hrs
            clear hr0 hrs hb HT
            go_wp2
            go_roundw
            case rel => exact ⟨i, _, g1, by omega, rfl, by first | rfl | trivial, HT2, HN2⟩
            case measure => rw [strLen_str, strLen_str]; have := HRS.out; show (r.extract 1 r.size).size < r.size; rw [HT2.out, bsG_size, padD_len]; omega
          · have hLi : min L 12 = i + 1 := by
              have h1 := lenD_le (i + 1) n (by omega) HN.out
              rw [HL.out] at h1
              by_cases h0 : i = 0
              · subst h0
                have := lenD_pos n
                rw [HL.out] at this
                omega
              · have h2 := (more_lenD i n).1 (Or.inl (by rw [HFE.out]; omega))
                rw [HL.out] at h2
                omega
            have HRR := Lib.hid (HF.out r (by rw [hLi]; exact HR.out))
            have ha1 : ¬ 9223372036854775807 < 1 + r.size := by omega
            have ha2 : ¬ 9223372036854775807 < 1 + r.size + 1 := by omega
            have ha3 : ¬ 9223372036854775807 < 1 + r.size + 1 + 1 := by omega
            clear hLi HT
            by_cases h1 : (1 : Int) < (r.size : Int)
            · have h48z : ¬ ((r[0]'hpos).toNat : Int) = 48 := by
                rw [hr0]
                have hf0 : f ≠ 0 := fun e => hgo ⟨by omega, e⟩
                have hall : ∀ f : Fin 16, f.1 ≠ 0 → ¬ ((dig f.1).toNat : Int) = 48 := by decide +kernel
                exact hall ⟨f, hb⟩ hf0
              clear hr0 hrs hgo hb
              go_wp2
              go_ret
              exact Ret.mk (by rw [HRR.out]; rfl) (by (repeat' (first | (with_reducible exact Below.refl _ _) | (with_reducible assumption) | (with_reducible exact below_app _ _ _ _) | (with_reducible refine below_pre ?_; (simp only [List.append_assoc, List.prefix_append, List.prefix_refl, List.prefix_append_right_inj])) | (with_reducible refine Below.alloc ?_ ?_ _) | (with_reducible refine below_ext ?_ ?_ _) | (with_reducible refine Below.drew ?_) | (with_reducible refine below_drewN ?_ _) | (with_reducible refine Below.setCell ?_ ?_ _) | go_size | (simp only [w_size_ext, List.length_append, World.alloc_size]; omega) | (simp; done) | (simp; omega))))
            · clear hr0 hrs hgo hb
              go_wp2
              go_ret
              exact Ret.mk (by rw [HRR.out]; rfl) (by (repeat' (first | (with_reducible exact Below.refl _ _) | (with_reducible assumption) | (with_reducible exact below_app _ _ _ _) | (with_reducible refine below_pre ?_; (simp only [List.append_assoc, List.prefix_append, List.prefix_refl, List.prefix_append_right_inj])) | (with_reducible refine Below.alloc ?_ ?_ _) | (with_reducible refine below_ext ?_ ?_ _) | (with_reducible refine Below.drew ?_) | (with_reducible refine below_drewN ?_ _) | (with_reducible refine Below.setCell ?_ ?_ _) | go_size | (simp only [w_size_ext, List.length_append, World.alloc_size]; omega) | (simp; done) | (simp; omega))))
      · have h48' : ((n : Int) < 281474976710656) = False := eq_false (by omega)
        have hL12 := Lib.hid (show min L 12 = 12 by
          have := (lt_lenD 12 n (by omega)).2 (by omega)
          rw [HL.out] at this
          omega)
        clear h48 hn64
        obtain ⟨r, hr⟩ : ∃ r, p.extract 4 16 = r := ⟨_, rfl⟩
        have hrs : r.size ≤ 12 := by rw [← hr, HX.out, bsG_size, padD_len]; exact Nat.le_refl _
        have HR := Lib.hid (HF.out r (by rw [← hr, HX.out, hL12.out]))
        clear HX
        have ha1 : ¬ 9223372036854775807 < 1 + r.size := by omega
        have ha2 : ¬ 9223372036854775807 < 1 + r.size + 1 := by omega
        have ha3 : ¬ 9223372036854775807 < 1 + r.size + 1 + 1 := by omega
        go_wp2
        go_ret
        exact Ret.mk (by rw [HR.out]; rfl) (by (repeat' (first | (with_reducible exact Below.refl _ _) | (with_reducible assumption) | (with_reducible exact below_app _ _ _ _) | (with_reducible refine below_pre ?_; (simp only [List.append_assoc, List.prefix_append, List.prefix_refl, List.prefix_append_right_inj])) | (with_reducible refine Below.alloc ?_ ?_ _) | (with_reducible refine below_ext ?_ ?_ _) | (with_reducible refine Below.drew ?_) | (with_reducible refine below_drewN ?_ _) | (with_reducible refine Below.setCell ?_ ?_ _) | go_size | (simp only [w_size_ext, List.length_append, World.alloc_size]; omega) | (simp; done) | (simp; omega))))
end Go.Proofs.YtaingleopdnkiaaDoor
