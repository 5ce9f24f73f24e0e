/- What was put, one behind the other, is read so: the law's first loop. No condition. -/
import Derived.Test.YtdjmpedfeahajaaB3
import Derived.Test.YtdjmpedfeahajaaL
set_option linter.unusedSimpArgs false
set_option linter.unusedVariables false
namespace Go.Proofs.Ytdjmpedfeahajaa
open Go.RowKit Go.Proofs.YtdjmpedfeahajaaW.PrintWords Go.Proofs.YtdjmpedfeahajaaW.PrintLast Go.Proofs.YtdjmpedfeahajaaW.PrintMore
attribute [local go_sem] max2_int min2_int max_two min_two

theorem wext_self (W : World) : wext W ⟨[], W.drawn⟩ = W := by simp [wext]
/-- The sizes of texts, each of them 8193 at most. -/
def sumN : List ByteArray → Nat
  | [] => 0
  | s :: l => min s.size 8193 + sumN l
theorem sumN_append (a b : List ByteArray) : sumN (a ++ b) = sumN a + sumN b := by
  induction a with
  | nil => simp [sumN]
  | cons s l ih => simp [sumN, ih]; omega
theorem sumN_take (l : List ByteArray) (i : Nat) (hi : i < l.length) : sumN (l.take (i + 1)) = sumN (l.take i) + min (l.getD i ByteArray.empty).size 8193 := by
  rw [List.take_succ_eq_append_getElem hi, sumN_append, List.getD_eq_getElem?_getD, List.getElem?_eq_getElem hi]
  simp [sumN]
theorem sumN_le (l : List ByteArray) (h : sumN l ≤ 8192) : ∀ s ∈ l, s.size ≤ 8192 := by
  induction l with
  | nil => intro s hs; cases hs
  | cons a l ih =>
    simp only [sumN] at h
    intro s hs
    rcases List.mem_cons.1 hs with rfl | hs
    · omega
    · exact ih (by omega) s hs
theorem width_k (n : Int) : ∃ k : Nat, wrap64 (1 + wrap64 ((IntKind.u64.wrap n).tmod 8)) = (k : Int) ∧ 1 ≤ k ∧ k ≤ 8 := by
  refine ⟨1 + ((n % 18446744073709551616) % 8).toNat, ?_, by omega, by omega⟩
  rw [IntKind.wrap_u64, Int.tmod_eq_emod_of_nonneg (by omega), wrap64_eq, wrap64_eq]
  omega
theorem nat_step (i m : Nat) (h : (i : Int) < (m : Int)) : i + 1 ≤ m := by omega
theorem textB_len (L : List Int) (x : ByteArray) (i : Nat) (h : L.length ≤ 1000 + 9000 * i) (hx : x.size ≤ 8192) : (L ++ textB x).length ≤ 1000 + 9000 * (i + 1) := by
  unfold textB
  rw [List.length_append, List.length_append, putL_length, bytesOf_length]
  omega
theorem meas_step (i m : Nat) (h : (i : Int) < (m : Int)) : ((m : Int) - ((i + 1 : Nat) : Int)).toNat < ((m : Int) - (i : Int)).toNat := by omega
theorem intOf_lit (k : IntKind) (x : Int) : intOf (.int k x) = x := rfl
theorem lt_big (n i m : Nat) (h : n ≤ 1000 + 9000 * i) (hi : (i : Int) < (m : Int)) (hm : m ≤ 100) : n < 140737488254000 := by omega
theorem putR_k (L : List Int) (x : Int) (k : Nat) (h1 : 1 ≤ k) (h8 : k ≤ 8) : putR L x (k : Int) = L ++ putL k x := by
  unfold putR
  rw [if_pos (by omega), Int.toNat_natCast]
theorem textR_B (L : List Int) (x : ByteArray) (h : x.size ≤ 8192) : textR L x = L ++ textB x := by
  unfold textR textB
  rw [show min x.size 65535 = x.size by omega, List.take_of_length_le (by rw [bytesOf_length]; omega)]
  have := putR_k L (x.size : Int) 2 (by omega) (by omega)
  rw [show ((2 : Nat) : Int) = 2 by rfl] at this
  rw [this, List.append_assoc]
theorem nums_take (k : Nat) (l : List Int) (i : Nat) (hi : i < l.length) : (l.take (i + 1)).flatMap (putL k) = (l.take i).flatMap (putL k) ++ putL k (l.getD i 0) := by
  rw [List.take_succ_eq_append_getElem hi, List.flatMap_append, List.getD_eq_getElem?_getD, List.getElem?_eq_getElem hi]
  simp
theorem texts_take (l : List ByteArray) (i : Nat) (hi : i < l.length) : (l.take (i + 1)).flatMap textB = (l.take i).flatMap textB ++ textB (l.getD i ByteArray.empty) := by
  rw [List.take_succ_eq_append_getElem hi, List.flatMap_append, List.getD_eq_getElem?_getD, List.getElem?_eq_getElem hi]
  simp
set_option maxHeartbeats 4000000 in
set_option maxRecDepth 100000 in
theorem back_law (A B : Option Addr) (c d : Nat) (nums : List Int) (texts : List ByteArray) (n : Int) (w : World) (hN : (Kd.int .i64).C w A nums.length nums) (hX : Kd.string.C w B texts.length texts) (hml : texts.length ≤ maxLen) (hmn : nums.length ≤ maxLen) :
    Calls Try.prog 13 #[.slice A nums.length c, .slice B texts.length d, .int .i64 n] w (Ret (.bool true) w) := by
  have CX : ∀ i, i < texts.length → ∃ b' o, B = some ⟨b', o, none⟩ ∧ w.cell? ⟨b', o + i, none⟩ = some (.string (texts.getD i ByteArray.empty)) := by
    intro i hi
    have hr := Kd.reads_of_C (enc := Value.string) (d := ByteArray.empty) (h1 := fun _ => rfl) hX
    obtain ⟨ad, e, hc⟩ := hr.2.2 (by omega)
    obtain ⟨ab, ao, sp⟩ := ad
    have hs : sp = none := by simpa [Addr.add] using World.cell?_spot (hc 0 (by omega))
    subst hs
    have h := hc i hi
    rw [Addr.add_lit] at h
    exact ⟨ab, ao, e, h⟩
  have HX := Lib.hid CX
  have HN0 := Lib.hid hN
  have HX0 := Lib.hid hX
  clear CX hN hX
  simp only [maxLen] at hml hmn
  obtain ⟨m, hm⟩ : ∃ m, nums.length = m := ⟨_, rfl⟩
  obtain ⟨m2, hm2⟩ : ∃ m, texts.length = m := ⟨_, rfl⟩
  rw [hm, hm2]
  rw [hm] at hmn
  rw [hm2] at hml
  have HM := Lib.hid hm
  have HM2 := Lib.hid hm2
  clear hm hm2
  obtain ⟨k, hk, k1, k8⟩ := width_k n
  have CN : ∀ i, i < nums.length → ∃ b' o, A = some ⟨b', o, none⟩ ∧ w.cell? ⟨b', o + i, none⟩ = some (.int .i64 (nums.getD i 0)) := by
    intro i hi
    have hr := Kd.reads_of_C (enc := Value.int .i64) (d := (0 : Int)) (h1 := fun _ => rfl) HN0.out
    obtain ⟨ad, e, hc⟩ := hr.2.2 (by omega)
    obtain ⟨ab, ao, sp⟩ := ad
    have hs : sp = none := by simpa [Addr.add] using World.cell?_spot (hc 0 (by omega))
    subst hs
    have h := hc i hi
    rw [Addr.add_lit] at h
    exact ⟨ab, ao, e, h⟩
  have HN := Lib.hid CN
  clear CN
  have hmf : ∀ (fn : Fn) (first cap : Array Value) (w : World), (Instr.makeFunc fn first cap).run Try.prog w = .ok (.func fn first cap) w := fun _ _ _ _ => rfl
  go_enter Try.func13, Try.ntmps13
  go_wp2
  go_loopw [7, 8] (fun v7 v8 wr => ∃ (i : Nat), i ≤ m2 ∧ i ≤ 101 ∧ v8 = .int .i64 (i : Int) ∧ v7 = .int .i64 (sumN (texts.take i) : Int) ∧ Hid (sumN (texts.take i) ≤ 8192 + 8193) ∧ wr = (w.alloc (.cells #[.slice A m c] 62)).alloc (.cells #[.slice B m2 d] 63)) (fun _ i _ => ((m2 : Int) - intOf i).toNat)
  case atStart => exact ⟨0, Nat.zero_le _, by omega, rfl, rfl, (show sumN [] ≤ _ by decide), by trivial⟩
  case round =>
    obtain ⟨i, hi, hi1, rfl, rfl, HS, rfl⟩ := hrel
    by_cases hc : i < m2 ∧ i ≤ 100 ∧ sumN (texts.take i) ≤ 8192
    · obtain ⟨g1, g2, g3⟩ := hc
      obtain ⟨b', o, eA, hcell⟩ := HX.out i (by have := HM2.out; omega)
      subst eA
      have hlb := leB_of_cell hcell
      have hst := sumN_take texts i (by have := HM2.out; omega)
      obtain ⟨N, hNN⟩ : ∃ N, sumN (texts.take i) = N := ⟨_, rfl⟩
      rw [hNN] at g3 hst HS ⊢
      clear hNN
      generalize texts.getD i ByteArray.empty = x at *
      obtain ⟨q, hq⟩ : ∃ q : Nat, min x.size 8193 = q := ⟨_, rfl⟩
      rw [hq] at hst
      have hq1 : (if (8193 : Int) < (x.size : Int) then (8193 : Int) else (x.size : Int)) = (q : Int) := by split <;> omega
      have hq2 : q ≤ 8193 := by omega
      have g1' : (i : Int) < (m2 : Int) := by omega
      have g2' : (i : Int) ≤ 100 := by omega
      have g3' : (N : Int) ≤ 8192 := by omega
      have hge : (0 : Int) ≤ (i : Int) := by omega
      have hnl : ¬ (i : Int) < 0 := by omega
      have hwr : wrap64 ((i : Int) + 1) = ((i + 1 : Nat) : Int) := by rw [wrap64_eq]; omega
      have hwn : wrap64 ((N : Int) + (q : Int)) = ((N + q : Nat) : Int) := by rw [wrap64_eq]; omega
      have HST := Lib.hid hst
      clear hst hq
      go_wp2
      go_roundw
      case rel => exact ⟨i + 1, by omega, by omega, rfl, by rw [HST.out, Int.natCast_add], (show sumN (texts.take (i + 1)) ≤ _ by rw [HST.out]; omega), by first | rfl | trivial⟩
      case measure => simp [intOf]; omega
    · obtain ⟨N, hNN⟩ : ∃ N, sumN (texts.take i) = N := ⟨_, rfl⟩
      rw [hNN] at hc HS ⊢
      have HNN := Lib.hid hNN
      clear hNN
      have hcc : (¬ (i : Int) < (m2 : Int)) ∨ ((i : Int) < (m2 : Int) ∧ ¬ (i : Int) ≤ 100) ∨ ((i : Int) < (m2 : Int) ∧ (i : Int) ≤ 100 ∧ ¬ (N : Int) ≤ 8192) := by omega
      by_cases p1 : (100 : Int) < (m : Int)
      · clear hc
        rcases hcc with f1 | ⟨f1, f2⟩ | ⟨f1, f2, f3⟩
        all_goals
          go_wp2_with (go_at_call 42; (with_reducible refine (awake01_any _).mono ?_); rintro e1 w1 ⟨rfl, j1, rfl⟩)
          go_ret
          exact Ret.mk (by first | rfl | simp) (by (repeat' (first | (with_reducible exact Below.refl _ _) | (with_reducible assumption) | (with_reducible exact below_app _ _ _ _) | (with_reducible refine below_pre ?_; (simp only [List.append_assoc, List.prefix_append, List.prefix_refl, List.prefix_append_right_inj])) | (with_reducible refine Below.alloc ?_ ?_ _) | (with_reducible refine below_ext ?_ ?_ _) | (with_reducible refine Below.drew ?_) | (with_reducible refine below_drewN ?_ _) | (with_reducible refine Below.setCell ?_ ?_ _) | go_size | (simp only [w_size_ext, List.length_append, World.alloc_size]; omega) | (simp; done) | (simp; omega))))
      · by_cases p2 : (100 : Int) < (m2 : Int)
        · clear hc
          rcases hcc with f1 | ⟨f1, f2⟩ | ⟨f1, f2, f3⟩
          all_goals
            go_wp2_with (go_at_call 42; (with_reducible refine (awake01_any _).mono ?_); rintro e1 w1 ⟨rfl, j1, rfl⟩)
            go_ret
            exact Ret.mk (by first | rfl | simp) (by (repeat' (first | (with_reducible exact Below.refl _ _) | (with_reducible assumption) | (with_reducible exact below_app _ _ _ _) | (with_reducible refine below_pre ?_; (simp only [List.append_assoc, List.prefix_append, List.prefix_refl, List.prefix_append_right_inj])) | (with_reducible refine Below.alloc ?_ ?_ _) | (with_reducible refine below_ext ?_ ?_ _) | (with_reducible refine Below.drew ?_) | (with_reducible refine below_drewN ?_ _) | (with_reducible refine Below.setCell ?_ ?_ _) | go_size | (simp only [w_size_ext, List.length_append, World.alloc_size]; omega) | (simp; done) | (simp; omega))))
        · by_cases p3 : (8192 : Int) < (N : Int)
          · clear hc
            rcases hcc with f1 | ⟨f1, f2⟩ | ⟨f1, f2, f3⟩
            all_goals
              go_wp2_with (go_at_call 42; (with_reducible refine (awake01_any _).mono ?_); rintro e1 w1 ⟨rfl, j1, rfl⟩)
              go_ret
              exact Ret.mk (by first | rfl | simp) (by (repeat' (first | (with_reducible exact Below.refl _ _) | (with_reducible assumption) | (with_reducible exact below_app _ _ _ _) | (with_reducible refine below_pre ?_; (simp only [List.append_assoc, List.prefix_append, List.prefix_refl, List.prefix_append_right_inj])) | (with_reducible refine Below.alloc ?_ ?_ _) | (with_reducible refine below_ext ?_ ?_ _) | (with_reducible refine Below.drew ?_) | (with_reducible refine below_drewN ?_ _) | (with_reducible refine Below.setCell ?_ ?_ _) | go_size | (simp only [w_size_ext, List.length_append, World.alloc_size]; omega) | (simp; done) | (simp; omega))))
          · have f1 : ¬ (i : Int) < (m2 : Int) := by omega
            have HM100 := Lib.hid (show m2 ≤ 100 by omega)
            have HN100 := Lib.hid (show m ≤ 100 by omega)
            clear hc hcc
            go_wp2_with fail
            go_loopw [10, 59] (fun v10 v59 wr => ∃ (i2 : Nat) (A1 : Option Addr) (c1 : Nat) (j2 : Junk) (L : List Int), i2 ≤ m ∧ v10 = .slice A1 L.length c1 ∧ v59 = .int .i64 (i2 : Int) ∧ wr = wext (((w.alloc (.cells #[.slice A m c] 62)).alloc (.cells #[.slice B m2 d] 63)).alloc (.cells #[.int .i64 (k : Int)] 3)) j2 ∧ Hid (L = (nums.take i2).flatMap (putL k)) ∧ Hid (ReadsB wr A1 L) ∧ L.length ≤ c1 ∧ Hid (L.length ≤ 8 * i2)) (fun _ i2 _ => ((m : Int) - intOf i2).toNat)
            case atStart => exact ⟨0, none, 0, ⟨[], _⟩, [], Nat.zero_le _, rfl, rfl, (wext_self _).symm, (show ([] : List Int) = _ by simp), (Kd.R_reads' (Kd.R_nil (Kd.int .u8) 5 _ 0 (fun _ => True))).2.2, Nat.le_refl _, (show ([] : List Int).length ≤ _ by simp)⟩
            case round =>
              obtain ⟨i2, A1, c1, j2, L, hi2, rfl, rfl, rfl, HLe, HL, hLc, HLL⟩ := hrel
              by_cases h0 : i2 = m
              · subst h0
                have HS2 : Hid (∀ s ∈ texts, s.size ≤ 8192) := Lib.hid (sumN_le texts (by
                  have e := HNN.out
                  rw [List.take_of_length_le (by rw [HM2.out]; omega)] at e
                  omega))
                have HLF : Hid (L = nums.flatMap (putL k)) := Lib.hid (by rw [HLe.out, List.take_of_length_le (by rw [HM.out]; exact Nat.le_refl _)])
                go_wp2_with fail
                go_loopw [10, 70] (fun v10 v70 wr => ∃ (i3 : Nat) (A3 : Option Addr) (c3 : Nat) (j3 : Junk) (L3 : List Int), i3 ≤ m2 ∧ v10 = .slice A3 L3.length c3 ∧ v70 = .int .i64 (i3 : Int) ∧ wr = wext (((w.alloc (.cells #[.slice A i2 c] 62)).alloc (.cells #[.slice B m2 d] 63)).alloc (.cells #[.int .i64 (k : Int)] 3)) j3 ∧ Hid (L3 = L ++ (texts.take i3).flatMap textB) ∧ Hid (ReadsB wr A3 L3) ∧ L3.length ≤ c3 ∧ Hid (L3.length ≤ 1000 + 9000 * i3)) (fun _ i3 _ => ((m2 : Int) - intOf i3).toNat)
                case atStart => exact ⟨0, A1, c1, j2, L, Nat.zero_le _, rfl, rfl, rfl, (show L = _ by simp), HL, hLc, (show L.length ≤ _ by have := HLL.out; omega)⟩
                case round =>
                  obtain ⟨i3, A3, c3, j3, L3, hi3, rfl, rfl, rfl, HLe3, HL3, hLc3, HLL3⟩ := hrel
                  clear hml hmn f1 hi hi1 hi2 p2 p3 hLc
                  by_cases h0 : i3 = m2
                  · subst h0
                    have HL3F : Hid (L3 = numsR k nums (textsR texts)) := Lib.hid (by
                      rw [HLe3.out, HLF.out, List.take_of_length_le (by rw [HM2.out]; exact Nat.le_refl _)]
                      rfl)
                    go_wp2_with (first | (go_at_call 48; go_loud ((with_reducible refine (read59 A3 c3 L3 _ _ _ _ A B c d nums texts k _ k1 k8 ?_ ?_ ?_ ?_ ?_ ?_ ?_ ?_ ?_ ?_ ?_ ?_ ).mono ?_)); (· rw [HM.out]; exact HN100.out); (· rw [HM2.out]; exact HM100.out); (· exact Kd.C_below HL3.out (by (repeat' (first | (with_reducible exact Below.refl _ _) | (with_reducible assumption) | (with_reducible exact below_app _ _ _ _) | (with_reducible refine below_pre ?_; (simp only [List.append_assoc, List.prefix_append, List.prefix_refl, List.prefix_append_right_inj])) | (with_reducible refine Below.alloc ?_ ?_ _) | (with_reducible refine below_ext ?_ ?_ _) | (with_reducible refine Below.drew ?_) | (with_reducible refine below_drewN ?_ _) | (with_reducible refine Below.setCell ?_ ?_ _) | go_size | (simp only [w_size_ext, List.length_append, World.alloc_size]; omega) | (simp; done) | (simp; omega))))); (· exact HL3F.out); (· rw [HM.out]; go_cell); (· go_cell); (· go_cell); (· simp [go_sem]); (· rw [HM2.out]; go_cell); (· intro i hi; obtain ⟨b', o, e, h⟩ := HN.out i hi; have hlt := World.block_lt_of_cell? w _ h; simp only at hlt; exact ⟨b', o, e, by rw [Below.cell (B := w.heap.size) (w := w) (p := ⟨b', o + i, none⟩) (by (repeat' (first | (with_reducible exact Below.refl _ _) | (with_reducible assumption) | (with_reducible exact below_app _ _ _ _) | (with_reducible refine below_pre ?_; (simp only [List.append_assoc, List.prefix_append, List.prefix_refl, List.prefix_append_right_inj])) | (with_reducible refine Below.alloc ?_ ?_ _) | (with_reducible refine below_ext ?_ ?_ _) | (with_reducible refine Below.drew ?_) | (with_reducible refine below_drewN ?_ _) | (with_reducible refine Below.setCell ?_ ?_ _) | go_size | (simp only [w_size_ext, List.length_append, World.alloc_size]; omega) | (simp; done) | (simp; omega)))) hlt]; exact h⟩); (· intro i hi; obtain ⟨b', o, e, h⟩ := HX.out i hi; have hlt := World.block_lt_of_cell? w _ h; simp only at hlt; exact ⟨b', o, e, by rw [Below.cell (B := w.heap.size) (w := w) (p := ⟨b', o + i, none⟩) (by (repeat' (first | (with_reducible exact Below.refl _ _) | (with_reducible assumption) | (with_reducible exact below_app _ _ _ _) | (with_reducible refine below_pre ?_; (simp only [List.append_assoc, List.prefix_append, List.prefix_refl, List.prefix_append_right_inj])) | (with_reducible refine Below.alloc ?_ ?_ _) | (with_reducible refine below_ext ?_ ?_ _) | (with_reducible refine Below.drew ?_) | (with_reducible refine below_drewN ?_ _) | (with_reducible refine Below.setCell ?_ ?_ _) | go_size | (simp only [w_size_ext, List.length_append, World.alloc_size]; omega) | (simp; done) | (simp; omega)))) hlt]; exact h⟩); (· exact fun i hi => HS2.out _ (by rw [List.getD_eq_getElem?_getD, List.getElem?_eq_getElem hi]; exact List.getElem_mem _)); rintro e1 w1 ⟨rfl, j4, rfl⟩) | (go_at_call 42; (with_reducible refine (awake01_any _).mono ?_); rintro e1 w1 ⟨rfl, j1, rfl⟩))
                    go_ret
                    exact Ret.mk (by first | rfl | simp) (by (repeat' (first | (with_reducible exact Below.refl _ _) | (with_reducible assumption) | (with_reducible exact below_app _ _ _ _) | (with_reducible refine below_pre ?_; (simp only [List.append_assoc, List.prefix_append, List.prefix_refl, List.prefix_append_right_inj])) | (with_reducible refine Below.alloc ?_ ?_ _) | (with_reducible refine below_ext ?_ ?_ _) | (with_reducible refine Below.drew ?_) | (with_reducible refine below_drewN ?_ _) | (with_reducible refine Below.setCell ?_ ?_ _) | go_size | (simp only [w_size_ext, List.length_append, World.alloc_size]; omega) | (simp; done) | (simp; omega))))
                  · obtain ⟨b', o, eA, hcell⟩ := HX.out i3 (by have := HM2.out; omega)
                    subst eA
                    have hlb := leB_of_cell hcell
                    have hmem : texts.getD i3 ByteArray.empty ∈ texts := by
                      rw [List.getD_eq_getElem?_getD, List.getElem?_eq_getElem (by have := HM2.out; omega)]
                      exact List.getElem_mem _
                    have HXS := Lib.hid (HS2.out _ hmem)
                    have hnt := Lib.hid (texts_take texts i3 (by have := HM2.out; omega))
                    clear hmem
                    generalize texts.getD i3 ByteArray.empty = x at *
                    have g1' : (i3 : Int) < (m2 : Int) := by omega
                    have hge : (0 : Int) ≤ (i3 : Int) := by omega
                    have hnl : ¬ (i3 : Int) < 0 := by omega
                    have hwr : wrap64 ((i3 : Int) + 1) = ((i3 + 1 : Nat) : Int) := by
                      have := HM100.out
                      rw [wrap64_eq]; omega
                    go_wp2_with (go_at_call 57; go_loud ((with_reducible refine (text_gen A3 c3 L3 x _ ?_ hLc3 ?_).mono ?_)); (· exact Kd.C_below HL3.out (by (repeat' (first | (with_reducible exact Below.refl _ _) | (with_reducible assumption) | (with_reducible exact below_app _ _ _ _) | (with_reducible refine below_pre ?_; (simp only [List.append_assoc, List.prefix_append, List.prefix_refl, List.prefix_append_right_inj])) | (with_reducible refine Below.alloc ?_ ?_ _) | (with_reducible refine below_ext ?_ ?_ _) | (with_reducible refine Below.drew ?_) | (with_reducible refine below_drewN ?_ _) | (with_reducible refine Below.setCell ?_ ?_ _) | go_size | (simp only [w_size_ext, List.length_append, World.alloc_size]; omega) | (simp; done) | (simp; omega))))); (· exact lt_big _ _ _ HLL3.out g1' HM100.out); rw [textR_B L3 x HXS.out]; rintro e1 w1 ⟨A4, c4, rfl, kc4, j1, rfl, h4⟩; (try simp only [w_ext_ext] at h4); have H4 := Lib.hid h4; clear h4)
                    go_roundw
                    case rel =>
                      have q1 : L3 ++ textB x = L ++ (texts.take (i3 + 1)).flatMap textB := by rw [hnt.out, ← List.append_assoc, ← HLe3.out]
                      have q2 := textB_len L3 x i3 HLL3.out HXS.out
                      exact ⟨i3 + 1, A4, c4, ⟨j3.l ++ j1.l, j1.m⟩, L3 ++ textB x, nat_step _ _ g1', by rw [List.length_append], by rw [hwr], rfl, Lib.hid q1, H4, kc4, Lib.hid q2⟩
                    case measure =>
                      rw [intOf_lit, intOf_lit, hwr]
                      exact meas_step _ _ g1'
              · obtain ⟨b', o, eA, hcell⟩ := HN.out i2 (by have := HM.out; omega)
                subst eA
                have hlb := leB_of_cell hcell
                have hnt := Lib.hid (nums_take k nums i2 (by have := HM.out; omega))
                generalize nums.getD i2 0 = x at *
                have g1' : (i2 : Int) < (m : Int) := by omega
                have hge : (0 : Int) ≤ (i2 : Int) := by omega
                have hnl : ¬ (i2 : Int) < 0 := by omega
                have hwr : wrap64 ((i2 : Int) + 1) = ((i2 + 1 : Nat) : Int) := by rw [wrap64_eq]; omega
                go_wp2_with (go_at_call 47; go_loud ((with_reducible refine (put_gen A1 c1 L x (k : Int) _ ?_ hLc ?_).mono ?_)); (· exact Kd.C_below HL.out (by (repeat' (first | (with_reducible exact Below.refl _ _) | (with_reducible assumption) | (with_reducible exact below_app _ _ _ _) | (with_reducible refine below_pre ?_; (simp only [List.append_assoc, List.prefix_append, List.prefix_refl, List.prefix_append_right_inj])) | (with_reducible refine Below.alloc ?_ ?_ _) | (with_reducible refine below_ext ?_ ?_ _) | (with_reducible refine Below.drew ?_) | (with_reducible refine below_drewN ?_ _) | (with_reducible refine Below.setCell ?_ ?_ _) | go_size | (simp only [w_size_ext, List.length_append, World.alloc_size]; omega) | (simp; done) | (simp; omega))))); (· have := HLL.out; omega); rw [putR_k L x k k1 k8]; rintro e1 w1 ⟨A2, c2, rfl, kc2, j1, rfl, h2⟩; (try simp only [w_ext_ext] at h2); have H2 := Lib.hid h2; clear h2)
                go_roundw
                case rel => exact ⟨i2 + 1, A2, c2, _, L ++ putL k x, by omega, by rw [List.length_append], rfl, rfl, (show L ++ putL k x = _ by rw [hnt.out, ← HLe.out]), H2, kc2, (show (L ++ putL k x).length ≤ _ by have := HLL.out; rw [List.length_append, putL_length]; omega)⟩
                case measure => simp [intOf]; omega
end Go.Proofs.Ytdjmpedfeahajaa
