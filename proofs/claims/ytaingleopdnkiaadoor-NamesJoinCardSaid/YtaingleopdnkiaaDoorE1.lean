/- Helper lemmas: whether names may be gone through here, with what that says; a copy of names; what Join answers. No condition. -/
import Derived.Test.YtaingleopdnkiaaDoorD1
import Derived.Test.YtaingleopdnkiaaDoorJShelf
import Derived.Lib.Join
set_option linter.unusedSimpArgs false
set_option linter.unusedVariables false
namespace Go.Proofs.YtaingleopdnkiaaDoor
open Go.RowKit

/-- How many bytes texts have together. -/
def totL (l : List ByteArray) : Nat := (l.map (fun x => x.size)).sum
theorem totL_take (l : List ByteArray) (i : Nat) (h : i < l.length) : totL (l.take (i + 1)) = totL (l.take i) + (l.getD i ByteArray.empty).size := by
  unfold totL
  rw [List.take_succ_eq_append_getElem h, List.map_append, List.sum_append, List.getD_eq_getElem?_getD, List.getElem?_eq_getElem h]
  simp
/-- Some bool comes back; true says that the texts are few and short. -/
def ShortB (l : List ByteArray) (w : World) (e : Ending) (w' : World) : Prop := ∃ b, e = .returned (.bool b) ∧ w' = w ∧ (b = true → l.length ≤ 40 ∧ totL l ≤ 4096)
theorem ShortB.mk {l : List ByteArray} {w w' : World} {v : Value} (bv : Bool) (he : v = .bool bv) (hw : w' = w) (h : bv = true → l.length ≤ 40 ∧ totL l ≤ 4096) : ShortB l w (.returned v) w' := ⟨bv, by rw [he], hw, h⟩
set_option maxHeartbeats 2000000 in
set_option maxRecDepth 100000 in
theorem short_tells (A : Option Addr) (c : Nat) (x : List ByteArray) (w : World) (hA : StrsAt w A x) (hm : x.length ≤ maxLen) : Calls Tryd.prog 17 #[.slice A x.length c] w (ShortB x w) := by
  have HA := Lib.hid hA
  obtain ⟨n, hn⟩ : ∃ n, x.length = n := ⟨_, rfl⟩
  rw [hn] at hm ⊢
  have HN := Lib.hid hn
  simp only [maxLen] at hm
  clear hA hn
  go_enter Tryd.func17, Tryd.ntmps17
  go_wp2
  go_loopw [3, 4] (fun v3 v4 wr => ∃ (i N : Nat), i ≤ n ∧ i ≤ 41 ∧ N ≤ 9000 ∧ v4 = .int .i64 (i : Int) ∧ v3 = .int .i64 (N : Int) ∧ wr = w ∧ Hid (N ≤ 4096 → totL (x.take i) = N)) (fun _ i _ => ((n : Int) - intOf i).toNat)
  case atStart => exact ⟨0, 0, Nat.zero_le _, by omega, by omega, rfl, rfl, by first | rfl | trivial, Lib.hid fun _ => by simp [totL]⟩
  case round =>
    obtain ⟨i, N, hi, hi1, hN, rfl, rfl, rfl, HT⟩ := hrel
    by_cases hc : i < n ∧ i ≤ 40 ∧ N ≤ 4096
    · obtain ⟨g1, g2, g3⟩ := hc
      obtain ⟨b, o, eA, hcell⟩ := HA.out i (by rw [HN.out]; exact g1)
      have HS := Lib.hid (totL_take x i (by rw [HN.out]; exact g1))
      subst eA
      have hlb := leB_of_cell hcell
      generalize x.getD i ByteArray.empty = q at *
      obtain ⟨k, hk⟩ : ∃ k : Nat, min (q.size : Int) 4097 = (k : Int) := ⟨min q.size 4097, by omega⟩
      have hk2 : k ≤ 4097 := by omega
      have hk4 : k ≤ 4096 → k = q.size := by omega
      have HK := Lib.hid (show N + k ≤ 4096 → totL (x.take (i + 1)) = N + k from fun h => by rw [HS.out, HT.out (by omega), hk4 (by omega)])
      clear hk4
      have hk3 : (if (4097 : Int) < (q.size : Int) then (4097 : Int) else (q.size : Int)) = (k : Int) := by split <;> omega
      have g1' : (i : Int) < (n : Int) := by omega
      have g2' : (i : Int) ≤ 40 := by omega
      have g3' : (N : Int) ≤ 4096 := by omega
      have hge : (0 : Int) ≤ (i : Int) := by omega
      have hnl : ¬ (i : Int) < 0 := by omega
      have hwr : wrap64 ((i : Int) + 1) = ((i + 1 : Nat) : Int) := by rw [wrap64_eq]; omega
      have hwn : wrap64 ((N : Int) + (k : Int)) = ((N + k : Nat) : Int) := by rw [wrap64_eq]; omega
      go_wp2
      go_roundw
      case rel => exact ⟨i + 1, N + k, by omega, by omega, by omega, by first | rfl | rw [hwr], by first | rfl | rw [hwn] | skip, by first | rfl | trivial, HK⟩
      case measure => first | (simp [intOf]; omega) | (rw [intOf_lit, intOf_lit, hwr]; exact meas_step _ _ g1')
    · have hcc : (¬ (i : Int) < (n : Int)) ∨ ((i : Int) < (n : Int) ∧ ¬ (i : Int) ≤ 40) ∨ ((i : Int) < (n : Int) ∧ (i : Int) ≤ 40 ∧ ¬ (N : Int) ≤ 4096) := by omega
      clear hc
      have HE := Lib.hid (show ¬ (i : Int) < (n : Int) → N ≤ 4096 → totL x ≤ 4096 from fun h1 h2 => by
        have h3 := HT.out h2
        rw [List.take_of_length_le (by rw [HN.out]; omega)] at h3
        omega)
      by_cases p1 : (n : Int) ≤ 40
      · rcases hcc with f1 | ⟨f1, f2⟩ | ⟨f1, f2, f3⟩
        · by_cases p2 : (N : Int) ≤ 4096
          · have HF := Lib.hid (HE.out f1 (by omega))
            go_wp2
            go_ret
            exact ShortB.mk true (by first | rfl | simp [p1, p2]) rfl (fun _ => ⟨by rw [HN.out]; omega, HF.out⟩)
          · go_wp2
            go_ret
            exact ShortB.mk false (by first | rfl | simp [p1, p2]) rfl (fun h => by cases h)
        · omega
        · go_wp2
          go_ret
          exact ShortB.mk false (by first | rfl | simp [p1, f3]) rfl (fun h => by cases h)
      · rcases hcc with f1 | ⟨f1, f2⟩ | ⟨f1, f2, f3⟩
        all_goals
          go_wp2
          go_ret
          exact ShortB.mk false (by first | rfl | simp [p1]) rfl (fun h => by cases h)
/-- Texts that were laid anew, as a slice. -/
def NewP (l : List ByteArray) (w : World) : Ending → World → Prop := fun e w' => ∃ (A : Option Addr) (c : Nat), e = .returned (.slice A l.length c) ∧ Hid (Below w.heap.size w w') ∧ Hid (StrsAt w' A l) ∧ Hid (l.length ≤ c) ∧ Hid (c ≤ maxLen) ∧ Hid (A = none → l.length = 0)
theorem NewP.own {l : List ByteArray} {w w' : World} {v : Value} (ho : w'.ownsRow w.heap.size 9 1 v l.length (l.map Value.string)) (hb : Below w.heap.size w w') : NewP l w (.returned v) w' := by
  obtain ⟨_, ⟨rfl, h0⟩ | ⟨g, cap, cur, rfl, h1, h2, h3, h4, h5, h6⟩⟩ := id ho
  · refine ⟨none, 0, by rw [h0], Lib.hid hb, Lib.hid fun i hi => by omega, Lib.hid (by omega), Lib.hid (Nat.zero_le _), Lib.hid fun _ => h0⟩
  refine ⟨some ⟨g, 0, none⟩, cap, rfl, Lib.hid hb, Lib.hid fun i hi => ⟨g, 0, rfl, ?_⟩, Lib.hid (by omega), Lib.hid h4, Lib.hid fun h => by cases h⟩
  have hc := ho.cells (g := g) rfl i (.string (l.getD i ByteArray.empty)) (by
    rw [List.getElem?_map, List.getElem?_eq_getElem hi, List.getD_eq_getElem?_getD, List.getElem?_eq_getElem hi]; rfl)
  have ha : (⟨g, 0, none⟩ : Addr).add i = ⟨g, 0 + i, none⟩ := by unfold Addr.add; split <;> simp_all
  rwa [ha] at hc
theorem clone_new (A : Option Addr) (c : Nat) (l : List ByteArray) (w : World) (hA : StrsAt w A l) (h0 : A = none → l.length = 0) (hl : l.length ≤ 40) : Calls Tryd.prog 25 #[.slice A l.length c] w (NewP l w) := by
  rcases A with _ | ⟨b, o, sp⟩
  · have hz := h0 rfl
    obtain rfl : l = [] := List.eq_nil_of_length_eq_zero hz
    refine (Tryd.slices_Clone_string_nil 0 c w).mono ?_
    rintro e w' ⟨rfl, rfl⟩
    exact ⟨none, 0, rfl, Lib.hid (Below.refl _ _), Lib.hid fun i hi => by simp at hi, Lib.hid (Nat.le_refl _), Lib.hid (Nat.zero_le _), Lib.hid fun _ => rfl⟩
  · rcases l with _ | ⟨x, l⟩
    · refine (Tryd.slices_Clone_string_zero _ c w).mono ?_
      rintro e w' ⟨v, rfl, ho, _, hb⟩
      exact NewP.own ho hb
    · obtain ⟨b', o', eA, _⟩ := hA 0 (by simp)
      injection eA with eA
      rw [eA]
      refine (Tryd.slices_Clone_string b' o' _ c (x :: l) w (Nat.le_refl _) (by omega) (fun j hj => ?_)).mono ?_
      · obtain ⟨b2, o2, e2, h2⟩ := hA j hj
        injection e2 with e2
        rw [eA] at e2
        injection e2 with e3 e4
        rw [e3, e4]
        exact h2
      · rintro e w' ⟨v, rfl, ho, _, hb⟩
        rw [List.take_length] at ho
        exact NewP.own ho hb
end Go.Proofs.YtaingleopdnkiaaDoor
