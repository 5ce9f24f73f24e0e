/- Helper lemmas: the reference's loop lays the same pieces. No condition. -/
import Derived.Test.YtaingleopdnkiaaDoorC1
import Derived.Test.YtaingleopdnkiaaDoorC2
set_option linter.unusedSimpArgs false
set_option linter.unusedVariables false
namespace Go.Proofs.YtaingleopdnkiaaDoor
open Go.RowKit Go.Proofs.YtaingleopdnkiaaDoorW.PrintWords PParent

/-- What has been gone through of a piece, ahead of what comes. -/
def glue (p : List UInt8) : List (List UInt8) → List (List UInt8)
  | x :: r => (p ++ x) :: r
  | [] => [p]
/-- The end of the reference's first loop. -/
def finR (k : Nat) (l : List ByteArray) : Option (List ByteArray × Int) := if (l.length : Int) > 8 then (some (([] : List ByteArray), 36)) else (crannogref04_Split.l1 k l l (l.length : Int) 0)
theorem seg_data (s : ByteArray) (a b : Nat) : (s.extract a b).data.toList = (s.data.toList.drop a).take (b - a) := by
  rw [Lib.extract_data]
theorem refloop (s : ByteArray) (hs : s.size ≤ 120) (k : Nat) : ∀ (m i fr : Nat) (acc : List ByteArray), i + m = s.size → 1 ≤ i → fr ≤ i → acc.length ≤ i →
    ∃ P : List ByteArray, P.map (·.data.toList) = glue ((s.data.toList.drop fr).take (i - fr)) (cuts (s.data.toList.drop i)) ∧ crannogref04_Split.l0 (k + m + 2) s acc (fr : Int) ((s.size : Int) + 1) (i : Int) = finR k (acc ++ P)
  | 0, i, fr, acc, h, h1, hf, ha => by
    have hl : s.data.toList.length = s.size := by simp
    obtain rfl : i = s.size := by omega
    have hw : wrap64 ((s.size : Int) + 1) = ((s.size : Int) + 1) := by rw [wrap64_eq]; omega
    refine ⟨[s.extract fr s.size], ?_, ?_⟩
    · rw [List.drop_of_length_le (show s.data.toList.length ≤ s.size by omega), cuts, glue, List.append_nil, List.map_cons, seg_data]
      rfl
    · show crannogref04_Split.l0 (k + 1 + 1) _ _ _ _ _ = _
      rw [crannogref04_Split.l0, if_pos (by omega), if_pos (by omega), if_pos rfl, if_pos (by omega), if_pos (by omega), if_pos (by omega), if_pos (by omega), hw, Int.toNat_natCast, Int.toNat_natCast]
      rw [crannogref04_Split.l0, if_neg (by omega)]
      rfl
  | m + 1, i, fr, acc, h, h1, hf, ha => by
    have hl : s.data.toList.length = s.size := by simp
    have hi : i < s.data.toList.length := by omega
    have hw : wrap64 ((i : Int) + 1) = ((i + 1 : Nat) : Int) := by rw [wrap64_eq]; omega
    have e1 : (((s.data.toList[i]'hi).toNat : Int) = 47) ↔ (s.data.toList[i]'hi == 47) = true := by
      rw [beq_iff_eq, ← UInt8.toNat_inj]
      exact ⟨fun h => by simpa using Int.ofNat.inj h, fun h => by rw [h]; rfl⟩
    by_cases h47 : (s.data.toList[i]'hi == 47) = true
    · obtain ⟨P, hP, hr⟩ := refloop s hs k m (i + 1) (i + 1) (acc ++ [s.extract fr i]) (by omega) (by omega) (by omega) (by simp; omega)
      refine ⟨s.extract fr i :: P, ?_, ?_⟩
      · rw [List.map_cons, hP, seg_data, List.drop_eq_getElem_cons hi, cuts, if_pos h47, glue, List.append_nil, Nat.sub_self, List.take_zero]
        cases hc : cuts (List.drop (i + 1) s.data.toList) with
        | nil => exact absurd hc (cuts_ne _)
        | cons x r => rfl
      · show crannogref04_Split.l0 (k + m + 2 + 1) _ _ _ _ _ = _
        rw [crannogref04_Split.l0, if_pos (by omega), if_pos (by omega), if_neg (by omega), if_pos (by omega), if_pos (by omega), bt_cast s i hi, if_pos (e1.2 h47), if_pos (by omega), if_pos (by omega), if_pos (by omega), if_pos (by omega), hw, Int.toNat_natCast, Int.toNat_natCast, hr, List.append_assoc]
        rfl
    · obtain ⟨P, hP, hr⟩ := refloop s hs k m (i + 1) fr acc (by omega) (by omega) (by omega) (by omega)
      refine ⟨P, ?_, ?_⟩
      · rw [hP, List.drop_eq_getElem_cons hi, cuts, if_neg h47, show i + 1 - fr = (i - fr) + 1 by omega]
        have hj : i - fr < (s.data.toList.drop fr).length := by rw [List.length_drop]; omega
        rw [List.take_succ_eq_append_getElem hj, List.getElem_drop]
        have hx : fr + (i - fr) = i := by omega
        simp only [hx]
        cases hc : cuts (List.drop (i + 1) s.data.toList) with
        | nil => exact absurd hc (cuts_ne _)
        | cons x r => simp [glue]
      · show crannogref04_Split.l0 (k + m + 2 + 1) _ _ _ _ _ = _
        rw [crannogref04_Split.l0, if_pos (by omega), if_pos (by omega), if_neg (by omega), if_pos (by omega), if_pos (by omega), bt_cast s i hi, if_neg (fun e => h47 (e1.1 e)), hw, hr]
end Go.Proofs.YtaingleopdnkiaaDoor
