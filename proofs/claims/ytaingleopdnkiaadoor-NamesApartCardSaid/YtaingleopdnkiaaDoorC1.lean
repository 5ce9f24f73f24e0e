/- Helper lemmas: the reference's word on names is the same. No condition. -/
import Derived.Test.YtaingleopdnkiaaDoorB1
import Derived.Test.YtaingleopdnkiaaDoorA3
import Derived.Test.YtaingleopdnkiaaDoorPParentx1
set_option linter.unusedSimpArgs false
set_option linter.unusedVariables false
namespace Go.Proofs.YtaingleopdnkiaaDoor
open Go.RowKit Go.Proofs.YtaingleopdnkiaaDoorW.PrintWords PParent

theorem index_ge (l : List UInt8) (c : UInt8) : 0 ≤ Lib.indexByte l c ↔ l.any (fun b => b == c) = true := by
  induction l with
  | nil => simp [Lib.indexByte]
  | cons b l ih =>
    have hg := Lib.indexByte_ge l c
    rw [Lib.indexByte, List.any_cons]
    by_cases h : (b == c) = true
    · rw [if_pos h, h]; simp
    · rw [if_neg h]
      have hf : (b == c) = false := by simpa using h
      rw [hf, Bool.false_or, ← ih]
      by_cases h1 : Lib.indexByte l c = -1
      · have : (Lib.indexByte l c == -1) = true := by simpa using h1
        rw [if_pos this]; omega
      · have : ¬ (Lib.indexByte l c == -1) = true := by simpa using h1
        rw [if_neg this]; omega
/-- A slash or a zero among the signs. -/
def badSign (l : List UInt8) : Bool := l.any fun b => b == 47 || b == 0
theorem goodE_eq (s : ByteArray) : goodE s = if s.toList = ([] : List UInt8) then 22 else if s.toList = ([46] : List UInt8) then 22 else if s.toList = ([46, 46] : List UInt8) then 22 else if badSign s.data.toList = true then 22 else if (s.size : Int) > 16 then 36 else 0 := by
  have h : badSign s.data.toList = true ↔ (0 ≤ Lib.indexByte s.data.toList 47 ∨ 0 ≤ Lib.indexByte s.data.toList 0) := by
    rw [index_ge, index_ge]
    unfold badSign
    induction s.data.toList with
    | nil => simp
    | cons b l ih => simp only [List.any_cons, Bool.or_eq_true] at *; rw [ih]; constructor <;> (intro h; rcases h with (h | h) | (h | h) <;> simp [h])
  unfold goodE
  by_cases h1 : 0 ≤ Lib.indexByte s.data.toList 47
  · rw [if_pos (h.2 (Or.inl h1)), if_pos h1]
  · by_cases h2 : 0 ≤ Lib.indexByte s.data.toList 0
    · rw [if_pos (h.2 (Or.inr h2)), if_neg h1, if_pos h2]
    · rw [if_neg (show ¬ badSign s.data.toList = true from fun e => by rcases h.1 e with e | e <;> contradiction), if_neg h1, if_neg h2]
theorem bt_cast (s : ByteArray) (i : Nat) (h : i < s.data.toList.length) : bt s (i : Int) = ((s.data.toList[i]'h).toNat : Int) := by
  have h' : i < s.size := by simpa using h
  unfold bt
  rw [dif_pos (show (i : Int).toNat < s.size by simpa using h')]
  rfl
theorem good_loop (s : ByteArray) (hs : s.size < 4611686018427387904) : ∀ (m i : Nat), i + m = s.size → crannogref04_Good.l0 (m + 1) s (s.size : Int) (i : Int) = some (if badSign (s.data.toList.drop i) = true then 22 else if (s.size : Int) > 16 then 36 else 0)
  | 0, i, h => by
    have hl : s.data.toList.length = s.size := by simp
    rw [crannogref04_Good.l0, if_neg (by omega), List.drop_of_length_le (by omega)]
    by_cases h16 : (s.size : Int) > 16
    · rw [if_pos h16, if_neg (show ¬ badSign [] = true by decide), if_pos h16]
    · rw [if_neg h16, if_neg (show ¬ badSign [] = true by decide), if_neg h16]
  | m + 1, i, h => by
    have hl : s.data.toList.length = s.size := by simp
    have hi : i < s.data.toList.length := by omega
    have ih := good_loop s hs m (i + 1) (by omega)
    have hw : wrap64 ((i : Int) + 1) = ((i + 1 : Nat) : Int) := by rw [wrap64_eq]; omega
    rw [crannogref04_Good.l0, if_pos (by omega), if_pos (by omega), if_pos (by omega), bt_cast s i hi, hw, ih, List.drop_eq_getElem_cons hi]
    have e1 : (((s.data.toList[i]'hi).toNat : Int) = 47) ↔ (s.data.toList[i]'hi == 47) = true := by
      rw [beq_iff_eq, ← UInt8.toNat_inj]
      exact ⟨fun h => by simpa using Int.ofNat.inj h, fun h => by rw [h]; rfl⟩
    have e2 : (((s.data.toList[i]'hi).toNat : Int) = 0) ↔ (s.data.toList[i]'hi == 0) = true := by
      rw [beq_iff_eq, ← UInt8.toNat_inj]
      exact ⟨fun h => by simpa using Int.ofNat.inj h, fun h => by rw [h]; rfl⟩
    generalize s.data.toList[i]'hi = b at *
    unfold badSign
    rw [List.any_cons]
    by_cases h47 : (b == 47) = true
    · rw [if_pos (e1.2 h47), h47]; simp
    · by_cases h0 : (b == 0) = true
      · rw [if_neg (fun e => h47 (e1.1 e)), if_pos (e2.2 h0), h0]; simp
      · have f1 : (b == 47) = false := by simpa using h47
        have f2 : (b == 0) = false := by simpa using h0
        rw [if_neg (fun e => h47 (e1.1 e)), if_neg (fun e => h0 (e2.1 e)), f1, f2, Bool.or_false, Bool.false_or]
theorem ref_good (s : ByteArray) (hs : s.size < 4611686018427387904) : ∃ k, crannogref04_Good.f k s = some (goodE s) := by
  refine ⟨s.size + 2, ?_⟩
  have hl := good_loop s hs s.size 0 (by omega)
  rw [List.drop_zero] at hl
  rw [goodE_eq, crannogref04_Good.f]
  by_cases h1 : s.toList = ([] : List UInt8)
  · rw [if_pos h1, if_pos h1, crannogref04_Good.j0, if_pos rfl]
  rw [if_neg h1, if_neg h1]
  by_cases h2 : s.toList = ([46] : List UInt8)
  · rw [if_pos h2, if_pos h2, crannogref04_Good.j0, if_pos rfl]
  rw [if_neg h2, if_neg h2]
  by_cases h3 : s.toList = ([46, 46] : List UInt8)
  · rw [if_pos h3, h3, crannogref04_Good.j0, if_pos (by decide)]
  rw [if_neg h3, crannogref04_Good.j0, if_neg (by simpa using h3)]
  exact hl
theorem refgood_any (s : ByteArray) (w : World) (hs : s.size < 4611686018427387904) : Calls Tryd.prog 23 #[.string s] w (Ret (.int .i64 (goodE s)) w) := by
  obtain ⟨k, hk⟩ := ref_good s hs
  refine (crannogref04_Good.calls k s (goodE s) w hk).mono ?_
  rintro e w' ⟨rfl, hd⟩
  exact Ret.mk rfl hd.below
end Go.Proofs.YtaingleopdnkiaaDoor
