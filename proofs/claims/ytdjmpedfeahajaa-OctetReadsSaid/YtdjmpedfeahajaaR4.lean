/- Helper lemmas: what was put, as the numbers that are seen. No condition. -/
import Derived.Test.YtdjmpedfeahajaaR3
set_option linter.unusedSimpArgs false
namespace Go.Proofs.Ytdjmpedfeahajaa
open Go.RowKit Go.Proofs.YtdjmpedfeahajaaW.PrintWords Go.Proofs.YtdjmpedfeahajaaW.PrintMore

theorem putL6_mod (n : Int) : putL 6 n = putL 6 (((n % 281474976710656).toNat : Nat) : Int) := by
  have e : (((n % 281474976710656).toNat : Nat) : Int) = n % 281474976710656 := by omega
  rw [e]
  simp [putL]
  omega
theorem putL1_mod (n : Int) : putL 1 n = putL 1 (((n % 256).toNat : Nat) : Int) := by
  have e : (((n % 256).toNat : Nat) : Int) = n % 256 := by omega
  rw [e]
  simp [putL]
theorem bytesOf_app (x y : List Int) : Lib.bytesOf (x ++ y) = Lib.bytesOf x ++ Lib.bytesOf y := by simp [Lib.bytesOf]
theorem nx_put (k a : Nat) (rest : List Int) (ha : a < 256 ^ k) (hm : a < 9223372036854775808) : Nx (strOfNums (putL k (a : Int) ++ rest)) k a (strOfNums rest) := by
  have hd : (strOfNums (putL k (a : Int) ++ rest)).data.toList = Lib.bytesOf (putL k (a : Int)) ++ Lib.bytesOf rest := by rw [← Lib.toList_data, Lib.strOfNums_toList, bytesOf_app]
  have hl : (Lib.bytesOf (putL k (a : Int))).length = k := by rw [Lib.bytesOf_length, putL_length]
  have hsz : (strOfNums (putL k (a : Int) ++ rest)).size = k + rest.length := by rw [strOfNums_size, List.length_append, putL_length]
  refine ⟨by omega, ?_, hm, ?_⟩
  · unfold numOf
    have h1 := Lib.extract_toList (strOfNums (putL k (a : Int) ++ rest)) 0 k
    rw [Lib.toList_data, hd, List.drop_zero, Nat.sub_zero, List.take_append_of_le_length (by omega), List.take_of_length_le (by omega)] at h1
    rw [h1, beNat_put, Nat.mod_eq_of_lt ha]
  · apply ByteArray.ext
    apply Array.toList_inj.1
    have h1 := Lib.extract_toList (strOfNums (putL k (a : Int) ++ rest)) k (strOfNums (putL k (a : Int) ++ rest)).size
    rw [Lib.toList_data, hd, List.drop_append_of_le_length (by omega), List.drop_of_length_le (by omega), List.nil_append, List.take_of_length_le (by rw [hsz, Lib.bytesOf_length]; omega)] at h1
    rw [h1, ← Lib.toList_data, Lib.strOfNums_toList]
/-- A number's lowest six bytes. -/
def lo6 (n : Int) : Nat := (n % 281474976710656).toNat
def lo1 (n : Int) : Nat := (n % 256).toNat
theorem nx6 (n : Int) (rest : List Int) : Nx (strOfNums (putL 6 n ++ rest)) 6 (lo6 n) (strOfNums rest) := by
  rw [putL6_mod]
  exact nx_put 6 (lo6 n) rest (by unfold lo6; omega) (by unfold lo6; omega)
theorem nx1 (n : Int) (rest : List Int) : Nx (strOfNums (putL 1 n ++ rest)) 1 (lo1 n) (strOfNums rest) := by
  rw [putL1_mod]
  exact nx_put 1 (lo1 n) rest (by unfold lo1; omega) (by unfold lo1; omega)
theorem putR6 (l : List Int) (n : Int) : putR l n 6 = l ++ putL 6 n := by unfold putR; rw [if_pos (by omega)]; rfl
theorem putR1 (l : List Int) (n : Int) : putR l n 1 = l ++ putL 1 n := by unfold putR; rw [if_pos (by omega)]; rfl
theorem all_list (n0 n1 n2 n3 n4 n5 n6 n7 t who : Int) : stampR (vecR [] n0 n1 n2 n3 n4 n5 n6 n7) t who = putL 6 n0 ++ (putL 6 n1 ++ (putL 6 n2 ++ (putL 6 n3 ++ (putL 6 n4 ++ (putL 6 n5 ++ (putL 6 n6 ++ (putL 6 n7 ++ (putL 6 t ++ (putL 1 who ++ []))))))))) := by
  unfold stampR vecR
  simp only [putR6, putR1, List.nil_append, List.append_assoc, List.append_nil]
end Go.Proofs.Ytdjmpedfeahajaa
