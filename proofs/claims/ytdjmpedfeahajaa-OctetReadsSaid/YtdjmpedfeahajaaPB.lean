/- Helper lemmas on numbers as bytes, the highest first. No condition. -/
import Derived.WalkKit
import Derived.Laws.BitsAllLaws
namespace Go.Proofs.Ytdjmpedfeahajaa
open Go.RowKit

/-- The number that bytes are, the highest first. -/
def beNat (l : List UInt8) : Nat := l.foldl (fun m c => m * 256 + c.toNat) 0
theorem beNat_nil : beNat [] = 0 := rfl
theorem beNat_snoc (l : List UInt8) (c : UInt8) : beNat (l ++ [c]) = beNat l * 256 + c.toNat := by simp [beNat, List.foldl_append]
theorem beNat_lt (l : List UInt8) : beNat l < 256 ^ l.length := by
  have key : ∀ (l : List UInt8) (m : Nat), l.foldl (fun m c => m * 256 + c.toNat) m < (m + 1) * 256 ^ l.length := by
    intro l
    induction l with
    | nil => intro m; simp
    | cons c l ih =>
      intro m
      simp only [List.foldl_cons, List.length_cons]
      have h1 := ih (m * 256 + c.toNat)
      have h2 : c.toNat < 256 := c.toNat_lt
      calc _ < (m * 256 + c.toNat + 1) * 256 ^ l.length := h1
        _ ≤ ((m + 1) * 256) * 256 ^ l.length := Nat.mul_le_mul_right _ (by omega)
        _ = (m + 1) * 256 ^ (l.length + 1) := by rw [Nat.pow_succ, Nat.mul_assoc, Nat.mul_comm 256]
  have := key l 0
  simp only [Nat.zero_add, Nat.one_mul] at this
  exact this

theorem wrap64_eq (x : Int) : wrap64 x = (x + 9223372036854775808) % 18446744073709551616 - 9223372036854775808 := by
  unfold wrap64; omega

theorem ofInt_wrap64 (x : Int) : BitVec.ofInt 64 (wrap64 x) = BitVec.ofInt 64 x := by
  apply BitVec.eq_of_toInt_eq
  simp only [BitVec.toInt_ofInt]
  rw [wrap64_eq, Int.bmod_def, Int.bmod_def]
  simp only [show ((2 ^ 64 : Nat) : Int) = 18446744073709551616 from rfl]
  omega

theorem or_byte (M c : Nat) (hc : c < 256) : bits .or .i64 (wrap64 (wrap64 (M : Int) * 256)) (wrap64 (c : Int)) = wrap64 (((M * 256 + c : Nat)) : Int) := by
  have e1 : BitVec.ofInt 64 (wrap64 (wrap64 (M : Int) * 256)) = BitVec.ofNat 64 (M * 256) := by
    rw [ofInt_wrap64, ← BitVec.ofInt_natCast]
    apply BitVec.eq_of_toInt_eq
    simp only [BitVec.toInt_ofInt]
    rw [wrap64_eq, Int.bmod_def, Int.bmod_def]
    simp only [show ((2 ^ 64 : Nat) : Int) = 18446744073709551616 from rfl]
    omega
  have e2 : BitVec.ofInt 64 (wrap64 (c : Int)) = BitVec.ofNat 64 c := by
    rw [ofInt_wrap64, BitVec.ofInt_natCast]
  show IntKind.i64.wrap ((BitVec.ofInt 64 (wrap64 (wrap64 (M : Int) * 256)) ||| BitVec.ofInt 64 (wrap64 (c : Int))).toNat : Int) = _
  rw [e1, e2, BitVec.toNat_or, BitVec.toNat_ofNat, BitVec.toNat_ofNat]
  have h3 : c % 2 ^ 64 = c := Nat.mod_eq_of_lt (by omega)
  have h4 : M * 256 % 2 ^ 64 = 2 ^ 8 * (M % 2 ^ 56) := by omega
  rw [h3, h4, ← Nat.two_pow_add_eq_or_of_lt (by omega : c < 2 ^ 8)]
  rw [IntKind.wrap_i64]
  rw [wrap64_eq]
  omega
end Go.Proofs.Ytdjmpedfeahajaa
