/- Helper lemmas: a number as bytes, the highest first: what Put lays, how those compare, and which number they are. No condition. -/
import Derived.Test.YtdjmpedfeahajaaO5
import Derived.Lib.Bytes
import Derived.Lib.Bytealg
set_option linter.unusedSimpArgs false
namespace Go.Proofs.Ytdjmpedfeahajaa
open Go.RowKit Go.Proofs.YtdjmpedfeahajaaW.PrintWords Go.Proofs.YtdjmpedfeahajaaW.PrintMore

/-- A number's i lowest bytes, the highest first. -/
def putL : Nat → Int → List Int
  | 0, _ => []
  | i + 1, n => n / 256 ^ i % 256 :: putL i n
theorem putL_length (i : Nat) (n : Int) : (putL i n).length = i := by induction i <;> simp [putL, *]
theorem putL_range (i : Nat) (n : Int) : ∀ x ∈ putL i n, 0 ≤ x ∧ x < 256 := by
  induction i with
  | zero => simp [putL]
  | succ i ih =>
    intro x hx
    rcases List.mem_cons.1 hx with rfl | hx
    · omega
    · exact ih x hx

theorem shr_8 (n : Int) (i : Nat) (hi : i < 8) : shr .i64 n (wrap64 (8 * (i : Int))) = n / 256 ^ i := by
  rw [show (8 * (i : Int)) = ((8 * i : Nat) : Int) by omega, wrap64_small (8 * i) (by omega)]
  unfold shr
  rw [show min (((8 * i : Nat) : Int)).toNat IntKind.i64.bits = 8 * i by simp [IntKind.bits]; omega, show (256 : Int) = 2 ^ 8 by rfl, ← Int.pow_mul]

theorem put_loop (n : Int) : ∀ (i : Nat) (acc : List Int), i ≤ 8 → acc.length + i < 140737488355328 → PVectorOrder.octet_Put.l0 (i + 1) n acc ((i : Int) - 1) = some (acc ++ putL i n) := by
  intro i
  induction i with
  | zero => intro acc _ _; simp [PVectorOrder.octet_Put.l0, putL]
  | succ i ih =>
    intro acc hi ha
    have h1 := ih (acc ++ [n / 256 ^ i % 256]) (by omega) (by simp; omega)
    have e1 : (((i + 1 : Nat)) : Int) - 1 = (i : Int) := by omega
    have e2 : wrap64 ((i : Int) - 1) = (i : Int) - 1 := by rw [wrap64_eq]; omega
    rw [e1]
    unfold PVectorOrder.octet_Put.l0
    rw [if_pos (by omega), if_pos (by rw [show (8 * (i : Int)) = ((8 * i : Nat) : Int) by omega, wrap64_small (8 * i) (by omega)]; omega), if_pos (by omega), shr_8 n i (by omega), e2, h1]
    simp [putL]

theorem put_pure (l : List Int) (n : Int) (w : Nat) (h1 : 1 ≤ w) (h8 : w ≤ 8) (hl : l.length < 140737488355000) : PVectorOrder.octet_Put.f 9 l n (w : Int) = some (l ++ putL w n) := by
  have hw : PVectorOrder.octet_wide.f (w : Int) = some true := by
    unfold PVectorOrder.octet_wide.f
    rw [if_pos (by omega)]; simp; omega
  have e : wrap64 ((w : Int) - 1) = (w : Int) - 1 := by rw [wrap64_eq]; omega
  simp only [PVectorOrder.octet_Put.f, Option.bind_some, List.length_nil, Nat.zero_add, List.nil_append, hw, if_true, e]
  rw [if_pos (by omega)]
  have mono : ∀ d k, LeO (PVectorOrder.octet_Put.l0 k n l ((w : Int) - 1)) (PVectorOrder.octet_Put.l0 (k + d) n l ((w : Int) - 1)) := by
    intro d
    induction d with
    | zero => intro k; exact LeO.refl _
    | succ d ih => intro k; exact (ih k).trans (PVectorOrder.octet_Put.mono_l (k + d) _ _ _)
  have := mono (8 - w) (w + 1) _ (put_loop n w l h8 (by omega))
  rw [show w + 1 + (8 - w) = 9 by omega] at this
  exact this

theorem put_bad (l : List Int) (n w : Int) (h : ¬ (1 ≤ w ∧ w ≤ 8)) (hl : l.length < 140737488355000) : PVectorOrder.octet_Put.f 9 l n w = some l := by
  have hw : PVectorOrder.octet_wide.f w = some false := by
    unfold PVectorOrder.octet_wide.f
    split
    · simp; omega
    · rfl
  simp only [PVectorOrder.octet_Put.f, Option.bind_some, List.length_nil, Nat.zero_add, List.nil_append, hw]
  rw [if_pos (by omega)]
  rfl

/-- The same on numbers from 0 on. -/
theorem bytes_cons (i a : Nat) : Lib.bytesOf (putL (i + 1) (a : Int)) = UInt8.ofNat (a / 256 ^ i % 256) :: Lib.bytesOf (putL i (a : Int)) := by
  have e : (a : Int) / 256 ^ i % 256 = ((a / 256 ^ i % 256 : Nat) : Int) := by simp
  simp only [putL, Lib.bytesOf, List.map_cons]
  rw [e, Int.toNat_natCast]

/-- How two numbers stand. -/
def cmpN (a b : Nat) : Int := if a < b then -1 else if b < a then 1 else 0
theorem cmp_put (i a b : Nat) : Lib.compareBytes (Lib.bytesOf (putL i (a : Int))) (Lib.bytesOf (putL i (b : Int))) = cmpN (a % 256 ^ i) (b % 256 ^ i) := by
  induction i with
  | zero => simp [putL, Lib.bytesOf, Lib.compareBytes, cmpN, Nat.mod_one]
  | succ i ih =>
    rw [bytes_cons, bytes_cons]
    simp only [Lib.compareBytes, ih]
    have key : ∀ x : Nat, x % 256 ^ (i + 1) = 256 ^ i * (x / 256 ^ i % 256) + x % 256 ^ i := fun x => by
      rw [Nat.pow_succ, Nat.mod_mul, Nat.add_comm]
    have hp : 0 < 256 ^ i := Nat.pow_pos (by decide)
    have ra := Nat.mod_lt a hp
    have rb := Nat.mod_lt b hp
    have lt_iff : ∀ x y : Nat, x < 256 → y < 256 → (UInt8.ofNat x < UInt8.ofNat y ↔ x < y) := fun x y hx hy => by
      rw [UInt8.lt_iff_toNat_lt, UInt8.toNat_ofNat', UInt8.toNat_ofNat']
      rw [Nat.mod_eq_of_lt (by simpa using hx), Nat.mod_eq_of_lt (by simpa using hy)]
    rw [key a, key b]
    generalize ha : a / 256 ^ i % 256 = p
    generalize hb : b / 256 ^ i % 256 = q
    have hp' : p < 256 := by omega
    have hq' : q < 256 := by omega
    simp only [lt_iff p q hp' hq', lt_iff q p hq' hp']
    generalize a % 256 ^ i = r at *
    generalize b % 256 ^ i = t at *
    generalize 256 ^ i = z at *
    unfold cmpN
    rcases Nat.lt_trichotomy p q with h | rfl | h
    · rw [if_pos h]
      have : z * p + z ≤ z * q := by rw [← Nat.mul_succ]; exact Nat.mul_le_mul_left _ h
      rw [if_pos (by omega)]
    · simp only [if_neg (Nat.lt_irrefl _), Nat.add_lt_add_iff_left]
    · have : z * q + z ≤ z * p := by rw [← Nat.mul_succ]; exact Nat.mul_le_mul_left _ h
      rw [if_neg (by omega), if_pos h, if_neg (by omega), if_pos (by omega)]

theorem beNat_cons (c : UInt8) (l : List UInt8) : beNat (c :: l) = c.toNat * 256 ^ l.length + beNat l := by
  have key : ∀ (l : List UInt8) (m : Nat), l.foldl (fun m c => m * 256 + c.toNat) m = m * 256 ^ l.length + beNat l := by
    intro l
    induction l with
    | nil => intro m; simp [beNat]
    | cons d l ih =>
      intro m
      have h1 := ih (m * 256 + d.toNat)
      have h2 := ih d.toNat
      simp only [List.foldl_cons, List.length_cons, beNat] at h1 h2 ⊢
      rw [h1, Nat.zero_mul, Nat.zero_add, h2, Nat.pow_succ, Nat.add_mul, Nat.mul_assoc, Nat.mul_comm 256, Nat.add_assoc]
  have := key l c.toNat
  simp only [beNat, List.foldl_cons, Nat.zero_mul, Nat.zero_add] at this ⊢
  exact this
theorem beNat_put (i a : Nat) : beNat (Lib.bytesOf (putL i (a : Int))) = a % 256 ^ i := by
  induction i with
  | zero => simp [putL, Lib.bytesOf, beNat, Nat.mod_one]
  | succ i ih =>
    rw [bytes_cons, beNat_cons, ih, Lib.bytesOf_length, putL_length, UInt8.toNat_ofNat', Nat.mod_eq_of_lt (show a / 256 ^ i % 256 < 2 ^ 8 by omega), Nat.pow_succ, Nat.mod_mul, Nat.add_comm, Nat.mul_comm]
end Go.Proofs.Ytdjmpedfeahajaa
