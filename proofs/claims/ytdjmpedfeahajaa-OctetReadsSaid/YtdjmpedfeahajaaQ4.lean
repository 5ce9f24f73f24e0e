/- Helper lemmas: the document's Put and PutText as lists, and the program's: both lay the same bytes. No condition. -/
import Derived.Test.YtdjmpedfeahajaaQ3
import Derived.Lib.Bytes
import Derived.Test.YtdjmpedfeahajaaPPutTextx1
set_option linter.unusedSimpArgs false
namespace Go.Proofs.Ytdjmpedfeahajaa
open Go.RowKit Go.Proofs.YtdjmpedfeahajaaW.PrintWords Go.Proofs.YtdjmpedfeahajaaW.PrintMore Go.Proofs.YtdjmpedfeahajaaW.PrintLast

/-- What Put lays behind bytes. -/
def putR (l : List Int) (n w : Int) : List Int := if 1 ≤ w ∧ w ≤ 8 then l ++ putL w.toNat n else l
theorem putR_length (l : List Int) (n w : Int) : (putR l n w).length ≤ l.length + 8 := by
  unfold putR
  split
  · rw [List.length_append, putL_length]; omega
  · omega
theorem put_all (l : List Int) (n w : Int) (hl : l.length < 140737488355000) : PVectorOrder.octet_Put.f 9 l n w = some (putR l n w) := by
  unfold putR
  split
  · rename_i h
    have := put_pure l n w.toNat (by omega) (by omega) hl
    rw [show ((w.toNat : Nat) : Int) = w by omega] at this
    exact this
  · exact put_bad l n w (by assumption) hl

theorem rput_div (n : Int) (i : Nat) (hi : i < 8) : (n % 18446744073709551616) / 256 ^ i % 256 = n / 256 ^ i % 256 := by
  have h : i = 0 ∨ i = 1 ∨ i = 2 ∨ i = 3 ∨ i = 4 ∨ i = 5 ∨ i = 6 ∨ i = 7 := by omega
  rcases h with rfl | rfl | rfl | rfl | rfl | rfl | rfl | rfl <;> simp <;> omega

theorem len_lt (x : Int) (L : List Int) (h : L.length ≤ 8) : ([x] : List Int).length + L.length < 140737488355328 := by
  simp only [List.length_singleton]
  omega
theorem rput_loop (l : List Int) (n : Int) (w : Nat) (h8 : w ≤ 8) (hl : l.length < 140737488355000) : ∀ (d i : Nat), i + d = w →
    PPutText.crannogref01_Put.l0 (d + 1) l (n % 18446744073709551616 / 256 ^ i) (putL i n) (w : Int) (i : Int) = some (l ++ putL w n) := by
  intro d
  induction d with
  | zero =>
    intro i hi
    obtain rfl : i = w := by omega
    unfold PPutText.crannogref01_Put.l0
    rw [if_neg (by omega), if_pos (by rw [putL_length]; omega)]
  | succ d ih =>
    intro i hi
    have h1 := ih (i + 1) (by omega)
    unfold PPutText.crannogref01_Put.l0
    have hp : (0 : Int) ≤ n % 18446744073709551616 / 256 ^ i := Int.ediv_nonneg (by omega) (Int.le_of_lt (Int.pow_pos (by decide)))
    have e1 : Int.tmod (n % 18446744073709551616 / 256 ^ i) 256 % 256 = n / 256 ^ i % 256 := by
      rw [Int.tmod_eq_emod_of_nonneg hp, Int.emod_emod_of_dvd _ (Int.dvd_refl _), rput_div n i (by omega)]
    have e2 : IntKind.u64.wrap (Int.tdiv (n % 18446744073709551616 / 256 ^ i) 256) = n % 18446744073709551616 / 256 ^ (i + 1) := by
      rw [Int.tdiv_eq_ediv_of_nonneg hp, Int.ediv_ediv_of_nonneg (Int.le_of_lt (Int.pow_pos (by decide))), ← Int.pow_succ]
      generalize hz : n % 18446744073709551616 / 256 ^ (i + 1) = z
      have hz0 : 0 ≤ z := by rw [← hz]; exact Int.ediv_nonneg (by omega) (Int.le_of_lt (Int.pow_pos (by decide)))
      have hz1 : z < 18446744073709551616 := by
        rw [← hz]
        have := Int.ediv_le_self (a := n % 18446744073709551616) (256 ^ (i + 1)) (by omega)
        omega
      rw [show IntKind.u64.wrap z = z % 18446744073709551616 by simp [IntKind.wrap, IntKind.signed, IntKind.bits]]
      omega
    have e3 : wrap64 ((i : Int) + 1) = ((i + 1 : Nat) : Int) := by rw [wrap64_eq]; omega
    rw [if_pos (by omega)]
    simp only [Option.bind_some, e1, e2, e3]
    have hlen := len_lt (n / 256 ^ i % 256) (putL i n) (by rw [putL_length]; clear e1 e2 e3 hp h1; omega)
    rw [if_pos hlen]
    simp only [putL] at h1
    rw [List.singleton_append]
    exact h1

theorem rput_mono (d : Nat) : ∀ (k : Nat) (l : List Int) (n w : Int), LeO (PPutText.crannogref01_Put.f k l n w) (PPutText.crannogref01_Put.f (k + d) l n w) := by
  induction d with
  | zero => intro k l n w; exact LeO.refl _
  | succ d ih => intro k l n w; exact (ih k l n w).trans (PPutText.crannogref01_Put.mono l n w (k + d))

theorem rput_all (l : List Int) (n w : Int) (hl : l.length < 140737488355000) (k : Nat) (hk : 10 ≤ k) : PPutText.crannogref01_Put.f k l n w = some (putR l n w) := by
  have h10 : PPutText.crannogref01_Put.f 10 l n w = some (putR l n w) := by
    simp only [PPutText.crannogref01_Put.f, Option.bind_some, List.length_nil, Nat.zero_add, List.nil_append]
    rw [if_pos (by omega)]
    unfold putR
    by_cases h1 : w < 1
    · rw [if_pos h1, if_neg (by omega)]
      simp [PPutText.crannogref01_Put.j0]
    · rw [if_neg h1]
      by_cases h2 : w > 8
      · rw [if_neg (by omega)]
        simp [PPutText.crannogref01_Put.j0, h2]
      · rw [if_pos (by omega)]
        have hj : PPutText.crannogref01_Put.j0 10 n w l (decide (w > 8)) = PPutText.crannogref01_Put.l0 9 l (IntKind.u64.wrap n) [] w 0 := by
          rw [decide_eq_false h2]; rfl
        rw [hj]
        have hm : ∀ d k, LeO (PPutText.crannogref01_Put.l0 k l (IntKind.u64.wrap n) [] w 0) (PPutText.crannogref01_Put.l0 (k + d) l (IntKind.u64.wrap n) [] w 0) := by
          intro d
          induction d with
          | zero => intro k; exact LeO.refl _
          | succ d ih => intro k; exact (ih k).trans ((PPutText.crannogref01_Put.mono_l (k + d)).2 _ _ _ _ _)
        have h0 := rput_loop l n w.toNat (by omega) hl w.toNat 0 (by omega)
        rw [show ((w.toNat : Nat) : Int) = w by omega, show n % 18446744073709551616 / 256 ^ 0 = IntKind.u64.wrap n by simp [IntKind.wrap, IntKind.signed, IntKind.bits]] at h0
        have := hm (8 - w.toNat) (w.toNat + 1) _ h0
        rw [show w.toNat + 1 + (8 - w.toNat) = 9 by omega] at this
        exact this
  have := rput_mono (k - 10) 10 l n w _ h10
  rw [show 10 + (k - 10) = k by omega] at this
  exact this

/-- What PutText lays behind bytes. -/
def textR (l : List Int) (s : ByteArray) : List Int := putR l (min s.size 65535 : Nat) 2 ++ (bytesOf s).take (min s.size 65535)
theorem mn_min (s : ByteArray) : mn (s.size : Int) 65535 = ((min s.size 65535 : Nat) : Int) := by
  unfold mn; split <;> omega
theorem rtext_loop (s : ByteArray) (m : Nat) (hm : m ≤ s.size) (acc : List Int) (ha : acc.length < 140737488255000) (hm2 : m ≤ 65535) : ∀ (d i : Nat) (k : Nat), i + d = m → d < k →
    PPutText.crannogref01_PutText.l0 k s (acc ++ (bytesOf s).take i) (m : Int) (i : Int) = some (acc ++ (bytesOf s).take m) := by
  intro d
  induction d with
  | zero =>
    intro i k hi hk
    obtain rfl : i = m := by omega
    obtain ⟨k, rfl⟩ : ∃ q, k = q + 1 := ⟨k - 1, by omega⟩
    unfold PPutText.crannogref01_PutText.l0
    rw [if_neg (by omega)]
  | succ d ih =>
    intro i k hi hk
    obtain ⟨k, rfl⟩ : ∃ q, k = q + 1 := ⟨k - 1, by omega⟩
    have h1 := ih (i + 1) k (by omega) (by omega)
    have e3 : wrap64 ((i : Int) + 1) = ((i + 1 : Nat) : Int) := by rw [wrap64_eq]; omega
    have hb : (bytesOf s).length = s.size := by simp [bytesOf]
    unfold PPutText.crannogref01_PutText.l0
    rw [if_pos (by omega), if_pos (by omega), if_pos (by omega), if_pos (by rw [List.length_append, List.length_take]; omega), e3]
    have e4 : acc ++ List.take i (bytesOf s) ++ [bt s (i : Int)] = acc ++ List.take (i + 1) (bytesOf s) := by
      rw [List.append_assoc, List.take_add_one]
      congr 2
      rw [List.getElem?_eq_getElem (by omega)]
      simp [bytesOf, bt]
      rw [dif_pos (by omega)]
      rfl
    rw [e4]
    exact h1
theorem rtext_all (l : List Int) (s : ByteArray) (hl : l.length < 140737488254000) : PPutText.crannogref01_PutText.f (65535 + 10) l s = some (textR l s) := by
  unfold PPutText.crannogref01_PutText.f
  rw [mn_min, rput_all _ _ _ (by omega) _ (by omega), Option.bind_some]
  have := putR_length l ((min s.size 65535 : Nat) : Int) 2
  have h := rtext_loop s (min s.size 65535) (by omega) (putR l ((min s.size 65535 : Nat) : Int) 2) (by omega) (by omega) (min s.size 65535) 0 (65535 + 10) (by omega) (by omega)
  rw [List.take_zero, List.append_nil] at h
  exact h
end Go.Proofs.Ytdjmpedfeahajaa
