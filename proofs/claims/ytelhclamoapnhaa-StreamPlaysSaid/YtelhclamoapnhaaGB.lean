/- Helper lemmas of this seat, joined. No condition. -/
import Derived.Test.YtelhclamoapnhaaGA
import Derived.Test.YtelhclamoapnhaaPPutx1
import Derived.Lib.Bytes
import Derived.Lib.Bytealg
import Derived.Test.YtelhclamoapnhaaPPutTextx1
import Derived.Test.YtelhclamoapnhaaShelf
import Derived.Test.YtelhclamoapnhaaPWindowx1
import Derived.Maps.AppendAt
import Derived.Below
import Derived.OwnWalk
import Derived.WalkLawsBesides
import Derived.Lib.AppendStr
import Derived.Lib.Builder
import Derived.Laws.Externs
set_option linter.unusedSimpArgs false
namespace Go.Proofs.Ytelhclamoapnhaa
open Go.RowKit Go.Proofs.YtelhclamoapnhaaW.PrintWords Go.Proofs.YtelhclamoapnhaaW.PrintMore

/-- A number's i lowest bytes, the highest first. -/
def putL : Nat → Int → List Int
  | 0, _ => []
  | i + 1, n => n / 256 ^ i % 256 :: putL i n
theorem putL_length (i : Nat) (n : Int) : (putL i n).length = i := by induction i <;> simp [putL, *]
theorem putL_range (i : Nat) (n : Int) : ∀ x ∈ putL i n, 0 ≤ x ∧ x < 256 := by
  induction i with
  | zero => simp [putL]
  | succ i ih =>
    intro x hx
    rcases List.mem_cons.1 hx with rfl | hx
    · omega
    · exact ih x hx

theorem shr_8 (n : Int) (i : Nat) (hi : i < 8) : shr .i64 n (wrap64 (8 * (i : Int))) = n / 256 ^ i := by
  rw [show (8 * (i : Int)) = ((8 * i : Nat) : Int) by omega, wrap64_small (8 * i) (by omega)]
  unfold shr
  rw [show min (((8 * i : Nat) : Int)).toNat IntKind.i64.bits = 8 * i by simp [IntKind.bits]; omega, show (256 : Int) = 2 ^ 8 by rfl, ← Int.pow_mul]

theorem put_loop (n : Int) : ∀ (i : Nat) (acc : List Int), i ≤ 8 → acc.length + i < 140737488355328 → PPut.octet_Put.l0 (i + 1) n acc ((i : Int) - 1) = some (acc ++ putL i n) := by
  intro i
  induction i with
  | zero => intro acc _ _; simp [PPut.octet_Put.l0, putL]
  | succ i ih =>
    intro acc hi ha
    have h1 := ih (acc ++ [n / 256 ^ i % 256]) (by omega) (by simp; omega)
    have e1 : (((i + 1 : Nat)) : Int) - 1 = (i : Int) := by omega
    have e2 : wrap64 ((i : Int) - 1) = (i : Int) - 1 := by rw [wrap64_eq]; omega
    rw [e1]
    unfold PPut.octet_Put.l0
    rw [if_pos (by omega), if_pos (by rw [show (8 * (i : Int)) = ((8 * i : Nat) : Int) by omega, wrap64_small (8 * i) (by omega)]; omega), if_pos (by omega), shr_8 n i (by omega), e2, h1]
    simp [putL]

theorem put_pure (l : List Int) (n : Int) (w : Nat) (h1 : 1 ≤ w) (h8 : w ≤ 8) (hl : l.length < 140737488355000) : PPut.octet_Put.f 9 l n (w : Int) = some (l ++ putL w n) := by
  have hw : PPut.octet_wide.f (w : Int) = some true := by
    unfold PPut.octet_wide.f
    rw [if_pos (by omega)]; simp; omega
  have e : wrap64 ((w : Int) - 1) = (w : Int) - 1 := by rw [wrap64_eq]; omega
  simp only [PPut.octet_Put.f, Option.bind_some, List.length_nil, Nat.zero_add, List.nil_append, hw, if_true, e]
  rw [if_pos (by omega)]
  have mono : ∀ d k, LeO (PPut.octet_Put.l0 k n l ((w : Int) - 1)) (PPut.octet_Put.l0 (k + d) n l ((w : Int) - 1)) := by
    intro d
    induction d with
    | zero => intro k; exact LeO.refl _
    | succ d ih => intro k; exact (ih k).trans (PPut.octet_Put.mono_l (k + d) _ _ _)
  have := mono (8 - w) (w + 1) _ (put_loop n w l h8 (by omega))
  rw [show w + 1 + (8 - w) = 9 by omega] at this
  exact this

theorem put_bad (l : List Int) (n w : Int) (h : ¬ (1 ≤ w ∧ w ≤ 8)) (hl : l.length < 140737488355000) : PPut.octet_Put.f 9 l n w = some l := by
  have hw : PPut.octet_wide.f w = some false := by
    unfold PPut.octet_wide.f
    split
    · simp; omega
    · rfl
  simp only [PPut.octet_Put.f, Option.bind_some, List.length_nil, Nat.zero_add, List.nil_append, hw]
  rw [if_pos (by omega)]
  rfl

/-- The same on numbers from 0 on. -/
theorem bytes_cons (i a : Nat) : Lib.bytesOf (putL (i + 1) (a : Int)) = UInt8.ofNat (a / 256 ^ i % 256) :: Lib.bytesOf (putL i (a : Int)) := by
  have e : (a : Int) / 256 ^ i % 256 = ((a / 256 ^ i % 256 : Nat) : Int) := by simp
  simp only [putL, Lib.bytesOf, List.map_cons]
  rw [e, Int.toNat_natCast]

/-- How two numbers stand. -/
def cmpN (a b : Nat) : Int := if a < b then -1 else if b < a then 1 else 0
theorem cmp_put (i a b : Nat) : Lib.compareBytes (Lib.bytesOf (putL i (a : Int))) (Lib.bytesOf (putL i (b : Int))) = cmpN (a % 256 ^ i) (b % 256 ^ i) := by
  induction i with
  | zero => simp [putL, Lib.bytesOf, Lib.compareBytes, cmpN, Nat.mod_one]
  | succ i ih =>
    rw [bytes_cons, bytes_cons]
    simp only [Lib.compareBytes, ih]
    have key : ∀ x : Nat, x % 256 ^ (i + 1) = 256 ^ i * (x / 256 ^ i % 256) + x % 256 ^ i := fun x => by
      rw [Nat.pow_succ, Nat.mod_mul, Nat.add_comm]
    have hp : 0 < 256 ^ i := Nat.pow_pos (by decide)
    have ra := Nat.mod_lt a hp
    have rb := Nat.mod_lt b hp
    have lt_iff : ∀ x y : Nat, x < 256 → y < 256 → (UInt8.ofNat x < UInt8.ofNat y ↔ x < y) := fun x y hx hy => by
      rw [UInt8.lt_iff_toNat_lt, UInt8.toNat_ofNat', UInt8.toNat_ofNat']
      rw [Nat.mod_eq_of_lt (by simpa using hx), Nat.mod_eq_of_lt (by simpa using hy)]
    rw [key a, key b]
    generalize ha : a / 256 ^ i % 256 = p
    generalize hb : b / 256 ^ i % 256 = q
    have hp' : p < 256 := by omega
    have hq' : q < 256 := by omega
    simp only [lt_iff p q hp' hq', lt_iff q p hq' hp']
    generalize a % 256 ^ i = r at *
    generalize b % 256 ^ i = t at *
    generalize 256 ^ i = z at *
    unfold cmpN
    rcases Nat.lt_trichotomy p q with h | rfl | h
    · rw [if_pos h]
      have : z * p + z ≤ z * q := by rw [← Nat.mul_succ]; exact Nat.mul_le_mul_left _ h
      rw [if_pos (by omega)]
    · simp only [if_neg (Nat.lt_irrefl _), Nat.add_lt_add_iff_left]
    · have : z * q + z ≤ z * p := by rw [← Nat.mul_succ]; exact Nat.mul_le_mul_left _ h
      rw [if_neg (by omega), if_pos h, if_neg (by omega), if_pos (by omega)]

theorem beNat_cons (c : UInt8) (l : List UInt8) : beNat (c :: l) = c.toNat * 256 ^ l.length + beNat l := by
  have key : ∀ (l : List UInt8) (m : Nat), l.foldl (fun m c => m * 256 + c.toNat) m = m * 256 ^ l.length + beNat l := by
    intro l
    induction l with
    | nil => intro m; simp [beNat]
    | cons d l ih =>
      intro m
      have h1 := ih (m * 256 + d.toNat)
      have h2 := ih d.toNat
      simp only [List.foldl_cons, List.length_cons, beNat] at h1 h2 ⊢
      rw [h1, Nat.zero_mul, Nat.zero_add, h2, Nat.pow_succ, Nat.add_mul, Nat.mul_assoc, Nat.mul_comm 256, Nat.add_assoc]
  have := key l c.toNat
  simp only [beNat, List.foldl_cons, Nat.zero_mul, Nat.zero_add] at this ⊢
  exact this
theorem beNat_put (i a : Nat) : beNat (Lib.bytesOf (putL i (a : Int))) = a % 256 ^ i := by
  induction i with
  | zero => simp [putL, Lib.bytesOf, beNat, Nat.mod_one]
  | succ i ih =>
    rw [bytes_cons, beNat_cons, ih, Lib.bytesOf_length, putL_length, UInt8.toNat_ofNat', Nat.mod_eq_of_lt (show a / 256 ^ i % 256 < 2 ^ 8 by omega), Nat.pow_succ, Nat.mod_mul, Nat.add_comm, Nat.mul_comm]
end Go.Proofs.Ytelhclamoapnhaa

set_option linter.unusedSimpArgs false
namespace Go.Proofs.Ytelhclamoapnhaa
open Go.RowKit Go.Proofs.YtelhclamoapnhaaW.PrintWords Go.Proofs.YtelhclamoapnhaaW.PrintMore Go.Proofs.YtelhclamoapnhaaW.PrintLast

/-- What Put lays behind bytes. -/
def putR (l : List Int) (n w : Int) : List Int := if 1 ≤ w ∧ w ≤ 8 then l ++ putL w.toNat n else l
theorem putR_length (l : List Int) (n w : Int) : (putR l n w).length ≤ l.length + 8 := by
  unfold putR
  split
  · rw [List.length_append, putL_length]; omega
  · omega
theorem put_all (l : List Int) (n w : Int) (hl : l.length < 140737488355000) : PPut.octet_Put.f 9 l n w = some (putR l n w) := by
  unfold putR
  split
  · rename_i h
    have := put_pure l n w.toNat (by omega) (by omega) hl
    rw [show ((w.toNat : Nat) : Int) = w by omega] at this
    exact this
  · exact put_bad l n w (by assumption) hl

theorem rput_div (n : Int) (i : Nat) (hi : i < 8) : (n % 18446744073709551616) / 256 ^ i % 256 = n / 256 ^ i % 256 := by
  have h : i = 0 ∨ i = 1 ∨ i = 2 ∨ i = 3 ∨ i = 4 ∨ i = 5 ∨ i = 6 ∨ i = 7 := by omega
  rcases h with rfl | rfl | rfl | rfl | rfl | rfl | rfl | rfl <;> simp <;> omega

theorem len_lt (x : Int) (L : List Int) (h : L.length ≤ 8) : ([x] : List Int).length + L.length < 140737488355328 := by
  simp only [List.length_singleton]
  omega
theorem rput_loop (l : List Int) (n : Int) (w : Nat) (h8 : w ≤ 8) (hl : l.length < 140737488355000) : ∀ (d i : Nat), i + d = w →
    PPutText.crannogref01_Put.l0 (d + 1) l (n % 18446744073709551616 / 256 ^ i) (putL i n) (w : Int) (i : Int) = some (l ++ putL w n) := by
  intro d
  induction d with
  | zero =>
    intro i hi
    obtain rfl : i = w := by omega
    unfold PPutText.crannogref01_Put.l0
    rw [if_neg (by omega), if_pos (by rw [putL_length]; omega)]
  | succ d ih =>
    intro i hi
    have h1 := ih (i + 1) (by omega)
    unfold PPutText.crannogref01_Put.l0
    have hp : (0 : Int) ≤ n % 18446744073709551616 / 256 ^ i := Int.ediv_nonneg (by omega) (Int.le_of_lt (Int.pow_pos (by decide)))
    have e1 : Int.tmod (n % 18446744073709551616 / 256 ^ i) 256 % 256 = n / 256 ^ i % 256 := by
      rw [Int.tmod_eq_emod_of_nonneg hp, Int.emod_emod_of_dvd _ (Int.dvd_refl _), rput_div n i (by omega)]
    have e2 : IntKind.u64.wrap (Int.tdiv (n % 18446744073709551616 / 256 ^ i) 256) = n % 18446744073709551616 / 256 ^ (i + 1) := by
      rw [Int.tdiv_eq_ediv_of_nonneg hp, Int.ediv_ediv_of_nonneg (Int.le_of_lt (Int.pow_pos (by decide))), ← Int.pow_succ]
      generalize hz : n % 18446744073709551616 / 256 ^ (i + 1) = z
      have hz0 : 0 ≤ z := by rw [← hz]; exact Int.ediv_nonneg (by omega) (Int.le_of_lt (Int.pow_pos (by decide)))
      have hz1 : z < 18446744073709551616 := by
        rw [← hz]
        have := Int.ediv_le_self (a := n % 18446744073709551616) (256 ^ (i + 1)) (by omega)
        omega
      rw [show IntKind.u64.wrap z = z % 18446744073709551616 by simp [IntKind.wrap, IntKind.signed, IntKind.bits]]
      omega
    have e3 : wrap64 ((i : Int) + 1) = ((i + 1 : Nat) : Int) := by rw [wrap64_eq]; omega
    rw [if_pos (by omega)]
    simp only [Option.bind_some, e1, e2, e3]
    have hlen := len_lt (n / 256 ^ i % 256) (putL i n) (by rw [putL_length]; clear e1 e2 e3 hp h1; omega)
    rw [if_pos hlen]
    simp only [putL] at h1
    rw [List.singleton_append]
    exact h1

theorem rput_mono (d : Nat) : ∀ (k : Nat) (l : List Int) (n w : Int), LeO (PPutText.crannogref01_Put.f k l n w) (PPutText.crannogref01_Put.f (k + d) l n w) := by
  induction d with
  | zero => intro k l n w; exact LeO.refl _
  | succ d ih => intro k l n w; exact (ih k l n w).trans (PPutText.crannogref01_Put.mono l n w (k + d))

theorem rput_all (l : List Int) (n w : Int) (hl : l.length < 140737488355000) (k : Nat) (hk : 10 ≤ k) : PPutText.crannogref01_Put.f k l n w = some (putR l n w) := by
  have h10 : PPutText.crannogref01_Put.f 10 l n w = some (putR l n w) := by
    simp only [PPutText.crannogref01_Put.f, Option.bind_some, List.length_nil, Nat.zero_add, List.nil_append]
    rw [if_pos (by omega)]
    unfold putR
    by_cases h1 : w < 1
    · rw [if_pos h1, if_neg (by omega)]
      simp [PPutText.crannogref01_Put.j0]
    · rw [if_neg h1]
      by_cases h2 : w > 8
      · rw [if_neg (by omega)]
        simp [PPutText.crannogref01_Put.j0, h2]
      · rw [if_pos (by omega)]
        have hj : PPutText.crannogref01_Put.j0 10 n w l (decide (w > 8)) = PPutText.crannogref01_Put.l0 9 l (IntKind.u64.wrap n) [] w 0 := by
          rw [decide_eq_false h2]; rfl
        rw [hj]
        have hm : ∀ d k, LeO (PPutText.crannogref01_Put.l0 k l (IntKind.u64.wrap n) [] w 0) (PPutText.crannogref01_Put.l0 (k + d) l (IntKind.u64.wrap n) [] w 0) := by
          intro d
          induction d with
          | zero => intro k; exact LeO.refl _
          | succ d ih => intro k; exact (ih k).trans ((PPutText.crannogref01_Put.mono_l (k + d)).2 _ _ _ _ _)
        have h0 := rput_loop l n w.toNat (by omega) hl w.toNat 0 (by omega)
        rw [show ((w.toNat : Nat) : Int) = w by omega, show n % 18446744073709551616 / 256 ^ 0 = IntKind.u64.wrap n by simp [IntKind.wrap, IntKind.signed, IntKind.bits]] at h0
        have := hm (8 - w.toNat) (w.toNat + 1) _ h0
        rw [show w.toNat + 1 + (8 - w.toNat) = 9 by omega] at this
        exact this
  have := rput_mono (k - 10) 10 l n w _ h10
  rw [show 10 + (k - 10) = k by omega] at this
  exact this

/-- What PutText lays behind bytes. -/
def textR (l : List Int) (s : ByteArray) : List Int := putR l (min s.size 65535 : Nat) 2 ++ (bytesOf s).take (min s.size 65535)
theorem mn_min (s : ByteArray) : mn (s.size : Int) 65535 = ((min s.size 65535 : Nat) : Int) := by
  unfold mn; split <;> omega
theorem rtext_loop (s : ByteArray) (m : Nat) (hm : m ≤ s.size) (acc : List Int) (ha : acc.length < 140737488255000) (hm2 : m ≤ 65535) : ∀ (d i : Nat) (k : Nat), i + d = m → d < k →
    PPutText.crannogref01_PutText.l0 k s (acc ++ (bytesOf s).take i) (m : Int) (i : Int) = some (acc ++ (bytesOf s).take m) := by
  intro d
  induction d with
  | zero =>
    intro i k hi hk
    obtain rfl : i = m := by omega
    obtain ⟨k, rfl⟩ : ∃ q, k = q + 1 := ⟨k - 1, by omega⟩
    unfold PPutText.crannogref01_PutText.l0
    rw [if_neg (by omega)]
  | succ d ih =>
    intro i k hi hk
    obtain ⟨k, rfl⟩ : ∃ q, k = q + 1 := ⟨k - 1, by omega⟩
    have h1 := ih (i + 1) k (by omega) (by omega)
    have e3 : wrap64 ((i : Int) + 1) = ((i + 1 : Nat) : Int) := by rw [wrap64_eq]; omega
    have hb : (bytesOf s).length = s.size := by simp [bytesOf]
    unfold PPutText.crannogref01_PutText.l0
    rw [if_pos (by omega), if_pos (by omega), if_pos (by omega), if_pos (by rw [List.length_append, List.length_take]; omega), e3]
    have e4 : acc ++ List.take i (bytesOf s) ++ [bt s (i : Int)] = acc ++ List.take (i + 1) (bytesOf s) := by
      rw [List.append_assoc, List.take_add_one]
      congr 2
      rw [List.getElem?_eq_getElem (by omega)]
      simp [bytesOf, bt]
      rw [dif_pos (by omega)]
      rfl
    rw [e4]
    exact h1
theorem rtext_all (l : List Int) (s : ByteArray) (hl : l.length < 140737488254000) : PPutText.crannogref01_PutText.f (65535 + 10) l s = some (textR l s) := by
  unfold PPutText.crannogref01_PutText.f
  rw [mn_min, rput_all _ _ _ (by omega) _ (by omega), Option.bind_some]
  have := putR_length l ((min s.size 65535 : Nat) : Int) 2
  have h := rtext_loop s (min s.size 65535) (by omega) (putR l ((min s.size 65535 : Nat) : Int) 2) (by omega) (by omega) (min s.size 65535) 0 (65535 + 10) (by omega) (by omega)
  rw [List.take_zero, List.append_nil] at h
  exact h
end Go.Proofs.Ytelhclamoapnhaa

set_option linter.unusedSimpArgs false
namespace Go.Proofs.Ytelhclamoapnhaa
open Go.RowKit Go.Proofs.YtelhclamoapnhaaW.PrintWords Go.Proofs.YtelhclamoapnhaaW.PrintLast Go.Proofs.YtelhclamoapnhaaW.PrintMore
attribute [local go_sem] max2_int min2_int max_two min_two

/-- Bytes that are read, as a text. -/
abbrev ReadsB (w : World) (A : Option Addr) (l : List Int) : Prop := (Kd.int .u8).C w A l.length l
theorem conv_read {w : World} {A : Option Addr} {l : List Int} (h : ReadsB w A l) (c : Nat) (w1 : World) (hb : Below w.heap.size w w1) : (convert 65 9 (.slice A l.length c)).run Try.prog w1 = .ok (.string (strOfNums l)) w1 :=
  Kd.C_string Try.underlying65 Try.underlying5 Try.underlying9 (Kd.C_below h hb)

theorem strOfNums_size (l : List Int) : (strOfNums l).size = l.length := by
  have : (strOfNums l).data.toList = Lib.bytesOf l := by rw [← Lib.toList_data, Lib.strOfNums_toList]
  have h := congrArg List.length this
  rw [Lib.bytesOf_length] at h
  simpa using h
theorem extract_self (s : ByteArray) (k : Nat) : s.extract k k = ⟨#[]⟩ := by
  apply ByteArray.ext
  have := Lib.extract_toList s k k
  rw [Lib.toList_data, Nat.sub_self, List.take_zero] at this
  exact Array.toList_inj.1 this
theorem numOf_all (l : List Int) : numOf (strOfNums l) l.length = beNat (Lib.bytesOf l) := by
  unfold numOf
  have h1 := Lib.extract_toList (strOfNums l) 0 l.length
  rw [Lib.toList_data] at h1
  have : (strOfNums l).data.toList = Lib.bytesOf l := by rw [← Lib.toList_data, Lib.strOfNums_toList]
  rw [h1, this, List.drop_zero, Nat.sub_zero, List.take_of_length_le (by rw [Lib.bytesOf_length]; exact Nat.le_refl _)]

/-- The call returns bytes, and leaves all that lay before as it was. -/
def RetB (r : List Int) (w : World) (e : Ending) (w' : World) : Prop := ∃ (A : Option Addr) (c : Nat), e = .returned (.slice A r.length c) ∧ r.length ≤ c ∧ ∃ j : Junk, w' = wext w j ∧ ReadsB (wext w j) A r
theorem RetB.of_R {r : List Int} {w : World} {e : Ending} {w' : World} (h : ∃ v0 : Value, e = .returned v0 ∧ Kd.R (Kd.int .u8) 5 w' w.heap.size (fun _ => True) v0 r ∧ Below w.heap.size w w') : RetB r w e w' := by
  obtain ⟨v, rfl, hR, hb⟩ := h
  obtain ⟨j, rfl⟩ := w_ext_of_below hb
  obtain ⟨A, c, rfl, hc, hC⟩ := Kd.R_reads hR
  exact ⟨A, c, rfl, hc, j, rfl, hC⟩

theorem put_gen (A : Option Addr) (c : Nat) (l : List Int) (n k : Int) (w : World) (hA : ReadsB w A l) (hc : l.length ≤ c) (hl : l.length < 140737488355000) :
    Calls Try.prog 43 #[.slice A l.length c, .int .i64 n, .int .i64 k] w (RetB (putR l n k) w) :=
  (PPut.octet_Put.calls 9 A c l n k (putR l n k) w hA hc (put_all l n k hl)).mono fun _ _ h => RetB.of_R h
theorem rput_gen (A : Option Addr) (c : Nat) (l : List Int) (n k : Int) (w : World) (hA : ReadsB w A l) (hc : l.length ≤ c) (hl : l.length < 140737488355000) :
    Calls Try.prog 45 #[.slice A l.length c, .int .i64 n, .int .i64 k] w (RetB (putR l n k) w) :=
  (PPutText.crannogref01_Put.calls 10 A c l n k (putR l n k) w hA hc (rput_all l n k hl 10 (Nat.le_refl _))).mono fun _ _ h => RetB.of_R h
theorem rtext_gen (A : Option Addr) (c : Nat) (l : List Int) (s : ByteArray) (w : World) (hA : ReadsB w A l) (hc : l.length ≤ c) (hl : l.length < 140737488254000) :
    Calls Try.prog 46 #[.slice A l.length c, .string s] w (RetB (textR l s) w) :=
  (PPutText.crannogref01_PutText.calls (65535 + 10) A c l s (textR l s) w hA hc (rtext_all l s hl)).mono fun _ _ h => RetB.of_R h
theorem bytesOf_extract (s : ByteArray) (n : Nat) : bytesOf (s.extract 0 n) = (bytesOf s).take n := by
  have h := Lib.extract_toList s 0 n
  rw [Lib.toList_data] at h
  unfold bytesOf
  rw [h, List.drop_zero, Nat.sub_zero, List.map_take]
set_option maxHeartbeats 2000000 in
set_option maxRecDepth 100000 in
theorem text_gen (A : Option Addr) (c : Nat) (l : List Int) (s : ByteArray) (w : World) (hA : ReadsB w A l) (hc : l.length ≤ c) (hl : l.length < 140737488254000) :
    Calls Try.prog 44 #[.slice A l.length c, .string s] w (RetB (textR l s) w) := by
  obtain ⟨m, hm⟩ : ∃ m : Nat, min s.size 65535 = m := ⟨_, rfl⟩
  have hm1 : min (s.size : Int) 65535 = (m : Int) := by omega
  have hm2 : (if (65535 : Int) < (s.size : Int) then (65535 : Int) else (s.size : Int)) = (m : Int) := by split <;> omega
  have hms : m ≤ s.size := by omega
  have hsz : (s.extract 0 m).size = m := by simp; omega
  have hlen : (putR l (m : Int) 2).length ≤ l.length + 8 := putR_length _ _ _
  go_enter Try.func44, Try.ntmps44
  go_wp2_with (first | (go_at_call 43; (with_reducible refine (PPut.octet_Put.calls 9 A c l (m : Int) 2 (putR l (m : Int) 2) _ hA hc (put_all l _ 2 (by omega))).mono ?_); rintro e1 w1 ⟨v1, rfl, hR1, hb1⟩) | (at_builtin; refine print_append_str (w0 := w) w.heap.size rfl (.tmp 13) _ 65 9 5 rfl Try.underlying65 Try.underlying9 PPutText.info5 v1 (putR l (m : Int) 2) (s.extract 0 m) rfl rfl (Kd.own_of_R hR1) hb1 (below_size hb1) (by omega) ?_; intro v2 w2 ho2 hb2 hg2))
  go_ret
  refine RetB.of_R ⟨_, rfl, ?_, hb2⟩
  have := Kd.R_of_own (h1 := fun _ => rfl) (ok := fun _ => True) ho2 (fun _ _ => trivial)
  rw [bytesOf_extract] at this
  unfold textR
  rw [hm]
  exact this

end Go.Proofs.Ytelhclamoapnhaa

set_option linter.unusedSimpArgs false
set_option linter.unusedVariables false
namespace Go.Proofs.Ytelhclamoapnhaa
open Go.RowKit Go.Proofs.YtelhclamoapnhaaW.PrintWords PWindow

/-- Numbers that lie in a slice. -/
def IntsAt (w : World) (A : Option Addr) (x : List Int) : Prop := ∀ i, i < x.length → ∃ b o : Nat, A = some ⟨b, o, none⟩ ∧ w.cell? ⟨b, o + i, none⟩ = some (.int .i64 (x.getD i 0))
theorem IntsAt.later {w w' : World} {A : Option Addr} {x : List Int} (h : IntsAt w A x) (hb : Below w.heap.size w w') : IntsAt w' A x := fun i hi => by
  obtain ⟨b, o, e, h0⟩ := h i hi
  exact ⟨b, o, e, by rw [hb.cell (p := ⟨b, o + i, none⟩) (World.block_lt_of_cell? w _ h0)]; exact h0⟩
/-- Numbers that were laid anew, as a slice. -/
def NewI (l : List Int) (w : World) : Ending → World → Prop := fun e w' => ∃ (A : Option Addr) (c : Nat), e = .returned (.slice A l.length c) ∧ Hid (Below w.heap.size w w') ∧ Hid (IntsAt w' A l) ∧ Hid (l.length ≤ c) ∧ Hid (c ≤ maxLen ∧ ∀ ad, A = some ad → w.heap.size ≤ ad.block)
theorem NewI.own {l : List Int} {w w' : World} {v : Value} (ho : w'.ownsRow w.heap.size 3 1 v l.length (l.map (Value.int .i64))) (hb : Below w.heap.size w w') : NewI l w (.returned v) w' := by
  obtain ⟨_, ⟨rfl, h0⟩ | ⟨g, cap, cur, rfl, h1, h2, h3, h4, h5, h6⟩⟩ := id ho
  · refine ⟨none, 0, by rw [h0], Lib.hid hb, Lib.hid fun i hi => by omega, Lib.hid (by omega), Lib.hid ⟨Nat.zero_le _, fun ad e => by cases e⟩⟩
  refine ⟨some ⟨g, 0, none⟩, cap, rfl, Lib.hid hb, Lib.hid fun i hi => ⟨g, 0, rfl, ?_⟩, Lib.hid (by omega), Lib.hid ⟨h4, fun ad e => by cases e; exact h1⟩⟩
  have hc := ho.cells (g := g) rfl i (.int .i64 (l.getD i 0)) (by
    rw [List.getElem?_map, List.getElem?_eq_getElem hi, List.getD_eq_getElem?_getD, List.getElem?_eq_getElem hi]; rfl)
  have ha : (⟨g, 0, none⟩ : Addr).add i = ⟨g, 0 + i, none⟩ := by unfold Addr.add; split <;> simp_all
  rwa [ha] at hc
theorem ints_of_C {w : World} {A : Option Addr} {l : List Int} (h : (Kd.int .i64).C w A l.length l) : IntsAt w A l := fun i hi => by
  obtain ⟨ad, rfl, h0⟩ := Kd.at_int h (0 : Int) (by omega) (by omega)
  obtain ⟨ad2, e, h1⟩ := Kd.at_int h (i : Int) (by omega) (by omega)
  injection e with e
  subst e
  obtain ⟨b, o, sp⟩ := ad
  have hs : sp = none := by
    have h2 := World.cell?_spot h0
    simpa [Addr.add] using h2
  subst hs
  refine ⟨b, o, rfl, ?_⟩
  have ha : (⟨b, o, none⟩ : Addr).add i = ⟨b, o + i, none⟩ := by unfold Addr.add; split <;> simp_all
  rw [Int.toNat_natCast, ha] at h1
  exact h1
set_option maxHeartbeats 2000000 in
set_option maxRecDepth 100000 in
theorem eqI_len (A B : Option Addr) (c d n m : Nat) (w : World) (h : ¬ (n : Int) = (m : Int)) : Calls Try.prog 14 #[.slice A n c, .slice B m d] w (Ret (.bool false) w) := by
  go_enter Try.func14, Try.ntmps14
  go_wp2
  go_ret
  exact Ret.mk rfl (Below.refl _ _)
theorem eqI_any (A B : Option Addr) (c d : Nat) (x y : List Int) (w : World) (hA : IntsAt w A x) (hB : IntsAt w B y) (hx : x.length ≤ 9223372036854775807) (hy : y.length ≤ 9223372036854775807) : Calls Try.prog 14 #[.slice A x.length c, .slice B y.length d] w (Ret (.bool (decide (x = y))) w) := by
  rcases Nat.eq_zero_or_pos x.length with h0 | h0
  · obtain rfl := List.eq_nil_of_length_eq_zero h0
    refine (Try.slices_Equal_int_empty A B c y.length d w hy).mono ?_
    rintro e w' ⟨rfl, rfl⟩
    refine Ret.mk ?_ (Below.refl _ _)
    by_cases hy0 : y.length = 0
    · rw [decide_eq_true hy0, List.eq_nil_of_length_eq_zero hy0]; rfl
    · rw [decide_eq_false hy0, decide_eq_false (fun e => hy0 (by rw [← e]; rfl))]
  · obtain ⟨b, o, rfl, _⟩ := hA 0 h0
    rcases Nat.eq_zero_or_pos y.length with h1 | h1
    · obtain rfl := List.eq_nil_of_length_eq_zero h1
      rw [decide_eq_false (fun e => by rw [e] at h0; exact absurd h0 (by simp))]
      exact eqI_len _ _ _ _ _ _ w (by have : ([] : List Int).length = 0 := rfl; omega)
    · obtain ⟨b2, o2, rfl, _⟩ := hB 0 h1
      refine (Try.slices_Equal_int b o x.length c b2 o2 y.length d x y w (Nat.le_refl _) (Nat.le_refl _) hx hy (fun j hj => ?_) (fun j hj => ?_)).mono ?_
      · obtain ⟨b', o', e, h⟩ := hA j hj
        injection e with e
        injection e with e1 e2
        rw [e1, e2]; exact h
      · obtain ⟨b', o', e, h⟩ := hB j hj
        injection e with e
        injection e with e1 e2
        rw [e1, e2]; exact h
      · rintro e w' ⟨rfl, q, rfl⟩
        refine Ret.mk ?_ (below_drewN (Below.refl _ _) q)
        rw [List.take_length, List.take_length]
        by_cases h : x = y
        · rw [decide_eq_true h, h]; simp
        · rw [decide_eq_false h]; simpa using h
theorem app_int (w W : World) (v : Value) (l : List Int) (x : Int) (HO : W.ownsRow w.heap.size 3 1 v l.length (l.map (Value.int .i64))) (HB : Below w.heap.size w W) (hl : l.length ≤ 1000000) :
    ∃ (v2 : Value) (w2 : World), (Builtin.append_ #[29, 29] 29 #[v, .slice (some ⟨W.heap.size, 0, none⟩) 1 1]).run Try.prog (W.alloc (.cells #[.int .i64 x] 3)) = .ok v2 w2 ∧ Hid (w2.ownsRow w.heap.size 3 1 v2 (l ++ [x]).length ((l ++ [x]).map (Value.int .i64))) ∧ Hid (Below w.heap.size w w2) := by
  obtain ⟨i0, hi, hzz⟩ := Option.map_eq_some_iff.1 (show (Try.prog.info? 3).map (fun i => (i.zero, i.size, i.bytes)) = some (some (.int .i64 0), 1, 8) by kernel_rfl)
  simp only [Prod.mk.injEq] at hzz
  obtain ⟨hz0, hz1, hz2⟩ := hzz
  have hbase : w.heap.size ≤ W.heap.size := HB.size
  obtain ⟨v2, w2, hr, hown, hg, _, _⟩ := run_append_own_at (P := Try.prog) (W.alloc (.cells #[.int .i64 x] 3)) w.heap.size 29 29 3 i0 (.int .i64 0) 1 8 Try.underlying29 hi hz0 hz1 hz2 rfl (by decide) v l.length (l.map (Value.int .i64)) (HO.alloc _) ⟨W.heap.size, 0, none⟩ 1 1 [.int .i64 x] rfl
    (World.news_of_block (cs := #[.int .i64 x]) (t := 3) (fr := (0, 0)) (heap_alloc_new W _)) (by simp [Value.oneCell']) (by simp only [maxLen]; omega) (by omega) (by simp; omega)
  have own_b : ∀ k, v.ownBlock = some k → w.heap.size ≤ k := fun k hk => by
    obtain ⟨_, ⟨rfl, _⟩ | ⟨g, cap, cur, rfl, hb, _⟩⟩ := HO
    · simp [Value.ownBlock] at hk
    · have : g = k := by simpa [Value.ownBlock] using hk
      omega
  refine ⟨v2, w2, hr, Lib.hid ?_, Lib.hid ((HB.alloc hbase _).grown hg (by simp; omega) own_b)⟩
  rw [List.length_append, List.map_append]
  exact hown
theorem app_step {ops : Array Oper} {rest : List Oper} {o : Oper} {a : Act} {Q : Exit → Act → World → Prop} {W w2 : World} {v y v2 : Value} (t : TypeId) (s x : Operand) (hw : Region.wanted o (yielded ops a.tmps) = true)
    (ho : o.op = .call { callee := .builtin .append, args := #[s, x], argTypes := #[t, t] }) (hty : o.type = t) (hs : a.eval s = v) (hx : a.eval x = y) (hr : (Builtin.append_ #[t, t] t #[v, y]).run Try.prog W = .ok v2 w2)
    (h : wpList Try.prog ops Q rest (a.put o.dst v2) w2) : wpList Try.prog ops Q (o :: rest) a W := by
  refine wpList_step fun K hK => ?_
  rw [if_pos hw]
  unfold Oper.wp execOp
  simp only [ho, resolve, invoke, builtin, Sem.run_bind, Sem.run_pure, Result.andThen_ok, List.map_toArray, List.map_cons, List.map_nil, hs, hx, hty, hr]
  exact hK _ _ h
/-- The parts that are sent at once. -/
def winR (f t : Int) : List Int := if 0 ≤ f ∧ f < t then (List.range (min (4 - f % 4) (t - f)).toNat).map (fun k : Nat => f + (k : Int)) else []
theorem winR_len (f t : Int) : (winR f t).length ≤ 4 := by
  unfold winR
  split
  · rw [List.length_map, List.length_range]; omega
  · simp
set_option maxHeartbeats 2000000 in
set_option maxRecDepth 100000 in
theorem window_any (f t : Int) (w : World) (hf : f ≤ 9223372036854775807) (ht : t ≤ 9223372036854775807) : Calls Try.prog 15 #[.int .i64 f, .int .i64 t] w (NewI (winR f t) w) := by
  by_cases h0 : f < 0
  · have HR := Lib.hid (show winR f t = [] by unfold winR; rw [if_neg (by omega)])
    generalize winR f t = r at *
    go_enter Try.func15, Try.ntmps15
    go_wp2
    go_ret
    rw [HR.out]
    exact ⟨none, 0, rfl, Lib.hid (Below.refl _ _), Lib.hid fun i hi => by simp at hi, Lib.hid (Nat.zero_le _), Lib.hid ⟨Nat.zero_le _, fun ad e => by cases e⟩⟩
  obtain ⟨m, hm⟩ : ∃ m : Nat, (if f < t then min (4 - f % 4) (t - f) else 0) = (m : Int) := ⟨(if f < t then min (4 - f % 4) (t - f) else 0).toNat, by split <;> omega⟩
  have HR := Lib.hid (show winR f t = (List.range m).map (fun k : Nat => f + (k : Int)) by
    unfold winR
    by_cases h : f < t
    · rw [if_pos ⟨by omega, h⟩]
      rw [if_pos h] at hm
      rw [hm, Int.toNat_natCast]
    · rw [if_neg (fun e => h e.2)]
      rw [if_neg h] at hm
      obtain rfl : m = 0 := by omega
      rfl)
  have hm4 : m ≤ 4 := by split at hm <;> omega
  have HST := Lib.hid (show ∀ k : Nat, k < m ↔ (f + (k : Int) < t ∧ (k = 0 ∨ (k ≤ m ∧ ¬ (f + (k : Int)) % 4 = 0))) ∧ k ≤ m from fun k => by
    split at hm <;> omega)
  generalize winR f t = r at *
  clear hm
  go_enter Try.func15, Try.ntmps15
  go_wp2
  go_loopw [5, 6] (fun v5 v6 wr => ∃ (k : Nat), k ≤ m ∧ v6 = .int .i64 (f + (k : Int)) ∧ Hid (wr.ownsRow w.heap.size 3 1 v5 ((List.range k).map (fun k : Nat => f + (k : Int))).length (((List.range k).map (fun k : Nat => f + (k : Int))).map (Value.int .i64))) ∧ Hid (Below w.heap.size w wr)) (fun _ i _ => (f + 4 - intOf i).toNat)
  case atStart => exact ⟨0, Nat.zero_le _, by simp, Lib.hid ⟨rfl, Or.inl ⟨rfl, rfl⟩⟩, Lib.hid (Below.refl _ _)⟩
  case round =>
    obtain ⟨k, hk, rfl, HO, HB⟩ := hrel
    by_cases hkm : k < m
    · obtain ⟨⟨c1, c2⟩, _⟩ := (HST.out k).1 hkm
      obtain ⟨v2, w2, happ, HO2, HB2⟩ := app_int w _ _ _ (f + (k : Int)) HO.out HB.out (by rw [List.length_map, List.length_range]; omega)
      have HO3 : Hid (w2.ownsRow w.heap.size 3 1 v2 ((List.range (k + 1)).map (fun k : Nat => f + (k : Int))).length (((List.range (k + 1)).map (fun k : Nat => f + (k : Int))).map (Value.int .i64))) := Lib.hid (by
        rw [List.range_succ, List.map_append]
        exact HO2.out)
      have HNX := Lib.hid (show f + (k : Int) + 1 = f + ((k + 1 : Nat) : Int) by omega)
      obtain ⟨i, hi⟩ : ∃ i, f + (k : Int) = i := ⟨_, rfl⟩
      have HI := Lib.hid hi
      rw [hi] at happ c1 c2 HNX ⊢
      have hfi : f ≤ i := by omega
      have h0i : 0 ≤ i := by omega
      have hcs : (i == f) = true ∨ ((i == f) = false ∧ (i % 4 != 0) = true) := by
        rcases c2 with c2 | ⟨_, c2⟩
        · left; rw [beq_iff_eq]; omega
        · by_cases he : i = f
          · left; rw [beq_iff_eq]; exact he
          · right; exact ⟨beq_eq_false_iff_ne.2 he, by simpa using c2⟩
      clear HO HB hi c2
      rcases hcs with hc | ⟨hc, hc2⟩
      all_goals
        go_wp2_with (at_builtin; refine app_step 29 _ _ rfl rfl rfl rfl rfl happ ?_)
        go_roundw
        case rel => exact ⟨k + 1, by omega, by rw [HNX.out], HO3, HB2⟩
        case measure => rw [intOf_lit, intOf_lit]; have := HI.out; omega
    · have hk' : k = m := by omega
      subst hk'
      have hno := fun e => hkm ((HST.out k).2 e)
      obtain ⟨i, hi⟩ : ∃ i, f + (k : Int) = i := ⟨_, rfl⟩
      have HI := Lib.hid hi
      rw [hi] at hno ⊢
      have hcs : (¬ i < t) ∨ (i < t ∧ (i == f) = false ∧ (i % 4 != 0) = false) := by
        by_cases c1 : i < t
        · right
          by_cases h0' : k = 0
          · exact absurd ⟨⟨c1, Or.inl h0'⟩, Nat.le_refl _⟩ hno
          · refine ⟨c1, beq_eq_false_iff_ne.2 (by omega), ?_⟩
            by_cases h4 : i % 4 = 0
            · rw [h4]; rfl
            · exact absurd ⟨⟨c1, Or.inr ⟨Nat.le_refl _, h4⟩⟩, Nat.le_refl _⟩ hno
        · exact Or.inl c1
      have h0i : 0 ≤ i := by omega
      clear hi hno hkm
      rcases hcs with hc | ⟨hc, hc2, hc3⟩
      all_goals
        go_wp2
        go_ret
        rw [HR.out]
        exact NewI.own HO.out HB.out
end Go.Proofs.Ytelhclamoapnhaa

set_option linter.unusedSimpArgs false
set_option linter.unusedVariables false
namespace Go.Proofs.Ytelhclamoapnhaa
open Go.RowKit Go.Proofs.YtelhclamoapnhaaW.PrintWords Go.Proofs.YtelhclamoapnhaaW.PrintLast Go.Proofs.YtelhclamoapnhaaW.PrintMore

/-- A change. -/
structure Ch where
  key : ByteArray
  val : ByteArray
  gone : Bool
def Ch.v (c : Ch) : Value := .agg #[.string c.key, .string c.val, .bool c.gone]
def noCh : Ch := ⟨⟨#[]⟩, ⟨#[]⟩, false⟩
/-- Changes that lie in a slice. -/
def ChsAt (w : World) (A : Option Addr) (x : List Ch) : Prop := ∀ i, i < x.length → ∃ b o : Nat, A = some ⟨b, o, none⟩ ∧ w.cell? ⟨b, o + i * 3, none⟩ = some (.string (x.getD i noCh).key) ∧ w.cell? ⟨b, o + i * 3 + 1, none⟩ = some (.string (x.getD i noCh).val) ∧ w.cell? ⟨b, o + i * 3 + 2, none⟩ = some (.bool (x.getD i noCh).gone)
theorem ChsAt.later {w w' : World} {A : Option Addr} {x : List Ch} (h : ChsAt w A x) (hb : Below w.heap.size w w') : ChsAt w' A x := fun i hi => by
  obtain ⟨b, o, e, h0, h1, h2⟩ := h i hi
  exact ⟨b, o, e, by rw [hb.cell (p := ⟨b, o + i * 3, none⟩) (World.block_lt_of_cell? w _ h0)]; exact h0, by rw [hb.cell (p := ⟨b, o + i * 3 + 1, none⟩) (World.block_lt_of_cell? w _ h1)]; exact h1, by rw [hb.cell (p := ⟨b, o + i * 3 + 2, none⟩) (World.block_lt_of_cell? w _ h2)]; exact h2⟩
/-- A change behind bytes. -/
def putCh (acc : List Int) (c : Ch) : List Int := textR (textR (putR acc (if c.gone then 1 else 0) 1) c.key) c.val
/-- Changes as bytes. -/
def putAll (l : List Ch) : List Int := l.foldl putCh (putR [] (l.length : Int) 4)
/-- How many bytes of changes are put, at most. -/
def chTot (l : List Ch) : Nat := (l.map fun c => min c.key.size 65535 + min c.val.size 65535).sum
theorem textR_length (l : List Int) (s : ByteArray) : (textR l s).length ≤ l.length + 8 + min s.size 65535 := by
  unfold textR
  rw [List.length_append, List.length_take]
  have h1 := putR_length l (min s.size 65535 : Nat) 2
  have h2 : (bytesOf s).length = s.size := by unfold bytesOf; rw [List.length_map, Array.length_toList]; rfl
  omega
theorem putCh_length (acc : List Int) (c : Ch) : (putCh acc c).length ≤ acc.length + 24 + min c.key.size 65535 + min c.val.size 65535 := by
  unfold putCh
  have h1 := textR_length (textR (putR acc (if c.gone then 1 else 0) 1) c.key) c.val
  have h2 := textR_length (putR acc (if c.gone then 1 else 0) 1) c.key
  have h3 := putR_length acc (if c.gone then 1 else 0) 1
  omega
/-- As far as the loop has come. -/
def putUp (l : List Ch) (i : Nat) : List Int := (l.take i).foldl putCh (putR [] (l.length : Int) 4)
theorem putUp_step (l : List Ch) (i : Nat) (h : i < l.length) : putUp l (i + 1) = putCh (putUp l i) (l.getD i noCh) := by
  unfold putUp
  rw [List.take_succ_eq_append_getElem h, List.foldl_append, List.getD_eq_getElem?_getD, List.getElem?_eq_getElem h]
  rfl
theorem putUp_end (l : List Ch) : putUp l l.length = putAll l := by unfold putUp putAll; rw [List.take_length]
theorem chTot_take (l : List Ch) (i : Nat) (h : i < l.length) : chTot (l.take (i + 1)) = chTot (l.take i) + (min (l.getD i noCh).key.size 65535 + min (l.getD i noCh).val.size 65535) := by
  unfold chTot
  rw [List.take_succ_eq_append_getElem h, List.map_append, List.sum_append, List.getD_eq_getElem?_getD, List.getElem?_eq_getElem h]
  simp
theorem chTot_le (l : List Ch) (i : Nat) : chTot (l.take i) ≤ chTot l := by
  unfold chTot
  conv => rhs; rw [← List.take_append_drop i l, List.map_append, List.sum_append]
  omega
theorem putUp_length (l : List Ch) : ∀ i, i ≤ l.length → (putUp l i).length ≤ 8 + 24 * i + chTot (l.take i)
  | 0, _ => by
    have := putR_length [] (l.length : Int) 4
    simp [putUp, chTot]
    simpa using this
  | i + 1, h => by
    have ih := putUp_length l i (by omega)
    rw [putUp_step l i (by omega), chTot_take l i (by omega)]
    have := putCh_length (putUp l i) (l.getD i noCh)
    omega
theorem below_tr {w w1 w2 : World} (h : Below w.heap.size w w1) (h2 : Below w1.heap.size w1 w2) : Below w.heap.size w w2 := h.trans (h2.mono h.size)
/-- Bytes that a call returns, of its own. -/
def RetC (r : List Int) (w : World) (e : Ending) (w' : World) : Prop := ∃ (A : Option Addr) (c : Nat), e = .returned (.slice A r.length c) ∧ Hid (r.length ≤ c) ∧ Hid (Below w.heap.size w w') ∧ Hid (ReadsB w' A r)
theorem RetB.c {r : List Int} {w : World} {e : Ending} {w' : World} (h : RetB r w e w') : RetC r w e w' := by
  obtain ⟨A, c, he, hc, j, rfl, hC⟩ := h
  exact ⟨A, c, he, Lib.hid hc, Lib.hid (w_ext_below _ _), Lib.hid hC⟩
set_option maxHeartbeats 2000000 in
set_option maxRecDepth 100000 in
theorem diffput_any (A : Option Addr) (c : Nat) (l : List Ch) (w : World) (hA : ChsAt w A l) (hl : l.length ≤ 5000) (ht : chTot l ≤ 1000000) : Calls Try.prog 33 #[.slice A l.length c] w (Ret (.string (strOfNums (putAll l))) w) := by
  have HA := Lib.hid hA
  have HPE := Lib.hid (putUp_end l)
  have HPS := Lib.hid (putUp_step l)
  have HPL := Lib.hid (fun i (hi : i ≤ l.length) => show (putUp l i).length ≤ 2000000 by have := putUp_length l i hi; have := chTot_le l i; omega)
  have HP0 := Lib.hid (show putR [] (l.length : Int) 4 = putUp l 0 from rfl)
  have hR0 : ReadsB w none [] := (Kd.R_reads' (Kd.R_nil (Kd.int .u8) 5 w 0 (fun _ => True))).2.2
  obtain ⟨n, hn⟩ : ∃ n, l.length = n := ⟨_, rfl⟩
  rw [hn] at HP0 HPE hl ⊢
  have HN := Lib.hid hn
  have H0 := Lib.hid (show Calls Try.prog 43 #[.slice none 0 0, .int .i64 (n : Int), .int .i64 4] w (RetC (putUp l 0) w) from by
    rw [← HP0.out]
    exact (put_gen none 0 [] (n : Int) 4 w hR0 (Nat.le_refl _) (by simp)).mono fun _ _ h => h.c)
  have HTT := Lib.hid ht
  clear hA hn ht hR0
  go_enter Try.func33, Try.ntmps33
  go_wp2_with (go_at_call 43; (with_reducible refine H0.out.mono ?_); rintro e1 w1 ⟨A1, c1, rfl, hc1, HB1, hC1⟩)
  go_loopw [3, 12] (fun v3 v12 wr => ∃ (i : Nat) (B : Option Addr) (d : Nat), i ≤ n ∧ v12 = .int .i64 (i : Int) ∧ v3 = .slice B (putUp l i).length d ∧ Hid (Below w.heap.size w wr) ∧ Hid ((putUp l i).length ≤ d) ∧ Hid (ReadsB wr B (putUp l i))) (fun _ i _ => ((n : Int) - intOf i).toNat)
  case atStart => exact ⟨0, A1, c1, Nat.zero_le _, rfl, rfl, HB1, hc1, hC1⟩
  case round =>
    obtain ⟨i, B, d, hi, rfl, rfl, HB, HD, HC⟩ := hrel
    have HLEN := Lib.hid (HPL.out i (by rw [HN.out]; exact hi))
    by_cases hin : i = n
    · subst hin
      have e1 := HPE.out
      rw [e1] at HD HC ⊢
      clear e1
      have hcv := Kd.C_string (P := Try.prog) (c := d) Try.underlying65 Try.underlying5 Try.underlying9 HC.out
      generalize putAll l = r at *
      generalize r.length = m at *
      go_wp2
      go_ret
      exact Ret.mk rfl HB.out
    · have hlt : (i : Int) < (n : Int) := by omega
      have hge : (0 : Int) ≤ (i : Int) := by omega
      have hnl : ¬ (i : Int) < 0 := by omega
      have hwr : wrap64 ((i : Int) + 1) = ((i + 1 : Nat) : Int) := by rw [wrap64_eq]; omega
      obtain ⟨b, o, eA, h0, h1, h2⟩ := (HA.out.later HB.out) i (by rw [HN.out]; omega)
      subst eA
      have HSTEP := Lib.hid (HPS.out i (by rw [HN.out]; omega))
      have hlb := leB_of_cell h0
      have hkv : min (l.getD i noCh).key.size 65535 + min (l.getD i noCh).val.size 65535 ≤ 1000000 := by
        have g1 := chTot_take l i (by rw [HN.out]; omega)
        have g2 := chTot_le l (i + 1)
        have g3 := HTT.out
        omega
      generalize l.getD i noCh = ch at *
      obtain ⟨key, val, gone⟩ := ch
      simp only at h0 h1 h2 hkv
      obtain ⟨r3, hr3⟩ : ∃ r, putUp l (i + 1) = r := ⟨_, rfl⟩
      rw [hr3] at HSTEP
      have HR3 := Lib.hid hr3
      clear hr3
      generalize putUp l i = acc at *
      have HL2 := HLEN.out
      have H43 := Lib.hid (fun W (h : ReadsB W B acc) => put_gen B d acc (if gone then 1 else 0) 1 W h HD.out (by omega) |>.mono fun _ _ h => h.c)
      have hq1 := putR_length acc (if gone then 1 else 0) 1
      have hq2 := textR_length (putR acc (if gone then 1 else 0) 1) key
      have HSZ := Lib.hid (show min key.size 65535 + min val.size 65535 ≤ 1000000 from hkv)
      have hsz := HSZ.out
      have H44a := Lib.hid (fun W A c (h : ReadsB W A (putR acc (if gone then 1 else 0) 1)) hc => text_gen A c (putR acc (if gone then 1 else 0) 1) key W h hc (by omega) |>.mono fun _ _ h => h.c)
      have H44b := Lib.hid (fun W A c (h : ReadsB W A (textR (putR acc (if gone then 1 else 0) 1) key)) hc => text_gen A c (textR (putR acc (if gone then 1 else 0) 1) key) val W h hc (by omega) |>.mono fun _ _ h => h.c)
      unfold putCh at HSTEP
      simp only at HSTEP
      rw [← HSTEP.out] at H44b
      clear hq1 hq2 hsz HL2 HSTEP
      generalize textR (putR acc (if gone then 1 else 0) 1) key = r2 at *
      generalize putR acc (if gone then 1 else 0) 1 = r1 at *
      generalize acc.length = m at *
      clear hkv
      cases gone with
      | false =>
        have HP43 : Hid (∀ W, ReadsB W B acc → Calls Try.prog 43 #[.slice B m d, .int .i64 0, .int .i64 1] W (RetC r1 W)) := Lib.hid (fun W h => H43.out W h)
        clear H43
        go_wp2
        refine wp_region_mix [(0, true), (1, true), (3, true), (4, true), (6, true), (7, true), (2, false), (5, false), (8, false), (9, true)] (by kernel_rfl) (by kernel_rfl) rfl (by kernel_rfl) (by intro _ _ d _ _ h; cases d <;> exact h) ?_; intro j1; (repeat (first | (refine wpMix_skipK rfl rfl ?_; intro K hK; go_simp; refine hK _ ?_; clear hK K) | (refine wpMix_light rfl rfl ?_; intro K hK; go_simp; refine hK _ ?_; clear hK K) | (refine wpMix_heavy rfl rfl ?_; intro K hK; go_wp2_with ((first | (go_at_call 43; (with_reducible refine (HP43.out _ ?_).mono ?_); (· exact Kd.C_below HC.out (by (repeat' (first | (with_reducible exact Below.refl _ _) | (with_reducible assumption) | (with_reducible exact below_app _ _ _ _) | (with_reducible refine below_pre ?_; (simp only [List.append_assoc, List.prefix_append, List.prefix_refl, List.prefix_append_right_inj])) | (with_reducible refine Below.alloc ?_ ?_ _) | (with_reducible refine below_ext ?_ ?_ _) | (with_reducible refine Below.drew ?_) | (with_reducible refine below_drewN ?_ _) | (with_reducible refine Below.setCell ?_ ?_ _) | go_size | (simp only [w_size_ext, List.length_append, World.alloc_size]; omega) | (simp; done) | (simp; omega))))); rintro e1 w3 ⟨A3, c3, rfl, hc3, HB3, hC3⟩; have hb3 := below_tr (w_ext_below _ j1) HB3.out) | (go_at_call 44; (with_reducible refine (H44a.out _ _ _ hC3.out hc3.out).mono ?_); rintro e1 w4 ⟨A4, c4, rfl, hc4, HB4, hC4⟩; have hb4 := below_tr hb3 HB4.out) | (go_at_call 44; (with_reducible refine (H44b.out _ _ _ hC4.out hc4.out).mono ?_); rintro e1 w5 ⟨A5, c5, rfl, hc5, HB5, hC5⟩; have hb5 := below_tr hb4 HB5.out))); refine ⟨w_ext_of_below (by (repeat' (first | (with_reducible exact Below.refl _ _) | (with_reducible assumption) | (with_reducible exact below_app _ _ _ _) | (with_reducible refine below_pre ?_; (simp only [List.append_assoc, List.prefix_append, List.prefix_refl, List.prefix_append_right_inj])) | (with_reducible refine Below.alloc ?_ ?_ _) | (with_reducible refine below_ext ?_ ?_ _) | (with_reducible refine Below.drew ?_) | (with_reducible refine below_drewN ?_ _) | (with_reducible refine Below.setCell ?_ ?_ _) | go_size | (simp only [w_size_ext, List.length_append, World.alloc_size]; omega) | (simp; done) | (simp; omega)))), ?_⟩))); refine wpMix_nil ?_
        go_wp2
        go_roundw
        case rel => exact ⟨i + 1, A5, c5, by omega, by first | rfl | rw [hwr], by rw [HR3.out], Lib.hid (below_tr HB.out (below_tr (Below.alloc (Below.refl _ _) (Nat.le_refl _) _) hb5)), Lib.hid (by rw [HR3.out]; exact hc5.out), Lib.hid (by rw [HR3.out]; exact hC5.out)⟩
        case measure => first | (simp [intOf]; omega) | (rw [intOf_lit, intOf_lit, hwr]; omega)
      | true =>
        have HP43 : Hid (∀ W, ReadsB W B acc → Calls Try.prog 43 #[.slice B m d, .int .i64 1, .int .i64 1] W (RetC r1 W)) := Lib.hid (fun W h => H43.out W h)
        clear H43
        go_wp2
        refine wp_region_mix [(0, true), (1, true), (3, true), (4, true), (6, true), (7, true), (2, false), (5, false), (8, false), (9, true)] (by kernel_rfl) (by kernel_rfl) rfl (by kernel_rfl) (by intro _ _ d _ _ h; cases d <;> exact h) ?_; intro j1; (repeat (first | (refine wpMix_skipK rfl rfl ?_; intro K hK; go_simp; refine hK _ ?_; clear hK K) | (refine wpMix_light rfl rfl ?_; intro K hK; go_simp; refine hK _ ?_; clear hK K) | (refine wpMix_heavy rfl rfl ?_; intro K hK; go_wp2_with ((first | (go_at_call 43; (with_reducible refine (HP43.out _ ?_).mono ?_); (· exact Kd.C_below HC.out (by (repeat' (first | (with_reducible exact Below.refl _ _) | (with_reducible assumption) | (with_reducible exact below_app _ _ _ _) | (with_reducible refine below_pre ?_; (simp only [List.append_assoc, List.prefix_append, List.prefix_refl, List.prefix_append_right_inj])) | (with_reducible refine Below.alloc ?_ ?_ _) | (with_reducible refine below_ext ?_ ?_ _) | (with_reducible refine Below.drew ?_) | (with_reducible refine below_drewN ?_ _) | (with_reducible refine Below.setCell ?_ ?_ _) | go_size | (simp only [w_size_ext, List.length_append, World.alloc_size]; omega) | (simp; done) | (simp; omega))))); rintro e1 w3 ⟨A3, c3, rfl, hc3, HB3, hC3⟩; have hb3 := below_tr (w_ext_below _ j1) HB3.out) | (go_at_call 44; (with_reducible refine (H44a.out _ _ _ hC3.out hc3.out).mono ?_); rintro e1 w4 ⟨A4, c4, rfl, hc4, HB4, hC4⟩; have hb4 := below_tr hb3 HB4.out) | (go_at_call 44; (with_reducible refine (H44b.out _ _ _ hC4.out hc4.out).mono ?_); rintro e1 w5 ⟨A5, c5, rfl, hc5, HB5, hC5⟩; have hb5 := below_tr hb4 HB5.out))); refine ⟨w_ext_of_below (by (repeat' (first | (with_reducible exact Below.refl _ _) | (with_reducible assumption) | (with_reducible exact below_app _ _ _ _) | (with_reducible refine below_pre ?_; (simp only [List.append_assoc, List.prefix_append, List.prefix_refl, List.prefix_append_right_inj])) | (with_reducible refine Below.alloc ?_ ?_ _) | (with_reducible refine below_ext ?_ ?_ _) | (with_reducible refine Below.drew ?_) | (with_reducible refine below_drewN ?_ _) | (with_reducible refine Below.setCell ?_ ?_ _) | go_size | (simp only [w_size_ext, List.length_append, World.alloc_size]; omega) | (simp; done) | (simp; omega)))), ?_⟩))); refine wpMix_nil ?_
        go_wp2
        go_roundw
        case rel => exact ⟨i + 1, A5, c5, by omega, by first | rfl | rw [hwr], by rw [HR3.out], Lib.hid (below_tr HB.out (below_tr (Below.alloc (Below.refl _ _) (Nat.le_refl _) _) hb5)), Lib.hid (by rw [HR3.out]; exact hc5.out), Lib.hid (by rw [HR3.out]; exact hC5.out)⟩
        case measure => first | (simp [intOf]; omega) | (rw [intOf_lit, intOf_lit, hwr]; omega)
end Go.Proofs.Ytelhclamoapnhaa

set_option linter.unusedSimpArgs false
set_option linter.unusedVariables false
namespace Go.Proofs.Ytelhclamoapnhaa
open Go.RowKit Go.Proofs.YtelhclamoapnhaaW.PrintWords

/-- Texts that lie in a slice. -/
def StrsAt (w : World) (A : Option Addr) (x : List ByteArray) : Prop := ∀ i, i < x.length → ∃ b o : Nat, A = some ⟨b, o, none⟩ ∧ w.cell? ⟨b, o + i, none⟩ = some (.string (x.getD i ByteArray.empty))
theorem StrsAt.later {w w' : World} {A : Option Addr} {x : List ByteArray} (h : StrsAt w A x) (hb : Below w.heap.size w w') : StrsAt w' A x := fun i hi => by
  obtain ⟨b, o, e, h0⟩ := h i hi
  exact ⟨b, o, e, by rw [hb.cell (p := ⟨b, o + i, none⟩) (World.block_lt_of_cell? w _ h0)]; exact h0⟩
/-- Texts that were laid anew, as a slice. -/
def NewS (l : List ByteArray) (w : World) : Ending → World → Prop := fun e w' => ∃ (A : Option Addr) (c : Nat), e = .returned (.slice A l.length c) ∧ Hid (Below w.heap.size w w') ∧ Hid (StrsAt w' A l) ∧ Hid (l.length ≤ c) ∧ Hid (c ≤ maxLen)
theorem NewS.own {l : List ByteArray} {w w' : World} {v : Value} (ho : w'.ownsRow w.heap.size 9 1 v l.length (l.map Value.string)) (hb : Below w.heap.size w w') : NewS l w (.returned v) w' := by
  obtain ⟨_, ⟨rfl, h0⟩ | ⟨g, cap, cur, rfl, h1, h2, h3, h4, h5, h6⟩⟩ := id ho
  · refine ⟨none, 0, by rw [h0], Lib.hid hb, Lib.hid fun i hi => by omega, Lib.hid (by omega), Lib.hid (Nat.zero_le _)⟩
  refine ⟨some ⟨g, 0, none⟩, cap, rfl, Lib.hid hb, Lib.hid fun i hi => ⟨g, 0, rfl, ?_⟩, Lib.hid (by omega), Lib.hid h4⟩
  have hc := ho.cells (g := g) rfl i (.string (l.getD i ByteArray.empty)) (by
    rw [List.getElem?_map, List.getElem?_eq_getElem hi, List.getD_eq_getElem?_getD, List.getElem?_eq_getElem hi]; rfl)
  have ha : (⟨g, 0, none⟩ : Addr).add i = ⟨g, 0 + i, none⟩ := by unfold Addr.add; split <;> simp_all
  rwa [ha] at hc
theorem app_str (w W : World) (v : Value) (l : List ByteArray) (q : ByteArray) (HO : W.ownsRow w.heap.size 9 1 v l.length (l.map Value.string)) (HB : Below w.heap.size w W) (hl : l.length ≤ 10000000) :
    ∃ (v2 : Value) (w2 : World), (Builtin.append_ #[25, 25] 25 #[v, .slice (some ⟨W.heap.size, 0, none⟩) 1 1]).run Try.prog (W.alloc (.cells #[.string q] 9)) = .ok v2 w2 ∧ Hid (w2.ownsRow w.heap.size 9 1 v2 (l ++ [q]).length ((l ++ [q]).map Value.string)) ∧ Hid (Below w.heap.size w w2) := by
  obtain ⟨i0, hi, hzz⟩ := Option.map_eq_some_iff.1 (show (Try.prog.info? 9).map (fun i => (i.zero, i.size, i.bytes)) = some (some (.string ⟨#[]⟩), 1, 16) by kernel_rfl)
  simp only [Prod.mk.injEq] at hzz
  obtain ⟨hz0, hz1, hz2⟩ := hzz
  have hbase : w.heap.size ≤ W.heap.size := HB.size
  obtain ⟨v2, w2, hr, hown, hg, _, _⟩ := run_append_own_at (P := Try.prog) (W.alloc (.cells #[.string q] 9)) w.heap.size 25 25 9 i0 (.string ⟨#[]⟩) 1 16 Try.underlying25 hi hz0 hz1 hz2 rfl (by decide) v l.length (l.map Value.string) (HO.alloc _) ⟨W.heap.size, 0, none⟩ 1 1 [.string q] rfl
    (World.news_of_block (cs := #[.string q]) (t := 9) (fr := (0, 0)) (heap_alloc_new W _)) (by simp [Value.oneCell']) (by simp only [maxLen]; omega) (by omega) (by simp; omega)
  have own_b : ∀ k, v.ownBlock = some k → w.heap.size ≤ k := fun k hk => by
    obtain ⟨_, ⟨rfl, _⟩ | ⟨g, cap, cur, rfl, hb, _⟩⟩ := HO
    · simp [Value.ownBlock] at hk
    · have : g = k := by simpa [Value.ownBlock] using hk
      omega
  refine ⟨v2, w2, hr, Lib.hid ?_, Lib.hid ((HB.alloc hbase _).grown hg (by simp; omega) own_b)⟩
  rw [List.length_append, List.map_append]
  exact hown
/-- A text in parts of 512 bytes. -/
def cutP (s : ByteArray) : List ByteArray := if h : s.size ≤ 512 then [s] else s.extract 0 512 :: cutP (s.extract 512 s.size)
termination_by s.size
decreasing_by simp only [ByteArray.size_extract]; omega
def strLen : Value → Nat
  | .string s => s.size
  | _ => 0
theorem strLen_str (s : ByteArray) : strLen (.string s) = s.size := rfl
theorem cutP_small {s : ByteArray} (h : s.size ≤ 512) : cutP s = [s] := by rw [cutP, dif_pos h]
theorem cutP_big {s : ByteArray} (h : ¬ s.size ≤ 512) : cutP s = s.extract 0 512 :: cutP (s.extract 512 s.size) := by rw [cutP, dif_neg h]
set_option maxHeartbeats 2000000 in
set_option maxRecDepth 100000 in
theorem cut_any (A : Option Addr) (c : Nat) (l : List Ch) (w : World) (hA : ChsAt w A l) (hl : l.length ≤ 5000) (ht : chTot l ≤ 1000000) : Calls Try.prog 11 #[.slice A l.length c] w (NewS (cutP (strOfNums (putAll l))) w) := by
  have HP := Lib.hid (diffput_any A c l w hA hl ht)
  have hsz : (strOfNums (putAll l)).size ≤ 2000000 := by
    rw [strOfNums_size]
    have h1 := putUp_length l l.length (Nat.le_refl _)
    rw [putUp_end, List.take_length] at h1
    omega
  generalize strOfNums (putAll l) = s0 at *
  generalize l.length = n at *
  clear hA ht
  go_enter Try.func11, Try.ntmps11
  go_wp2_with (go_at_call 33; (with_reducible refine HP.out.mono ?_); rintro e1 w1 ⟨rfl, j1, hw1⟩; have HB1 := Lib.hid (show Below w.heap.size w w1 by rw [hw1]; exact w_ext_below _ _); clear hw1)
  go_loopw [3, 4] (fun v3 v4 wr => ∃ (s : ByteArray) (acc : List ByteArray), v3 = .string s ∧ s.size ≤ 2000000 ∧ acc.length + s.size ≤ 2000000 ∧ Hid (acc ++ cutP s = cutP s0) ∧ Hid (wr.ownsRow w.heap.size 9 1 v4 acc.length (acc.map Value.string)) ∧ Hid (Below w.heap.size w wr)) (fun v3 _ _ => strLen v3)
  case atStart => exact ⟨s0, [], rfl, hsz, by simpa using hsz, Lib.hid rfl, Lib.hid ⟨rfl, Or.inl ⟨rfl, rfl⟩⟩, HB1⟩
  case round =>
    obtain ⟨s, acc, rfl, hs, hal, HC, HO, HB⟩ := hrel
    by_cases h5 : (512 : Int) < (s.size : Int)
    · have HC2 := Lib.hid (show (acc ++ [s.extract 0 512]) ++ cutP (s.extract 512 s.size) = cutP s0 by
        rw [List.append_assoc, ← HC.out, cutP_big (s := s) (by omega)]; rfl)
      obtain ⟨v2, w2, happ, HO2, HB2⟩ := app_str w _ _ acc (s.extract 0 512) HO.out HB.out (by omega)
      have hls : (s.extract 512 s.size).size = s.size - 512 := by rw [ByteArray.size_extract]; omega
      have HLS := Lib.hid hls
      have h512 : (512 : Int) ≤ (s.size : Int) := by omega
      have h512n : ¬ (s.size : Int) < 512 := by omega
      clear hls HO HB
      go_wp2_with (at_builtin; refine app_step 25 _ _ rfl rfl rfl rfl rfl happ ?_)
      go_roundw
      case rel => exact ⟨_, acc ++ [s.extract 0 512], rfl, by rw [HLS.out]; omega, by rw [HLS.out, List.length_append, List.length_singleton]; omega, HC2, HO2, HB2⟩
      case measure => rw [strLen_str, strLen_str, HLS.out]; omega
    · have HC2 := Lib.hid (show cutP s0 = acc ++ [s] by rw [← HC.out, cutP_small (by omega)])
      obtain ⟨v2, w2, happ, HO2, HB2⟩ := app_str w _ _ acc s HO.out HB.out (by omega)
      clear HO HB
      go_wp2_with (at_builtin; refine app_step 25 _ _ rfl rfl rfl rfl rfl happ ?_)
      go_ret
      rw [HC2.out]
      exact NewS.own HO2.out HB2.out
end Go.Proofs.Ytelhclamoapnhaa

set_option linter.unusedSimpArgs false
set_option linter.unusedVariables false
namespace Go.Proofs.Ytelhclamoapnhaa
open Go.RowKit

/-- Are two changes the same? -/
def eqCh (a b : Ch) : Bool := a.key.toList == b.key.toList && (a.val.toList == b.val.toList && a.gone == b.gone)
theorem toList_inj {a b : ByteArray} : a.toList = b.toList ↔ a = b := ⟨fun e => by
  apply ByteArray.ext
  apply Array.toList_inj.1
  rw [← ByteArray.toList_eq, ← ByteArray.toList_eq]
  exact e, fun e => by rw [e]⟩
theorem eqCh_iff (a b : Ch) : eqCh a b = true ↔ a = b := by
  obtain ⟨k, v, g⟩ := a
  obtain ⟨k2, v2, g2⟩ := b
  unfold eqCh
  simp only [Bool.and_eq_true, beq_iff_eq, toList_inj]
  constructor
  · rintro ⟨rfl, rfl, rfl⟩; rfl
  · intro e; injection e with e1 e2 e3; exact ⟨e1, e2, e3⟩
instance : DecidableEq Ch := fun a b => if h : eqCh a b = true then isTrue ((eqCh_iff a b).1 h) else isFalse (fun e => h ((eqCh_iff a b).2 e))
theorem neq_ch (k v k2 v2 : ByteArray) (g g2 : Bool) (W : World) : (binOp .neq 43 (.agg #[.string k, .string v, .bool g]) (.agg #[.string k2, .string v2, .bool g2])).run Try.prog W = .ok (.bool (!(eqCh ⟨k, v, g⟩ ⟨k2, v2, g2⟩))) W := by
  have h : ∀ w, (Op.equalIn 10000 43 (.agg #[.string k, .string v, .bool g]) (.agg #[.string k2, .string v2, .bool g2])).run Try.prog w = .ok (eqCh ⟨k, v, g⟩ ⟨k2, v2, g2⟩) w := fun w => by
    unfold eqCh
    rw [Op.equalIn.eq_def]
    simp only [go_sem]
    simp [go_sem, List.range', List.forIn_cons, List.forIn_nil]
    repeat' split
    all_goals simp_all
  simp only [binOp]
  simp [Op.equal, Op.maxDepth, h]
set_option maxHeartbeats 2000000 in
set_option maxRecDepth 100000 in
theorem eqC_len (A B : Option Addr) (c d n m : Nat) (w : World) (h : ¬ (n : Int) = (m : Int)) : Calls Try.prog 21 #[.slice A n c, .slice B m d] w (Ret (.bool false) w) := by
  go_enter Try.func21, Try.ntmps21
  go_wp2
  go_ret
  exact Ret.mk rfl (Below.refl _ _)
set_option maxHeartbeats 2000000 in
set_option maxRecDepth 100000 in
theorem eqC_same (A B : Option Addr) (c d n : Nat) (x y : List Ch) (w : World) (hA : ChsAt w A x) (hB : ChsAt w B y) (hx : x.length = n) (hy : y.length = n) (hn : n ≤ 100000000) : Calls Try.prog 21 #[.slice A n c, .slice B n d] w (Ret (.bool (decide (x = y))) w) := by
  have HA := Lib.hid hA
  have HY := Lib.hid hB
  have HN := Lib.hid hx
  have HM := Lib.hid hy
  have HYES := Lib.hid (show (∀ i, i < n → x.getD i noCh = y.getD i noCh) → decide (x = y) = true from fun h => decide_eq_true (by
    apply List.ext_getElem (hx.trans hy.symm)
    intro i h1 h2
    have := h i (by omega)
    rwa [List.getD_eq_getElem?_getD, List.getD_eq_getElem?_getD, List.getElem?_eq_getElem h1, List.getElem?_eq_getElem h2] at this))
  have HNO := Lib.hid (show ∀ i, i < n → ¬ x.getD i noCh = y.getD i noCh → decide (x = y) = false from fun i hi h => decide_eq_false (fun e => h (by rw [e])))
  generalize decide (x = y) = r at *
  clear hA hB hx hy
  go_enter Try.func21, Try.ntmps21
  go_wp2
  go_loopw [5, 13] (fun v5 v13 wr => ∃ (i : Nat), i ≤ n ∧ v13 = .int .i64 (i : Int) ∧ Hid (Below w.heap.size w wr) ∧ Hid (∀ j, j < i → x.getD j noCh = y.getD j noCh)) (fun _ i _ => ((n : Int) - intOf i).toNat)
  case atStart => exact ⟨0, Nat.zero_le _, rfl, Lib.hid (Below.refl _ _), Lib.hid fun j hj => by omega⟩
  case round =>
    obtain ⟨i, hi, rfl, HB, HG⟩ := hrel
    by_cases hin : i = n
    · subst hin
      have HF := Lib.hid (HYES.out HG.out)
      go_wp2
      go_ret
      exact Ret.mk (by rw [HF.out]; rfl) HB.out
    · have hlt : (i : Int) < (n : Int) := by omega
      have hge : (0 : Int) ≤ (i : Int) := by omega
      have hnl : ¬ (i : Int) < 0 := by omega
      have hwr : wrap64 ((i : Int) + 1) = ((i + 1 : Nat) : Int) := by rw [wrap64_eq]; omega
      obtain ⟨b, o, eA, h0, h1, h2⟩ := (HA.out.later HB.out) i (by rw [HN.out]; omega)
      obtain ⟨b2, o2, eB, g0, g1, g2⟩ := (HY.out.later HB.out) i (by rw [HM.out]; omega)
      subst eA
      subst eB
      have hlb := leB_of_cell h0
      have hlb2 := leB_of_cell g0
      have HGS := Lib.hid (show x.getD i noCh = y.getD i noCh → ∀ j, j < i + 1 → x.getD j noCh = y.getD j noCh from fun h j hj => by
        by_cases e : j = i
        · rw [e]; exact h
        · exact HG.out j (by omega))
      have HNF := Lib.hid (HNO.out i (by omega))
      generalize x.getD i noCh = ch at *
      generalize y.getD i noCh = ch2 at *
      obtain ⟨k1, v1, q1⟩ := ch
      obtain ⟨k2, v2, q2⟩ := ch2
      simp only at h0 h1 h2 g0 g1 g2
      have hnq := fun W => neq_ch k1 v1 k2 v2 q1 q2 W
      cases hq : eqCh ⟨k1, v1, q1⟩ ⟨k2, v2, q2⟩ with
      | true =>
        have HG2 := Lib.hid (HGS.out ((eqCh_iff _ _).1 hq))
        rw [hq] at hnq
        simp only [Bool.not_true] at hnq
        clear hq
        go_wp2
        refine wp_region_mix [(0, true), (1, true), (2, true), (3, true), (4, true), (5, true), (6, true), (7, true), (8, true)] (by kernel_rfl) (by kernel_rfl) rfl (by kernel_rfl) (by intro _ _ d _ _ h; cases d <;> exact h) ?_; intro j1; (repeat (first | (refine wpMix_skipK rfl rfl ?_; simp only [Act.put, List.setIfInBounds_toArray, List.set_cons_zero, List.set_cons_succ]) | (refine wpMix_light rfl rfl ?_; intro K hK; go_simp; refine hK _ ?_; clear hK K) | (refine wpMix_heavy rfl rfl ?_; intro K hK; go_wp2_with (fail); refine ⟨w_ext_of_below (by (repeat' (first | (with_reducible exact Below.refl _ _) | (with_reducible assumption) | (with_reducible exact below_app _ _ _ _) | (with_reducible refine below_pre ?_; (simp only [List.append_assoc, List.prefix_append, List.prefix_refl, List.prefix_append_right_inj])) | (with_reducible refine Below.alloc ?_ ?_ _) | (with_reducible refine below_ext ?_ ?_ _) | (with_reducible refine Below.drew ?_) | (with_reducible refine below_drewN ?_ _) | (with_reducible refine Below.setCell ?_ ?_ _) | go_size | (simp only [w_size_ext, List.length_append, World.alloc_size]; omega) | (simp; done) | (simp; omega)))), ?_⟩))); refine wpMix_nil ?_
        go_wp2
        go_roundw
        case rel => exact ⟨i + 1, by omega, by first | rfl | rw [hwr], Lib.hid (below_tr HB.out (by (repeat' (first | (with_reducible exact Below.refl _ _) | (with_reducible assumption) | (with_reducible exact below_app _ _ _ _) | (with_reducible refine below_pre ?_; (simp only [List.append_assoc, List.prefix_append, List.prefix_refl, List.prefix_append_right_inj])) | (with_reducible refine Below.alloc ?_ ?_ _) | (with_reducible refine below_ext ?_ ?_ _) | (with_reducible refine Below.drew ?_) | (with_reducible refine below_drewN ?_ _) | (with_reducible refine Below.setCell ?_ ?_ _) | go_size | (simp only [w_size_ext, List.length_append, World.alloc_size]; omega) | (simp; done) | (simp; omega))))), HG2⟩
        case measure => first | (simp [intOf]; omega) | (rw [intOf_lit, intOf_lit, hwr]; omega)
      | false =>
        have HF := Lib.hid (HNF.out (fun e => by rw [(eqCh_iff _ _).2 e] at hq; cases hq))
        rw [hq] at hnq
        simp only [Bool.not_false] at hnq
        clear hq
        go_wp2
        refine wp_region_mix [(0, true), (1, true), (2, true), (3, true), (4, true), (5, true), (6, true), (7, true), (8, true)] (by kernel_rfl) (by kernel_rfl) rfl (by kernel_rfl) (by intro _ _ d _ _ h; cases d <;> exact h) ?_; intro j1; (repeat (first | (refine wpMix_skipK rfl rfl ?_; simp only [Act.put, List.setIfInBounds_toArray, List.set_cons_zero, List.set_cons_succ]) | (refine wpMix_light rfl rfl ?_; intro K hK; go_simp; refine hK _ ?_; clear hK K) | (refine wpMix_heavy rfl rfl ?_; intro K hK; go_wp2_with (fail); refine ⟨w_ext_of_below (by (repeat' (first | (with_reducible exact Below.refl _ _) | (with_reducible assumption) | (with_reducible exact below_app _ _ _ _) | (with_reducible refine below_pre ?_; (simp only [List.append_assoc, List.prefix_append, List.prefix_refl, List.prefix_append_right_inj])) | (with_reducible refine Below.alloc ?_ ?_ _) | (with_reducible refine below_ext ?_ ?_ _) | (with_reducible refine Below.drew ?_) | (with_reducible refine below_drewN ?_ _) | (with_reducible refine Below.setCell ?_ ?_ _) | go_size | (simp only [w_size_ext, List.length_append, World.alloc_size]; omega) | (simp; done) | (simp; omega)))), ?_⟩))); refine wpMix_nil ?_
        go_wp2
        go_ret
        exact Ret.mk (by rw [HF.out]; rfl) (below_tr HB.out (by (repeat' (first | (with_reducible exact Below.refl _ _) | (with_reducible assumption) | (with_reducible exact below_app _ _ _ _) | (with_reducible refine below_pre ?_; (simp only [List.append_assoc, List.prefix_append, List.prefix_refl, List.prefix_append_right_inj])) | (with_reducible refine Below.alloc ?_ ?_ _) | (with_reducible refine below_ext ?_ ?_ _) | (with_reducible refine Below.drew ?_) | (with_reducible refine below_drewN ?_ _) | (with_reducible refine Below.setCell ?_ ?_ _) | go_size | (simp only [w_size_ext, List.length_append, World.alloc_size]; omega) | (simp; done) | (simp; omega)))))
theorem eqC_any (A B : Option Addr) (c d : Nat) (x y : List Ch) (w : World) (hA : ChsAt w A x) (hB : ChsAt w B y) (hx : x.length ≤ 100000000) : Calls Try.prog 21 #[.slice A x.length c, .slice B y.length d] w (Ret (.bool (decide (x = y))) w) := by
  by_cases h : x.length = y.length
  · have := eqC_same A B c d x.length x y w hA hB rfl h.symm hx
    rw [h] at this ⊢
    exact this
  · rw [decide_eq_false (fun e => h (by rw [e]))]
    exact eqC_len A B c d _ _ w (by omega)
end Go.Proofs.Ytelhclamoapnhaa

set_option linter.unusedSimpArgs false
set_option linter.unusedVariables false
namespace Go.Proofs.Ytelhclamoapnhaa
open Go.RowKit

theorem builderSize : ∃ j, Try.prog.info? 67 = some j ∧ j.size ≠ 0 := by
  obtain ⟨j, hj, hs⟩ := Option.map_eq_some_iff.1 (show (Try.prog.info? 67).map (·.size) = some 2 by kernel_rfl)
  exact ⟨j, hj, by rw [hs]; decide⟩
theorem builderLies : liesAt Try.prog Try.prog.depth 67 (2 / Try.prog.cellsOf 67) 0 67 1 = true := by kernel_rfl
set_option maxHeartbeats 2000000 in
set_option maxRecDepth 100000 in
theorem check_used (b : Nat) (w : World) (h0 : w.cell? ⟨b, 0, none⟩ = some (.pointer (some ⟨b, 0, none⟩))) : Calls Try.prog 47 #[.pointer (some ⟨b, 0, none⟩)] w (Tells (.tuple #[]) w) := by
  obtain ⟨j, hj, _⟩ := builderSize
  go_enter Try.func47, Try.ntmps47
  go_wp2
  rw [Lib.run_neq_ptr_same w _ Try.underlying64 hj]
  go_wp2
  go_end0
  exact ⟨rfl, rfl⟩
set_option maxHeartbeats 2000000 in
set_option maxRecDepth 100000 in
theorem check_fresh (b : Nat) (w : World) (h0 : w.cell? ⟨b, 0, none⟩ = some (.pointer none)) (hsh : w.shape? b = some (67, 2)) (hfz : w.frozen? ⟨b, 0, none⟩ = false) : Calls Try.prog 47 #[.pointer (some ⟨b, 0, none⟩)] w fun e w' => e = .returned (.tuple #[]) ∧ w' = w.setCell ⟨b, 0, none⟩ (.pointer (some ⟨b, 0, none⟩)) := by
  obtain ⟨j, hj, hjs⟩ := builderSize
  go_enter Try.func47, Try.ntmps47
  go_wp2
  rw [Lib.run_to_unsafe w ⟨b, 0, none⟩ Try.underlying64 Try.underlying92 hj hjs hsh (Nat.zero_lt_succ 1)]
  simp only [Result.andThen]
  rw [Oper.upon_value]
  go_wp2
  rw [run_callFunc_extern Try.func57 (by kernel_rfl) (by kernel_rfl) (by kernel_rfl) (e := Extern.AbiNoEscape.same) (by kernel_rfl)]
  rw [Lib.run_noEscape]
  simp only [Result.andThen]
  rw [Oper.upon_value]
  go_wp2
  rw [Lib.run_from_unsafe w ⟨b, 0, none⟩ Try.underlying92 Try.underlying64 hj hsh builderLies]
  simp only [Result.andThen]
  rw [Oper.upon_value]
  go_wp2
  go_end0
  exact ⟨rfl, rfl⟩
/-- A builder behind its own check. -/
def CheckP (B b : Nat) (bs : List Value) (w : World) (e : Ending) (w' : World) : Prop := e = .returned (.tuple #[]) ∧ Lib.BuilderAt 67 5 B b (.pointer (some ⟨b, 0, none⟩)) bs w' ∧ Below B w w'
theorem check_any (B b : Nat) (bs : List Value) (w : World) (h : Lib.IsBuilder 67 5 B b bs w) : Calls Try.prog 47 #[.pointer (some ⟨b, 0, none⟩)] w (CheckP B b bs w) := by
  rcases h with h | h
  · refine (check_fresh b w h.cell0 h.shape h.frozen0).mono ?_
    rintro e w' ⟨rfl, rfl⟩
    exact ⟨rfl, h.used _, (Below.refl B w).setCell (p := ⟨b, 0, none⟩) h.1 _⟩
  · refine (check_used b w h.cell0).mono ?_
    rintro e w' ⟨rfl, rfl⟩
    exact ⟨rfl, h, Below.refl B _⟩
/-- A builder with more behind what it held. -/
def WroteP (B b : Nat) (bs : List Value) (n : Int) (w : World) (e : Ending) (w' : World) : Prop := e = .returned (.tuple #[.int .i64 n, .nilIface]) ∧ Lib.BuilderAt 67 5 B b (.pointer (some ⟨b, 0, none⟩)) bs w' ∧ Below B w w'
set_option maxHeartbeats 2000000 in
set_option maxRecDepth 100000 in
theorem write_any (B b : Nat) (bs : List Value) (s : ByteArray) (w : World) (h : Lib.IsBuilder 67 5 B b bs w) (hlen : bs.length + s.size ≤ 140737488355328) (hBw : B ≤ w.heap.size) : Calls Try.prog 36 #[.pointer (some ⟨b, 0, none⟩), .string s] w (WroteP B b (bs ++ Lib.strCells s) (s.size : Int) w) := by
  obtain ⟨i0, hi, hz0, hz1, hz2⟩ := info_parts (show (Try.prog.info? 5).map (fun i => (i.zero, i.size, i.bytes)) = some (some (.int .u8 0), 1, 1) by kernel_rfl)
  have HLEN := Lib.hid hlen
  clear hlen
  go_enter Try.func36, Try.ntmps36
  go_wp2_with (first | (go_at_call 47; (with_reducible refine (check_any B b bs _ h).mono ?_); rintro e w1 ⟨rfl, h1, hb1⟩; obtain ⟨hB, v, hbk, hown, hne⟩ := h1; have c0 : w1.cell? ⟨b, 0, none⟩ = some (.pointer (some ⟨b, 0, none⟩)) := (by rw [Lib.cell_of_heap hbk]; rfl); have c1 : w1.cell? ⟨b, 1, none⟩ = some v := (by rw [Lib.cell_of_heap hbk]; rfl)) | (at_builtin; refine Lib.wpList_append_own_string _ rfl _ _ 65 9 rfl B 5 i0 Try.underlying65 Try.underlying9 hi hz0 hz1 hz2 _ _ _ rfl hown s rfl ?c3 ?c4 ?c5 ?_))
  case c3 => have := HLEN.out; unfold maxLen; omega
  case c4 => have := HLEN.out; omega
  case c5 => have := hb1.size; omega
  intro v' w2 hown' hgrow _
  have hlt : b < w1.heap.size := by
    rcases Nat.lt_or_ge b w1.heap.size with h' | h'
    · exact h'
    · simp [Array.getElem?_eq_none h'] at hbk
  have hb2 : w2.heap[b]? = some (.cells #[.pointer (some ⟨b, 0, none⟩), v] 67 (0, 0)) := by
    rw [hgrow.block b hlt (fun e => hne e.symm)]
    exact hbk
  have d0 : w2.cell? ⟨b, 0, none⟩ = some (.pointer (some ⟨b, 0, none⟩)) := by rw [Lib.cell_of_heap hb2]; rfl
  have d1 : w2.cell? ⟨b, 1, none⟩ = some v := by rw [Lib.cell_of_heap hb2]; rfl
  have f1 : w2.frozen? ⟨b, 1, none⟩ = false := Lib.frozen_of_heap hb2 1
  obtain ⟨ao, n', cap, rfl⟩ : ∃ ao n' cap, v' = .slice ao n' cap := by
    rcases hown'.2 with ⟨hv, _⟩ | ⟨g, cap, cur, hv, _⟩
    · exact ⟨_, _, _, hv⟩
    · exact ⟨_, _, _, hv⟩
  go_wp2
  go_ret2
  refine ⟨rfl, ?_, ?_⟩
  · exact Lib.BuilderAt.put (T := 67) (e := 5) hB hb2 (bs' := bs ++ Lib.strCells s) (by simpa [Lib.strCells_length] using hown') (by decide)
  · exact (hb1.grown hgrow (by have := hb1.size; omega) (fun k hk => (hown.lt k hk).1)).setCell (p := ⟨b, 1, none⟩) hB _
end Go.Proofs.Ytelhclamoapnhaa
