/- Plain laws: words and numbers of a line. No condition. -/
import Derived.Lib.AtoiAll
import Derived.Lib.ItoaNum
import Derived.Lib.ItoaMem
set_option linter.unusedSimpArgs false
set_option linter.unusedVariables false
namespace Go.Proofs.YtmcooenafgihkaaGreatDoor

/-- The bytes that stand for themselves besides letters and digits. -/
def moreL : List UInt8 := [47, 46, 95, 45, 42, 63, 43, 58, 44]
/-- Does a byte stand for itself? -/
def plainB (c : UInt8) : Bool := (decide (97 ≤ c.toNat) && decide (c.toNat ≤ 122)) || (decide (65 ≤ c.toNat) && decide (c.toNat ≤ 90)) || (decide (48 ≤ c.toNat) && decide (c.toNat ≤ 57)) || moreL.contains c
/-- A sign of base 16. -/
def hexd (n : Nat) : UInt8 := if n < 10 then UInt8.ofNat (48 + n) else UInt8.ofNat (87 + n)
/-- What a sign of base 16 says. -/
def hexv (c : UInt8) : Option Nat := if 48 ≤ c.toNat ∧ c.toNat ≤ 57 then some (c.toNat - 48) else if 97 ≤ c.toNat ∧ c.toNat ≤ 102 then some (c.toNat - 87) else none
/-- A byte in a word. -/
def wordC (c : UInt8) : List UInt8 := if plainB c = true then [c] else [37, hexd (c.toNat / 16), hexd (c.toNat % 16)]
/-- A text as a word. -/
def wordL (s : List UInt8) : List UInt8 := if s = [] then [37] else s.flatMap wordC
/-- The text whose bytes these are. -/
def scanL : List UInt8 → Option (List UInt8)
  | [] => some []
  | [c] => if c = 37 then none else some [c]
  | [c, d] => if c = 37 ∨ d = 37 then none else some [c, d]
  | c :: a :: b :: r => if c = 37 then (match hexv a, hexv b with
    | some x, some y => (scanL r).map fun t => UInt8.ofNat (16 * x + y) :: t
    | _, _ => none) else (scanL (a :: b :: r)).map fun t => c :: t
theorem hexv_hexd (n : Nat) (h : n < 16) : hexv (hexd n) = some n := by
  have : n = 0 ∨ n = 1 ∨ n = 2 ∨ n = 3 ∨ n = 4 ∨ n = 5 ∨ n = 6 ∨ n = 7 ∨ n = 8 ∨ n = 9 ∨ n = 10 ∨ n = 11 ∨ n = 12 ∨ n = 13 ∨ n = 14 ∨ n = 15 := by omega
  rcases this with rfl | rfl | rfl | rfl | rfl | rfl | rfl | rfl | rfl | rfl | rfl | rfl | rfl | rfl | rfl | rfl <;> decide
theorem plain_not : plainB 37 = false := by decide
theorem scan_plain (c : UInt8) (h : ¬ c = 37) (r : List UInt8) : scanL (c :: r) = (scanL r).map fun t => c :: t := by
  match r with
  | [] => simp [scanL, h]
  | [d] => by_cases hd : d = 37 <;> simp [scanL, h, hd]
  | a :: b :: r => simp [scanL, h]
theorem scan_hex (a b : UInt8) (x y : Nat) (h1 : hexv a = some x) (h2 : hexv b = some y) (r : List UInt8) : scanL (37 :: a :: b :: r) = (scanL r).map fun t => UInt8.ofNat (16 * x + y) :: t := by
  simp [scanL, h1, h2]
theorem scan_word : ∀ s : List UInt8, scanL (s.flatMap wordC) = some s
  | [] => rfl
  | c :: s => by
    have ih := scan_word s
    rw [List.flatMap_cons]
    unfold wordC
    by_cases hp : plainB c = true
    · rw [if_pos hp, List.singleton_append, scan_plain c (fun e => by rw [e, plain_not] at hp; cases hp)]
      have : List.flatMap (fun c => if plainB c = true then [c] else [37, hexd (c.toNat / 16), hexd (c.toNat % 16)]) s = s.flatMap wordC := rfl
      rw [this, ih]
      rfl
    · rw [if_neg hp]
      have hlt := c.toNat_lt
      have : List.flatMap (fun c => if plainB c = true then [c] else [37, hexd (c.toNat / 16), hexd (c.toNat % 16)]) s = s.flatMap wordC := rfl
      rw [this, List.cons_append, List.cons_append, List.cons_append, List.nil_append, scan_hex _ _ _ _ (hexv_hexd _ (by omega)) (hexv_hexd _ (by omega)), ih]
      show some (UInt8.ofNat (16 * (c.toNat / 16) + c.toNat % 16) :: s) = some (c :: s)
      rw [show 16 * (c.toNat / 16) + c.toNat % 16 = c.toNat by omega, UInt8.ofNat_toNat]
theorem wordC_ne (c : UInt8) : wordC c ≠ [] := by
  unfold wordC
  split <;> simp
theorem word_ne (s : List UInt8) : wordL s ≠ [] := by
  unfold wordL
  split
  · simp
  · rename_i h
    cases s with
    | nil => exact absurd rfl h
    | cons c s =>
      rw [List.flatMap_cons]
      intro e
      rw [List.append_eq_nil_iff] at e
      exact wordC_ne c e.1
theorem word_not (s : List UInt8) (h : ¬ s = []) : ¬ wordL s = [37] := by
  unfold wordL
  rw [if_neg h]
  intro e
  have h1 := scan_word s
  rw [e] at h1
  exact absurd h1 (by simp [scanL])
/-- The text of a word. -/
def unwordL (w : List UInt8) : Option (List UInt8) := if w = [37] then some [] else match scanL w with
  | some t => if ¬ w = [] ∧ wordL t = w then some t else none
  | none => none
theorem unword_iff (w t : List UInt8) : unwordL w = some t ↔ wordL t = w := by
  unfold unwordL
  constructor
  · intro h
    split at h
    · rename_i hw
      injection h with h
      rw [← h, hw]; rfl
    · split at h
      · split at h
        · rename_i hh
          injection h with h
          rw [← h]; exact hh.2
        · cases h
      · cases h
  · intro h
    by_cases ht : t = []
    · subst ht
      rw [← h]
      rfl
    · have hw : ¬ w = [37] := fun e => word_not t ht (h.trans e)
      rw [if_neg hw]
      have hs : scanL w = some t := by
        rw [← h]
        unfold wordL
        rw [if_neg ht]
        exact scan_word t
      rw [hs]
      simp only
      rw [if_pos ⟨by rw [← h]; exact word_ne t, h⟩]
theorem word_inj {a b : List UInt8} (h : wordL a = wordL b) : a = b := by
  have h1 := (unword_iff (wordL b) a).2 h
  have h2 := (unword_iff (wordL b) b).2 rfl
  rw [h1] at h2
  injection h2
theorem hexd_range (n : Nat) (h : n < 16) : 48 ≤ (hexd n).toNat := by
  have : n = 0 ∨ n = 1 ∨ n = 2 ∨ n = 3 ∨ n = 4 ∨ n = 5 ∨ n = 6 ∨ n = 7 ∨ n = 8 ∨ n = 9 ∨ n = 10 ∨ n = 11 ∨ n = 12 ∨ n = 13 ∨ n = 14 ∨ n = 15 := by omega
  rcases this with rfl | rfl | rfl | rfl | rfl | rfl | rfl | rfl | rfl | rfl | rfl | rfl | rfl | rfl | rfl | rfl <;> decide
theorem plain_range (c : UInt8) (h : plainB c = true) : 33 ≤ c.toNat := by
  unfold plainB moreL at h
  simp only [Bool.or_eq_true, Bool.and_eq_true, decide_eq_true_eq, List.contains_cons, beq_iff_eq, List.contains_nil, Bool.or_false] at h
  rcases h with ((h | h) | h) | h
  · omega
  · omega
  · omega
  · rcases h with h | h | h | h | h | h | h | h | h
    all_goals (try (subst h; decide))
    all_goals (cases h)
/-- All bytes of a word stand behind the blank. -/
theorem word_range (s : List UInt8) : ∀ x ∈ wordL s, 33 ≤ x.toNat := by
  unfold wordL
  split
  · intro x hx
    rw [List.mem_singleton] at hx
    subst hx; decide
  · intro x hx
    rw [List.mem_flatMap] at hx
    obtain ⟨c, _, hx⟩ := hx
    unfold wordC at hx
    have hlt := c.toNat_lt
    split at hx
    · rename_i hp
      rw [List.mem_singleton] at hx
      subst hx
      exact plain_range _ hp
    · simp only [List.mem_cons, List.not_mem_nil, or_false] at hx
      rcases hx with rfl | rfl | rfl
      · decide
      · have := hexd_range (c.toNat / 16) (by omega); omega
      · have := hexd_range (c.toNat % 16) (by omega); omega
/-- Within an int's bounds. -/
def I64 (n : Int) : Prop := -9223372036854775808 ≤ n ∧ n ≤ 9223372036854775807
theorem digit_nat (d : Nat) (h : d < 10) : (UInt8.ofNat (48 + d)).toNat = 48 + d := by
  rw [UInt8.toNat_ofNat']
  omega
theorem parse_digit (acc d : Nat) (hd : d < 10) (ha : acc * 10 + d < 18446744073709551616) (r : List UInt8) : Lib.parseUint10 acc (UInt8.ofNat (48 + d) :: r) = Lib.parseUint10 (acc * 10 + d) r := by
  have h := digit_nat d hd
  rw [Lib.parseUint10]
  rw [h, if_pos (by omega), if_neg (by omega), show 48 + d - 48 = d by omega, if_neg (by omega)]
theorem parse_dec (u : Nat) (hu : u < 18446744073709551616) (r : List UInt8) : Lib.parseUint10 0 (Lib.decDigits u ++ r) = Lib.parseUint10 u r := by
  rw [Lib.decDigits]
  split
  · rename_i h
    rw [List.singleton_append, parse_digit 0 u h (by omega)]
    simp
  · rename_i h
    rw [List.append_assoc, List.singleton_append, parse_dec (u / 10) (by omega) _, parse_digit (u / 10) (u % 10) (by omega) (by omega)]
    congr 1
    omega
termination_by u
decreasing_by omega
theorem dec_head (u : Nat) : ∃ c r, Lib.decDigits u = c :: r ∧ 48 ≤ c.toNat ∧ c.toNat ≤ 57 := by
  rw [Lib.decDigits]
  split
  · rename_i h
    exact ⟨_, _, rfl, by rw [digit_nat u h]; omega, by rw [digit_nat u h]; omega⟩
  · obtain ⟨c, r, h1, h2⟩ := dec_head (u / 10)
    exact ⟨c, r ++ [UInt8.ofNat (48 + u % 10)], by rw [h1]; rfl, h2⟩
termination_by u
decreasing_by omega
theorem mag_dec (u : Nat) (hu : u < 18446744073709551616) : Lib.parseMag (Lib.decDigits u) = .ok u := by
  obtain ⟨c, r, h1, _⟩ := dec_head u
  unfold Lib.parseMag
  rw [if_neg (by rw [h1]; simp)]
  have h := parse_dec u hu []
  rw [List.append_nil] at h
  rw [h]
  rfl
theorem atoi_itoa (n : Int) (h : I64 n) : Lib.atoiAll (Lib.itoa n) = .ok n := by
  obtain ⟨h1, h2⟩ := h
  unfold Lib.itoa
  split
  · rename_i hn
    unfold Lib.atoiAll
    simp only
    rw [if_pos (by decide), mag_dec _ (by omega)]
    simp only
    rw [if_neg (by intro e; exact e.1 (by decide)), if_neg (by omega), if_pos (by decide)]
    congr 1
    omega
  · rename_i hn
    obtain ⟨c, r, e1, e2, e3⟩ := dec_head n.toNat
    have hm := mag_dec n.toNat (by omega)
    rw [e1] at hm ⊢
    unfold Lib.atoiAll
    simp only
    rw [if_neg (by omega), hm]
    simp only
    rw [if_neg (by omega), if_neg (by intro e; omega), if_neg (by omega)]
    congr 1
    omega
theorem atoi_range {w : List UInt8} {n : Int} (h : Lib.atoiAll w = .ok n) : I64 n := by
  unfold Lib.atoiAll at h
  split at h
  · cases h
  · simp only at h
    split at h
    · cases h
    · cases h
    · split at h
      · cases h
      · split at h
        · cases h
        · injection h with h
          subst h
          unfold I64
          split <;> omega
/-- The number of a word. -/
def numL (w : List UInt8) : Option Int := match Lib.atoiAll w with
  | .ok n => if Lib.itoa n = w then some n else none
  | _ => none
theorem num_iff (w : List UInt8) (n : Int) : numL w = some n ↔ (I64 n ∧ Lib.itoa n = w) := by
  unfold numL
  constructor
  · intro h
    split at h
    · rename_i m hm
      split at h
      · rename_i hw
        injection h with h
        subst h
        exact ⟨atoi_range hm, hw⟩
      · cases h
    · cases h
  · rintro ⟨h1, rfl⟩
    rw [atoi_itoa n h1]
    simp
theorem itoa_inj {a b : Int} (ha : I64 a) (hb : I64 b) (h : Lib.itoa a = Lib.itoa b) : a = b := by
  have h1 := atoi_itoa a ha
  rw [h, atoi_itoa b hb] at h1
  injection h1 with h1
  exact h1.symm
end Go.Proofs.YtmcooenafgihkaaGreatDoor
