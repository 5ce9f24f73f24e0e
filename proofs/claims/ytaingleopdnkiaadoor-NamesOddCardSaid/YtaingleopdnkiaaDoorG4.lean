/- Helper lemmas: the event of a name, in plain words. No condition. -/
import Derived.Test.YtaingleopdnkiaaDoorG2
set_option linter.unusedSimpArgs false
set_option linter.unusedVariables false
namespace Go.Proofs.YtaingleopdnkiaaDoor
open Go.RowKit

/-- What a sign is; -1: none. -/
def dgI (c : UInt8) : Int := Lib.indexByte digS.data.toList c
/-- Is this a sign? -/
def dgOk (c : UInt8) : Bool := decide (0 ≤ dgI c)
/-- What a sign is; 0: none. -/
def dgV (c : UInt8) : Nat := (dgI c).toNat
theorem u8_all {P : UInt8 → Prop} (h : ∀ k : Fin 256, P (UInt8.ofNat k.1)) (c : UInt8) : P c := by
  have h1 := h ⟨c.toNat, c.toNat_lt⟩
  rwa [UInt8.ofNat_toNat] at h1
theorem dgI_ge (c : UInt8) : -1 ≤ dgI c := Lib.indexByte_ge _ _
theorem dgV_lt (c : UInt8) : dgV c < 16 := u8_all (P := fun c => dgV c < 16) (by decide +kernel) c
theorem dig_dg (c : UInt8) (h : dgOk c = true) : dig (dgV c) = c := u8_all (P := fun c => dgOk c = true → dig (dgV c) = c) (by decide +kernel) c h
theorem dg_dig (k : Nat) (h : k < 16) : dgV (dig k) = k := (show ∀ k : Fin 16, dgV (dig k.1) = k.1 by decide +kernel) ⟨k, h⟩
theorem ok_dig (k : Nat) (h : k < 16) : dgOk (dig k) = true := (show ∀ k : Fin 16, dgOk (dig k.1) = true by decide +kernel) ⟨k, h⟩
theorem dgI_ok (c : UInt8) (h : dgOk c = true) : dgI c = (dgV c : Int) := by
  unfold dgOk at h; unfold dgV
  have := of_decide_eq_true h
  omega
theorem dgI_no (c : UInt8) (h : dgOk c = false) : dgI c = -1 := by
  unfold dgOk at h
  have := of_decide_eq_false h
  have := dgI_ge c
  omega
theorem dgV_no (c : UInt8) (h : dgOk c = false) : dgV c = 0 := by
  unfold dgV; rw [dgI_no c h]; rfl
/-- The number of signs. -/
def valD (l : List UInt8) : Nat := l.foldl (fun n c => 16 * n + dgV c) 0
theorem valD_snoc (l : List UInt8) (c : UInt8) : valD (l ++ [c]) = 16 * valD l + dgV c := by
  unfold valD; rw [List.foldl_append]; rfl
theorem snoc_cases (l : List UInt8) (h : l.length ≠ 0) : ∃ a c, l = a ++ [c] := ⟨l.dropLast, l.getLast (by intro e; rw [e] at h; exact h rfl), (List.dropLast_concat_getLast _).symm⟩
theorem valD_lt : ∀ (k : Nat) (l : List UInt8), l.length = k → valD l < 16 ^ k
  | 0, l, h => by rw [List.eq_nil_of_length_eq_zero h]; decide
  | k + 1, l, h => by
    obtain ⟨a, c, rfl⟩ := snoc_cases l (by omega)
    rw [List.length_append] at h
    have ih := valD_lt k a (by simpa using h)
    have hc := dgV_lt c
    rw [valD_snoc, Nat.pow_succ]
    omega
theorem pad_val : ∀ (k : Nat) (l : List UInt8), l.length = k → (∀ c ∈ l, dgOk c = true) → padD k (valD l) = l
  | 0, l, h, _ => (List.eq_nil_of_length_eq_zero h).symm
  | k + 1, l, h, ho => by
    obtain ⟨a, c, rfl⟩ := snoc_cases l (by omega)
    rw [List.length_append] at h
    have ih := pad_val k a (by simpa using h) (fun c hc => ho c (by simp [hc]))
    have hc := dgV_lt c
    rw [valD_snoc, padD, show (16 * valD a + dgV c) / 16 = valD a by omega, show (16 * valD a + dgV c) % 16 = dgV c by omega, ih, dig_dg c (ho c (by simp))]
theorem val_pad : ∀ (k n : Nat), n < 16 ^ k → valD (padD k n) = n
  | 0, n, h => by simp at h; subst h; rfl
  | k + 1, n, h => by
    rw [Nat.pow_succ] at h
    rw [padD, valD_snoc, val_pad k (n / 16) (by omega), dg_dig _ (by omega)]
    omega
theorem pad_ok : ∀ (k n : Nat), ∀ c ∈ padD k n, dgOk c = true
  | 0, n, c, h => by simp [padD] at h
  | k + 1, n, c, h => by
    rw [padD, List.mem_append] at h
    rcases h with h | h
    · exact pad_ok k _ c h
    · rw [List.mem_singleton] at h
      rw [h]
      exact ok_dig _ (by omega)
/-- Do these signs, without a nought ahead, tell a number of a name? -/
def midOk (m : List UInt8) : Bool := decide (m.length ≤ 12) && m.all dgOk && (decide (m.length ≤ 1) || decide (dgV (m.headD 0) ≠ 0))
theorem lenD_eq (k n : Nat) (hk : 1 ≤ k) (h : n < 16 ^ k) (h2 : k = 1 ∨ 16 ^ (k - 1) ≤ n) : lenD n = k := by
  have h3 := lenD_le k n hk h
  rcases h2 with rfl | h2
  · have := lenD_pos n; omega
  · by_cases h1 : k = 1
    · subst h1; have := lenD_pos n; omega
    · have := (lt_lenD (k - 1) n (by omega)).2 h2
      omega
theorem mid_pad (m : List UInt8) (h1 : 1 ≤ m.length) (h : midOk m = true) : lenD (valD m) = m.length ∧ padD m.length (valD m) = m := by
  simp only [midOk, Bool.and_eq_true, Bool.or_eq_true, decide_eq_true_eq, List.all_eq_true] at h
  obtain ⟨⟨h12, ho⟩, hz⟩ := h
  have hp := pad_val _ m rfl ho
  refine ⟨lenD_eq _ _ h1 (valD_lt _ m rfl) ?_, hp⟩
  rcases hz with hz | hz
  · left; omega
  · right
    obtain ⟨k, hk⟩ : ∃ k, m.length = k + 1 := ⟨m.length - 1, by omega⟩
    rw [hk] at hp ⊢
    rw [padD_front] at hp
    rw [← hp] at hz
    simp only [List.headD_cons] at hz
    rw [dg_dig _ (by omega)] at hz
    show 16 ^ k ≤ valD m
    by_cases hle : 16 ^ k ≤ valD m
    · exact hle
    · rw [Nat.div_eq_of_lt (by omega)] at hz
      simp at hz
theorem pad_mid (m : List UInt8) (h1 : 1 ≤ m.length) (h : padD (min (lenD (valD m)) 12) (valD m) = m) : midOk m = true := by
  have hl := congrArg List.length h
  rw [padD_len] at hl
  have ho := pad_ok (min (lenD (valD m)) 12) (valD m)
  rw [h] at ho
  have h12 : m.length ≤ 12 := by omega
  have hlt := valD_lt _ m rfl
  have hle := lenD_le _ _ h1 hlt
  have hlen : lenD (valD m) = m.length := by omega
  simp only [midOk, Bool.and_eq_true, Bool.or_eq_true, decide_eq_true_eq, List.all_eq_true]
  refine ⟨⟨h12, ho⟩, ?_⟩
  by_cases h2 : m.length ≤ 1
  · exact Or.inl h2
  · right
    obtain ⟨k, hk⟩ : ∃ k, m.length = k + 1 := ⟨m.length - 1, by omega⟩
    have hge := (lt_lenD k (valD m) (by omega)).1 (by omega)
    rw [show min (lenD (valD m)) 12 = k + 1 by omega, padD_front] at h
    have hh : m.headD 0 = dig (valD m / 16 ^ k % 16) := by
      generalize valD m / 16 ^ k % 16 = f at h
      rw [← h]; rfl
    rw [hh, dg_dig _ (by omega)]
    have hpos : 0 < 16 ^ k := Nat.pow_pos (by omega)
    have hd1 : 1 ≤ valD m / 16 ^ k := by rw [Nat.le_div_iff_mul_le hpos]; omega
    have hd2 : valD m / 16 ^ k < 16 := by
      rw [Nat.div_lt_iff_lt_mul hpos]
      rw [hk, Nat.pow_succ] at hlt
      omega
    rw [Nat.mod_eq_of_lt hd2]
    omega
theorem tN_nat (n : Nat) (h : n < 18446744073709551616) : tN (n : Int) = n := by unfold tN; omega
theorem wN_nat (d : Nat) (h : d < 16) : wN (d : Int) = d := by unfold wN; omega
/-- Which texts are names of events. -/
def nameOk (c : UInt8) (m : List UInt8) (x y : UInt8) : Bool := decide (c = 99) && midOk m && decide (x = 45) && dgOk y
theorem name_iff (c : UInt8) (m : List UInt8) (x y : UInt8) (h1 : 1 ≤ m.length) : oddL (valD m) (dgV y) = c :: (m ++ [x, y]) ↔ nameOk c m x y = true := by
  simp only [nameOk, Bool.and_eq_true, decide_eq_true_eq]
  constructor
  · intro h
    have e : oddL (valD m) (dgV y) = 99 :: (padD (min (lenD (valD m)) 12) (valD m) ++ [45, dig (dgV y)]) := by
      simp [oddL]
    rw [e] at h
    injection h with h0 h
    have hl := congrArg List.length h
    rw [List.length_append, List.length_append] at hl
    obtain ⟨ha, hb⟩ := List.append_inj h (by simpa using hl)
    injection hb with hb hc
    injection hc with hc _
    refine ⟨⟨⟨h0.symm, pad_mid m h1 ha⟩, hb.symm⟩, ?_⟩
    rw [← hc]
    exact ok_dig _ (dgV_lt y)
  · rintro ⟨⟨⟨rfl, hm⟩, rfl⟩, hy⟩
    obtain ⟨hl, hp⟩ := mid_pad m h1 hm
    have h12 : m.length ≤ 12 := by
      simp only [midOk, Bool.and_eq_true, decide_eq_true_eq] at hm
      exact hm.1.1
    rw [oddL, hl, Nat.min_eq_left h12, hp, dig_dg y hy]
    simp
end Go.Proofs.YtaingleopdnkiaaDoor
