/- Plain laws: a number in decimal digits, one after the other from its end; the number of digits. No condition. -/
import Derived.Test.YtmcooenafgihkaaGreatDoorS4
set_option linter.unusedSimpArgs false
set_option linter.unusedVariables false
namespace Go.Proofs.YtmcooenafgihkaaGreatDoor
open Go.RowKit (wrap64)

/-- The digits of what is left. -/
def decR (v : Nat) : Bs := if v = 0 then [] else Lib.decDigits v
/-- How far the digits have come. -/
def DigI (u0 k u : Nat) (l : Bs) : Prop := u < 10 ^ (20 - k) ∧ ((k = 0 ∧ u = u0 ∧ l = []) ∨ (¬ l = [] ∧ Lib.decDigits u0 = decR u ++ l)) ∧ l.length ≤ k
theorem dec_step (v : Nat) : Lib.decDigits v = decR (v / 10) ++ [UInt8.ofNat (48 + v % 10)] := by
  rw [Lib.decDigits]
  unfold decR
  split
  · rename_i h
    rw [if_pos (by omega), List.nil_append, Nat.mod_eq_of_lt h]
  · rw [if_neg (by omega)]
theorem DigI.start (u0 : Nat) (h : u0 < 18446744073709551616) : DigI u0 0 u0 [] := ⟨by have : (10 : Nat) ^ (20 - 0) = 100000000000000000000 := by decide
                                                                                       omega, Or.inl ⟨rfl, rfl, rfl⟩, Nat.le_refl _⟩
theorem pow_step (k u : Nat) (hk : k < 20) (h : u < 10 ^ (20 - k)) : u / 10 < 10 ^ (20 - (k + 1)) := by
  apply Nat.div_lt_of_lt_mul
  rw [← Nat.pow_succ', show (20 - (k + 1)).succ = 20 - k by omega]
  exact h
theorem DigI.put {u0 k u : Nat} {l : Bs} (h : DigI u0 k u l) (hk : k < 20) (h1 : 0 < u ∨ l = []) : DigI u0 (k + 1) (u / 10) (UInt8.ofNat (48 + u % 10) :: l) := by
  obtain ⟨h2, h3, h4⟩ := h
  refine ⟨pow_step k u hk h2, Or.inr ⟨by simp, ?_⟩, by simp; omega⟩
  rcases h3 with ⟨_, rfl, rfl⟩ | ⟨h5, h6⟩
  · rw [dec_step u]
  · rcases h1 with h1 | h1
    · rw [h6]
      have : decR u = Lib.decDigits u := by unfold decR; rw [if_neg (by omega)]
      rw [this, dec_step u, List.append_assoc]; rfl
    · exact absurd h1 h5
theorem DigI.pass {u0 k u : Nat} {l : Bs} (h : DigI u0 k u l) (hk : k < 20) (h1 : u = 0) (h7 : ¬ l = []) : DigI u0 (k + 1) (u / 10) l := by
  obtain ⟨h2, h3, h4⟩ := h
  subst h1
  refine ⟨pow_step k 0 hk h2, Or.inr ⟨h7, ?_⟩, by omega⟩
  rcases h3 with ⟨_, _, rfl⟩ | ⟨_, h6⟩
  · exact absurd rfl h7
  · exact h6
theorem DigI.done {u0 u : Nat} {l : Bs} (h : DigI u0 20 u l) : l = Lib.decDigits u0 := by
  obtain ⟨h2, h3, _⟩ := h
  have h0 : u = 0 := by
    have : (10 : Nat) ^ (20 - 20) = 1 := by decide
    omega
  subst h0
  rcases h3 with ⟨h, _⟩ | ⟨_, h6⟩
  · exact absurd h (by decide)
  · rw [h6]; rfl
/-- The number of the digits that stand in a text, within 64 bits. -/
def accL : Nat → Bs → Nat
  | acc, [] => acc
  | acc, c :: r => accL (if 48 ≤ c.toNat ∧ c.toNat ≤ 57 then (acc * 10 + (c.toNat - 48)) % 18446744073709551616 else acc) r
theorem accL_lt : ∀ (l : Bs) (acc : Nat), acc < 18446744073709551616 → accL acc l < 18446744073709551616
  | [], acc, h => h
  | c :: r, acc, h => by
    simp only [accL]
    split
    · exact accL_lt r _ (Nat.mod_lt _ (by decide))
    · exact accL_lt r _ h
theorem accL_app (a b : Bs) (acc : Nat) : accL acc (a ++ b) = accL (accL acc a) b := by
  induction a generalizing acc with
  | nil => rfl
  | cons c a ih => simp only [List.cons_append, accL]; exact ih _
theorem accL_dec (u : Nat) (hu : u < 18446744073709551616) : accL 0 (Lib.decDigits u) = u := by
  rw [Lib.decDigits]
  split
  · rename_i h
    simp only [accL]
    rw [digit_nat u h, if_pos ⟨by omega, by omega⟩]
    omega
  · rename_i h
    rw [accL_app, accL_dec (u / 10) (by omega)]
    simp only [accL]
    rw [digit_nat _ (by omega), if_pos ⟨by omega, by omega⟩]
    omega
termination_by u
decreasing_by omega
/-- The number that the reference tries. -/
def refN (w : Bs) : Int := if w.head? = some 45 then wrap64 (-(accL 0 w : Int)) else wrap64 (accL 0 w : Int)
theorem wrap_i64 (x : Int) : I64 (wrap64 x) := by
  unfold I64 wrap64; omega
theorem refN_itoa (n : Int) (h : I64 n) : refN (Lib.itoa n) = n := by
  unfold I64 at h
  unfold refN Lib.itoa
  by_cases hn : n < 0
  · rw [if_pos hn, if_pos (by simp)]
    simp only [accL]
    rw [if_neg (by decide), accL_dec _ (by omega)]
    unfold wrap64; omega
  · rw [if_neg hn]
    obtain ⟨c, r, e1, e2, e3⟩ := dec_head n.toNat
    rw [if_neg, accL_dec _ (by omega)]
    · unfold wrap64; omega
    · rw [e1]
      intro e
      simp only [List.head?_cons, Option.some.injEq] at e
      rw [e] at e2
      exact absurd e2 (by decide)
theorem num_ref (w : Bs) : numL w = if w.length ≤ 20 ∧ Lib.itoa (refN w) = w then some (refN w) else none := by
  by_cases h : w.length ≤ 20 ∧ Lib.itoa (refN w) = w
  · rw [if_pos h]
    refine (num_iff w _).2 ⟨?_, h.2⟩
    unfold refN
    split <;> exact wrap_i64 _
  · rw [if_neg h]
    cases hn : numL w with
    | none => rfl
    | some n =>
      exfalso
      obtain ⟨h1, h2⟩ := (num_iff w n).1 hn
      apply h
      rw [← h2, refN_itoa n h1]
      exact ⟨itoa_len n h1, rfl⟩
end Go.Proofs.YtmcooenafgihkaaGreatDoor
