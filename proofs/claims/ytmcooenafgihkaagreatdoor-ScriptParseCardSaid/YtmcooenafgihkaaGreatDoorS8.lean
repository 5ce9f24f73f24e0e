/- Plain laws: the text of a word, as the reference puts it together. No condition. -/
import Derived.Test.YtmcooenafgihkaaGreatDoorS0
set_option linter.unusedSimpArgs false
set_option linter.unusedVariables false
namespace Go.Proofs.YtmcooenafgihkaaGreatDoor

/-- What a sign of base 16 is; 99: none. -/
def dgt (c : UInt8) : Nat := match hexv c with | some x => x | none => 99
/-- The bytes that the reference puts together; whether the byte before was a %, and the one before that. -/
def outF (p1 p2 : Bool) : List UInt8 → List UInt8
  | [] => []
  | c :: r => (if c = 37 then (match r with | a :: b :: _ => [UInt8.ofNat (16 * dgt a + dgt b)] | _ => []) else if (p1 || p2) = true then [] else [c]) ++ outF (c == 37) p1 r
theorem hexd_ne (n : Nat) (h : n < 16) : ¬ hexd n = 37 := fun e => by
  have := hexd_range n h
  rw [e] at this
  exact absurd this (by decide)
theorem dgt_hexd (n : Nat) (h : n < 16) : dgt (hexd n) = n := by unfold dgt; rw [hexv_hexd n h]
theorem outF_words : ∀ t : List UInt8, outF false false (t.flatMap wordC) = t
  | [] => rfl
  | c :: t => by
    have ih := outF_words t
    rw [List.flatMap_cons]
    unfold wordC
    by_cases hp : plainB c = true
    · rw [if_pos hp, List.singleton_append]
      have hc : ¬ c = 37 := fun e => by rw [e, plain_not] at hp; cases hp
      have hc2 : (c == 37) = false := by simpa using hc
      unfold outF
      rw [if_neg hc, if_neg (by simp), hc2]
      have e : List.flatMap (fun c => if plainB c = true then [c] else [37, hexd (c.toNat / 16), hexd (c.toNat % 16)]) t = t.flatMap wordC := rfl
      rw [e, ih]; rfl
    · rw [if_neg hp]
      have hlt := c.toNat_lt
      have h1 : c.toNat / 16 < 16 := by omega
      have h2 : c.toNat % 16 < 16 := by omega
      have e : List.flatMap (fun c => if plainB c = true then [c] else [37, hexd (c.toNat / 16), hexd (c.toNat % 16)]) t = t.flatMap wordC := rfl
      rw [e, List.cons_append, List.cons_append, List.cons_append, List.nil_append]
      have n1 := hexd_ne _ h1
      have n2 := hexd_ne _ h2
      have b1 : (hexd (c.toNat / 16) == 37) = false := by simpa using n1
      have b2 : (hexd (c.toNat % 16) == 37) = false := by simpa using n2
      have s3 : outF false true (hexd (c.toNat % 16) :: t.flatMap wordC) = t := by
        unfold outF
        rw [if_neg n2, if_pos (by simp), b2, ih]; rfl
      have s2 : outF true false (hexd (c.toNat / 16) :: hexd (c.toNat % 16) :: t.flatMap wordC) = t := by
        unfold outF
        rw [if_neg n1, if_pos (by simp), b1, s3]; rfl
      unfold outF
      rw [if_pos rfl]
      have b0 : ((37 : UInt8) == 37) = true := rfl
      rw [b0, s2]
      show UInt8.ofNat (16 * dgt (hexd (c.toNat / 16)) + dgt (hexd (c.toNat % 16))) :: t = c :: t
      rw [dgt_hexd _ h1, dgt_hexd _ h2, show 16 * (c.toNat / 16) + c.toNat % 16 = c.toNat by omega, UInt8.ofNat_toNat]
theorem unword_ref (w : List UInt8) : unwordL w = if w = [37] then some [] else if wordL (outF false false w) = w ∧ ¬ outF false false w = [] then some (outF false false w) else none := by
  by_cases h : w = [37]
  · rw [if_pos h, h]; rfl
  · rw [if_neg h]
    by_cases h2 : wordL (outF false false w) = w ∧ ¬ outF false false w = []
    · rw [if_pos h2]
      exact (unword_iff _ _).2 h2.1
    · rw [if_neg h2]
      cases hu : unwordL w with
      | none => rfl
      | some t =>
        exfalso
        have ht := (unword_iff _ _).1 hu
        have hne : ¬ t = [] := fun e => h (by rw [← ht, e]; rfl)
        apply h2
        have : outF false false w = t := by
          rw [← ht]
          unfold wordL
          rw [if_neg hne]
          exact outF_words t
        rw [this]
        exact ⟨ht, hne⟩
theorem outF_len : ∀ (l : List UInt8) (p1 p2 : Bool), (outF p1 p2 l).length ≤ l.length
  | [], _, _ => by simp [outF]
  | c :: r, p1, p2 => by
    have ih := outF_len r (c == 37) p1
    unfold outF
    rw [List.length_append, List.length_cons]
    split
    · split
      · simp only [List.length_cons, List.length_nil] at ih ⊢; omega
      · simp only [List.length_nil] at ih ⊢; omega
    · split
      · simp only [List.length_nil] at ih ⊢; omega
      · simp only [List.length_cons, List.length_nil] at ih ⊢; omega
end Go.Proofs.YtmcooenafgihkaaGreatDoor
