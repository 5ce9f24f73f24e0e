/- Helper lemmas: the order of texts, what begins with a text, and the least text above those. No condition. -/
import Derived.Test.YtdjmpedfeahajaaO4
import Derived.Lib.Strings
set_option linter.unusedSimpArgs false
namespace Go.Proofs.Ytdjmpedfeahajaa

/-- Does a text stand ahead of another one? -/
def ltL : List UInt8 → List UInt8 → Bool
  | _, [] => false
  | [], _ :: _ => true
  | x :: a, y :: b => if x < y then true else if y < x then false else ltL a b

theorem ltL_nil (a : List UInt8) : ltL a [] = false := by cases a <;> rfl
theorem ltL_app (p a b : List UInt8) : ltL (p ++ a) (p ++ b) = ltL a b := by
  induction p with
  | nil => rfl
  | cons x p ih => simp [ltL, ih]
theorem ltL_after (s : List UInt8) : ltL s (s ++ [0]) = true := by
  have h := ltL_app s [] [0]
  simp only [List.append_nil] at h
  rw [h]; rfl
theorem lt_or (x y : UInt8) : x < y ∨ x = y ∨ y < x := by
  rcases Nat.lt_trichotomy x.toNat y.toNat with h | h | h
  · exact Or.inl (UInt8.lt_iff_toNat_lt.2 h)
  · exact Or.inr (Or.inl (UInt8.toNat_inj.1 h))
  · exact Or.inr (Or.inr (UInt8.lt_iff_toNat_lt.2 h))
theorem not_lt_self (x : UInt8) : ¬ x < x := fun h => Nat.lt_irrefl _ (UInt8.lt_iff_toNat_lt.1 h)
theorem lt_asymm' {x y : UInt8} (h : x < y) : ¬ y < x := fun h' => by have := UInt8.lt_iff_toNat_lt.1 h; have := UInt8.lt_iff_toNat_lt.1 h'; omega
theorem ltL_between (s : List UInt8) : ∀ o, ltL s o = true → ltL o (s ++ [0]) = false := by
  induction s with
  | nil =>
    intro o h
    cases o with
    | nil => simp [ltL] at h
    | cons y o =>
      have h0 : ¬ y < 0 := fun h => by have := UInt8.lt_iff_toNat_lt.1 h; simp at this
      simp only [List.nil_append, ltL, if_neg h0]
      split
      · rfl
      · first | exact ltL_nil o | (cases o <;> rfl)
  | cons x s ih =>
    intro o h
    cases o with
    | nil => simp [ltL] at h
    | cons y o =>
      rcases lt_or x y with hx | rfl | hx
      · simp [ltL, if_neg (lt_asymm' hx), hx]
      · simp only [ltL, if_neg (not_lt_self x)] at h
        simp only [List.cons_append, ltL, if_neg (not_lt_self x)]
        exact ih o h
      · simp [ltL, if_neg (lt_asymm' hx), hx] at h

/-- Does a text begin with another one? -/
def preL : List UInt8 → List UInt8 → Bool
  | [], _ => true
  | _ :: _, [] => false
  | x :: s, y :: o => x == y && preL s o
theorem preL_take (s : List UInt8) : ∀ o, preL s o = (decide (s.length ≤ o.length) && (o.take s.length == s)) := by
  induction s with
  | nil => intro o; simp [preL]
  | cons x s ih =>
    intro o
    cases o with
    | nil => simp [preL]
    | cons y o =>
      simp only [preL, ih, List.length_cons, List.take_succ_cons, Nat.add_le_add_iff_right]
      by_cases hx : x = y
      · subst hx; simp
      · have : ¬ y = x := fun h => hx h.symm
        rw [beq_eq_false_iff_ne.2 hx, beq_eq_false_iff_ne.2 (show ¬ y :: List.take s.length o = x :: s from fun e => this (List.cons.inj e).1)]; simp
theorem all_255 (s : List UInt8) (hs : ∀ c ∈ s, ¬ c < 255) : ∀ o, preL s o = !ltL o s := by
  induction s with
  | nil => intro o; simp [preL, ltL_nil]
  | cons x s ih =>
    intro o
    have hx : x = 255 := by
      have := hs x (by simp)
      rcases lt_or x 255 with h | h | h
      · exact absurd h this
      · exact h
      · have := UInt8.lt_iff_toNat_lt.1 h; have := x.toNat_lt; simp at *; omega
    subst hx
    cases o with
    | nil => rfl
    | cons y o =>
      rcases lt_or y 255 with h | rfl | h
      · have : ¬ (255 : UInt8) = y := fun e => not_lt_self _ (e ▸ h)
        simp [preL, ltL, h, this]
      · simp [preL, ltL, ih (fun c hc => hs c (by simp [hc])) o]
      · have := UInt8.lt_iff_toNat_lt.1 h; have := y.toNat_lt; simp at *; omega
theorem some_below (p : List UInt8) (c : UInt8) (q : List UInt8) (hc : c < 255) (hq : ∀ c ∈ q, ¬ c < 255) : ∀ o, preL (p ++ c :: q) o = (!ltL o (p ++ c :: q) && ltL o (p ++ [c + 1])) := by
  have h1 : (c + 1).toNat = c.toNat + 1 := by
    have := UInt8.lt_iff_toNat_lt.1 hc
    rw [UInt8.toNat_add]; simp at *; omega
  have hcc : c < c + 1 := UInt8.lt_iff_toNat_lt.2 (by omega)
  induction p with
  | nil =>
    intro o
    cases o with
    | nil => rfl
    | cons y o =>
      simp only [List.nil_append]
      rcases lt_or y c with h | rfl | h
      · have : ¬ c = y := fun e => not_lt_self _ (e ▸ h)
        simp [preL, ltL, h, this]
      · simp [preL, ltL, not_lt_self, hcc, all_255 q hq o]
      · have hn : ¬ c = y := fun e => not_lt_self _ (e ▸ h)
        have hy : ¬ y < c + 1 := fun e => by have := UInt8.lt_iff_toNat_lt.1 e; have := UInt8.lt_iff_toNat_lt.1 h; omega
        simp only [preL, ltL, if_neg (lt_asymm' h), if_pos h, if_neg hy, beq_eq_false_iff_ne.2 hn, ltL_nil, Bool.false_and]
        simp
  | cons x p ih =>
    intro o
    cases o with
    | nil => rfl
    | cons y o =>
      rcases lt_or y x with h | rfl | h
      · have : ¬ x = y := fun e => not_lt_self _ (e ▸ h)
        simp [preL, ltL, h, this]
      · simp only [List.cons_append, preL, ltL, if_neg (not_lt_self y), beq_self_eq_true, Bool.true_and]
        exact ih o
      · have hn : ¬ x = y := fun e => not_lt_self _ (e ▸ h)
        simp [preL, ltL, if_neg (lt_asymm' h), if_pos h, hn]

/-- What 'bey' tells, as a list. -/
theorem bey_spec (s : ByteArray) (i : Nat) (hi : i ≤ s.size) :
    (bey s i = none ∧ ∀ c ∈ s.data.toList.take i, ¬ c < 255) ∨
    ∃ p c q e, s.data.toList.take i = p ++ c :: q ∧ c < 255 ∧ (∀ c ∈ q, ¬ c < 255) ∧ bey s i = some e ∧ e.data.toList = p ++ [c + 1] := by
  induction i with
  | zero => left; exact ⟨rfl, by simp⟩
  | succ i ih =>
    have hlt : i < s.data.toList.length := by simp; exact hi
    have ht : s.data.toList.take (i + 1) = s.data.toList.take i ++ [s.data.toList.getD i 0] := by
      rw [List.take_add_one, List.getElem?_eq_getElem hlt, List.getD_eq_getElem?_getD, List.getElem?_eq_getElem hlt]
      rfl
    by_cases hc : s.data.toList.getD i 0 < 255
    · right
      refine ⟨s.data.toList.take i, s.data.toList.getD i 0, [], _, ht, hc, by simp, bey_some hc, ?_⟩
      have := Lib.extract_toList s 0 i
      rw [Lib.toList_data] at this
      simp only [List.drop_zero, Nat.sub_zero] at this
      rw [ByteArray.data_append, Array.toList_append, this]
    · rw [bey_none hc, ht]
      rcases ih (by omega) with ⟨h1, h2⟩ | ⟨p, c, q, e, h1, h2, h3, h4, h5⟩
      · left
        refine ⟨h1, fun c hm => ?_⟩
        rcases List.mem_append.1 hm with hm | hm
        · exact h2 c hm
        · rw [List.mem_singleton.1 hm]; exact hc
      · right
        refine ⟨p, c, q ++ [s.data.toList.getD i 0], e, by rw [h1]; simp, h2, fun d hd => ?_, h4, h5⟩
        rcases List.mem_append.1 hd with hm | hm
        · exact h3 d hm
        · rw [List.mem_singleton.1 hm]; exact hc
theorem bey_law_none {s : ByteArray} (h : bey s s.size = none) (o : List UInt8) : preL s.data.toList o = !ltL o s.data.toList := by
  rcases bey_spec s s.size (Nat.le_refl _) with ⟨_, h2⟩ | ⟨p, c, q, e, h1, h2, h3, h4, h5⟩
  · rw [List.take_of_length_le (by simp)] at h2
    exact all_255 _ h2 o
  · rw [h] at h4; exact absurd h4 (by simp)
theorem bey_law_some {s t : ByteArray} (h : bey s s.size = some t) (o : List UInt8) : preL s.data.toList o = (!ltL o s.data.toList && ltL o t.data.toList) := by
  rcases bey_spec s s.size (Nat.le_refl _) with ⟨h1, _⟩ | ⟨p, c, q, e, h1, h2, h3, h4, h5⟩
  · rw [h] at h1; exact absurd h1 (by simp)
  · rw [h] at h4
    obtain rfl : t = e := by simpa using h4
    rw [List.take_of_length_le (by simp)] at h1
    rw [h1, h5]
    exact some_below p c q h2 h3 o
end Go.Proofs.Ytdjmpedfeahajaa
