/- Helper lemmas: the order of texts, and what the document's Key, Val and Less tell. No condition. -/
import Derived.Test.YtelhclamoapnhaaGC
import Derived.Test.YtelhclamoapnhaaPLessx1
import Derived.Test.YtelhclamoapnhaaPKeyx1
import Derived.Test.YtelhclamoapnhaaPValx1
import Derived.Lib.Strings
set_option linter.unusedSimpArgs false
set_option linter.unusedVariables false
namespace Go.Proofs.Ytelhclamoapnhaa
open Go.RowKit Go.Proofs.YtelhclamoapnhaaW.PrintWords

/-- Does a text stand ahead of another one? -/
def ltL : List UInt8 → List UInt8 → Bool
  | _, [] => false
  | [], _ :: _ => true
  | x :: a, y :: b => if x < y then true else if y < x then false else ltL a b

theorem ltL_nil (a : List UInt8) : ltL a [] = false := by cases a <;> rfl
theorem lt_or (x y : UInt8) : x < y ∨ x = y ∨ y < x := by
  rcases Nat.lt_trichotomy x.toNat y.toNat with h | h | h
  · exact Or.inl (UInt8.lt_iff_toNat_lt.2 h)
  · exact Or.inr (Or.inl (UInt8.toNat_inj.1 h))
  · exact Or.inr (Or.inr (UInt8.lt_iff_toNat_lt.2 h))
theorem not_lt_self (x : UInt8) : ¬ x < x := fun h => Nat.lt_irrefl _ (UInt8.lt_iff_toNat_lt.1 h)
theorem lt_asymm' {x y : UInt8} (h : x < y) : ¬ y < x := fun h' => by have := UInt8.lt_iff_toNat_lt.1 h; have := UInt8.lt_iff_toNat_lt.1 h'; omega
theorem Ret.of_drawn {P : Program} {f : FuncId} {args : Array Value} {w : World} {v : Value} (h : Calls P f args w fun e w' => e = .returned v ∧ Drawn0 w w') : Calls P f args w (Ret v w) := by
  refine h.mono ?_
  rintro e w' ⟨rfl, hd⟩
  exact Ret.mk rfl hd.below
theorem Ret.of_eq {P : Program} {f : FuncId} {args : Array Value} {w : World} {v v' : Value} (h : Calls P f args w (Ret v w)) (e : v = v') : Calls P f args w (Ret v' w) := e ▸ h

/-- The rest of a text from byte i on. -/
theorem drop_byte (s : ByteArray) (i : Nat) (h : i < s.size) : s.data.toList.drop i = s[i] :: s.data.toList.drop (i + 1) := by
  exact List.drop_eq_getElem_cons (by simpa using h)
theorem bt_cast (s : ByteArray) (i : Nat) (h : i < s.size) : bt s (i : Int) = (s[i].toNat : Int) := by
  have := bt_at s (i : Int) (by simpa using h)
  simpa using this.symm
theorem bt_lt {a b : UInt8} : (a.toNat : Int) < (b.toNat : Int) ↔ a < b := by rw [UInt8.lt_iff_toNat_lt]; omega
theorem less_pure (a b : ByteArray) (hb : b.size < 9223372036854775807) : ∀ (n i : Nat), i + n = b.size → PLess.crannogref01_Less.l0 (2 * n + 2) a b (b.size : Int) (i : Int) = some (ltL (a.data.toList.drop i) (b.data.toList.drop i)) := by
  intro n
  induction n with
  | zero =>
    intro i hi
    rw [show b.data.toList.drop i = [] from List.drop_eq_nil_of_le (by simp; omega), ltL_nil]
    simp only [PLess.crannogref01_Less.l0, if_neg (show ¬ (i : Int) < (b.size : Int) by omega)]
  | succ n ih =>
    intro i hi
    have hb' : i < b.size := by omega
    have ihn := ih (i + 1) (by omega)
    rw [show 2 * (n + 1) + 2 = (2 * n + 2) + 1 + 1 by omega]
    generalize 2 * n + 2 = m at ihn ⊢
    by_cases ha : i < a.size
    · rw [drop_byte a i ha, drop_byte b i hb']
      simp only [PLess.crannogref01_Less.l0, PLess.crannogref01_Less.j1, if_pos (show (i : Int) < (b.size : Int) by omega), if_neg (show ¬ (i : Int) ≥ (a.size : Int) by omega), if_pos (show (0 : Int) ≤ (i : Int) by omega), if_pos (show (i : Int) < (a.size : Int) by omega), bt_cast a i ha, bt_cast b i hb', bt_lt, gt_iff_lt, decide_eq_true_eq, ltL]
      rw [show (i : Int) + 1 = ((i + 1 : Nat) : Int) by omega, wrap64_small (i + 1) (by omega), ihn]
      split
      · rfl
      · split <;> rfl
    · rw [show a.data.toList.drop i = [] from List.drop_eq_nil_of_le (by simp; omega), drop_byte b i hb']
      simp only [PLess.crannogref01_Less.l0, PLess.crannogref01_Less.j1, if_pos (show (i : Int) < (b.size : Int) by omega), if_pos (show (i : Int) ≥ (a.size : Int) by omega), if_true, ltL]

theorem lessR_any (a b : ByteArray) (w : World) (hb : b.size < 9223372036854775807) : Calls Try.prog 41 #[.string a, .string b] w (Ret (.bool (ltL a.data.toList b.data.toList)) w) := by
  have h := less_pure a b hb b.size 0 (by omega)
  simp only [List.drop_zero] at h
  exact Ret.of_drawn (PLess.crannogref01_Less.calls _ a b _ w h)

theorem ltL_eq : ∀ a b : List UInt8, ltL a b = Op.bytesLess a b
  | a, [] => by cases a <;> rfl
  | [], y :: b => rfl
  | x :: a, y :: b => by
    have ih := ltL_eq a b
    unfold ltL Op.bytesLess
    rw [ih]
    rcases lt_or x y with h | rfl | h
    · simp [h]
    · simp [not_lt_self x]
    · have h1 := lt_asymm' h
      have h2 : ¬ x = y := fun e => by subst e; exact not_lt_self _ h
      simp [h, h1, h2]
theorem ltL_not : ∀ a b : List UInt8, (!(ltL b a || b == a)) = ltL a b
  | [], [] => rfl
  | x :: a, [] => rfl
  | [], y :: b => rfl
  | x :: a, y :: b => by
    have ih := ltL_not a b
    unfold ltL
    rcases lt_or x y with h | rfl | h
    · have h1 := lt_asymm' h
      have h2 : ¬ y = x := fun e => by subst e; exact not_lt_self _ h
      simp [h, h1, h2]
    · simp [not_lt_self x]
      simpa using ih
    · have h1 := lt_asymm' h
      simp [h, h1]
theorem leS_not (k p : ByteArray) : (!(leS k p)) = ltL p.data.toList k.data.toList := by
  rw [← ltL_not, ltL_eq]
  unfold leS
  rw [ByteArray.toList_eq, ByteArray.toList_eq]
/-- May this be a key, by the document? -/
theorem key_any (k : ByteArray) (w : World) : Calls Try.prog 39 #[.string k] w (Ret (.bool (decide (0 < k.size) && decide (k.size ≤ 64))) w) := by
  refine Ret.of_drawn (PKey.crannogref07_Key.calls k _ w ?_)
  unfold PKey.crannogref07_Key.f
  by_cases h : 0 < k.size
  · rw [if_pos (by omega), decide_eq_true h, Bool.true_and]
    congr 1
    exact decide_eq_decide.2 (by omega)
  · rw [if_neg (by omega), decide_eq_false h]; rfl
theorem val_any (k : ByteArray) (w : World) : Calls Try.prog 40 #[.string k] w (Ret (.bool (decide (k.size ≤ 300))) w) := by
  refine Ret.of_drawn (PVal.crannogref07_Val.calls k _ w ?_)
  unfold PVal.crannogref07_Val.f
  congr 1
  exact decide_eq_decide.2 (by omega)
end Go.Proofs.Ytelhclamoapnhaa
