/- Helper lemmas: the order of texts, what begins with a text, and a text's next one, by the program. No condition. -/
import Derived.Test.YtdjmpedfeahajaaQ1
import Derived.Test.YtdjmpedfeahajaaO5
import Derived.Test.YtdjmpedfeahajaaPLessx1
import Derived.Test.YtdjmpedfeahajaaPBeginsx1
import Derived.Test.YtdjmpedfeahajaaPAfterx1
set_option linter.unusedSimpArgs false
namespace Go.Proofs.Ytdjmpedfeahajaa
open Go.RowKit Go.Proofs.YtdjmpedfeahajaaW.PrintWords

theorem Ret.of_drawn {P : Program} {f : FuncId} {args : Array Value} {w : World} {v : Value} (h : Calls P f args w fun e w' => e = .returned v ∧ Drawn0 w w') : Calls P f args w (Ret v w) := by
  refine h.mono ?_
  rintro e w' ⟨rfl, hd⟩
  exact Ret.mk rfl hd.below
theorem Ret.of_eq {P : Program} {f : FuncId} {args : Array Value} {w : World} {v v' : Value} (h : Calls P f args w (Ret v w)) (e : v = v') : Calls P f args w (Ret v' w) := e ▸ h

/-- The rest of a text from byte i on. -/
theorem drop_byte (s : ByteArray) (i : Nat) (h : i < s.size) : s.data.toList.drop i = s[i] :: s.data.toList.drop (i + 1) := by
  exact List.drop_eq_getElem_cons (by simpa using h)
theorem bt_cast (s : ByteArray) (i : Nat) (h : i < s.size) : bt s (i : Int) = (s[i].toNat : Int) := by
  have := bt_at s (i : Int) (by simpa using h)
  simpa using this.symm
theorem bt_lt {a b : UInt8} : (a.toNat : Int) < (b.toNat : Int) ↔ a < b := by rw [UInt8.lt_iff_toNat_lt]; omega
theorem less_pure (a b : ByteArray) (hb : b.size < 9223372036854775807) : ∀ (n i : Nat), i + n = b.size → PLess.crannogref01_Less.l0 (2 * n + 2) a b (b.size : Int) (i : Int) = some (ltL (a.data.toList.drop i) (b.data.toList.drop i)) := by
  intro n
  induction n with
  | zero =>
    intro i hi
    rw [show b.data.toList.drop i = [] from List.drop_eq_nil_of_le (by simp; omega), ltL_nil]
    simp only [PLess.crannogref01_Less.l0, if_neg (show ¬ (i : Int) < (b.size : Int) by omega)]
  | succ n ih =>
    intro i hi
    have hb' : i < b.size := by omega
    have ihn := ih (i + 1) (by omega)
    rw [show 2 * (n + 1) + 2 = (2 * n + 2) + 1 + 1 by omega]
    generalize 2 * n + 2 = m at ihn ⊢
    by_cases ha : i < a.size
    · rw [drop_byte a i ha, drop_byte b i hb']
      simp only [PLess.crannogref01_Less.l0, PLess.crannogref01_Less.j1, if_pos (show (i : Int) < (b.size : Int) by omega), if_neg (show ¬ (i : Int) ≥ (a.size : Int) by omega), if_pos (show (0 : Int) ≤ (i : Int) by omega), if_pos (show (i : Int) < (a.size : Int) by omega), bt_cast a i ha, bt_cast b i hb', bt_lt, gt_iff_lt, decide_eq_true_eq, ltL]
      rw [show (i : Int) + 1 = ((i + 1 : Nat) : Int) by omega, wrap64_small (i + 1) (by omega), ihn]
      split
      · rfl
      · split <;> rfl
    · rw [show a.data.toList.drop i = [] from List.drop_eq_nil_of_le (by simp; omega), drop_byte b i hb']
      simp only [PLess.crannogref01_Less.l0, PLess.crannogref01_Less.j1, if_pos (show (i : Int) < (b.size : Int) by omega), if_pos (show (i : Int) ≥ (a.size : Int) by omega), if_true, ltL]

theorem lessR_any (a b : ByteArray) (w : World) (hb : b.size < 9223372036854775807) : Calls Try.prog 44 #[.string a, .string b] w (Ret (.bool (ltL a.data.toList b.data.toList)) w) := by
  have h := less_pure a b hb b.size 0 (by omega)
  simp only [List.drop_zero] at h
  exact Ret.of_drawn (PLess.crannogref01_Less.calls _ a b _ w h)

theorem begins_pure (a b : ByteArray) : PBegins.crannogref01_Begins.f a b = some (preL b.data.toList a.data.toList) := by
  rw [preL_take]
  by_cases h : b.size ≤ a.size
  · simp only [PBegins.crannogref01_Begins.f, if_pos (show (a.size : Int) ≥ (b.size : Int) by omega), if_pos (show (0 : Int) ≤ (b.size : Int) by omega), if_pos (show (b.size : Int) ≤ (a.size : Int) by omega), Int.toNat_natCast]
    rw [Lib.extract_toList, Lib.toList_data]
    simp [h]
  · simp only [PBegins.crannogref01_Begins.f, if_neg (show ¬ (a.size : Int) ≥ (b.size : Int) by omega)]
    simp [h]
theorem beginsR_any (a b : ByteArray) (w : World) : Calls Try.prog 46 #[.string a, .string b] w (Ret (.bool (preL b.data.toList a.data.toList)) w) :=
  Ret.of_drawn (PBegins.crannogref01_Begins.calls a b _ w (begins_pure a b))

theorem after_any (s : ByteArray) (w : World) (h : s.size < 9223372036854775807) : Calls Try.prog 43 #[.string s] w (Ret (.string (s ++ (⟨#[0]⟩ : ByteArray))) w) :=
  Ret.of_drawn (PAfter.octet_After.calls s _ w (by simp only [PAfter.octet_After.f]; rw [if_pos (by omega)]))
theorem after_list (s : ByteArray) : (s ++ (⟨#[0]⟩ : ByteArray)).data.toList = s.data.toList ++ [0] := by rw [ByteArray.data_append, Array.toList_append]
end Go.Proofs.Ytdjmpedfeahajaa
