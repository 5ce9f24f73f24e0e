/- The law on words of unlike texts: it returns true. No condition. -/
import Derived.Test.YtmcooenafgihkaaDoorP19
import Derived.Test.YtmcooenafgihkaaDoorShelf
import Derived.Lib.IndexLaws
set_option linter.unusedSimpArgs false
set_option linter.unusedVariables false
namespace Go.Proofs.YtmcooenafgihkaaDoor
open Go.RowKit

theorem index_none (l : List UInt8) (c : UInt8) (h : ∀ x ∈ l, ¬ x = c) : decide (0 ≤ Lib.indexByte l c) = false := by
  rw [decide_eq_false_iff_not]
  intro h0
  obtain ⟨o, ho⟩ := Int.eq_ofNat_of_zero_le h0
  exact h c (List.mem_of_getElem? (Lib.indexByte_some ho).1) rfl
set_option maxHeartbeats 8000000 in
set_option maxRecDepth 100000 in
theorem apart_same (a X : ByteArray) (w : World) (HG : Hid (GlobM w)) (hs : ¬ 2048 < (a.size : Int)) (HX : Hid (∀ V, Calls Tryd.prog 10 #[.string a] V fun e w' => e = .returned (.string X) ∧ Below V.heap.size V w')) (H1 : Hid (∀ V, Calls Tryd.prog 11 #[.string X, .string ⟨#[32]⟩] V fun e w' => e = .returned (.bool false) ∧ w' = V)) (H2 : Hid (∀ V, Calls Tryd.prog 11 #[.string X, .string ⟨#[10]⟩] V fun e w' => e = .returned (.bool false) ∧ w' = V)) (hne : X.toList.isEmpty = false) : Calls Tryd.prog 4 #[.string a, .string a] w (fun e w' => e = .returned (.bool true) ∧ Below w.heap.size w w') := by
  go_enter Tryd.func4, Tryd.ntmps4
  go_wp2_with (first | (go_at_call 10; (with_reducible refine (HX.out _).mono ?_); rintro e1 w1 ⟨rfl, hb1⟩; have HB1 := Lib.hid (hb1); have HG1 := Lib.hid (HG.out.later HB1.out); clear hb1) | (go_at_call 10; (with_reducible refine (HX.out _).mono ?_); rintro e2 w2 ⟨rfl, hb2⟩; have HB2 := Lib.hid (below_tr HB1.out hb2); have HG2 := Lib.hid (HG.out.later HB2.out); clear hb2) | (go_at_call 11; (with_reducible refine (H1.out _).mono ?_); rintro e5 w5 ⟨rfl, hw⟩; replace hw := hw.symm; subst hw) | (go_at_call 11; (with_reducible refine (H2.out _).mono ?_); rintro e5 w5 ⟨rfl, hw⟩; replace hw := hw.symm; subst hw) | (go_at_call 6; (with_reducible refine (awake_any _ HG2.out).mono ?_); rintro e9 w9 ⟨rfl, hb9⟩; have HB9 := Lib.hid (below_tr HB2.out hb9); clear hb9))
  go_ret
  exact ⟨rfl, HB9.out⟩
set_option maxHeartbeats 8000000 in
set_option maxRecDepth 100000 in
theorem apart_other (a b X Y : ByteArray) (w : World) (HG : Hid (GlobM w)) (hs : ¬ 2048 < (a.size : Int)) (hu : ¬ 2048 < (b.size : Int)) (HX : Hid (∀ V, Calls Tryd.prog 10 #[.string a] V fun e w' => e = .returned (.string X) ∧ Below V.heap.size V w')) (H1 : Hid (∀ V, Calls Tryd.prog 11 #[.string X, .string ⟨#[32]⟩] V fun e w' => e = .returned (.bool false) ∧ w' = V)) (H2 : Hid (∀ V, Calls Tryd.prog 11 #[.string X, .string ⟨#[10]⟩] V fun e w' => e = .returned (.bool false) ∧ w' = V)) (hne : X.toList.isEmpty = false) (HY : Hid (∀ V, Calls Tryd.prog 10 #[.string b] V fun e w' => e = .returned (.string Y) ∧ Below V.heap.size V w')) (h1 : (a.toList == b.toList) = false) (h2 : (X.toList == Y.toList) = false) : Calls Tryd.prog 4 #[.string a, .string b] w (fun e w' => e = .returned (.bool true) ∧ Below w.heap.size w w') := by
  go_enter Tryd.func4, Tryd.ntmps4
  go_wp2_with (first | (go_at_call 10; (with_reducible refine (HX.out _).mono ?_); rintro e1 w1 ⟨rfl, hb1⟩; have HB1 := Lib.hid (hb1); have HG1 := Lib.hid (HG.out.later HB1.out); clear hb1) | (go_at_call 10; (with_reducible refine (HY.out _).mono ?_); rintro e2 w2 ⟨rfl, hb2⟩; have HB2 := Lib.hid (below_tr HB1.out hb2); have HG2 := Lib.hid (HG.out.later HB2.out); clear hb2) | (go_at_call 11; (with_reducible refine (H1.out _).mono ?_); rintro e5 w5 ⟨rfl, hw⟩; replace hw := hw.symm; subst hw) | (go_at_call 11; (with_reducible refine (H2.out _).mono ?_); rintro e5 w5 ⟨rfl, hw⟩; replace hw := hw.symm; subst hw) | (go_at_call 6; (with_reducible refine (awake_any _ HG2.out).mono ?_); rintro e9 w9 ⟨rfl, hb9⟩; have HB9 := Lib.hid (below_tr HB2.out hb9); clear hb9))
  go_ret
  exact ⟨rfl, HB9.out⟩
set_option maxHeartbeats 8000000 in
set_option maxRecDepth 100000 in
theorem apart_long1 (a b : ByteArray) (w : World) (HG : Hid (GlobM w)) (hs : 2048 < (a.size : Int)) : Calls Tryd.prog 4 #[.string a, .string b] w (fun e w' => e = .returned (.bool true) ∧ Below w.heap.size w w') := by
  go_enter Tryd.func4, Tryd.ntmps4
  go_wp2_with (go_at_call 6; (with_reducible refine (awake_any _ HG.out).mono ?_); rintro e9 w9 ⟨rfl, hb9⟩; have HB9 := Lib.hid (hb9); clear hb9)
  go_ret
  exact ⟨rfl, HB9.out⟩
set_option maxHeartbeats 8000000 in
set_option maxRecDepth 100000 in
theorem apart_long2 (a b : ByteArray) (w : World) (HG : Hid (GlobM w)) (hs : ¬ 2048 < (a.size : Int)) (hu : 2048 < (b.size : Int)) : Calls Tryd.prog 4 #[.string a, .string b] w (fun e w' => e = .returned (.bool true) ∧ Below w.heap.size w w') := by
  go_enter Tryd.func4, Tryd.ntmps4
  go_wp2_with (go_at_call 6; (with_reducible refine (awake_any _ HG.out).mono ?_); rintro e9 w9 ⟨rfl, hb9⟩; have HB9 := Lib.hid (hb9); clear hb9)
  go_ret
  exact ⟨rfl, HB9.out⟩
theorem apart_law (a b : ByteArray) (w : World) (hg : GlobM w) : Calls Tryd.prog 4 #[.string a, .string b] w (fun e w' => e = .returned (.bool true) ∧ Below w.heap.size w w') := by
  by_cases hs : 2048 < a.size
  · exact apart_long1 a b w (Lib.hid hg) (by omega)
  by_cases hu : 2048 < b.size
  · exact apart_long2 a b w (Lib.hid hg) (by omega) (by omega)
  have hW : ∀ (s : ByteArray) (n : ¬ 2048 < s.size) (V : World), Calls Tryd.prog 10 #[.string s] V fun e w' => e = .returned (.string ⟨(wordL s.data.toList).toArray⟩) ∧ Below V.heap.size V w' := fun s n V => told_of_ret (word_any s V (by omega))
  have hC : ∀ (c : UInt8) (n : c.toNat < 33) (V : World), Calls Tryd.prog 11 #[.string ⟨(wordL a.data.toList).toArray⟩, .string ⟨#[c]⟩] V fun e w' => e = .returned (.bool false) ∧ w' = V := fun c n V => by
    have h := Tryd.strings_Contains_one ⟨(wordL a.data.toList).toArray⟩ c V
    rw [index_none _ c (fun x hx => by
      have := word_range a.data.toList x hx
      intro e; subst e; omega)] at h
    exact h
  have hne : (⟨(wordL a.data.toList).toArray⟩ : ByteArray).toList.isEmpty = false := nonempty_of_size (by
    have := word_ne a.data.toList
    exact List.length_pos_iff.2 this)
  by_cases hab : a = b
  · subst hab
    exact apart_same a _ w (Lib.hid hg) (by omega) (Lib.hid (hW a hs)) (Lib.hid (hC 32 (by decide))) (Lib.hid (hC 10 (by decide))) hne
  · refine apart_other a b _ _ w (Lib.hid hg) (by omega) (by omega) (Lib.hid (hW a hs)) (Lib.hid (hC 32 (by decide))) (Lib.hid (hC 10 (by decide))) hne (Lib.hid (hW b hu)) (beq_eq_false_iff_ne.2 fun e => hab (toList_inj.1 e)) (beq_eq_false_iff_ne.2 fun e => hab ?_)
    have h1 := toList_inj.1 e
    have h2 : (wordL a.data.toList) = wordL b.data.toList := by
      have := congrArg (fun z : ByteArray => z.data.toList) h1
      simpa using this
    have h3 := word_inj h2
    exact toList_inj.1 (by rw [ByteArray.toList_eq, ByteArray.toList_eq]; exact h3)
end Go.Proofs.YtmcooenafgihkaaDoor
