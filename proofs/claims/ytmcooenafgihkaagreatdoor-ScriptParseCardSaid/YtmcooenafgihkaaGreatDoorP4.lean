/- Helper lemmas: numbers of words, by the program. No condition. -/
import Derived.Test.YtmcooenafgihkaaGreatDoorP3
import Derived.Lib.AppendIntMem
import Derived.Lib.AtoiErrMem
set_option linter.unusedSimpArgs false
set_option linter.unusedVariables false
namespace Go.Proofs.YtmcooenafgihkaaGreatDoor
open Go.RowKit

theorem var_below {w w' : World} {n : String} {x : Array Value} (h : w.var? Tryz.prog n = some x) (hb : Below w.heap.size w w') : w'.var? Tryz.prog n = some x := by
  unfold World.var? at h ⊢
  cases hg : Tryz.prog.globalNamed n with
  | none => rw [hg] at h; cases h
  | some g =>
    rw [hg] at h
    simp only [Option.bind_some] at h ⊢
    have hlt : g < w.heap.size := by
      rcases Nat.lt_or_ge g w.heap.size with h' | h'
      · exact h'
      · rw [Array.getElem?_eq_none h'] at h; cases h
    rw [hb.block g hlt]
    exact h
/-- What the library's variables hold. -/
structure Glob (w : World) : Prop where
  syn : ∃ (t : TypeId) (p : Value), w.var? Tryz.prog "strconv.ErrSyntax" = some #[.iface t p]
  ran : ∃ (t : TypeId) (p : Value), w.var? Tryz.prog "strconv.ErrRange" = some #[.iface t p]
  pow : Lib.TabIs Tryz.prog w "internal/strconv.uint64pow10" .u64 Lib.pow10Tab
theorem Glob.later {w w' : World} (h : Glob w) (hb : Below w.heap.size w w') : Glob w' := by
  obtain ⟨⟨t1, p1, h1⟩, ⟨t2, p2, h2⟩, h3⟩ := h
  exact ⟨⟨t1, p1, var_below h1 hb⟩, ⟨t2, p2, var_below h2 hb⟩, var_below h3 hb⟩
theorem atoi_ok (s : ByteArray) (w : World) (hs : s.size ≤ 30000000) (n : Int) (h : Lib.atoiAll s.data.toList = .ok n) : Calls Tryz.prog 41 #[.string s] w fun e w' => e = .returned (.tuple #[.int .i64 n, .nilIface]) ∧ Below w.heap.size w w' := by
  refine (Tryz.strconv_Atoi_ok s (Nat.le_trans hs (by decide)) n h w).mono ?_
  rintro e w' ⟨rfl, hw⟩
  refine ⟨rfl, ?_⟩
  rcases hw with rfl | ⟨t, rfl⟩
  · exact Below.refl _ _
  · exact Lib.bytesWorld_below w _ t
theorem atoi_no (s : ByteArray) (w : World) (hs : s.size ≤ 30000000) (hg : Glob w) (h : ∀ n, ¬ Lib.atoiAll s.data.toList = .ok n) : Calls Tryz.prog 41 #[.string s] w fun e w' => (∃ (m : Int) (t : TypeId) (p : Value), e = .returned (.tuple #[.int .i64 m, .iface t p])) ∧ Below w.heap.size w w' := by
  by_cases hA : Lib.atoiAll s.data.toList = .range
  · obtain ⟨t, p, hv⟩ := hg.ran
    refine (Tryz.strconv_Atoi_range_var s (Nat.le_trans hs (by decide)) hA t p w hv).mono ?_
    rintro e w' ⟨N, rfl, _, _, hb⟩
    exact ⟨⟨_, _, _, rfl⟩, hb⟩
  · obtain ⟨t, p, hv⟩ := hg.syn
    refine (Tryz.strconv_Atoi_none_var s (Nat.le_trans hs (by decide)) h hA t p w hv).mono ?_
    rintro e w' ⟨N, rfl, _, _, hb⟩
    exact ⟨⟨_, _, _, rfl⟩, hb⟩
theorem itoa_any (n : Int) (w : World) (hn : I64 n) (hg : Glob w) : Calls Tryz.prog 42 #[.int .i64 n] w fun e w' => e = .returned (.string ⟨(Lib.itoa n).toArray⟩) ∧ Below w.heap.size w w' := by
  refine (Tryz.strconv_Itoa n hn.1 hn.2 w hg.pow).mono ?_
  rintro e w' ⟨rfl, k, os, rfl⟩
  exact ⟨rfl, Lib.below_grow _ w (Nat.le_refl _) k os⟩
/-- A number and whether it is one. -/
def numV (R : Option Int) : Value := .tuple #[.int .i64 (R.getD 0), .bool R.isSome]
def NumC (l : List UInt8) (w : World) (e : Ending) (w' : World) : Prop := e = .returned (numV (numL l)) ∧ Below w.heap.size w w'
/-- The call tells a number, or throws. -/
def IntC (R : Option Int) (w : World) (e : Ending) (w' : World) : Prop := (∃ n, R = some n ∧ e = .returned (.int .i64 n) ∧ Below w.heap.size w w') ∨ (R = none ∧ e = .panicked [refusal] ∧ Below w.heap.size w w')
set_option maxHeartbeats 8000000 in
set_option maxRecDepth 100000 in
theorem number_any2 (s : ByteArray) (w : World) (hs : s.size ≤ 30000000) (hg : Glob w) : Calls Tryz.prog 22 #[.string s] w (NumC s.data.toList w) := by
  have HG := Lib.hid hg
  by_cases hA : ∃ n, Lib.atoiAll s.data.toList = .ok n
  · obtain ⟨n, hA⟩ := hA
    have HA := Lib.hid (atoi_ok s w hs n hA)
    have HN := Lib.hid (atoi_range hA)
    obtain ⟨t, ht⟩ : ∃ t : ByteArray, t = ⟨(Lib.itoa n).toArray⟩ := ⟨_, rfl⟩
    have HI : Hid (∀ W, Glob W → Calls Tryz.prog 42 #[.int .i64 n] W fun e w' => e = .returned (.string t) ∧ Below W.heap.size W w') := Lib.hid (by rw [ht]; exact fun W h => itoa_any n W (atoi_range hA) h)
    by_cases he : t = s
    · have HR := Lib.hid (show numL s.data.toList = some n by
        unfold numL; rw [hA]; simp only; rw [if_pos]; rw [← he, ht])
      clear ht hA
      subst he
      go_enter Tryz.func22, Tryz.ntmps22
      go_wp2_with (first | (go_at_call 41; (with_reducible refine HA.out.mono ?_); rintro e1 w1 ⟨rfl, hb1⟩; have HB1 := Lib.hid hb1; have HG1 := Lib.hid (HG.out.later hb1); clear hb1) | (go_at_call 42; (with_reducible refine (HI.out _ HG1.out).mono ?_); rintro e2 w2 ⟨rfl, hb2⟩; have HB2 := Lib.hid hb2; clear hb2))
      go_ret2
      exact ⟨by rw [HR.out]; rfl, below_tr HB1.out HB2.out⟩
    · have HR := Lib.hid (show numL s.data.toList = none by
        unfold numL; rw [hA]; simp only; rw [if_neg]
        intro e
        refine he (ByteArray.ext (Array.toList_inj.1 ?_))
        rw [ht, ← e])
      have hed : (t.toList == s.toList) = false := beq_eq_false_iff_ne.2 (toList_ne he)
      clear ht hA he
      go_enter Tryz.func22, Tryz.ntmps22
      go_wp2_with (first | (go_at_call 41; (with_reducible refine HA.out.mono ?_); rintro e1 w1 ⟨rfl, hb1⟩; have HB1 := Lib.hid hb1; have HG1 := Lib.hid (HG.out.later hb1); clear hb1) | (go_at_call 42; (with_reducible refine (HI.out _ HG1.out).mono ?_); rintro e2 w2 ⟨rfl, hb2⟩; have HB2 := Lib.hid hb2; clear hb2))
      go_ret2
      exact ⟨by rw [HR.out]; rfl, below_tr HB1.out HB2.out⟩
  · have HA := Lib.hid (atoi_no s w hs hg (fun n h => hA ⟨n, h⟩))
    have HR := Lib.hid (show numL s.data.toList = none by
      unfold numL
      split
      · exact absurd ⟨_, by assumption⟩ hA
      · rfl)
    clear hA
    go_enter Tryz.func22, Tryz.ntmps22
    go_wp2_with (go_at_call 41; (with_reducible refine HA.out.mono ?_); rintro e1 w1 ⟨⟨m, t, p, rfl⟩, hb1⟩; have HB1 := Lib.hid hb1; clear hb1)
    go_ret2
    exact ⟨by rw [HR.out]; rfl, HB1.out⟩
set_option maxHeartbeats 8000000 in
set_option maxRecDepth 100000 in
theorem number_any (s : ByteArray) (w : World) (hs : s.size ≤ 30000000) (hg : Glob w) : Calls Tryz.prog 58 #[.string s] w (IntC (numL s.data.toList) w) := by
  have HA := Lib.hid (number_any2 s w hs hg)
  cases hn : numL s.data.toList with
  | none =>
    unfold NumC numV at HA
    rw [hn] at HA
    replace HA : Hid (Calls Tryz.prog 22 #[.string s] w fun e w' => e = .returned (.tuple #[.int .i64 0, .bool false]) ∧ Below w.heap.size w w') := HA
    clear hn
    go_enter Tryz.func58, Tryz.ntmps58
    go_wp2_with (first | (go_at_call 22; (with_reducible refine HA.out.mono ?_); rintro e1 w1 ⟨rfl, hb1⟩; have HB1 := Lib.hid hb1; clear hb1) | (go_at_call 61; (with_reducible refine (need_no _).mono ?_); rintro e2 w2 ⟨rfl, j9, hw9⟩; have HB9 := Lib.hid (show Below _ _ w2 by rw [hw9]; exact w_ext_below _ _); clear hw9))
    exact ⟨rfl, Or.inr ⟨rfl, rfl, below_tr HB1.out HB9.out⟩⟩
  | some n =>
    unfold NumC numV at HA
    rw [hn] at HA
    replace HA : Hid (Calls Tryz.prog 22 #[.string s] w fun e w' => e = .returned (.tuple #[.int .i64 n, .bool true]) ∧ Below w.heap.size w w') := HA
    clear hn
    go_enter Tryz.func58, Tryz.ntmps58
    go_wp2_with (first | (go_at_call 22; (with_reducible refine HA.out.mono ?_); rintro e1 w1 ⟨rfl, hb1⟩; have HB1 := Lib.hid hb1; clear hb1) | (go_at_call 61; (with_reducible refine (need_yes _).mono ?_); rintro e2 w2 ⟨rfl, hw⟩; replace hw := hw.symm; subst hw))
    go_ret
    exact Or.inl ⟨n, rfl, rfl, HB1.out⟩
end Go.Proofs.YtmcooenafgihkaaGreatDoor
