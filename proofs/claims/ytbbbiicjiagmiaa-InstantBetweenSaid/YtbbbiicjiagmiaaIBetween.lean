/- No time stands between one and the next, and all stand between the first and the last one, for all two numbers of 64 bits. -/
import Derived.Test.YtbbbiicjiagmiaaL
import Derived.Test.YtbbbiicjiagmiaaI4
namespace Go.Proofs.Ytbbbiicjiagmiaa
open Go.ChangeShapes Go.WideShapes Go.ChangeAt Go.RowKit
set_option linter.unusedSimpArgs false
set_option linter.unusedVariables false

set_option maxHeartbeats 1000000 in
set_option maxRecDepth 100000 in
theorem between_w (k o n : Nat) (e : Int) (g : Bool) (c1 : Hid (∀ w, Calls Try.prog 19 #[u64 k] w (Ret (.tuple #[u64 n, .int .i64 e]) w))) (c2 : Hid (∀ w, Calls Try.prog 17 #[u64 o] w (Ret (.bool g) w)))
    (bad p1 p2 p3 p4 p5 p6 p7 p8 : Bool) (kk nn oo : Int) (hk : (k : Int) = kk) (hn : (n : Int) = nn) (ho : (o : Int) = oo) (h0 : (e != 0) = bad) (h1 : (nn == kk) = p1) (h2 : (kk != 18442240474082181120) = p2) (h3 : decide (nn < kk) = p3) (h4 : decide (kk < oo) = p4) (h5 : decide (oo < nn) = p5)
    (h6 : decide (4503599627370495 ≤ kk) = p6) (h7 : decide (kk ≤ 18442240474082181120) = p7) (h8 : (nn == 0) = p8) (H1 : bad = true → p8 = true) (H2 : bad = false → ((p1 && p2) || p3) = false ∧ (g && p4 && p5) = false ∧ p6 = true ∧ p7 = true) (w : World) :
    Calls Try.prog 7 #[u64 k, u64 o] w (Ret (.bool true) w) := by
  cases bad
  · obtain ⟨q1, q2, q3, q4⟩ := H2 rfl
    subst q3; subst q4
    clear H1 H2
    cases p1 <;> cases p2 <;> cases p3 <;> simp only [Bool.and_true, Bool.and_false, Bool.or_true, Bool.or_false, Bool.false_eq_true, Bool.true_eq_false, reduceCtorEq] at q1
    all_goals
      cases g <;> cases p4 <;> cases p5 <;> simp only [Bool.and_true, Bool.and_false, Bool.true_and, Bool.false_and, Bool.or_true, Bool.or_false, Bool.false_eq_true, Bool.true_eq_false, reduceCtorEq] at q2
    all_goals
      go_enter Try.func7, Try.ntmps7
      go_wp2_with (first | (go_at_call 19; (with_reducible refine (c1.out _).mono ?_); rintro e1 w1 ⟨rfl, j1, rfl⟩) | (go_at_call 17; (with_reducible refine (c2.out _).mono ?_); rintro e1 w1 ⟨rfl, j1, rfl⟩) | (go_at_call 20; (with_reducible refine (last_any _).mono ?_); rintro e1 w1 ⟨rfl, j1, rfl⟩) | (go_at_call 21; (with_reducible refine (first_any _).mono ?_); rintro e1 w1 ⟨rfl, j1, rfl⟩) | (go_at_call 14; (with_reducible refine (awake_any _).mono ?_); rintro e1 w1 ⟨rfl, j1, rfl⟩))
      go_ret
      exact Ret.mk rfl (by (repeat' (first | (with_reducible exact Below.refl _ _) | (with_reducible exact w_ext_below _ _) | (with_reducible refine below_ext ?_ ?_ _) | (simp; done) | (simp; omega))))
  · obtain rfl := H1 rfl
    clear H1 H2 h1 h2 h3 h4 h5 h6 h7
    go_enter Try.func7, Try.ntmps7
    go_wp2_with (first | (go_at_call 19; (with_reducible refine (c1.out _).mono ?_); rintro e1 w1 ⟨rfl, j1, rfl⟩) | (go_at_call 17; (with_reducible refine (c2.out _).mono ?_); rintro e1 w1 ⟨rfl, j1, rfl⟩) | (go_at_call 20; (with_reducible refine (last_any _).mono ?_); rintro e1 w1 ⟨rfl, j1, rfl⟩) | (go_at_call 21; (with_reducible refine (first_any _).mono ?_); rintro e1 w1 ⟨rfl, j1, rfl⟩) | (go_at_call 14; (with_reducible refine (awake_any _).mono ?_); rintro e1 w1 ⟨rfl, j1, rfl⟩))
    go_ret
    exact Ret.mk rfl (by (repeat' (first | (with_reducible exact Below.refl _ _) | (with_reducible exact w_ext_below _ _) | (with_reducible refine below_ext ?_ ?_ _) | (simp; done) | (simp; omega))))
theorem instantBetween_calls (k : Nat) (hk : k < 18446744073709551616) (o : Nat) (ho : o < 18446744073709551616) (w : World) : Calls Try.prog 7 #[u64 k, u64 o] w (Ret (.bool true) w) := by
  have g1 := good_iff k hk
  have g2 := good_iff o ho
  refine between_w k o _ _ _ (Lib.hid (fun w => next_any k hk w)) (Lib.hid (fun w => good_any o ho w)) _ _ _ _ _ _ _ _ _ _ _ _ rfl rfl rfl rfl rfl rfl rfl rfl rfl rfl rfl rfl ?_ ?_ w
  · unfold toE nextV
    split
    · intro h; cases h
    · intro _; rfl
  · unfold toE nextV
    split
    · rename_i h
      have r := g1.1 h
      intro _
      refine ⟨?_, ?_, decide_eq_true (by omega), decide_eq_true (by omega)⟩
      · split
        · rename_i e; subst e; simp
        · split
          · rename_i e; subst e; simp
          · simp
            omega
      · cases hg : goodB o with
        | false => rfl
        | true =>
          have s := g2.1 hg
          rw [Bool.true_and, Bool.and_eq_false_iff, decide_eq_false_iff_not, decide_eq_false_iff_not]
          split
          · omega
          · split <;> omega
    · intro h; cases h

set_option maxRecDepth 100000 in
theorem instantBetween_lifted (os : Os) (started : os.Started) (H : Type) (enc : TypeId × Value → H) :
    ReturnsInHanded {} Try.checked os 7 .any (Rows.instantBetweenSpec.pre6 enc Try.prog Try.f7 Rows.instantBetweenRow.domain false) (Rows.instantBetweenSpec.post enc Try.prog Try.f7 false true false false) := by
  refine returnsInHanded_of_change (C := Try.checked) Try.own started (by kernel_rfl) Try.func7
    (ChangeSpec.witness6 (enc := enc) (C := Try.checked) false ⟨#[], #[.int .u64 0, .int .u64 0], []⟩ 8 (by kernel_rfl) (by kernel_rfl) (by kernel_rfl) (by kernel_rfl)) ?_
  intro W base args ds gs before hval0 hW hcnd _
  have hval : ∀ (j : Nat) t v, Try.f7.params[j]? = some t → args[j]? = some v → Value.okWide Try.prog W .any base t v := hval0
  have hW' := hW
  obtain ⟨p, q, hA0, hV, rfl, hfz, hnd⟩ := hW
  have hA : DataW.TrodAll enc Try.prog W 0 (fun _ => true) true Try.f7.params.toList args.toList ds p := hA0
  rw [Try.params7] at hA hval
  obtain ⟨v0, vs0, d0, ds0, p0, q0, hargs, rfl, rfl, h0, r0⟩ := trodAll_cons hA
  obtain ⟨v1, vs1, d1, ds1, p1, q1, rfl, rfl, rfl, h1, r1⟩ := trodAll_cons r0
  obtain ⟨rfl, rfl, rfl⟩ := trodAll_nil r1
  obtain rfl : args = #[v0, v1] := by cases args; simp_all
  obtain ⟨rfl, rfl⟩ := trodVars_none hV
  obtain ⟨b0, rfl, wb0⟩ := open_u64 (hval 0 23 _ rfl rfl) h0
  obtain ⟨b1, rfl, wb1⟩ := open_u64 (hval 1 23 _ rfl rfl) h1
  refine (instantBetween_calls b0 wb0 b1 wb1 W).mono fun e W' ⟨he, j, hj⟩ => ?_
  subst he; subst hj
  exact ⟨_, rfl, law_post Try.laidOut (by kernel_rfl) rfl rfl rfl hW' (w_ext_below _ _)⟩

theorem instantBetween_holds : Rows.InstantBetweenSaid :=
  OpenClaim.holds_of_wide 7 Try.f7 rfl rfl rfl rfl rfl rfl rfl ⟨rfl, rfl, rfl, rfl, rfl⟩ rfl rfl rfl rfl rfl (by kernel_rfl) Try.func7 (by kernel_rfl)
    (of_decide_eq_true (by kernel_rfl)) (by unfold Func.isWrapper; first | (rw [if_pos (by decide +kernel)]; kernel_rfl) | (rw [if_neg (by decide +kernel)]; exact ⟨rfl, rfl⟩))
    (fun os started H enc _ => instantBetween_lifted os started H enc)
end Go.Proofs.Ytbbbiicjiagmiaa
