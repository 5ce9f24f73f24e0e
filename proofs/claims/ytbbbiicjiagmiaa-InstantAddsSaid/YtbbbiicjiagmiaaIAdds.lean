/- Sums go both ways, and with a greater time a sum is never lesser, for all three numbers of 64 bits. -/
import Derived.Test.YtbbbiicjiagmiaaL
import Derived.Test.YtbbbiicjiagmiaaI6
import Derived.Test.YtbbbiicjiagmiaaF5
namespace Go.Proofs.Ytbbbiicjiagmiaa
open Go.ChangeShapes Go.WideShapes Go.ChangeAt Go.RowKit
set_option linter.unusedSimpArgs false
set_option linter.unusedVariables false

set_option maxHeartbeats 1000000 in
set_option maxRecDepth 100000 in
theorem adds_w (a b c v u : Nat) (e g : Int) (p q d : Bool) (bb cc vv uu : Int) (hb : (b : Int) = bb) (hc : (c : Int) = cc) (hv : (v : Int) = vv) (hu : (u : Int) = uu) (hp : (e == 0) = p) (hp' : (e != 0) = !p) (hq' : (g != 0) = !q) (hd : decide (cc < bb) = d) (hle : p = true → q = true → d = false → decide (vv ≤ uu) = true)
    (C1 : Hid (∀ w, Calls Try.prog 18 #[u64 a, u64 b] w (Ret (.tuple #[u64 v, .int .i64 e]) w))) (C2 : Hid (∀ w, Calls Try.prog 18 #[u64 b, u64 a] w (Ret (.tuple #[u64 v, .int .i64 e]) w))) (C3 : Hid (∀ w, Calls Try.prog 18 #[u64 a, u64 c] w (Ret (.tuple #[u64 u, .int .i64 g]) w))) (w : World) :
    Calls Try.prog 6 #[u64 a, u64 b, u64 c] w (Ret (.bool true) w) := by
  cases p
  · clear hle
    go_enter Try.func6, Try.ntmps6
    go_wp2_with (first | (go_at_call 18; (with_reducible refine (C1.out _).mono ?_); rintro e1 w1 ⟨rfl, j1, rfl⟩) | (go_at_call 18; (with_reducible refine (C2.out _).mono ?_); rintro e1 w1 ⟨rfl, j1, rfl⟩) | (go_at_call 18; (with_reducible refine (C3.out _).mono ?_); rintro e1 w1 ⟨rfl, j1, rfl⟩) | (go_at_call 14; (with_reducible refine (awake_any _).mono ?_); rintro e1 w1 ⟨rfl, j1, rfl⟩))
    go_ret
    exact Ret.mk rfl (by (repeat' (first | (with_reducible exact Below.refl _ _) | (with_reducible exact w_ext_below _ _) | (with_reducible refine below_ext ?_ ?_ _) | (simp; done) | (simp; omega))))
  · cases q
    · clear hle
      go_enter Try.func6, Try.ntmps6
      go_wp2_with (first | (go_at_call 18; (with_reducible refine (C1.out _).mono ?_); rintro e1 w1 ⟨rfl, j1, rfl⟩) | (go_at_call 18; (with_reducible refine (C2.out _).mono ?_); rintro e1 w1 ⟨rfl, j1, rfl⟩) | (go_at_call 18; (with_reducible refine (C3.out _).mono ?_); rintro e1 w1 ⟨rfl, j1, rfl⟩) | (go_at_call 14; (with_reducible refine (awake_any _).mono ?_); rintro e1 w1 ⟨rfl, j1, rfl⟩))
      go_ret
      exact Ret.mk rfl (by (repeat' (first | (with_reducible exact Below.refl _ _) | (with_reducible exact w_ext_below _ _) | (with_reducible refine below_ext ?_ ?_ _) | (simp; done) | (simp; omega))))
    · cases d
      · have hle := hle rfl rfl rfl
        go_enter Try.func6, Try.ntmps6
        go_wp2_with (first | (go_at_call 18; (with_reducible refine (C1.out _).mono ?_); rintro e1 w1 ⟨rfl, j1, rfl⟩) | (go_at_call 18; (with_reducible refine (C2.out _).mono ?_); rintro e1 w1 ⟨rfl, j1, rfl⟩) | (go_at_call 18; (with_reducible refine (C3.out _).mono ?_); rintro e1 w1 ⟨rfl, j1, rfl⟩) | (go_at_call 14; (with_reducible refine (awake_any _).mono ?_); rintro e1 w1 ⟨rfl, j1, rfl⟩))
        go_ret
        exact Ret.mk rfl (by (repeat' (first | (with_reducible exact Below.refl _ _) | (with_reducible exact w_ext_below _ _) | (with_reducible refine below_ext ?_ ?_ _) | (simp; done) | (simp; omega))))
      · clear hle
        go_enter Try.func6, Try.ntmps6
        go_wp2_with (first | (go_at_call 18; (with_reducible refine (C1.out _).mono ?_); rintro e1 w1 ⟨rfl, j1, rfl⟩) | (go_at_call 18; (with_reducible refine (C2.out _).mono ?_); rintro e1 w1 ⟨rfl, j1, rfl⟩) | (go_at_call 18; (with_reducible refine (C3.out _).mono ?_); rintro e1 w1 ⟨rfl, j1, rfl⟩) | (go_at_call 14; (with_reducible refine (awake_any _).mono ?_); rintro e1 w1 ⟨rfl, j1, rfl⟩))
        go_ret
        exact Ret.mk rfl (by (repeat' (first | (with_reducible exact Below.refl _ _) | (with_reducible exact w_ext_below _ _) | (with_reducible refine below_ext ?_ ?_ _) | (simp; done) | (simp; omega))))
theorem addO_comm (a b : Nat) : addO b a = addO a b := by
  unfold addO
  rw [Bool.and_comm]
  have : floatBits .add .f64 (toV b) (toV a) = floatBits .add .f64 (toV a) (toV b) := add_comm64 _ _
  rw [this]
theorem toV_key (k : Nat) (hk : k < 18446744073709551616) (hg : goodB k = true) : key (toV k) = if k < 9223372036854775808 then (k : Int) - 9223372036854775807 else (k : Int) - 9223372036854775808 := by
  have r := (good_iff k hk).1 hg
  unfold toV key
  rw [if_pos hg]
  unfold backV
  split
  · rw [if_neg (by omega)]; omega
  · rw [if_pos (by omega)]; omega
theorem ofV_mono (r q : Nat) (hr : r < 18446744073709551616) (hq : q < 18446744073709551616) (nr : isN r) (nq : isN q) (h : key r ≤ key q) : (ofV r : Int) ≤ (ofV q : Int) := by
  have e : ∀ b : Nat, b < 18446744073709551616 → isN b → (ofV b : Int) = if 0 ≤ key b then 9223372036854775808 + key b else 9223372036854775807 + key b := by
    intro b hb h
    unfold isN at h
    unfold ofV key
    rw [if_neg (by omega)]
    split
    · split
      · rw [if_pos (by omega)]; omega
      · rw [if_pos (by omega)]; omega
    · split
      · rw [if_pos (by omega)]; omega
      · rw [if_neg (by omega)]; omega
  rw [e r hr nr, e q hq nq]
  split <;> split <;> omega
theorem toV_isN (k : Nat) (hk : k < 18446744073709551616) : isN (toV k) := by unfold isN; exact toV_fin k hk
theorem instantAdds_calls (a : Nat) (ha : a < 18446744073709551616) (b : Nat) (hb : b < 18446744073709551616) (c : Nat) (hc : c < 18446744073709551616) (w : World) : Calls Try.prog 6 #[u64 a, u64 b, u64 c] w (Ret (.bool true) w) := by
  have D2 := fun w => add_any b a hb ha w
  rw [addO_comm] at D2
  refine adds_w a b c _ _ _ _ _ _ _ _ _ _ _ rfl rfl rfl rfl rfl rfl (Bool.not_not _).symm rfl ?_ (Lib.hid (fun w => add_any a b ha hb w)) (Lib.hid D2) (Lib.hid (fun w => add_any a c ha hc w)) w
  intro h1 h2 h3
  rw [decide_eq_false_iff_not] at h3
  rw [decide_eq_true_eq]
  rw [Bool.not_eq_true', bne_eq_false_iff_eq] at h2
  rw [beq_iff_eq] at h1
  unfold addO at h1 h2 ⊢
  cases g1 : (goodB a && goodB b) with
  | false => rw [g1] at h1; cases h1
  | true =>
    cases g2 : (goodB a && goodB c) with
    | false => rw [g2] at h2; cases h2
    | true =>
      rw [Bool.and_eq_true] at g1 g2
      rw [show (goodB a && goodB b) = true by rw [g1.1, g1.2]; rfl] at h1
      rw [show (goodB a && goodB c) = true by rw [g2.1, g2.2]; rfl] at h2
      simp only [if_true] at h1 h2 ⊢
      have hk : key (toV b) ≤ key (toV c) := by
        rw [toV_key b hb g1.2, toV_key c hc g2.2]
        split <;> split <;> omega
      cases e1 : floatBits .add .f64 (toV a) (toV b) with
      | none => rw [e1] at h1; cases h1
      | some r =>
        cases e2 : floatBits .add .f64 (toV a) (toV c) with
        | none => rw [e2] at h2; cases h2
        | some q =>
          have m := add_mono (toV a) (toV b) (toV c) r q (toV_lt a ha) (toV_lt b hb) (toV_lt c hc) (toV_isN a ha) (toV_isN b hb) (toV_isN c hc) hk e1 e2
          obtain ⟨n1, l1, _⟩ := add_key (toV a) (toV b) r (toV_lt a ha) (toV_lt b hb) (toV_isN a ha) (toV_isN b hb) e1
          obtain ⟨n2, l2, _⟩ := add_key (toV a) (toV c) q (toV_lt a ha) (toV_lt c hc) (toV_isN a ha) (toV_isN c hc) e2
          exact ofV_mono r q l1 l2 n1 n2 m

set_option maxRecDepth 100000 in
theorem instantAdds_lifted (os : Os) (started : os.Started) (H : Type) (enc : TypeId × Value → H) :
    ReturnsInHanded {} Try.checked os 6 .any (Rows.instantAddsSpec.pre6 enc Try.prog Try.f6 Rows.instantAddsRow.domain false) (Rows.instantAddsSpec.post enc Try.prog Try.f6 false true false false) := by
  refine returnsInHanded_of_change (C := Try.checked) Try.own started (by kernel_rfl) Try.func6
    (ChangeSpec.witness6 (enc := enc) (C := Try.checked) false ⟨#[], #[.int .u64 0, .int .u64 0, .int .u64 0], []⟩ 8 (by kernel_rfl) (by kernel_rfl) (by kernel_rfl) (by kernel_rfl)) ?_
  intro W base args ds gs before hval0 hW hcnd _
  have hval : ∀ (j : Nat) t v, Try.f6.params[j]? = some t → args[j]? = some v → Value.okWide Try.prog W .any base t v := hval0
  have hW' := hW
  obtain ⟨p, q, hA0, hV, rfl, hfz, hnd⟩ := hW
  have hA : DataW.TrodAll enc Try.prog W 0 (fun _ => true) true Try.f6.params.toList args.toList ds p := hA0
  rw [Try.params6] at hA hval
  obtain ⟨v0, vs0, d0, ds0, p0, q0, hargs, rfl, rfl, h0, r0⟩ := trodAll_cons hA
  obtain ⟨v1, vs1, d1, ds1, p1, q1, rfl, rfl, rfl, h1, r1⟩ := trodAll_cons r0
  obtain ⟨v2, vs2, d2, ds2, p2, q2, rfl, rfl, rfl, h2, r2⟩ := trodAll_cons r1
  obtain ⟨rfl, rfl, rfl⟩ := trodAll_nil r2
  obtain rfl : args = #[v0, v1, v2] := by cases args; simp_all
  obtain ⟨rfl, rfl⟩ := trodVars_none hV
  obtain ⟨b0, rfl, wb0⟩ := open_u64 (hval 0 23 _ rfl rfl) h0
  obtain ⟨b1, rfl, wb1⟩ := open_u64 (hval 1 23 _ rfl rfl) h1
  obtain ⟨b2, rfl, wb2⟩ := open_u64 (hval 2 23 _ rfl rfl) h2
  refine (instantAdds_calls b0 wb0 b1 wb1 b2 wb2 W).mono fun e W' ⟨he, j, hj⟩ => ?_
  subst he; subst hj
  exact ⟨_, rfl, law_post Try.laidOut (by kernel_rfl) rfl rfl rfl hW' (w_ext_below _ _)⟩

theorem instantAdds_holds : Rows.InstantAddsSaid :=
  OpenClaim.holds_of_wide 6 Try.f6 rfl rfl rfl rfl rfl rfl rfl ⟨rfl, rfl, rfl, rfl, rfl⟩ rfl rfl rfl rfl rfl (by kernel_rfl) Try.func6 (by kernel_rfl)
    (of_decide_eq_true (by kernel_rfl)) (by unfold Func.isWrapper; first | (rw [if_pos (by decide +kernel)]; kernel_rfl) | (rw [if_neg (by decide +kernel)]; exact ⟨rfl, rfl⟩))
    (fun os started H enc _ => instantAdds_lifted os started H enc)
end Go.Proofs.Ytbbbiicjiagmiaa
