/- Helper lemmas of this seat, joined. No condition. -/
import Derived.Test.YtelhclamoapnhaaGC
import Derived.Outline
import Derived.Test.YtelhclamoapnhaaGB
set_option linter.unusedSimpArgs false
set_option linter.unusedVariables false
namespace Go.Proofs.Ytelhclamoapnhaa
open Go.RowKit

/-- What a looking for changes leaves. -/
def GotP (W0 : World) (B pl b : Nat) (r : Option (List Ch × ByteArray)) (e : Ending) (w' : World) : Prop := (∃ (l : List Ch) (u : ByteArray) (v : Value), r = some (l, u) ∧ e = .returned (.tuple #[]) ∧ St W0 B pl b v l u w') ∨ (r = none ∧ Thrown W0 B pl b e w')
theorem GotP.no {W0 : World} {B pl b : Nat} {r : Option (List Ch × ByteArray)} {c : Int} {v : Value} {l : List Ch} {s : ByteArray} {w' : World} {e : Ending} (hr : r = none) (he : e = .panicked [fault c]) (h : St W0 B pl b v l s w' ∧ ¬ c = 0) : GotP W0 B pl b r e w' := Or.inr ⟨hr, c, v, l, s, he, h⟩
theorem numP_lt {s t : ByteArray} {n : Int} {m : Nat} (h : numP s n = .ok (m, t)) : m < 9223372036854775808 := by
  unfold numP at h
  split at h
  · split at h
    · cases h
    · split at h
      · rename_i hm
        injection h with h
        injection h with h _
        omega
      · cases h
  · cases h
theorem app_op {o : Oper} {a : Act} {K : Act → World → Prop} {Q : Exit → Act → World → Prop} {W w2 : World} {v y v2 : Value} (t : TypeId) (s x : Operand)
    (ho : o.op = .call { callee := .builtin .append, args := #[s, x], argTypes := #[t, t] }) (hty : o.type = t) (hs : a.eval s = v) (hx : a.eval x = y) (hr : (Builtin.append_ #[t, t] t #[v, y]).run Try.prog W = .ok v2 w2)
    (h : K (a.put o.dst v2) w2) : o.wp Try.prog a W K Q := by
  unfold Oper.wp execOp
  simp only [ho, resolve, invoke, builtin, Sem.run_bind, Sem.run_pure, Result.andThen_ok, List.map_toArray, List.map_cons, List.map_nil, hs, hx, hty, hr]
  exact h
set_option maxHeartbeats 2000000 in
set_option maxRecDepth 100000 in
theorem look49 (W0 : World) (B pl b : Nat) (v0 : Value) (s0 : ByteArray) (w : World) (hs0 : s0.size ≤ 50000000) (h : St W0 B pl b v0 [] s0 w) : Calls Try.prog 49 #[eyeP b, .pointer (some ⟨pl, 0, none⟩)] w (GotP W0 B pl b (getG s0)) := by
  obtain ⟨r, hr⟩ : ∃ r, getG s0 = r := ⟨_, rfl⟩
  rw [hr]
  have HS := Lib.hid h
  clear h
  cases h4 : numP s0 4 with
  | error c =>
    have HR := Lib.hid (show r = none by rw [← hr]; unfold getG; rw [h4])
    have HC := Lib.hid (fun w (h : St W0 B pl b v0 [] s0 w) => num_stE h h4)
    clear hr h4
    go_enter Try.func49, Try.ntmps49
    go_wp2_with (go_at_call 50; (with_reducible refine (HC.out _ HS.out).mono ?_); rintro e1 w1 ⟨c, v, l, s, rfl, h1⟩; replace h1 := Lib.hid h1)
    exact ⟨rfl, GotP.no HR.out rfl h1.out⟩
  | ok q =>
  obtain ⟨m, t0⟩ := q
  have HL0 := Lib.hid (numP_len h4)
  have HR := Lib.hid (show r = match parseN m t0 [] with | none => none | some (l, u) => if sortedP l = true then some (l, u) else none by rw [← hr]; unfold getG; rw [h4]; try rfl)
  have HML := Lib.hid (numP_lt h4)
  have HC := Lib.hid (fun w (h : St W0 B pl b v0 [] s0 w) => num_st h h4)
  clear hr h4
  go_enter Try.func49, Try.ntmps49
  go_wp2_with (go_at_call 50; (with_reducible refine (HC.out _ HS.out).mono ?_); rintro e1 w1 ⟨rfl, h1⟩; replace h1 := Lib.hid h1)
  go_loopw [8] (fun v8 wr => ∃ (i : Nat) (v : Value) (l : List Ch) (s : ByteArray), i ≤ m ∧ v8 = .int .i64 (i : Int) ∧ l.length + s.size ≤ 50000000 ∧ Hid (St W0 B pl b v l s wr) ∧ Hid (parseN m t0 [] = parseN (m - i) s l)) (fun i _ => ((m : Int) - intOf i).toNat)
  case atStart => exact ⟨0, v0, [], t0, Nat.zero_le _, by simp, by have := HL0.out; simp; omega, h1, Lib.hid (by rw [Nat.sub_zero])⟩
  case round =>
    obtain ⟨i, v, l, s, hi, rfl, hls, HT, HP⟩ := hrel
    by_cases hin : i = m
    · subst hin
      have HQ := Lib.hid (show r = if sortedP l = true then some (l, s) else none by rw [HR.out, HP.out, Nat.sub_self]; rfl)
      have hv := HT.out.cell.1
      cases hso : sortedP l with
      | true =>
        have HQ2 := Lib.hid (show r = some (l, s) by rw [HQ.out, if_pos hso])
        have HSO := Lib.hid (fun w (h : St W0 B pl b v l s w) => sorted_st h (by omega))
        rw [hso] at HSO
        clear hso
        go_wp2_with (go_at_call 17; (with_reducible refine (HSO.out _ HT.out).mono ?_); rintro e1 w2 ⟨rfl, h2⟩; replace h2 := Lib.hid h2)
        go_end0
        exact Or.inl ⟨l, s, v, HQ2.out, rfl, h2.out⟩
      | false =>
        have HQ2 := Lib.hid (show r = none by rw [HQ.out, if_neg (by rw [hso]; simp)])
        have HSO := Lib.hid (fun w (h : St W0 B pl b v l s w) => sorted_st h (by omega))
        rw [hso] at HSO
        clear hso
        go_wp2_with (first | (go_at_call 17; (with_reducible refine (HSO.out _ HT.out).mono ?_); rintro e1 w2 ⟨rfl, h2⟩; replace h2 := Lib.hid h2) | (go_at_call 51; (with_reducible refine (fail_st h2.out (by decide)).mono ?_); rintro e1 w3 ⟨c, v3, l3, s3, rfl, h3⟩; replace h3 := Lib.hid h3))
        exact ⟨rfl, GotP.no HQ2.out rfl h3.out⟩
    · have hlt : (i : Int) < (m : Int) := by omega
      have hge : (0 : Int) ≤ (i : Int) := by omega
      have hwr : wrap64 ((i : Int) + 1) = ((i + 1 : Nat) : Int) := by rw [wrap64_eq]; have := HML.out; omega
      have HP1 := Lib.hid (show parseN (m - i) s l = match parse1 s with | none => none | some (c, t) => parseN (m - (i + 1)) t (l ++ [c]) by
        rw [show m - i = (m - (i + 1)) + 1 by omega]; rfl)
      have HNO := Lib.hid (show parse1 s = none → r = none from fun h => by rw [HR.out, HP.out, HP1.out, h])
      have hv := HT.out.cell.1
      cases hg : numP s 1 with
      | error c =>
        have HQ := Lib.hid (HNO.out (by unfold parse1; rw [hg]))
        have HC1 := Lib.hid (fun w (h : St W0 B pl b v l s w) => num_stE h hg)
        clear hg
        go_wp2_with (go_at_call 50; (with_reducible refine (HC1.out _ HT.out).mono ?_); rintro e1 w2 ⟨c, v2, l2, s2, rfl, h2⟩; replace h2 := Lib.hid h2)
        exact ⟨rfl, GotP.no HQ.out rfl h2.out⟩
      | ok q =>
      obtain ⟨g, s1⟩ := q
      have HS1 := Lib.hid (numP_len hg)
      have HC1 := Lib.hid (fun w (h : St W0 B pl b v l s w) => num_st h hg)
      by_cases hg1 : 1 < g
      · have HQ := Lib.hid (HNO.out (by unfold parse1; rw [hg]; simp only; rw [if_pos hg1]))
        have hg2 : (1 : Int) < (g : Int) := by omega
        clear hg hg1
        go_wp2_with (first | (go_at_call 50; (with_reducible refine (HC1.out _ HT.out).mono ?_); rintro e1 w2 ⟨rfl, h2⟩; replace h2 := Lib.hid h2) | (go_at_call 51; (with_reducible refine (fail_st h2.out (by decide)).mono ?_); rintro e1 w3 ⟨c, v3, l3, s3, rfl, h3⟩; replace h3 := Lib.hid h3))
        exact ⟨rfl, GotP.no HQ.out rfl h3.out⟩
      have HP2 := Lib.hid (show parse1 s = match textP s1 64 with | .error _ => none | .ok (k, s2) => match textP s2 300 with | .error _ => none | .ok (v, s3) => some (⟨k, v, (g : Int) == 1⟩, s3) by
        unfold parse1; rw [hg]; simp only; rw [if_neg hg1]; try rfl)
      have hg2 : ¬ (1 : Int) < (g : Int) := by omega
      obtain ⟨gb, hgb⟩ : ∃ gb, ((g : Int) == 1) = gb := ⟨_, rfl⟩
      clear hg hg1
      cases hk : textP s1 64 with
      | error c =>
        have HQ := Lib.hid (HNO.out (by rw [HP2.out, hk]))
        have HC2 := Lib.hid (fun w (h : St W0 B pl b v l s1 w) => text_stE h hk)
        clear hk
        go_wp2_with (go_at_call 50; (with_reducible refine (HC1.out _ HT.out).mono ?_); rintro e1 w2 ⟨rfl, h2⟩; replace h2 := Lib.hid h2)
        refine wp_region_ord (.take 1 (.take 2 (.take 3 (.take 5 (.two 0 4 (.one 4 (.one 6 (.take 7 (.one 8 (.one 9 (.one 10 .done)))))) (.two 0 6 (.one 6 (.take 7 (.one 8 (.one 9 (.one 10 .done))))) (.take 7 (.two 0 8 (.one 8 (.one 9 (.one 10 .done))) (.one 0 (.one 9 (.one 10 .done)))))))))) ) (by kernel_rfl) (by kernel_rfl) (by decide) (by kernel_rfl) (by intro _ _ d _ _ h; cases d <;> exact h) ?_
        have HD := Lib.hid (h2.out.below (Below.drew (Below.refl _ _)))
        have hv2 := HD.out.cell.1
        generalize World.drew w2 = w3 at *
        refine wpOrd_take rfl rfl ?_; intro K hK; go_simp; refine hK _ ?_; clear hK K
        refine wpOrd_take rfl rfl ?_; intro K hK; go_simp; refine hK _ ?_; clear hK K
        refine wpOrd_take rfl rfl ?_; intro K hK; go_simp; refine hK _ ?_; clear hK K
        refine wpOrd_take rfl rfl ?_; intro K hK; go_simp; refine hK _ ?_; clear hK K
        refine wpOrd_two ?_ ?_
        · refine wpOrd_one rfl rfl ?_; intro K hK; go_wp2
          refine wpOrd_one rfl rfl ?_; intro K hK; go_wp2_with (go_at_call 52; (with_reducible refine (HC2.out _ HD.out).mono ?_); rintro e1 w4 ⟨c, v4, l4, s4, rfl, h4⟩; replace h4 := Lib.hid h4)
          exact ⟨rfl, GotP.no HQ.out rfl h4.out⟩
        · refine wpOrd_one rfl rfl ?_; intro K hK; go_wp2_with (go_at_call 52; (with_reducible refine (HC2.out _ HD.out).mono ?_); rintro e1 w4 ⟨c, v4, l4, s4, rfl, h4⟩; replace h4 := Lib.hid h4)
          exact ⟨rfl, GotP.no HQ.out rfl h4.out⟩
      | ok q =>
      obtain ⟨kk, s2⟩ := q
      have HS2 := Lib.hid (textP_len hk)
      have HC2 := Lib.hid (fun w (h : St W0 B pl b v l s1 w) => text_st h hk)
      have HP3 := Lib.hid (show parse1 s = match textP s2 300 with | .error _ => none | .ok (v, s3) => some (⟨kk, v, (g : Int) == 1⟩, s3) by
        rw [HP2.out, hk])
      clear hk
      cases hvv : textP s2 300 with
      | error c =>
        have HQ := Lib.hid (HNO.out (by rw [HP3.out, hvv]))
        have HC3 := Lib.hid (fun w (h : St W0 B pl b v l s2 w) => text_stE h hvv)
        clear hvv
        go_wp2_with (go_at_call 50; (with_reducible refine (HC1.out _ HT.out).mono ?_); rintro e1 w2 ⟨rfl, h2⟩; replace h2 := Lib.hid h2)
        refine wp_region_ord (.take 1 (.take 2 (.take 3 (.take 5 (.two 0 4 (.one 4 (.one 6 (.take 7 (.one 8 (.one 9 (.one 10 .done)))))) (.two 0 6 (.one 6 (.take 7 (.one 8 (.one 9 (.one 10 .done))))) (.take 7 (.two 0 8 (.one 8 (.one 9 (.one 10 .done))) (.one 0 (.one 9 (.one 10 .done)))))))))) ) (by kernel_rfl) (by kernel_rfl) (by decide) (by kernel_rfl) (by intro _ _ d _ _ h; cases d <;> exact h) ?_
        have HD := Lib.hid (h2.out.below (Below.drew (Below.refl _ _)))
        have hv2 := HD.out.cell.1
        generalize World.drew w2 = w3 at *
        refine wpOrd_take rfl rfl ?_; intro K hK; go_simp; refine hK _ ?_; clear hK K
        refine wpOrd_take rfl rfl ?_; intro K hK; go_simp; refine hK _ ?_; clear hK K
        refine wpOrd_take rfl rfl ?_; intro K hK; go_simp; refine hK _ ?_; clear hK K
        refine wpOrd_take rfl rfl ?_; intro K hK; go_simp; refine hK _ ?_; clear hK K
        refine wpOrd_two ?_ ?_
        · refine wpOrd_one rfl rfl ?_; intro K hK; go_wp2
          refine wpOrd_one rfl rfl ?_; intro K hK; go_wp2_with (go_at_call 52; (with_reducible refine (HC2.out _ HD.out).mono ?_); rintro e1 w4 ⟨rfl, h4⟩; replace h4 := Lib.hid h4; have hv4 := h4.out.cell.1)
          refine wpOrd_one rfl rfl ?_; intro K hK; go_wp2_with (go_at_call 52; (with_reducible refine (HC3.out _ h4.out).mono ?_); rintro e1 w6 ⟨c, v6, l6, s6, rfl, h6⟩; replace h6 := Lib.hid h6)
          exact ⟨rfl, GotP.no HQ.out rfl h6.out⟩
        · refine wpOrd_one rfl rfl ?_; intro K hK; go_wp2_with (go_at_call 52; (with_reducible refine (HC2.out _ HD.out).mono ?_); rintro e1 w4 ⟨rfl, h4⟩; replace h4 := Lib.hid h4; have hv4 := h4.out.cell.1)
          refine wpOrd_two ?_ ?_
          · refine wpOrd_one rfl rfl ?_; intro K hK; go_wp2
            refine wpOrd_one rfl rfl ?_; intro K hK; go_wp2_with (go_at_call 52; (with_reducible refine (HC3.out _ h4.out).mono ?_); rintro e1 w6 ⟨c, v6, l6, s6, rfl, h6⟩; replace h6 := Lib.hid h6)
            exact ⟨rfl, GotP.no HQ.out rfl h6.out⟩
          · refine wpOrd_one rfl rfl ?_; intro K hK; go_wp2_with (go_at_call 52; (with_reducible refine (HC3.out _ h4.out).mono ?_); rintro e1 w6 ⟨c, v6, l6, s6, rfl, h6⟩; replace h6 := Lib.hid h6)
            exact ⟨rfl, GotP.no HQ.out rfl h6.out⟩
      | ok q =>
      obtain ⟨vv, s3⟩ := q
      have HS3 := Lib.hid (textP_len hvv)
      have HC3 := Lib.hid (fun w (h : St W0 B pl b v l s2 w) => text_st h hvv)
      have HPN := Lib.hid (show parseN m t0 [] = parseN (m - (i + 1)) s3 (l ++ [⟨kk, vv, gb⟩]) by
        rw [HP.out, HP1.out, HP3.out, hvv, ← hgb])
      clear hvv
      go_wp2_with (go_at_call 50; (with_reducible refine (HC1.out _ HT.out).mono ?_); rintro e1 w2 ⟨rfl, h2⟩; replace h2 := Lib.hid h2)
      refine wp_region_ord (.take 1 (.take 2 (.take 3 (.take 5 (.two 0 4 (.one 4 (.one 6 (.take 7 (.one 8 (.one 9 (.one 10 .done)))))) (.two 0 6 (.one 6 (.take 7 (.one 8 (.one 9 (.one 10 .done))))) (.take 7 (.two 0 8 (.one 8 (.one 9 (.one 10 .done))) (.one 0 (.one 9 (.one 10 .done)))))))))) ) (by kernel_rfl) (by kernel_rfl) (by decide) (by kernel_rfl) (by intro _ _ d _ _ h; cases d <;> exact h) ?_
      have HD := Lib.hid (h2.out.below (Below.drew (Below.refl _ _)))
      have hv2 := HD.out.cell.1
      generalize World.drew w2 = w3 at *
      refine wpOrd_take rfl rfl ?_; intro K hK; go_simp; refine hK _ ?_; clear hK K
      refine wpOrd_take rfl rfl ?_; intro K hK; go_simp; refine hK _ ?_; clear hK K
      refine wpOrd_take rfl rfl ?_; intro K hK; go_simp; refine hK _ ?_; clear hK K
      refine wpOrd_take rfl rfl ?_; intro K hK; go_simp; refine hK _ ?_; clear hK K
      refine wpOrd_two ?_ ?_
      · refine wpOrd_one rfl rfl ?_; intro K hK; go_wp2
        refine wpOrd_one rfl rfl ?_; intro K hK; go_wp2_with (go_at_call 52; (with_reducible refine (HC2.out _ HD.out).mono ?_); rintro e1 w4 ⟨rfl, h4⟩; replace h4 := Lib.hid h4; have hv4 := h4.out.cell.1)
        refine wpOrd_one rfl rfl ?_; intro K hK; go_wp2_with (go_at_call 52; (with_reducible refine (HC3.out _ h4.out).mono ?_); rintro e1 w6 ⟨rfl, h6⟩; replace h6 := Lib.hid h6; have hv6 := h6.out.cell.1; have hlb6 := leB_of_cell hv6)
        obtain ⟨v9, w9, happ, HO9, HB9⟩ := app_ch B w6 v l ⟨kk, vv, gb⟩ h6.out.own h6.out.size (by omega); dsimp only at happ; have hc9 : w9.cell? ⟨pl, 0, none⟩ = some v := (HB9.out.cell (p := ⟨pl, 0, none⟩) h6.out.plB).trans hv6; have hf9 : w9.frozen? ⟨pl, 0, none⟩ = false := (HB9.out.frozen (p := ⟨pl, 0, none⟩) h6.out.plB).trans h6.out.cell.2.2.2.2.1; obtain ⟨A9, c9, hv9, -, -⟩ := chs_of_own HO9.out; rw [List.length_append, List.length_singleton] at hv9; subst hv9
        refine wpOrd_take rfl rfl ?_; intro K hK; go_simp; refine hK _ ?_; clear hK K
        refine wpOrd_one rfl rfl ?_; intro K hK; go_wp2
        refine wpOrd_one rfl rfl ?_; intro K hK; refine app_op 22 _ _ rfl rfl rfl rfl happ ?_; refine hK _ _ ?_; clear hK K
        refine wpOrd_one rfl rfl ?_; intro K hK; go_wp2
        refine wpOrd_done ?_; go_wp2
        go_roundw
        case rel => exact ⟨i + 1, _, l ++ [⟨kk, vv, gb⟩], s3, by omega, by rw [hwr], by have := HS1.out; have := HS2.out; have := HS3.out; rw [List.length_append, List.length_singleton]; omega, Lib.hid (h6.out.turn HB9.out HO9.out), HPN⟩
        case measure => rw [intOf_lit, intOf_lit, hwr]; omega
      · refine wpOrd_one rfl rfl ?_; intro K hK; go_wp2_with (go_at_call 52; (with_reducible refine (HC2.out _ HD.out).mono ?_); rintro e1 w4 ⟨rfl, h4⟩; replace h4 := Lib.hid h4; have hv4 := h4.out.cell.1)
        refine wpOrd_two ?_ ?_
        · refine wpOrd_one rfl rfl ?_; intro K hK; go_wp2
          refine wpOrd_one rfl rfl ?_; intro K hK; go_wp2_with (go_at_call 52; (with_reducible refine (HC3.out _ h4.out).mono ?_); rintro e1 w6 ⟨rfl, h6⟩; replace h6 := Lib.hid h6; have hv6 := h6.out.cell.1; have hlb6 := leB_of_cell hv6)
          obtain ⟨v9, w9, happ, HO9, HB9⟩ := app_ch B w6 v l ⟨kk, vv, gb⟩ h6.out.own h6.out.size (by omega); dsimp only at happ; have hc9 : w9.cell? ⟨pl, 0, none⟩ = some v := (HB9.out.cell (p := ⟨pl, 0, none⟩) h6.out.plB).trans hv6; have hf9 : w9.frozen? ⟨pl, 0, none⟩ = false := (HB9.out.frozen (p := ⟨pl, 0, none⟩) h6.out.plB).trans h6.out.cell.2.2.2.2.1; obtain ⟨A9, c9, hv9, -, -⟩ := chs_of_own HO9.out; rw [List.length_append, List.length_singleton] at hv9; subst hv9
          refine wpOrd_take rfl rfl ?_; intro K hK; go_simp; refine hK _ ?_; clear hK K
          refine wpOrd_one rfl rfl ?_; intro K hK; go_wp2
          refine wpOrd_one rfl rfl ?_; intro K hK; refine app_op 22 _ _ rfl rfl rfl rfl happ ?_; refine hK _ _ ?_; clear hK K
          refine wpOrd_one rfl rfl ?_; intro K hK; go_wp2
          refine wpOrd_done ?_; go_wp2
          go_roundw
          case rel => exact ⟨i + 1, _, l ++ [⟨kk, vv, gb⟩], s3, by omega, by rw [hwr], by have := HS1.out; have := HS2.out; have := HS3.out; rw [List.length_append, List.length_singleton]; omega, Lib.hid (h6.out.turn HB9.out HO9.out), HPN⟩
          case measure => rw [intOf_lit, intOf_lit, hwr]; omega
        · refine wpOrd_one rfl rfl ?_; intro K hK; go_wp2_with (go_at_call 52; (with_reducible refine (HC3.out _ h4.out).mono ?_); rintro e1 w6 ⟨rfl, h6⟩; replace h6 := Lib.hid h6; have hv6 := h6.out.cell.1; have hlb6 := leB_of_cell hv6)
          obtain ⟨v9, w9, happ, HO9, HB9⟩ := app_ch B w6 v l ⟨kk, vv, gb⟩ h6.out.own h6.out.size (by omega); dsimp only at happ; have hc9 : w9.cell? ⟨pl, 0, none⟩ = some v := (HB9.out.cell (p := ⟨pl, 0, none⟩) h6.out.plB).trans hv6; have hf9 : w9.frozen? ⟨pl, 0, none⟩ = false := (HB9.out.frozen (p := ⟨pl, 0, none⟩) h6.out.plB).trans h6.out.cell.2.2.2.2.1; obtain ⟨A9, c9, hv9, -, -⟩ := chs_of_own HO9.out; rw [List.length_append, List.length_singleton] at hv9; subst hv9
          refine wpOrd_take rfl rfl ?_; intro K hK; go_simp; refine hK _ ?_; clear hK K
          refine wpOrd_two ?_ ?_
          · refine wpOrd_one rfl rfl ?_; intro K hK; go_wp2
            refine wpOrd_one rfl rfl ?_; intro K hK; go_wp2
            refine wpOrd_one rfl rfl ?_; intro K hK; refine app_op 22 _ _ rfl rfl rfl rfl happ ?_; refine hK _ _ ?_; clear hK K
            refine wpOrd_one rfl rfl ?_; intro K hK; go_wp2
            refine wpOrd_done ?_; go_wp2
            go_roundw
            case rel => exact ⟨i + 1, _, l ++ [⟨kk, vv, gb⟩], s3, by omega, by rw [hwr], by have := HS1.out; have := HS2.out; have := HS3.out; rw [List.length_append, List.length_singleton]; omega, Lib.hid (h6.out.turn HB9.out HO9.out), HPN⟩
            case measure => rw [intOf_lit, intOf_lit, hwr]; omega
          · refine wpOrd_one rfl rfl ?_; intro K hK; go_wp2
            refine wpOrd_one rfl rfl ?_; intro K hK; go_wp2
            refine wpOrd_one rfl rfl ?_; intro K hK; refine app_op 22 _ _ rfl rfl rfl rfl happ ?_; refine hK _ _ ?_; clear hK K
            refine wpOrd_one rfl rfl ?_; intro K hK; go_wp2
            refine wpOrd_done ?_; go_wp2
            go_roundw
            case rel => exact ⟨i + 1, _, l ++ [⟨kk, vv, gb⟩], s3, by omega, by rw [hwr], by have := HS1.out; have := HS2.out; have := HS3.out; rw [List.length_append, List.length_singleton]; omega, Lib.hid (h6.out.turn HB9.out HO9.out), HPN⟩
            case measure => rw [intOf_lit, intOf_lit, hwr]; omega
end Go.Proofs.Ytelhclamoapnhaa

set_option linter.unusedSimpArgs false
set_option linter.unusedVariables false
namespace Go.Proofs.Ytelhclamoapnhaa
open Go.RowKit

abbrev W3 (w : World) (s : ByteArray) : World := ((w.alloc (.cells #[.int .i64 0] 33)).alloc (.cells #[.string s, .bool true] 95)).alloc (.cells #[.pointer (some ⟨w.heap.size + 1, 0, none⟩)] 81)
theorem w3_below (w : World) (s : ByteArray) : Below w.heap.size w (W3 w s) := by
  refine Below.alloc ?_ (by simp; omega) _
  refine Below.alloc ?_ (by simp) _
  exact Below.alloc (Below.refl _ _) (Nat.le_refl _) _
theorem w3_heap (w : World) (s : ByteArray) : (W3 w s).heap = ((w.heap.push (.cells #[.int .i64 0] 33 (0, 0))).push (.cells #[.string s, .bool true] 95 (0, 0))).push (.cells #[.pointer (some ⟨w.heap.size + 1, 0, none⟩)] 81 (0, 0)) := rfl
theorem w3_eye (w : World) (s : ByteArray) : (W3 w s).heap[w.heap.size + 1]? = some (.cells #[.string s, .bool true] 95 (0, 0)) := by
  rw [w3_heap, Array.getElem?_push, if_neg (by simp), Array.getElem?_push, if_pos (by simp)]
theorem w3_err (w : World) (s : ByteArray) : (W3 w s).heap[w.heap.size]? = some (.cells #[.int .i64 0] 33 (0, 0)) := by
  rw [w3_heap, Array.getElem?_push, if_neg (by simp; omega), Array.getElem?_push, if_neg (by simp), Array.getElem?_push, if_pos rfl]
theorem w3_var (w : World) (s : ByteArray) : (W3 w s).heap[w.heap.size + 1 + 1]? = some (.cells #[.pointer (some ⟨w.heap.size + 1, 0, none⟩)] 81 (0, 0)) := by
  rw [w3_heap, Array.getElem?_push, if_pos (by simp)]
theorem st_start (w : World) (pl : Nat) (s : ByteArray) (hv : w.heap[pl]? = some (.cells #[.slice none 0 0] 22 (0, 0))) : St (W3 w s) (w.heap.size + 1 + 1 + 1) pl (w.heap.size + 1) (.slice none 0 0) [] s (W3 w s) := by
  have hpl : pl < w.heap.size := (Array.getElem?_eq_some_iff.1 hv).1
  refine ⟨rfl, rfl, rfl, by simp, by omega, by omega, by omega, ((w3_below w s).block pl hpl).trans hv, ?_, fun _ _ _ _ => rfl, ⟨rfl, Or.inl ⟨rfl, rfl⟩⟩⟩
  exact w3_eye w s
theorem st_cells (w w1 : World) (pl : Nat) (s u : ByteArray) (v : Value) (l : List Ch) (hpl : pl < w.heap.size) (h : St (W3 w s) (w.heap.size + 1 + 1 + 1) pl (w.heap.size + 1) v l u w1) :
    w1.cell? ⟨w.heap.size + 1 + 1, 0, none⟩ = some (eyeP (w.heap.size + 1)) ∧ w1.cell? ⟨w.heap.size, 0, none⟩ = some (.int .i64 0) ∧ w1.frozen? ⟨w.heap.size, 0, none⟩ = false := by
  have h2 := h.rest (w.heap.size + 1 + 1) (by omega) (by omega) (by omega)
  have h0 := h.rest w.heap.size (by omega) (by omega) (by omega)
  rw [w3_var] at h2
  rw [w3_err] at h0
  exact ⟨by simp [World.cell?, h2], by simp [World.cell?, h0], by simp [World.frozen?, h0]⟩
theorem gotP_some {W0 : World} {B pl b : Nat} {l : List Ch} {u : ByteArray} {e : Ending} {w' : World} (h : GotP W0 B pl b (some (l, u)) e w') : ∃ v, e = .returned (.tuple #[]) ∧ St W0 B pl b v l u w' := by
  rcases h with ⟨l2, u2, v, hr, he, h⟩ | ⟨hr, _⟩
  · injection hr with hr
    injection hr with h1 h2
    subst h1; subst h2
    exact ⟨v, he, h⟩
  · cases hr
theorem gotP_none {W0 : World} {B pl b : Nat} {e : Ending} {w' : World} (h : GotP W0 B pl b none e w') : Thrown W0 B pl b e w' := by
  rcases h with ⟨_, _, _, hr, _⟩ | ⟨_, h⟩
  · cases hr
  · exact h
/-- What Read leaves: an error's number, and the changes in the variable's block. -/
def ReadP (w : World) (pl : Nat) (ec : Int) (l : List Ch) (e : Ending) (w' : World) : Prop := ∃ (v : Value) (B : Nat), e = .returned (.int .i64 ec) ∧ w.heap.size ≤ B ∧ w'.os = w.os ∧ w'.tape = w.tape ∧ w'.output = w.output ∧ w.heap.size ≤ w'.heap.size ∧ w'.heap[pl]? = some (.cells #[v] 22 (0, 0)) ∧ (∀ k, k < w.heap.size → ¬ k = pl → w'.heap[k]? = w.heap[k]?) ∧ w'.ownsRow B 43 3 v l.length (chCells l)
theorem readP_of (w w1 : World) (pl : Nat) (s u : ByteArray) (v : Value) (l : List Ch) (hpl : pl < w.heap.size) (h : St (W3 w s) (w.heap.size + 1 + 1 + 1) pl (w.heap.size + 1) v l u w1) : ReadP w pl 0 l (.returned (.int .i64 0)) (w1.setCell ⟨w.heap.size + 1, 1, none⟩ (.bool false)) := by
  have hs := h.size
  refine ⟨v, w.heap.size + 1 + 1 + 1, rfl, by omega, h.os, h.tape, h.output, by simp [World.setCell]; omega, ?_, fun k hk hkp => ?_, own_same h.own fun g hg hg2 => ?_⟩
  · rw [heap_set_other _ _ _ _ (show ¬ pl = w.heap.size + 1 by omega)]; exact h.var
  · rw [heap_set_other _ _ _ _ (show ¬ k = w.heap.size + 1 by omega)]
    exact (h.rest k (by omega) hkp (by omega)).trans ((w3_below w s).block k hk)
  · rw [heap_set_other _ _ _ _ (show ¬ g = w.heap.size + 1 by omega)]
set_option maxHeartbeats 2000000 in
set_option maxRecDepth 100000 in
theorem read49_ok (A : Option Addr) (c pl : Nat) (bs : List Int) (w : World) (hC : ReadsB w A bs) (hv : w.heap[pl]? = some (.cells #[.slice none 0 0] 22 (0, 0))) (hs : bs.length ≤ 50000000) (l : List Ch) (hr : getG (strOfNums bs) = some (l, ⟨#[]⟩)) : Calls Try.prog 48 #[.slice A bs.length c, .func (.func 49) #[] #[.pointer (some ⟨pl, 0, none⟩)]] w (ReadP w pl 0 l) := by
  have hmf : ∀ (fn : Fn) (first cap : Array Value) (w : World), (Instr.makeFunc fn first cap).run Try.prog w = .ok (.func fn first cap) w := fun _ _ _ _ => rfl
  have hcv : ∀ o, (convert 65 9 (.slice A bs.length c)).run Try.prog (w.alloc o) = .ok (.string (strOfNums bs)) (w.alloc o) := fun o => conv_read hC c _ ((Below.refl _ _).alloc (Nat.le_refl _) o)
  have hnq : ∀ W', (binOp .neq 85 (.func (.func 49) #[] #[.pointer (some ⟨pl, 0, none⟩)]) .nilFunc).run Try.prog W' = .ok (.bool true) W' := fun _ => by kernel_rfl
  have hsz : (strOfNums bs).size ≤ 50000000 := by rw [strOfNums_size]; exact hs
  have HLK := Lib.hid (fun W0 B b (W : World) (h : St W0 B pl b (.slice none 0 0) [] (strOfNums bs) W) => look49 W0 B pl b _ _ W hsz h)
  rw [hr] at HLK
  generalize strOfNums bs = s at *
  generalize bs.length = n at *
  have hpl : pl < w.heap.size := (Array.getElem?_eq_some_iff.1 hv).1
  have HV := Lib.hid hv
  clear hC hs hsz hv hr
  go_enter_defers Try.func48, Try.ntmps48
  go_wp2_with (go_at_call 49; (with_reducible refine (HLK.out _ _ _ _ (st_start w pl s HV.out)).mono ?_); intro e1 w1 hgot; obtain ⟨v, rfl, h1⟩ := gotP_some hgot; obtain ⟨hc1, hc2, hc3⟩ := st_cells w w1 pl s _ v l hpl h1; obtain ⟨_, hc4, hc5, _⟩ := h1.cell; clear hgot; replace h1 := Lib.hid h1)
  refine leaves_cons (f := 58) (args := #[.pointer (some ⟨w.heap.size + 1 + 1, 0, none⟩), .pointer (some ⟨w.heap.size, 0, none⟩)]) (by simp) (by simp [go_sem]) ?_
  rw [set_self _ _ _ _ hc2]
  refine (catch_idle (w.heap.size + 1 + 1) w.heap.size (w.heap.size + 1) _ hc1 hc5 h1.out.cell.2.2.2.2.2).mono ?_
  rintro e u' w'' ⟨rfl, rfl, rfl⟩
  have hce : (w1.setCell ⟨w.heap.size + 1, 1, none⟩ (.bool false)).cell? ⟨w.heap.size, 0, none⟩ = some (.int .i64 0) := by
    rw [← hc2]
    unfold World.cell?
    rw [heap_set_other _ _ _ _ (show ¬ w.heap.size = w.heap.size + 1 by omega)]
  simp [Leaves, settle, results, Try.results48, go_sem, hce]
  exact readP_of w w1 pl s ⟨#[]⟩ v l hpl h1.out

theorem not_empty6 (s : ByteArray) (h : ¬ s.size = 0) : s.toList.isEmpty = false := nonempty_of_size (by omega)
/-- Read has told an error. -/
def ReadE (w : World) (pl : Nat) (e : Ending) (w' : World) : Prop := ∃ (ec : Int) (l : List Ch), ¬ ec = 0 ∧ ReadP w pl ec l e w'
theorem readE_of (w w1 : World) (pl : Nat) (s u : ByteArray) (v : Value) (l : List Ch) (c : Int) (j : Junk) (hc : ¬ c = 0) (hpl : pl < w.heap.size) (h : St (W3 w s) (w.heap.size + 1 + 1 + 1) pl (w.heap.size + 1) v l u w1) : ReadE w pl (.returned (.int .i64 c)) (wext ((w1.setCell ⟨w.heap.size + 1, 1, none⟩ (.bool false)).setCell ⟨w.heap.size, 0, none⟩ (.int .i64 c)) j) := by
  have hs := h.size
  have hz : ((w1.setCell ⟨w.heap.size + 1, 1, none⟩ (.bool false)).setCell ⟨w.heap.size, 0, none⟩ (.int .i64 c)).heap.size = w1.heap.size := by simp [World.setCell]
  have hx : ∀ k, k < w1.heap.size → ¬ k = w.heap.size + 1 → ¬ k = w.heap.size → (wext ((w1.setCell ⟨w.heap.size + 1, 1, none⟩ (.bool false)).setCell ⟨w.heap.size, 0, none⟩ (.int .i64 c)) j).heap[k]? = w1.heap[k]? := fun k hk h1 h2 => by
    rw [(w_ext_below _ j).block k (by rw [hz]; exact hk), heap_set_other _ _ _ _ h2, heap_set_other _ _ _ _ h1]
  refine ⟨c, l, hc, v, w.heap.size + 1 + 1 + 1, rfl, by omega, h.os, h.tape, h.output, by rw [w_size_ext, hz]; omega, ?_, fun k hk hkp => ?_, own_same h.own fun g hg hg2 => ?_⟩
  · rw [hx pl (by omega) (by omega) (by omega)]; exact h.var
  · rw [hx k (by omega) (by omega) (by omega)]
    exact (h.rest k (by omega) hkp (by omega)).trans ((w3_below w s).block k hk)
  · rw [hx g (by omega) (by omega) (by omega)]
set_option maxHeartbeats 2000000 in
set_option maxRecDepth 100000 in
theorem read49_rest (A : Option Addr) (c pl : Nat) (bs : List Int) (w : World) (hC : ReadsB w A bs) (hv : w.heap[pl]? = some (.cells #[.slice none 0 0] 22 (0, 0))) (hs : bs.length ≤ 50000000) (l : List Ch) (u : ByteArray) (hu : ¬ u.size = 0) (hr : getG (strOfNums bs) = some (l, u)) : Calls Try.prog 48 #[.slice A bs.length c, .func (.func 49) #[] #[.pointer (some ⟨pl, 0, none⟩)]] w (ReadE w pl) := by
  have hmf : ∀ (fn : Fn) (first cap : Array Value) (w : World), (Instr.makeFunc fn first cap).run Try.prog w = .ok (.func fn first cap) w := fun _ _ _ _ => rfl
  have hcv : ∀ o, (convert 65 9 (.slice A bs.length c)).run Try.prog (w.alloc o) = .ok (.string (strOfNums bs)) (w.alloc o) := fun o => conv_read hC c _ ((Below.refl _ _).alloc (Nat.le_refl _) o)
  have hnq : ∀ W', (binOp .neq 85 (.func (.func 49) #[] #[.pointer (some ⟨pl, 0, none⟩)]) .nilFunc).run Try.prog W' = .ok (.bool true) W' := fun _ => by kernel_rfl
  have hsz : (strOfNums bs).size ≤ 50000000 := by rw [strOfNums_size]; exact hs
  have HLK := Lib.hid (fun W0 B b (W : World) (h : St W0 B pl b (.slice none 0 0) [] (strOfNums bs) W) => look49 W0 B pl b _ _ W hsz h)
  rw [hr] at HLK
  generalize strOfNums bs = s at *
  generalize bs.length = n at *
  have hpl : pl < w.heap.size := (Array.getElem?_eq_some_iff.1 hv).1
  have HV := Lib.hid hv
  clear hC hs hsz hv hr
  have hne := not_empty6 u hu
  clear hu
  go_enter_defers Try.func48, Try.ntmps48
  go_wp2_with (first | (go_at_call 49; (with_reducible refine (HLK.out _ _ _ _ (st_start w pl s HV.out)).mono ?_); intro e1 w1 hgot; obtain ⟨v, rfl, h1⟩ := gotP_some hgot; obtain ⟨hc1, hc2, hc3⟩ := st_cells w w1 pl s _ v l hpl h1; obtain ⟨_, hc4, hc5, _⟩ := h1.cell; clear hgot; replace h1 := Lib.hid h1) | (go_at_call 51; (with_reducible refine (fail_st h1.out (by decide)).mono ?_); rintro e1 wX ⟨cX, v2, l2, s2, rfl, hX, hnX⟩; replace hX := Lib.hid hX))
  obtain ⟨hd1, hd2, hd3⟩ := st_cells w wX pl s _ _ _ hpl hX.out
  refine leaves_cons (f := 58) (args := #[.pointer (some ⟨w.heap.size + 1 + 1, 0, none⟩), .pointer (some ⟨w.heap.size, 0, none⟩)]) (by simp) (by simp [go_sem]) ?_
  refine (catch_fault (w.heap.size + 1 + 1) w.heap.size (w.heap.size + 1) _ (.int .i64 0) _ hd1 hX.out.cell.2.2.1 hX.out.cell.2.2.2.2.2 hd2 hd3).mono ?_
  rintro e u' w'' ⟨rfl, rfl, j2, rfl⟩
  have hce : (wext ((wX.setCell ⟨w.heap.size + 1, 1, none⟩ (.bool false)).setCell ⟨w.heap.size, 0, none⟩ (.int .i64 cX)) j2).cell? ⟨w.heap.size, 0, none⟩ = some (.int .i64 cX) := by
    have hsz := hX.out.size
    have hb0 := hX.out.rest w.heap.size (by omega) (by omega) (by omega)
    rw [w3_err] at hb0
    rw [w_cell?_ext _ _ _ _ (by simp [leB, World.setCell]; omega)]
    simp [World.cell?, World.setCell, Array.getElem?_modify, hb0]
  simp [Leaves, settle, results, Try.results48, go_sem, hce]
  exact readE_of w wX pl s _ _ _ _ j2 hnX hpl hX.out
set_option maxHeartbeats 2000000 in
set_option maxRecDepth 100000 in
theorem read49_no (A : Option Addr) (c pl : Nat) (bs : List Int) (w : World) (hC : ReadsB w A bs) (hv : w.heap[pl]? = some (.cells #[.slice none 0 0] 22 (0, 0))) (hs : bs.length ≤ 50000000) (hr : getG (strOfNums bs) = none) : Calls Try.prog 48 #[.slice A bs.length c, .func (.func 49) #[] #[.pointer (some ⟨pl, 0, none⟩)]] w (ReadE w pl) := by
  have hmf : ∀ (fn : Fn) (first cap : Array Value) (w : World), (Instr.makeFunc fn first cap).run Try.prog w = .ok (.func fn first cap) w := fun _ _ _ _ => rfl
  have hcv : ∀ o, (convert 65 9 (.slice A bs.length c)).run Try.prog (w.alloc o) = .ok (.string (strOfNums bs)) (w.alloc o) := fun o => conv_read hC c _ ((Below.refl _ _).alloc (Nat.le_refl _) o)
  have hnq : ∀ W', (binOp .neq 85 (.func (.func 49) #[] #[.pointer (some ⟨pl, 0, none⟩)]) .nilFunc).run Try.prog W' = .ok (.bool true) W' := fun _ => by kernel_rfl
  have hsz : (strOfNums bs).size ≤ 50000000 := by rw [strOfNums_size]; exact hs
  have HLK := Lib.hid (fun W0 B b (W : World) (h : St W0 B pl b (.slice none 0 0) [] (strOfNums bs) W) => look49 W0 B pl b _ _ W hsz h)
  rw [hr] at HLK
  generalize strOfNums bs = s at *
  generalize bs.length = n at *
  have hpl : pl < w.heap.size := (Array.getElem?_eq_some_iff.1 hv).1
  have HV := Lib.hid hv
  clear hC hs hsz hv hr
  go_enter_defers Try.func48, Try.ntmps48
  go_wp2_with (go_at_call 49; (with_reducible refine (HLK.out _ _ _ _ (st_start w pl s HV.out)).mono ?_); intro e1 wX hgot; obtain ⟨cX, v2, l2, s2, rfl, hX, hnX⟩ := gotP_none hgot; clear hgot; replace hX := Lib.hid hX)
  obtain ⟨hd1, hd2, hd3⟩ := st_cells w wX pl s _ _ _ hpl hX.out
  refine leaves_cons (f := 58) (args := #[.pointer (some ⟨w.heap.size + 1 + 1, 0, none⟩), .pointer (some ⟨w.heap.size, 0, none⟩)]) (by simp) (by simp [go_sem]) ?_
  refine (catch_fault (w.heap.size + 1 + 1) w.heap.size (w.heap.size + 1) _ (.int .i64 0) _ hd1 hX.out.cell.2.2.1 hX.out.cell.2.2.2.2.2 hd2 hd3).mono ?_
  rintro e u' w'' ⟨rfl, rfl, j2, rfl⟩
  have hce : (wext ((wX.setCell ⟨w.heap.size + 1, 1, none⟩ (.bool false)).setCell ⟨w.heap.size, 0, none⟩ (.int .i64 cX)) j2).cell? ⟨w.heap.size, 0, none⟩ = some (.int .i64 cX) := by
    have hsz := hX.out.size
    have hb0 := hX.out.rest w.heap.size (by omega) (by omega) (by omega)
    rw [w3_err] at hb0
    rw [w_cell?_ext _ _ _ _ (by simp [leB, World.setCell]; omega)]
    simp [World.cell?, World.setCell, Array.getElem?_modify, hb0]
  simp [Leaves, settle, results, Try.results48, go_sem, hce]
  exact readE_of w wX pl s _ _ _ _ j2 hnX hpl hX.out
end Go.Proofs.Ytelhclamoapnhaa

set_option linter.unusedSimpArgs false
set_option linter.unusedVariables false
namespace Go.Proofs.Ytelhclamoapnhaa
open Go.RowKit Go.Proofs.YtelhclamoapnhaaW.PrintWords

theorem strOfNums_bytes (s : ByteArray) : strOfNums (bytesOf s) = s := by
  apply ByteArray.ext
  apply Array.toList_inj.1
  rw [← Lib.toList_data, Lib.strOfNums_toList]
  simp [Lib.bytesOf, bytesOf]
  exact List.map_id'' (fun b => by simp) _
/-- All changes of a text. -/
def getV (s : ByteArray) : Option (List Ch) := match getG s with
  | none => none
  | some (l, u) => if u.size = 0 then some l else none
/-- What Get tells. -/
def GetC (r : Option (List Ch)) (w : World) (e : Ending) (w' : World) : Prop := Below w.heap.size w w' ∧ ((∃ (l : List Ch) (A : Option Addr) (c : Nat), r = some l ∧ e = .returned (.tuple #[.slice A l.length c, .int .i64 0]) ∧ ChsAt w' A l ∧ l.length ≤ c ∧ c ≤ maxLen ∧ (A = none → l.length = 0)) ∨ (r = none ∧ e = .returned (.tuple #[.slice none 0 0, .int .i64 201])))
/-- The world in which Get calls Read. -/
abbrev W37 (w : World) (R : Array Value) (lo hi : Nat) : World := ((w.alloc (.cells #[.slice none 0 0] 22)).alloc (.cells R 5 (lo, hi))).drew
theorem w37_heap (w : World) (R : Array Value) (lo hi : Nat) : (W37 w R lo hi).heap = (w.heap.push (.cells #[.slice none 0 0] 22 (0, 0))).push (.cells R 5 (lo, hi)) := rfl
theorem w37_var (w : World) (R : Array Value) (lo hi : Nat) : (W37 w R lo hi).heap[w.heap.size]? = some (.cells #[.slice none 0 0] 22 (0, 0)) := by
  rw [w37_heap, Array.getElem?_push, if_neg (by simp), Array.getElem?_push, if_pos rfl]
theorem w37_row (w : World) (R : Array Value) (lo hi : Nat) : (W37 w R lo hi).heap[w.heap.size + 1]? = some (.cells R 5 (lo, hi)) := by
  rw [w37_heap, Array.getElem?_push, if_pos (by simp)]
theorem w37_below (w : World) (R : Array Value) (lo hi : Nat) : Below w.heap.size w (W37 w R lo hi) := by
  refine Below.drew ?_
  refine Below.alloc ?_ (by simp) _
  exact Below.alloc (Below.refl _ _) (Nat.le_refl _) _
theorem w37_size (w : World) (R : Array Value) (lo hi : Nat) : (W37 w R lo hi).heap.size = w.heap.size + 2 := by rw [w37_heap]; simp
/-- A row that holds a text's bytes. -/
def RowOf (s : ByteArray) (R : Array Value) : Prop := ∀ j (hj : j < s.size), R[j]? = some (.int .u8 (s.data[j].toNat : Int))
theorem w37_reads (w : World) (s : ByteArray) (R : Array Value) (lo hi : Nat) (hs : s.size ≤ 50000000) (hR : RowOf s R) : ReadsB (W37 w R lo hi) (some ⟨w.heap.size + 1, 0, none⟩) (bytesOf s) := by
  refine Kd.C_of_reads (d := (0 : Int)) ⟨rfl, by rw [bytesOf_length]; omega, fun h0 => ⟨_, rfl, fun j hj => ?_⟩⟩
  rw [bytesOf_length] at hj
  have hc : ∀ k, (W37 w R lo hi).cell? ⟨w.heap.size + 1, k, none⟩ = R[k]? := fun k => by
    unfold World.cell?
    simp only [w37_row]
    rfl
  have ha : (⟨w.heap.size + 1, 0, none⟩ : Addr).add j = ⟨w.heap.size + 1, j, none⟩ := by unfold Addr.add; split <;> simp_all
  rw [ha, hc, hR j hj]
  simp [bytesOf, List.getD_eq_getElem?_getD, List.getElem?_eq_getElem hj, show j < s.data.size from hj]
/-- What Read left, as seen from ahead of Get's own blocks. -/
theorem readP_get {w w' : World} {R : Array Value} {lo hi : Nat} {ec : Int} {l : List Ch} {e : Ending} (h : ReadP (W37 w R lo hi) w.heap.size ec l e w') : ∃ (A : Option Addr) (c : Nat), e = .returned (.int .i64 ec) ∧ w'.cell? ⟨w.heap.size, 0, none⟩ = some (.slice A l.length c) ∧ Below w.heap.size w w' ∧ ChsAt w' A l ∧ l.length ≤ c ∧ c ≤ maxLen ∧ (A = none → l.length = 0) := by
  obtain ⟨v, B, rfl, hB, h1, h2, h3, h4, h5, h6, h7⟩ := h
  obtain ⟨A, c, rfl, hA, hlc, hcm, hz⟩ := chs_of_own h7
  have hb := w37_below w R lo hi
  have hsz := w37_size w R lo hi
  refine ⟨A, c, rfl, by simp [World.cell?, h5], ⟨h1.trans hb.os, h2.trans hb.tape, h3.trans hb.output, by omega, fun k hk => ?_⟩, hA, hlc, hcm, hz⟩
  rw [h6 k (by omega) (by omega)]
  exact hb.block k hk
set_option maxHeartbeats 8000000 in
set_option maxRecDepth 100000 in
theorem get_ok (s : ByteArray) (w : World) (hs : s.size ≤ 50000000) (l : List Ch) (hr : getG s = some (l, ⟨#[]⟩)) : Calls Try.prog 37 #[.string s] w (GetC (some l) w) := by
  have hmf : ∀ (fn : Fn) (first cap : Array Value) (w : World), (Instr.makeFunc fn first cap).run Try.prog w = .ok (.func fn first cap) w := fun _ _ _ _ => rfl
  have HRD := Lib.hid (fun R lo hi (hR : RowOf s R) => w37_reads w s R lo hi hs hR)
  have H48 := Lib.hid (fun (c : Nat) R lo hi (hR : RowOf s R) => show Calls Try.prog 48 #[.slice (some ⟨w.heap.size + 1, 0, none⟩) s.size c, .func (.func 49) #[] #[.pointer (some ⟨w.heap.size, 0, none⟩)]] (W37 w R lo hi) (ReadP (W37 w R lo hi) w.heap.size 0 l) from by
    have h := read49_ok (some ⟨w.heap.size + 1, 0, none⟩) c w.heap.size (bytesOf s) (W37 w R lo hi) (HRD.out R lo hi hR) (w37_var w R lo hi) (by rw [bytesOf_length]; exact hs) l (by rw [strOfNums_bytes]; exact hr)
    rwa [bytesOf_length] at h)
  clear hr
  clear hs
  go_enter Try.func37, Try.ntmps37
  go_wp2_with (first | (refine wpList_sbytes rfl 9 65 5 _ rfl Try.underlying9 Try.underlying65 Try.underlying5 _ rfl ?_; intro c R lo hi hRs hlo hR; have HR : Hid (RowOf s R) := Lib.hid hR; clear hR) | (go_at_call 48; (with_reducible refine (H48.out c R lo hi HR.out).mono ?_); intro e1 w1 hp; obtain ⟨A, d, rfl, hv, hb, hA, hlc, hcm, hz⟩ := readP_get hp; have HB := Lib.hid hb; have HA := Lib.hid hA; have HZ := Lib.hid hz; clear hp hb hA hz))
  go_ret2
  exact ⟨HB.out, Or.inl ⟨l, A, d, rfl, rfl, HA.out, hlc, hcm, HZ.out⟩⟩
set_option maxHeartbeats 8000000 in
set_option maxRecDepth 100000 in
theorem get_rest (s : ByteArray) (w : World) (hs : s.size ≤ 50000000) (l : List Ch) (u : ByteArray) (hu : ¬ u.size = 0) (hr : getG s = some (l, u)) : Calls Try.prog 37 #[.string s] w (GetC none w) := by
  have hmf : ∀ (fn : Fn) (first cap : Array Value) (w : World), (Instr.makeFunc fn first cap).run Try.prog w = .ok (.func fn first cap) w := fun _ _ _ _ => rfl
  have HRD := Lib.hid (fun R lo hi (hR : RowOf s R) => w37_reads w s R lo hi hs hR)
  have H48 := Lib.hid (fun (c : Nat) R lo hi (hR : RowOf s R) => show Calls Try.prog 48 #[.slice (some ⟨w.heap.size + 1, 0, none⟩) s.size c, .func (.func 49) #[] #[.pointer (some ⟨w.heap.size, 0, none⟩)]] (W37 w R lo hi) (ReadE (W37 w R lo hi) w.heap.size) from by
    have h := read49_rest (some ⟨w.heap.size + 1, 0, none⟩) c w.heap.size (bytesOf s) (W37 w R lo hi) (HRD.out R lo hi hR) (w37_var w R lo hi) (by rw [bytesOf_length]; exact hs) l u hu (by rw [strOfNums_bytes]; exact hr)
    rwa [bytesOf_length] at h)
  clear hr
  clear hs
  go_enter Try.func37, Try.ntmps37
  go_wp2_with (first | (refine wpList_sbytes rfl 9 65 5 _ rfl Try.underlying9 Try.underlying65 Try.underlying5 _ rfl ?_; intro c R lo hi hRs hlo hR; have HR : Hid (RowOf s R) := Lib.hid hR; clear hR) | (go_at_call 48; (with_reducible refine (H48.out c R lo hi HR.out).mono ?_); intro e1 w1 hp; obtain ⟨ec, l, hec, hp⟩ := hp; obtain ⟨A, d, rfl, hv, hb, hA, hlc, hcm, hz⟩ := readP_get hp; have HB := Lib.hid hb; clear hp hb hA hz; have hne : (ec != 0) = true := (by simpa using hec)))
  go_ret2
  exact ⟨HB.out, Or.inr ⟨rfl, rfl⟩⟩
set_option maxHeartbeats 8000000 in
set_option maxRecDepth 100000 in
theorem get_no (s : ByteArray) (w : World) (hs : s.size ≤ 50000000) (hr : getG s = none) : Calls Try.prog 37 #[.string s] w (GetC none w) := by
  have hmf : ∀ (fn : Fn) (first cap : Array Value) (w : World), (Instr.makeFunc fn first cap).run Try.prog w = .ok (.func fn first cap) w := fun _ _ _ _ => rfl
  have HRD := Lib.hid (fun R lo hi (hR : RowOf s R) => w37_reads w s R lo hi hs hR)
  have H48 := Lib.hid (fun (c : Nat) R lo hi (hR : RowOf s R) => show Calls Try.prog 48 #[.slice (some ⟨w.heap.size + 1, 0, none⟩) s.size c, .func (.func 49) #[] #[.pointer (some ⟨w.heap.size, 0, none⟩)]] (W37 w R lo hi) (ReadE (W37 w R lo hi) w.heap.size) from by
    have h := read49_no (some ⟨w.heap.size + 1, 0, none⟩) c w.heap.size (bytesOf s) (W37 w R lo hi) (HRD.out R lo hi hR) (w37_var w R lo hi) (by rw [bytesOf_length]; exact hs) (by rw [strOfNums_bytes]; exact hr)
    rwa [bytesOf_length] at h)
  clear hr
  clear hs
  go_enter Try.func37, Try.ntmps37
  go_wp2_with (first | (refine wpList_sbytes rfl 9 65 5 _ rfl Try.underlying9 Try.underlying65 Try.underlying5 _ rfl ?_; intro c R lo hi hRs hlo hR; have HR : Hid (RowOf s R) := Lib.hid hR; clear hR) | (go_at_call 48; (with_reducible refine (H48.out c R lo hi HR.out).mono ?_); intro e1 w1 hp; obtain ⟨ec, l, hec, hp⟩ := hp; obtain ⟨A, d, rfl, hv, hb, hA, hlc, hcm, hz⟩ := readP_get hp; have HB := Lib.hid hb; clear hp hb hA hz; have hne : (ec != 0) = true := (by simpa using hec)))
  go_ret2
  exact ⟨HB.out, Or.inr ⟨rfl, rfl⟩⟩
theorem get_any (s : ByteArray) (w : World) (hs : s.size ≤ 50000000) : Calls Try.prog 37 #[.string s] w (GetC (getV s) w) := by
  cases hr : getG s with
  | none =>
    have e : getV s = none := by unfold getV; rw [hr]
    rw [e]; exact get_no s w hs hr
  | some q =>
    obtain ⟨l, u⟩ := q
    by_cases hu : u.size = 0
    · have e : getV s = some l := by unfold getV; rw [hr]; simp only [hu, if_true]
      obtain rfl := empty_of_size hu
      rw [e]; exact get_ok s w hs l hr
    · have e : getV s = none := by unfold getV; rw [hr]; simp only [hu, if_false]
      rw [e]; exact get_rest s w hs l u hu hr
end Go.Proofs.Ytelhclamoapnhaa

set_option linter.unusedSimpArgs false
set_option linter.unusedVariables false
namespace Go.Proofs.Ytelhclamoapnhaa
open Go.RowKit

theorem StageAt.later {W W' : World} {sb mb : Nat} {L : List ByteArray} (h : StageAt W sb mb L) (hb : Below W.heap.size W W') : StageAt W' sb mb L := by
  refine ⟨?_, ?_, h.map.later hb, h.some⟩
  · rw [hb.cell (p := ⟨sb, 0, none⟩) (World.block_lt_of_cell? W _ h.total)]; exact h.total
  · rw [hb.cell (p := ⟨sb, 1, none⟩) (World.block_lt_of_cell? W _ h.parts)]; exact h.parts
/-- All parts, one behind the other. -/
def joinL (L : List ByteArray) : List UInt8 := L.flatMap fun q => q.data.toList
def joinB (L : List ByteArray) : ByteArray := ⟨(joinL L).toArray⟩
theorem joinL_take (L : List ByteArray) (i : Nat) (h : i < L.length) : joinL (L.take (i + 1)) = joinL (L.take i) ++ (L.getD i ByteArray.empty).data.toList := by
  unfold joinL
  rw [List.take_succ_eq_append_getElem h, List.flatMap_append, List.getD_eq_getElem?_getD, List.getElem?_eq_getElem h]
  simp
theorem joinL_len (L : List ByteArray) (hq : ∀ q ∈ L, q.size ≤ 512) : ∀ i, (joinL (L.take i)).length ≤ i * 512
  | 0 => by simp [joinL]
  | i + 1 => by
    have ih := joinL_len L hq i
    by_cases h : i < L.length
    · rw [joinL_take L i h, List.length_append]
      have h1 := hq _ (getD_mem L i h)
      have h2 : (L.getD i ByteArray.empty).data.toList.length = (L.getD i ByteArray.empty).size := by rw [Array.length_toList]; rfl
      omega
    · have e : L.take (i + 1) = L.take i := by rw [List.take_of_length_le (show L.length ≤ i + 1 by omega), List.take_of_length_le (show L.length ≤ i by omega)]
      rw [e]
      exact Nat.le_trans ih (Nat.mul_le_mul_right 512 (Nat.le_succ i))
/-- What a text tells: the error, the changes. -/
def getR (s : ByteArray) : Int × List Ch := match getV s with
  | some l => (0, l)
  | none => (201, [])
theorem getR_some {s : ByteArray} {l : List Ch} (h : getV s = some l) : getR s = (0, l) := by unfold getR; rw [h]
theorem getR_none {s : ByteArray} (h : getV s = none) : getR s = (201, []) := by unfold getR; rw [h]
/-- What a stage's parts tell: the error, the changes. -/
def chgR (L : List ByteArray) : Int × List Ch := if missP L < L.length then (61, []) else getR (joinB L)
/-- A call that tells changes and an error. -/
def ChgC (r : Int × List Ch) (w : World) (e : Ending) (w' : World) : Prop := ∃ (A : Option Addr) (c : Nat), e = .returned (.tuple #[.slice A r.2.length c, .int .i64 r.1]) ∧ Hid (Below w.heap.size w w') ∧ Hid (ChsAt w' A r.2) ∧ Hid (r.2.length ≤ c) ∧ Hid (c ≤ maxLen)
theorem ChgC.none {w w' : World} {c : Int} {e : Ending} (he : e = .returned (.tuple #[.slice none 0 0, .int .i64 c])) (hb : Below w.heap.size w w') : ChgC (c, []) w e w' := ⟨Option.none, 0, he, Lib.hid hb, Lib.hid fun i hi => by simp at hi, Lib.hid (Nat.le_refl _), Lib.hid (Nat.zero_le _)⟩
theorem GetC.chg {s : ByteArray} {w w0 : World} {e : Ending} {w' : World} (h : GetC (getV s) w e w') (hb : Below w0.heap.size w0 w) : ChgC (getR s) w0 e w' := by
  obtain ⟨h1, ⟨l, A, c, hr, he, hA, hlc, hcm, _⟩ | ⟨hr, he⟩⟩ := h
  · rw [getR_some hr]; exact ⟨A, c, he, Lib.hid (below_tr hb h1), Lib.hid hA, Lib.hid hlc, Lib.hid hcm⟩
  · rw [getR_none hr]; exact ChgC.none he (below_tr hb h1)
set_option maxHeartbeats 8000000 in
set_option maxRecDepth 100000 in
theorem changes_part (sb mb : Nat) (L : List ByteArray) (w : World) (h : StageAt w sb mb L) (hm : missP L < L.length) : Calls Try.prog 20 #[.pointer (some ⟨sb, 0, none⟩)] w (ChgC (61, []) w) := by
  have HST := Lib.hid h
  obtain ⟨hs0, hs1, hM, hn1⟩ := h
  have h4 : L.length ≤ 4096 := hM.choose_spec.2.1
  have hq5 : ∀ q ∈ L, q.size ≤ 512 := hM.choose_spec.2.2.1
  have HS0 := Lib.hid hs0
  have HM := Lib.hid hM
  obtain ⟨n, hn⟩ : ∃ n, L.length = n := ⟨_, rfl⟩
  have HN := Lib.hid hn
  rw [hn] at hs0 HS0 hn1 h4
  have hn0 : ¬ (n : Int) = 0 := by omega
  clear hM
  have hlt := leB_of_cell hs0
  have HMS := Lib.hid (fun W (h : StageAt W sb mb L) => missing_live sb mb L W h)
  have hml : missP L ≤ n := by rw [← hn]; exact missP_le L
  rw [hn] at hm
  clear hn hml
  generalize missP L = m at *
  have hmn : (m : Int) < (n : Int) := by omega
  clear hm
  go_enter Try.func20, Try.ntmps20
  go_wp2_with (go_at_call 35; (with_reducible refine (dead_live sb _ _ HS0.out hn0).mono ?_); rintro e1 w1 ⟨rfl, hw⟩; replace hw := hw.symm; subst hw)
  refine wp_region_mix [(0, true), (2, true), (3, true), (4, true), (5, true), (1, false), (6, true)] (by kernel_rfl) (by kernel_rfl) rfl (by kernel_rfl) (by intro _ _ d _ _ h; cases d <;> exact h) ?_; intro j1; (repeat (first | (refine wpMix_skipK rfl rfl ?_; simp only [Act.put, List.setIfInBounds_toArray, List.set_cons_zero, List.set_cons_succ]) | (refine wpMix_light rfl rfl ?_; intro K hK; go_simp; refine hK _ ?_; clear hK K) | (refine wpMix_heavy rfl rfl ?_; intro K hK; go_wp2_with ((go_at_call 22; (with_reducible refine (HMS.out _ ?_).mono ?_); (· exact HST.out.later (by (repeat' (first | (with_reducible exact Below.refl _ _) | (with_reducible assumption) | (with_reducible exact below_app _ _ _ _) | (with_reducible refine below_pre ?_; (simp only [List.append_assoc, List.prefix_append, List.prefix_refl, List.prefix_append_right_inj])) | (with_reducible refine Below.alloc ?_ ?_ _) | (with_reducible refine below_ext ?_ ?_ _) | (with_reducible refine Below.drew ?_) | (with_reducible refine below_drewN ?_ _) | (with_reducible refine Below.setCell ?_ ?_ _) | go_size | (simp only [w_size_ext, List.length_append, World.alloc_size]; omega) | (simp; done) | (simp; omega))))); rintro e1 w1 ⟨rfl, rfl⟩)); refine ⟨w_ext_of_below (by (repeat' (first | (with_reducible exact Below.refl _ _) | (with_reducible assumption) | (with_reducible exact below_app _ _ _ _) | (with_reducible refine below_pre ?_; (simp only [List.append_assoc, List.prefix_append, List.prefix_refl, List.prefix_append_right_inj])) | (with_reducible refine Below.alloc ?_ ?_ _) | (with_reducible refine below_ext ?_ ?_ _) | (with_reducible refine Below.drew ?_) | (with_reducible refine below_drewN ?_ _) | (with_reducible refine Below.setCell ?_ ?_ _) | go_size | (simp only [w_size_ext, List.length_append, World.alloc_size]; omega) | (simp; done) | (simp; omega)))), ?_⟩))); refine wpMix_nil ?_
  go_wp2
  go_ret2
  exact ChgC.none rfl (by (repeat' (first | (with_reducible exact Below.refl _ _) | (with_reducible assumption) | (with_reducible exact below_app _ _ _ _) | (with_reducible refine below_pre ?_; (simp only [List.append_assoc, List.prefix_append, List.prefix_refl, List.prefix_append_right_inj])) | (with_reducible refine Below.alloc ?_ ?_ _) | (with_reducible refine below_ext ?_ ?_ _) | (with_reducible refine Below.drew ?_) | (with_reducible refine below_drewN ?_ _) | (with_reducible refine Below.setCell ?_ ?_ _) | go_size | (simp only [w_size_ext, List.length_append, World.alloc_size]; omega) | (simp; done) | (simp; omega))))
set_option maxHeartbeats 8000000 in
set_option maxRecDepth 100000 in
theorem changes_all (sb mb : Nat) (L : List ByteArray) (w : World) (h : StageAt w sb mb L) (hm : ¬ missP L < L.length) : Calls Try.prog 20 #[.pointer (some ⟨sb, 0, none⟩)] w (ChgC (getR (joinB L)) w) := by
  have HST := Lib.hid h
  obtain ⟨hs0, hs1, hM, hn1⟩ := h
  have h4 : L.length ≤ 4096 := hM.choose_spec.2.1
  have hq5 : ∀ q ∈ L, q.size ≤ 512 := hM.choose_spec.2.2.1
  have HS0 := Lib.hid hs0
  have HM := Lib.hid hM
  obtain ⟨n, hn⟩ : ∃ n, L.length = n := ⟨_, rfl⟩
  have HN := Lib.hid hn
  rw [hn] at hs0 HS0 hn1 h4
  have hn0 : ¬ (n : Int) = 0 := by omega
  clear hM
  have hlt := leB_of_cell hs0
  have HMS := Lib.hid (fun W (h : StageAt W sb mb L) => missing_live sb mb L W h)
  have hml : missP L ≤ n := by rw [← hn]; exact missP_le L
  rw [hn] at hm
  have hmn : missP L = n := by omega
  rw [hmn] at HMS
  have HGET : Hid (∀ W, Calls Try.prog 37 #[.string ⟨(joinL L).toArray⟩] W (GetC (getV (joinB L)) W)) := Lib.hid (fun W => get_any (joinB L) W (by
    have h1 := joinL_len L hq5 L.length
    rw [List.take_length] at h1
    have h2 : (joinB L).size = (joinL L).length := by unfold joinB; simp [ByteArray.size]
    omega))
  have HJL := Lib.hid (joinL_len L hq5)
  have HQ5 := Lib.hid hq5
  have hs1' := hs1
  clear hn hml hm hmn hq5
  have hnn : ¬ (n : Int) < (n : Int) := by omega
  go_enter Try.func20, Try.ntmps20
  go_wp2_with (go_at_call 35; (with_reducible refine (dead_live sb _ _ HS0.out hn0).mono ?_); rintro e1 w1 ⟨rfl, hw⟩; replace hw := hw.symm; subst hw)
  refine wp_region_mix [(0, true), (2, true), (3, true), (4, true), (5, true), (1, false), (6, true)] (by kernel_rfl) (by kernel_rfl) rfl (by kernel_rfl) (by intro _ _ d _ _ h; cases d <;> exact h) ?_; intro j1; (repeat (first | (refine wpMix_skipK rfl rfl ?_; simp only [Act.put, List.setIfInBounds_toArray, List.set_cons_zero, List.set_cons_succ]) | (refine wpMix_light rfl rfl ?_; intro K hK; go_simp; refine hK _ ?_; clear hK K) | (refine wpMix_heavy rfl rfl ?_; intro K hK; go_wp2_with ((go_at_call 22; (with_reducible refine (HMS.out _ ?_).mono ?_); (· exact HST.out.later (by (repeat' (first | (with_reducible exact Below.refl _ _) | (with_reducible assumption) | (with_reducible exact below_app _ _ _ _) | (with_reducible refine below_pre ?_; (simp only [List.append_assoc, List.prefix_append, List.prefix_refl, List.prefix_append_right_inj])) | (with_reducible refine Below.alloc ?_ ?_ _) | (with_reducible refine below_ext ?_ ?_ _) | (with_reducible refine Below.drew ?_) | (with_reducible refine below_drewN ?_ _) | (with_reducible refine Below.setCell ?_ ?_ _) | go_size | (simp only [w_size_ext, List.length_append, World.alloc_size]; omega) | (simp; done) | (simp; omega))))); rintro e1 w1 ⟨rfl, rfl⟩)); refine ⟨w_ext_of_below (by (repeat' (first | (with_reducible exact Below.refl _ _) | (with_reducible assumption) | (with_reducible exact below_app _ _ _ _) | (with_reducible refine below_pre ?_; (simp only [List.append_assoc, List.prefix_append, List.prefix_refl, List.prefix_append_right_inj])) | (with_reducible refine Below.alloc ?_ ?_ _) | (with_reducible refine below_ext ?_ ?_ _) | (with_reducible refine Below.drew ?_) | (with_reducible refine below_drewN ?_ _) | (with_reducible refine Below.setCell ?_ ?_ _) | go_size | (simp only [w_size_ext, List.length_append, World.alloc_size]; omega) | (simp; done) | (simp; omega)))), ?_⟩))); refine wpMix_nil ?_
  have hb1 := w_ext_below w j1
  have HST1 := Lib.hid (HST.out.later hb1)
  have HB1 := Lib.hid hb1
  have hs1 := HST1.out.parts
  have hs0 := HST1.out.total
  rw [HN.out] at hs0
  have hlt1 := leB_of_cell hs1
  have HM1 := Lib.hid HST1.out.map
  clear HST HM HMS HS0 hb1 hlt hs1'
  generalize wext w j1 = w2 at *
  go_wp2
  go_loopw [5, 19] (fun v5 v19 wr => ∃ (i : Nat), i ≤ n ∧ v19 = .int .i64 (i : Int) ∧ Hid (Lib.IsBuilder 67 5 w2.heap.size w2.heap.size (Lib.byteCells (joinL (L.take i))) wr) ∧ Hid (Below w2.heap.size w2 wr)) (fun _ i _ => ((n : Int) - intOf i).toNat)
  case atStart => exact ⟨0, Nat.zero_le _, rfl, Lib.hid (Lib.fresh_isBuilder 67 5 w2), Lib.hid (Below.alloc (Below.refl _ _) (Nat.le_refl _) _)⟩
  case round =>
    obtain ⟨i, hi, rfl, HBU, HBW⟩ := hrel
    by_cases hin : i = n
    · subst hin
      have HBU2 : Hid (Lib.IsBuilder 67 5 w2.heap.size w2.heap.size (Lib.byteCells (joinL L)) wr) := Lib.hid (by
        have h := HBU.out
        rwa [← HN.out, List.take_length] at h)
      clear HBU
      go_wp2_with (first | (go_at_call 38; (with_reducible refine (Try.Builder_String_any _ _ (joinL L) _ HBU2.out HBW.out.size).mono ?_); rintro e1 w3 ⟨rfl, hb3⟩; have HB3 := Lib.hid (HBW.out.trans hb3); clear hb3) | (go_at_call 37; (with_reducible refine (HGET.out _).mono ?_); intro e1 w4 hg; obtain ⟨A, c, rfl, HB4, HA4, HC4, HD4⟩ := hg.chg (below_tr HB1.out HB3.out); clear hg))
      go_ret2
      exact ⟨A, c, rfl, HB4, HA4, HC4, HD4⟩
    · have hlt : (i : Int) < (n : Int) := by omega
      have hge : (0 : Int) ≤ (i : Int) := by omega
      have hwr : wrap64 ((i : Int) + 1) = ((i + 1 : Nat) : Int) := by rw [wrap64_eq]; omega
      have hlk := map_read (HM1.out.later HBW.out) i (by rw [HN.out]; omega)
      have hst := HST1.out.later HBW.out
      have hr0 := hst.total
      have hr1 := hst.parts
      have HLB := Lib.hid (HBW.out.size)
      have HTK := Lib.hid (joinL_take L i (by rw [HN.out]; omega))
      have HLEN := Lib.hid (show (Lib.byteCells (joinL (L.take i))).length + (L.getD i ByteArray.empty).size ≤ 140737488355328 by
        have h1 := HJL.out i
        have h2 := HQ5.out _ (getD_mem L i (by rw [HN.out]; omega))
        rw [Lib.byteCells_length]
        omega)
      clear hst
      generalize L.getD i ByteArray.empty = q at *
      go_wp2_with (go_at_call 36; (with_reducible refine (write_any w2.heap.size w2.heap.size (Lib.byteCells (joinL (L.take i))) q _ HBU.out HLEN.out HLB.out).mono ?_); rintro e1 w3 ⟨rfl, hbu, hbw⟩; have HBU3 := Lib.hid hbu; have HBW3 := Lib.hid (HBW.out.trans hbw); clear hbu hbw)
      go_roundw
      case rel => exact ⟨i + 1, by omega, by first | rfl | rw [hwr], Lib.hid (Or.inr (by rw [HTK.out, Lib.byteCells_append]; exact HBU3.out)), HBW3⟩
      case measure => first | (simp [intOf]; omega) | (rw [intOf_lit, intOf_lit, hwr]; omega)
theorem changes_live (sb mb : Nat) (L : List ByteArray) (w : World) (h : StageAt w sb mb L) : Calls Try.prog 20 #[.pointer (some ⟨sb, 0, none⟩)] w (ChgC (chgR L) w) := by
  by_cases hm : missP L < L.length
  · have e : chgR L = (61, []) := by unfold chgR; rw [if_pos hm]
    rw [e]; exact changes_part sb mb L w h hm
  · have e : chgR L = getR (joinB L) := by unfold chgR; rw [if_neg hm]
    rw [e]; exact changes_all sb mb L w h hm
end Go.Proofs.Ytelhclamoapnhaa

set_option linter.unusedSimpArgs false
set_option linter.unusedVariables false
namespace Go.Proofs.Ytelhclamoapnhaa
open Go.RowKit Go.Proofs.YtelhclamoapnhaaW.PrintWords

theorem below_turned {w w' : World} {mb B : Nat} (h : w.mapTurned w' mb) (hB : B ≤ mb) : Below B w w' := by
  obtain ⟨es, k, es', k', hb, rfl⟩ := h
  refine ⟨rfl, rfl, rfl, by simp [Go.ChangeMaps.setBlock], fun i hi => ?_⟩
  rw [Go.ChangeMaps.heap_setBlock_other hb _ (by omega)]
/-- A new stage. -/
def NewP (n : Nat) (w : World) (e : Ending) (w' : World) : Prop := e = .returned (.tuple #[.pointer (some ⟨w.heap.size + 1, 0, none⟩), .int .i64 0]) ∧ Hid (StageAt w' (w.heap.size + 1) w.heap.size (List.replicate n ⟨#[]⟩)) ∧ Hid (Below w.heap.size w w')
theorem new_stage (n : Nat) (h1 : 1 ≤ n) (h2 : n ≤ 4096) (w : World) : Calls Try.prog 18 #[.int .i64 (n : Int)] w (NewP n w) := by
  refine (new_yes (n : Int) w (by omega) (by omega)).mono ?_
  rintro e w' ⟨rfl, rfl⟩
  refine ⟨rfl, Lib.hid ⟨?_, ?_, ?_, ?_⟩, Lib.hid ?_⟩
  · rw [List.length_replicate]; simp [go_sem]
  · simp [go_sem]
  · exact (map_new w n h2).later (Below.alloc (Below.refl _ _) (Nat.le_refl _) _)
  · rw [List.length_replicate]; exact h1
  · exact Below.alloc (Below.alloc (Below.refl _ _) (Nat.le_refl _) _) (by simp) _
theorem chs_one (W : World) (c : Ch) : ChsAt (W.alloc (.cells #[.string c.key, .string c.val, .bool c.gone] 43)) (some ⟨W.heap.size, 0, none⟩) [c] := fun i hi => by
  obtain rfl : i = 0 := by simpa using hi
  refine ⟨W.heap.size, 0, rfl, ?_, ?_, ?_⟩ <;> simp [go_sem]
/-- The example's change, and its part. -/
def c0 : Ch := ⟨⟨#[97]⟩, ⟨#[49]⟩, false⟩
def q0 : ByteArray := ⟨#[0, 0, 0, 1, 0, 0, 1, 97, 0, 1, 49]⟩
theorem cut_c0 : cutP (strOfNums (putAll [c0])) = [q0] := by
  have h : strOfNums (putAll [c0]) = q0 := by kernel_rfl
  rw [h, cutP_small (by decide)]
/-- One text, in a slice. -/
def OneS (q : ByteArray) (w : World) (e : Ending) (w' : World) : Prop := ∃ (b o c : Nat), e = .returned (.slice (some ⟨b, o, none⟩) 1 c) ∧ w'.cell? ⟨b, o, none⟩ = some (.string q) ∧ Hid (Below w.heap.size w w')
theorem cut_awake (W : World) : Calls Try.prog 11 #[.slice (some ⟨W.heap.size, 0, none⟩) 1 1] (W.alloc (.cells #[.string ⟨#[97]⟩, .string ⟨#[49]⟩, .bool false] 43)) (OneS q0 (W.alloc (.cells #[.string ⟨#[97]⟩, .string ⟨#[49]⟩, .bool false] 43))) := by
  refine (cut_any (some ⟨W.heap.size, 0, none⟩) 1 [c0] _ (chs_one W c0) (by decide) (by decide)).mono ?_
  rw [cut_c0]
  rintro e w' ⟨A, c, rfl, hb, hs, _, _⟩
  obtain ⟨b, o, rfl, h⟩ := hs.out 0 (by decide)
  exact ⟨b, o, c, rfl, h, hb⟩
theorem add_c0 : addR [⟨#[]⟩] 0 q0 = ([q0], true, 0) := by decide +kernel
theorem chg_c0 : chgR [q0] = (0, [c0]) := by kernel_rfl
theorem win_0 : winR 0 9 = [0, 1, 2, 3] := by decide +kernel
theorem win_5 : winR 5 9 = [5, 6, 7] := by decide +kernel
/-- One change and no error. -/
def OneC (w : World) (e : Ending) (w' : World) : Prop := ∃ (A : Option Addr) (c : Nat), e = .returned (.tuple #[.slice A 1 c, .int .i64 0]) ∧ Hid (Below w.heap.size w w')
theorem chg_awake (sb mb : Nat) (w : World) (h : StageAt w sb mb [q0]) : Calls Try.prog 20 #[.pointer (some ⟨sb, 0, none⟩)] w (OneC w) := by
  refine (changes_live sb mb [q0] w h).mono ?_
  rw [chg_c0]
  rintro e w' ⟨A, c, rfl, hb, _⟩
  exact ⟨A, c, rfl, hb⟩
theorem miss_awake (sb mb : Nat) (w : World) (h : StageAt w sb mb [⟨#[]⟩]) : Calls Try.prog 22 #[.pointer (some ⟨sb, 0, none⟩)] w (Tells (.int .i64 0) w) := missing_live sb mb [⟨#[]⟩] w h
/-- What the example adds. -/
def AddW (sb mb : Nat) (w : World) (e : Ending) (w' : World) : Prop := e = .returned (.tuple #[.bool true, .int .i64 0]) ∧ Hid (StageAt w' sb mb [q0]) ∧ Hid (w.mapTurned w' mb)
theorem add_awake (sb mb : Nat) (w : World) (h : StageAt w sb mb [⟨#[]⟩]) : Calls Try.prog 19 #[.pointer (some ⟨sb, 0, none⟩), .int .i64 0, .string q0] w (AddW sb mb w) := by
  refine (add_live sb mb [⟨#[]⟩] 0 q0 w h).mono ?_
  rw [add_c0]
  rintro e w' ⟨rfl, h1, h2⟩
  exact ⟨rfl, Lib.hid h1, Lib.hid h2⟩
/-- So many numbers, in a slice. -/
def IntsC (l : List Int) (n : Nat) (w : World) (e : Ending) (w' : World) : Prop := ∃ (A : Option Addr) (c : Nat), e = .returned (.slice A n c) ∧ Hid (Below w.heap.size w w') ∧ Hid (IntsAt w' A l)
theorem win_4 (w : World) : Calls Try.prog 15 #[.int .i64 0, .int .i64 9] w (IntsC [0, 1, 2, 3] 4 w) := by
  refine (window_any 0 9 w (by decide) (by decide)).mono ?_
  rw [win_0]
  rintro e w' ⟨A, c, rfl, hb, hi, _, _⟩
  exact ⟨A, c, rfl, hb, hi⟩
theorem win_3 (w : World) : Calls Try.prog 15 #[.int .i64 5, .int .i64 9] w (IntsC [5, 6, 7] 3 w) := by
  refine (window_any 5 9 w (by decide) (by decide)).mono ?_
  rw [win_5]
  rintro e w' ⟨A, c, rfl, hb, hi, _, _⟩
  exact ⟨A, c, rfl, hb, hi⟩
theorem eq_4 (A : Option Addr) (c : Nat) (w : World) (h : IntsAt w A [0, 1, 2, 3]) : Calls Try.prog 14 #[.slice A 4 c, .slice (some ⟨w.heap.size, 0, none⟩) 4 4] (w.alloc (.cells #[.int .i64 0, .int .i64 1, .int .i64 2, .int .i64 3] 3)) (Ret (.bool true) (w.alloc (.cells #[.int .i64 0, .int .i64 1, .int .i64 2, .int .i64 3] 3))) := by
  have h2 : IntsAt (w.alloc (.cells #[.int .i64 0, .int .i64 1, .int .i64 2, .int .i64 3] 3)) (some ⟨w.heap.size, 0, none⟩) [0, 1, 2, 3] := fun i hi => by
    refine ⟨w.heap.size, 0, rfl, ?_⟩
    have : i = 0 ∨ i = 1 ∨ i = 2 ∨ i = 3 := by simp at hi; omega
    rcases this with rfl | rfl | rfl | rfl <;> simp [go_sem]
  exact eqI_any A _ c 4 [0, 1, 2, 3] [0, 1, 2, 3] _ (h.later (Below.alloc (Below.refl _ _) (Nat.le_refl _) _)) h2 (by decide) (by decide)
theorem eq_3 (A : Option Addr) (c : Nat) (w : World) (h : IntsAt w A [5, 6, 7]) : Calls Try.prog 14 #[.slice A 3 c, .slice (some ⟨w.heap.size, 0, none⟩) 3 3] (w.alloc (.cells #[.int .i64 5, .int .i64 6, .int .i64 7] 3)) (Ret (.bool true) (w.alloc (.cells #[.int .i64 5, .int .i64 6, .int .i64 7] 3))) := by
  have h2 : IntsAt (w.alloc (.cells #[.int .i64 5, .int .i64 6, .int .i64 7] 3)) (some ⟨w.heap.size, 0, none⟩) [5, 6, 7] := fun i hi => by
    refine ⟨w.heap.size, 0, rfl, ?_⟩
    have : i = 0 ∨ i = 1 ∨ i = 2 := by simp at hi; omega
    rcases this with rfl | rfl | rfl <;> simp [go_sem]
  exact eqI_any A _ c 3 [5, 6, 7] [5, 6, 7] _ (h.later (Below.alloc (Below.refl _ _) (Nat.le_refl _) _)) h2 (by decide) (by decide)
set_option maxHeartbeats 8000000 in
set_option maxRecDepth 100000 in
theorem awake_any (w : World) : Calls Try.prog 13 #[] w (Ret (.bool true) w) := by
  have HNEW : Hid (∀ w, Calls Try.prog 18 #[.int .i64 1] w (NewP 1 w)) := Lib.hid (fun w => new_stage 1 (by decide) (by decide) w)
  go_enter Try.func13, Try.ntmps13
  go_wp2_with (first | (go_at_call 18; (with_reducible refine (HNEW.out _).mono ?_); rintro e1 w1 ⟨rfl, HST, HB1⟩; have hlb1 := leB_of_cell HST.out.total) | (go_at_call 11; (with_reducible refine (cut_awake _).mono ?_); rintro e2 w2 ⟨b, o, c, rfl, hq, HB2⟩; have HBA := Lib.hid (below_tr HB1.out (below_tr (Below.alloc (Below.refl _ _) (Nat.le_refl _) _) HB2.out)); have HST2 := Lib.hid (HST.out.later (below_tr (Below.alloc (Below.refl _ _) (Nat.le_refl _) _) HB2.out)); clear HB2 HST; have hlb2 := leB_of_cell hq) | (go_at_call 22; (with_reducible refine (miss_awake _ _ _ HST2.out).mono ?_); rintro e3 w3 ⟨rfl, hw3⟩; replace hw3 := hw3.symm; subst hw3) | (go_at_call 19; (with_reducible refine (add_awake _ _ _ HST2.out).mono ?_); rintro e4 w4 ⟨rfl, HST4, HT4⟩; have HB4 := Lib.hid (HBA.out.trans (below_turned HT4.out (Nat.le_refl _)))) | (go_at_call 20; (with_reducible refine (chg_awake _ _ _ HST4.out).mono ?_); rintro e5 w5 ⟨A5, c5, rfl, HB5⟩; have HBB := Lib.hid (HB4.out.trans (HB5.out.mono HB4.out.size))) | (go_at_call 15; (with_reducible refine (win_4 _).mono ?_); rintro e6 w6 ⟨A6, c6, rfl, HB6, HI6⟩; have HBC := Lib.hid (below_tr HBB.out HB6.out)) | (go_at_call 15; (with_reducible refine (win_3 _).mono ?_); rintro e8 w8 ⟨A8, c8, rfl, HB8, HI8⟩; have HBE := Lib.hid (below_tr HBD.out HB8.out)) | (go_at_call 14; (with_reducible refine (eq_4 _ _ _ HI6.out).mono ?_); rintro e7 w7 ⟨rfl, j7, hw7⟩; have HBD := Lib.hid (show Below w.heap.size w w7 from below_tr HBC.out (by rw [hw7]; exact below_tr (Below.alloc (Below.refl _ _) (Nat.le_refl _) _) (w_ext_below _ _))); clear hw7) | (go_at_call 14; (with_reducible refine (eq_3 _ _ _ HI8.out).mono ?_); rintro e9 w9 ⟨rfl, j9, hw9⟩; have HBF := Lib.hid (show Below w.heap.size w w9 from below_tr HBE.out (by rw [hw9]; exact below_tr (Below.alloc (Below.refl _ _) (Nat.le_refl _) _) (w_ext_below _ _))); clear hw9))
  go_ret
  exact Ret.mk rfl HBF.out
end Go.Proofs.Ytelhclamoapnhaa
