/- Helper lemmas: changes in parts, by the document; how two rows of texts compare. No condition. -/
import Derived.Test.YtelhclamoapnhaaR1
set_option linter.unusedSimpArgs false
set_option linter.unusedVariables false
namespace Go.Proofs.Ytelhclamoapnhaa
open Go.RowKit Go.Proofs.YtelhclamoapnhaaW.PrintWords

theorem extract_two (s : ByteArray) (p i k : Nat) (h1 : p ≤ i) (h2 : i ≤ k) : s.extract p i ++ s.extract i k = s.extract p k := (ByteArray.extract_eq_extract_append_extract i h1 h2).symm
theorem extract_in (s : ByteArray) (p a b : Nat) (hp : p ≤ s.size) (hb : b ≤ s.size - p) : (s.extract p s.size).extract a b = s.extract (p + a) (p + b) := by
  rw [ByteArray.extract_extract]
  congr 1
  omega
theorem cutP_next (s : ByteArray) (p : Nat) (h : p + 512 < s.size) : cutP (s.extract p s.size) = s.extract p (p + 512) :: cutP (s.extract (p + 512) s.size) := by
  have hsz : (s.extract p s.size).size = s.size - p := by rw [ByteArray.size_extract]; omega
  rw [cutP_big (by rw [hsz]; omega), hsz, extract_in s p 0 512 (by omega) (by omega), extract_in s p 512 (s.size - p) (by omega) (by omega)]
  rw [show p + (s.size - p) = s.size by omega]
  rfl
theorem eqS_len (A B : Option Addr) (c d n m : Nat) (w : World) (h : ¬ (n : Int) = (m : Int)) : Calls Try.prog 10 #[.slice A n c, .slice B m d] w (Ret (.bool false) w) := by
  go_enter Try.func10, Try.ntmps10
  go_wp2
  go_ret
  exact Ret.mk rfl (Below.refl _ _)
theorem eqS_any (A B : Option Addr) (c d : Nat) (x y : List ByteArray) (w : World) (hA : StrsAt w A x) (hB : StrsAt w B y) (hx : x.length ≤ 9223372036854775807) (hy : y.length ≤ 9223372036854775807) : Calls Try.prog 10 #[.slice A x.length c, .slice B y.length d] w (Ret (.bool (decide (x = y))) w) := by
  rcases Nat.eq_zero_or_pos x.length with h0 | h0
  · obtain rfl := List.eq_nil_of_length_eq_zero h0
    refine (Try.slices_Equal_string_empty A B c y.length d w hy).mono ?_
    rintro e w' ⟨rfl, rfl⟩
    refine Ret.mk ?_ (Below.refl _ _)
    by_cases hy0 : y.length = 0
    · rw [decide_eq_true hy0, List.eq_nil_of_length_eq_zero hy0]; rfl
    · rw [decide_eq_false hy0, decide_eq_false (fun e => hy0 (by rw [← e]; rfl))]
  · obtain ⟨b, o, rfl, _⟩ := hA 0 h0
    rcases Nat.eq_zero_or_pos y.length with h1 | h1
    · obtain rfl := List.eq_nil_of_length_eq_zero h1
      rw [decide_eq_false (fun e => by rw [e] at h0; exact absurd h0 (by simp))]
      exact eqS_len _ _ _ _ _ _ w (by have : ([] : List ByteArray).length = 0 := rfl; omega)
    · obtain ⟨b2, o2, rfl, _⟩ := hB 0 h1
      refine (Try.slices_Equal_string b o x.length c b2 o2 y.length d x y w (Nat.le_refl _) (Nat.le_refl _) hx hy (fun j hj => ?_) (fun j hj => ?_)).mono ?_
      · obtain ⟨b', o', e, h⟩ := hA j hj
        injection e with e
        injection e with e1 e2
        rw [e1, e2]; exact h
      · obtain ⟨b', o', e, h⟩ := hB j hj
        injection e with e
        injection e with e1 e2
        rw [e1, e2]; exact h
      · rintro e w' ⟨rfl, q, rfl⟩
        refine Ret.mk ?_ (below_drewN (Below.refl _ _) q)
        rw [List.take_length, List.take_length]
set_option maxHeartbeats 8000000 in
set_option maxRecDepth 100000 in
theorem refcut_any (A : Option Addr) (c : Nat) (l : List Ch) (w : World) (hA : ChsAt w A l) (hl : l.length ≤ 5000) (ht : chTot l ≤ 1000000) : Calls Try.prog 12 #[.slice A l.length c] w (NewS (cutP (strOfNums (putAll l))) w) := by
  have HP := Lib.hid (refput_any A c l w hA hl ht)
  have hsz : (strOfNums (putAll l)).size ≤ 2000000 := by
    rw [strOfNums_size]
    have h1 := putUp_length l l.length (Nat.le_refl _)
    rw [putUp_end, List.take_length] at h1
    omega
  generalize strOfNums (putAll l) = s0 at *
  generalize l.length = n0 at *
  clear hA ht hl
  obtain ⟨n, hn⟩ : ∃ n, s0.size = n := ⟨_, rfl⟩
  have HN := Lib.hid hn
  rw [hn] at hsz
  have hself : s0.extract 0 s0.size = s0 := ByteArray.extract_zero_size
  go_enter Try.func12, Try.ntmps12
  go_wp2_with (go_at_call 34; (with_reducible refine HP.out.mono ?_); rintro e1 w1 ⟨rfl, j1, hw1⟩; have HB1 := Lib.hid (show Below w.heap.size w w1 by rw [hw1]; exact w_ext_below _ _); clear hw1)
  go_loopw [4, 5, 6, 11] (fun v4 v5 v6 v11 wr => ∃ (i p : Nat) (acc : List ByteArray) (q : ByteArray), i ≤ n ∧ v11 = .int .i64 (i : Int) ∧ p ≤ i ∧ p % 512 = 0 ∧ i - p ≤ 512 ∧ (0 < i → p < i) ∧ v5 = .string q ∧ Hid (q = s0.extract p i) ∧ Hid (acc ++ cutP (s0.extract p s0.size) = cutP s0) ∧ Hid (acc.length ≤ p ∧ wr.ownsRow w.heap.size 9 1 v4 acc.length (acc.map Value.string)) ∧ Hid (Below w.heap.size w wr)) (fun _ _ _ i _ => ((n : Int) - intOf i).toNat)
  case atStart => exact ⟨0, 0, [], ⟨#[]⟩, Nat.zero_le _, rfl, Nat.le_refl _, rfl, by omega, fun h => by omega, rfl, Lib.hid (extract_self s0 0).symm, Lib.hid (by rw [hself]; rfl), Lib.hid ⟨Nat.le_refl _, rfl, Or.inl ⟨rfl, rfl⟩⟩, HB1⟩
  case round =>
    obtain ⟨i, p, acc, q, hi, rfl, hpi, hp5, hip, hpl, rfl, HQ, HC, HO, HB⟩ := hrel
    have hqs : q.size ≤ 2000000 := by rw [HQ.out, ByteArray.size_extract]; omega
    by_cases hin : i = n
    · subst hin
      have HC2 := Lib.hid (show cutP s0 = acc ++ [q] by
        rw [← HC.out, HQ.out, HN.out, cutP_small (by rw [ByteArray.size_extract]; omega)])
      obtain ⟨v2, w2, happ, HO2, HB2⟩ := app_str w _ _ acc q HO.out.2 HB.out (by have := HO.out.1; omega)
      clear HO HB
      go_wp2_with (at_builtin; refine app_step 25 _ _ rfl rfl rfl rfl rfl happ ?_)
      go_ret
      rw [HC2.out]
      exact NewS.own HO2.out HB2.out
    · have hlt : (i : Int) < (n : Int) := by omega
      have hge : (0 : Int) ≤ (i : Int) := by omega
      have hnl : ¬ (i : Int) < 0 := by omega
      have hwr : wrap64 ((i : Int) + 1) = ((i + 1 : Nat) : Int) := by rw [wrap64_eq]; omega
      have hle1 : (i : Int) + 1 ≤ (s0.size : Int) := by rw [HN.out]; omega
      have hle2 : (i : Int) ≤ (i : Int) + 1 := by omega
      have hle0 : (0 : Int) ≤ (i : Int) + 1 := by omega
      have HO1 := Lib.hid HO.out.1
      by_cases hnew : 0 < i ∧ i % 512 = 0
      · have hi0 : (0 : Int) < (i : Int) := by omega
        have him : ((i : Int) % 512 == 0) = true := by rw [beq_iff_eq]; omega
        have hpp : i = p + 512 := by have := hpl hnew.1; omega
        obtain ⟨v2, w2, happ, HO2, HB2⟩ := app_str w _ _ acc q HO.out.2 HB.out (by have := HO.out.1; omega)
        have HC2 := Lib.hid (show (acc ++ [q]) ++ cutP (s0.extract i s0.size) = cutP s0 by
          rw [← HC.out, cutP_next s0 p (by rw [HN.out]; omega), HQ.out, hpp, List.append_assoc]; rfl)
        have HO3 := Lib.hid (show (acc ++ [q]).length ≤ i ∧ w2.ownsRow w.heap.size 9 1 v2 (acc ++ [q]).length ((acc ++ [q]).map Value.string) from ⟨by rw [List.length_append, List.length_singleton]; have := HO1.out; omega, HO2.out⟩)
        have HPP := Lib.hid hpp
        clear hnew HO hpp
        go_wp2_with (at_builtin; refine app_step 25 _ _ rfl rfl rfl rfl rfl happ ?_)
        go_roundw
        case rel => exact ⟨i + 1, i, acc ++ [q], _, by omega, by first | rfl | rw [hwr], by omega, by have := HPP.out; omega, by omega, by omega, rfl, Lib.hid (by first | rfl | exact ByteArray.empty_append | (trace_state; simp)), HC2, HO3, HB2⟩
        case measure => first | (simp [intOf]; omega) | (rw [intOf_lit, intOf_lit, hwr]; omega)
      · have hcs : ¬ (0 : Int) < (i : Int) ∨ ((0 : Int) < (i : Int) ∧ ((i : Int) % 512 == 0) = false) := by
          by_cases h0 : 0 < i
          · exact Or.inr ⟨by omega, beq_eq_false_iff_ne.2 (fun e => hnew ⟨h0, by omega⟩)⟩
          · exact Or.inl (by omega)
        have HX := Lib.hid (show q ++ s0.extract i (i + 1) = s0.extract p (i + 1) by rw [HQ.out, extract_two s0 p i (i + 1) hpi (by omega)])
        have hlt5 : i + 1 - p ≤ 512 := by
          by_cases h5 : i - p = 512
          · exact absurd ⟨by omega, by omega⟩ hnew
          · omega
        clear hnew
        rcases hcs with hc1 | ⟨hc1, hc2⟩
        all_goals
          go_wp2
          go_roundw
          case rel => exact ⟨i + 1, p, acc, _, by omega, by first | rfl | rw [hwr], by omega, hp5, hlt5, by omega, rfl, HX, HC, HO, HB⟩
          case measure => first | (simp [intOf]; omega) | (rw [intOf_lit, intOf_lit, hwr]; omega)
end Go.Proofs.Ytelhclamoapnhaa
