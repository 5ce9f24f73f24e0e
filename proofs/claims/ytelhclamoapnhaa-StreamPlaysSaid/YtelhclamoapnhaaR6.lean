/- Helper lemmas: what the document's stage tells: Changes. No condition. -/
import Derived.Test.YtelhclamoapnhaaR4
import Derived.Test.YtelhclamoapnhaaR5
set_option linter.unusedSimpArgs false
set_option linter.unusedVariables false
namespace Go.Proofs.Ytelhclamoapnhaa
open Go.RowKit

theorem joinB_take (L : List ByteArray) (i : Nat) (h : i < L.length) : joinB (L.take i) ++ L.getD i ByteArray.empty = joinB (L.take (i + 1)) := by
  apply ByteArray.ext
  apply Array.toList_inj.1
  rw [ByteArray.data_append, Array.toList_append]
  unfold joinB
  simp only
  rw [joinL_take L i h]
theorem joinB_size (L : List ByteArray) (hq : ∀ q ∈ L, q.size ≤ 512) (i : Nat) : (joinB (L.take i)).size ≤ i * 512 := by
  have h := joinL_len L hq i
  have e : (joinB (L.take i)).size = (joinL (L.take i)).length := by unfold joinB; simp [ByteArray.size]
  omega
theorem parseN_len : ∀ (m : Nat) (t : ByteArray) (l l2 : List Ch) (u : ByteArray), parseN m t l = some (l2, u) → l2.length + u.size ≤ l.length + t.size
  | 0, t, l, l2, u, h => by
    unfold parseN at h
    injection h with h
    injection h with h1 h2
    rw [h1, h2]
    exact Nat.le_refl _
  | m + 1, t, l, l2, u, h => by
    unfold parseN at h
    cases hp : parse1 t with
    | none => rw [hp] at h; cases h
    | some q =>
      obtain ⟨c, t2⟩ := q
      rw [hp] at h
      simp only at h
      have ih := parseN_len m t2 (l ++ [c]) l2 u h
      rw [List.length_append, List.length_singleton] at ih
      have h1 : t2.size + 1 ≤ t.size := by
        unfold parse1 at hp
        cases h1 : numP t 1 with
        | error c => rw [h1] at hp; cases hp
        | ok q =>
          obtain ⟨g, s1⟩ := q
          rw [h1] at hp
          simp only at hp
          split at hp
          · cases hp
          · cases h2 : textP s1 64 with
            | error c => rw [h2] at hp; cases hp
            | ok q =>
              obtain ⟨k, s2⟩ := q
              rw [h2] at hp
              simp only at hp
              cases h3 : textP s2 300 with
              | error c => rw [h3] at hp; cases hp
              | ok q =>
                obtain ⟨v, s3⟩ := q
                rw [h3] at hp
                simp only at hp
                injection hp with hp
                injection hp with _ hp
                have a1 := numP_len h1
                have a2 := textP_len h2
                have a3 := textP_len h3
                rw [← hp]
                omega
      omega
theorem getR_len (s : ByteArray) : (getR s).2.length ≤ s.size := by
  cases h : getV s with
  | none => rw [getR_none h]; exact Nat.zero_le _
  | some l =>
    rw [getR_some h]
    show l.length ≤ s.size
    unfold getV getG at h
    cases h4 : numP s 4 with
    | error c => rw [h4] at h; cases h
    | ok q =>
      obtain ⟨m, t0⟩ := q
      rw [h4] at h
      simp only at h
      cases hp : parseN m t0 [] with
      | none => rw [hp] at h; cases h
      | some q =>
        obtain ⟨l2, u⟩ := q
        rw [hp] at h
        simp only at h
        have h1 := parseN_len m t0 [] l2 u hp
        have h2 := numP_len h4
        by_cases hs : sortedP l2 = true
        · rw [if_pos hs] at h
          simp only at h
          split at h
          · injection h with h
            rw [← h]
            simp at h1
            omega
          · cases h
        · rw [if_neg hs] at h
          cases h
theorem chgR_len (L : List ByteArray) (hq : ∀ q ∈ L, q.size ≤ 512) (hl : L.length ≤ 4096) : (chgR L).2.length ≤ 3000000 := by
  unfold chgR
  split
  · exact Nat.zero_le _
  · have h1 := getR_len (joinB L)
    have h2 := joinB_size L hq L.length
    rw [List.take_length] at h2
    omega
set_option maxHeartbeats 8000000 in
set_option maxRecDepth 100000 in
theorem refchanges (rb g : Nat) (L : List ByteArray) (w : World) (h : RefAt w rb g L) (hq5 : ∀ q ∈ L, q.size ≤ 512) : Calls Try.prog 32 #[.pointer (some ⟨rb, 0, none⟩)] w (ChgC (chgR L) w) := by
  have HRF := Lib.hid h
  have hm := h.many
  have c0 := h.c0
  obtain ⟨n, hn⟩ : ∃ n, L.length = n := ⟨_, rfl⟩
  have HN := Lib.hid hn
  have hlb := leB_of_cell c0
  rw [hn] at c0 hm
  have HSZ := Lib.hid (joinB_size L hq5)
  have HR1 := Lib.hid (show ∀ i, i < n → (∀ j, j < i → 0 < (L.getD j ByteArray.empty).size) → (L.getD i ByteArray.empty).size = 0 → chgR L = (61, []) from fun i hi h1 h2 => by
    unfold chgR
    rw [missP_at L i (by omega) h1 h2, if_pos (by omega)])
  have HR2 := Lib.hid (show (∀ j, j < n → 0 < (L.getD j ByteArray.empty).size) → chgR L = getR (joinB (L.take n)) from fun h1 => by
    unfold chgR
    rw [missP_all L (by rw [hn]; exact h1), if_neg (by omega), ← hn, List.take_length])
  generalize chgR L = r at *
  clear h hn hq5
  go_enter Try.func32, Try.ntmps32
  go_wp2
  go_loop [4, 6, 12] (fun v4 v6 v12 => ∃ (i : Nat) (a : ByteArray), i ≤ n ∧ v12 = .int .i64 (i : Int) ∧ v4 = .string a ∧ a.size ≤ 5000000 ∧ Hid (a = joinB (L.take i)) ∧ Hid (∀ j, j < i → 0 < (L.getD j ByteArray.empty).size)) (fun _ _ i => ((n : Int) - intOf i).toNat)
  case atStart => exact ⟨0, ⟨#[]⟩, Nat.zero_le _, rfl, rfl, by decide, Lib.hid rfl, Lib.hid fun j hj => by omega⟩
  case round =>
    obtain ⟨i, a, hi, rfl, rfl, has, HAJ, HA⟩ := hrel
    by_cases hin : i = n
    · subst hin
      have HG : Hid (∀ W, Calls Try.prog 42 #[.string a] W (ChgC r W)) := Lib.hid fun W => by
        rw [HR2.out HA.out, ← HAJ.out]
        exact refget_any a W (by omega)
      go_wp2_with (go_at_call 42; (with_reducible refine (HG.out _).mono ?_); rintro e1 w1 ⟨A, c, rfl, HB1, HC1, HD1, HE1⟩)
      go_ret2
      exact ⟨A, c, rfl, HB1, HC1, HD1, HE1⟩
    · have hlt : (i : Int) < (n : Int) := by omega
      have hge : (0 : Int) ≤ (i : Int) := by omega
      have hwr : wrap64 ((i : Int) + 1) = ((i + 1 : Nat) : Int) := by rw [wrap64_eq]; omega
      have ci := HRF.out.at i (by rw [HN.out]; omega)
      by_cases hz : 0 < (L.getD i ByteArray.empty).size
      · have hze := nonempty_of_size hz
        have HA2 := Lib.hid (show ∀ j, j < i + 1 → 0 < (L.getD j ByteArray.empty).size from fun j hj => by
          by_cases e : j = i
          · rw [e]; exact hz
          · exact HA.out j (by omega))
        have HAJ2 := Lib.hid (show a ++ L.getD i ByteArray.empty = joinB (L.take (i + 1)) by rw [HAJ.out, joinB_take L i (by rw [HN.out]; omega)])
        have HS2 := Lib.hid (show (a ++ L.getD i ByteArray.empty).size ≤ 5000000 by
          rw [HAJ2.out]
          have := HSZ.out (i + 1)
          omega)
        clear hz
        generalize L.getD i ByteArray.empty = q at *
        have hov : (9223372036854775807 < a.size + q.size) = False := eq_false (by have := HS2.out; rw [ByteArray.size_append] at this; omega)
        go_wp2
        go_round
        case rel => exact ⟨i + 1, _, by omega, by first | rfl | rw [hwr], rfl, HS2.out, HAJ2, HA2⟩
        case measure => first | (rw [intOf_lit, intOf_lit, hwr]; omega) | (rw [intOf_lit, intOf_lit]; omega)
      · have HF := Lib.hid (HR1.out i (by omega) HA.out (by omega))
        have hq := empty_of_size (q := L.getD i ByteArray.empty) (by omega)
        clear hz
        rw [hq] at ci
        clear hq
        go_wp2
        go_ret2
        rw [HF.out]
        exact ChgC.none rfl (Below.refl _ _)
end Go.Proofs.Ytelhclamoapnhaa
