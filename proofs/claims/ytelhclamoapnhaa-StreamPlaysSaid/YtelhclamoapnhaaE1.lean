/- Helper lemmas: the reference's eye, asked anything. No condition. -/
import Derived.Test.YtelhclamoapnhaaGB
import Derived.Test.YtelhclamoapnhaaPTextx1
set_option linter.unusedSimpArgs false
set_option linter.unusedVariables false
namespace Go.Proofs.Ytelhclamoapnhaa
open Go.RowKit Go.Proofs.YtelhclamoapnhaaW.PrintWords Go.Proofs.YtelhclamoapnhaaW.PrintLast Go.Proofs.YtelhclamoapnhaaW.PrintMore

theorem ptake_snoc (l : List UInt8) (i : Nat) (h : i < l.length) : l.take (i + 1) = l.take i ++ [l[i]] := by
  rw [List.take_succ_eq_append_getElem h]
theorem pbt_byte (x : ByteArray) (i : Nat) (h : i < x.data.toList.length) : bt x (i : Int) = ((x.data.toList[i]).toNat : Int) := by
  have h' : i < x.size := by simpa using h
  unfold bt
  rw [dif_pos (by simpa using h')]
  simp [ByteArray.getElem_eq_getElem_data]
theorem pref_l0 (x s : ByteArray) (a b : Int) (d : Bool) (h8 : x.size ≤ 8) : ∀ r i k, i + r = x.size → r + 1 ≤ k →
    PText.crannogref01_Eye_Num.l0 k x (beNat (x.data.toList.take i) : Int) (x.size : Int) (i : Int) s a d b =
      if (beNat x.data.toList : Int) ≥ 9223372036854775808 then (PText.crannogref01_Eye_Fail.f s a d b 201).bind fun q => some (0, q.1, q.2.1, q.2.2.1, q.2.2.2) else some (wrap64 (beNat x.data.toList : Int), s, a, d, b) := by
  intro r
  induction r with
  | zero =>
    intro i k hi hk
    obtain ⟨k, rfl⟩ : ∃ k', k = k' + 1 := ⟨k - 1, by omega⟩
    unfold PText.crannogref01_Eye_Num.l0
    rw [if_neg (by omega), List.take_of_length_le (by simp; omega)]
  | succ r ih =>
    intro i k hi hk
    obtain ⟨k, rfl⟩ : ∃ k', k = k' + 1 := ⟨k - 1, by omega⟩
    have hl : i < x.data.toList.length := by simp; omega
    have hb := beNat_lt (x.data.toList.take i)
    rw [List.length_take_of_le (by omega)] at hb
    have hp : 256 ^ i ≤ 256 ^ 7 := Nat.pow_le_pow_right (by omega) (by omega)
    have h7 : (256 : Nat) ^ 7 = 72057594037927936 := by decide
    have hc := (x.data.toList[i]).toNat_lt
    unfold PText.crannogref01_Eye_Num.l0
    rw [if_pos (by omega), if_pos (by omega), if_pos (by omega), pbt_byte x i hl]
    have e1 : IntKind.u64.wrap (IntKind.u64.wrap ((beNat (x.data.toList.take i) : Int) * 256) + IntKind.u64.wrap ((x.data.toList[i]).toNat : Int)) = (beNat (x.data.toList.take (i + 1)) : Int) := by
      rw [ptake_snoc _ _ hl, beNat_snoc, IntKind.wrap_u64, IntKind.wrap_u64, IntKind.wrap_u64]
      omega
    have e2 : wrap64 ((i : Int) + 1) = ((i + 1 : Nat) : Int) := by rw [wrap64_eq]; omega
    rw [e1, e2]
    exact ih (i + 1) k (by omega) (by omega)

theorem pref_raw (s : ByteArray) (a n : Nat) (b : Int) (hs : s.size ≤ 50000000) (h : a + n ≤ s.size) : PText.crannogref01_Eye_Raw.f s (a : Int) false b (n : Int) = some (s.extract a (a + n), s, ((a + n : Nat) : Int), false, b) := by
  have e1 : wrap64 ((s.size : Int) - (a : Int)) = ((s.size - a : Nat) : Int) := by rw [wrap64_eq]; omega
  have e2 : wrap64 ((a : Int) + (n : Int)) = ((a + n : Nat) : Int) := by rw [wrap64_eq]; omega
  have e3 : wrap64 (((a + n : Nat) : Int) - (n : Int)) = (a : Int) := by rw [wrap64_eq]; omega
  unfold PText.crannogref01_Eye_Raw.f
  rw [if_neg (by simp), if_neg (by omega), e1, if_neg (by omega), e2, e3, if_pos (by omega), if_pos (by omega), if_pos (by omega), Int.toNat_natCast, Int.toNat_natCast]
theorem pref_raw_short (s : ByteArray) (a n : Nat) (b : Int) (hs : s.size ≤ 50000000) (ha : a ≤ s.size) (h : s.size < a + n) : PText.crannogref01_Eye_Raw.f s (a : Int) false b (n : Int) = some (⟨#[]⟩, s, (a : Int), true, 201) := by
  have e1 : wrap64 ((s.size : Int) - (a : Int)) = ((s.size - a : Nat) : Int) := by rw [wrap64_eq]; omega
  unfold PText.crannogref01_Eye_Raw.f PText.crannogref01_Eye_Fail.f
  rw [if_neg (by simp), if_neg (by omega), e1, if_pos (by omega), if_neg (by simp)]
  rfl
theorem pref_num_j (k : Nat) (s : ByteArray) (a b : Int) (d : Bool) (n : Nat) (hd : d = false) (h1 : 1 ≤ n) (h8 : n ≤ 8) : PText.crannogref01_Eye_Num.f (k + 1) s a d b (n : Int) = (PText.crannogref01_Eye_Raw.f s a d b (n : Int)).bind fun q => PText.crannogref01_Eye_Num.l0 k q.1 0 (q.1.size : Int) 0 q.2.1 q.2.2.1 q.2.2.2.1 q.2.2.2.2 := by
  subst hd
  have e : decide ((n : Int) > 8) = false := decide_eq_false (by omega)
  unfold PText.crannogref01_Eye_Num.f
  rw [if_neg (by simp), if_neg (by omega), e]
  rw [PText.crannogref01_Eye_Num.j0]
  rfl
theorem pextract_at (s : ByteArray) (a n : Nat) (h : a + n ≤ s.size) : (s.extract a s.size).extract 0 n = s.extract a (a + n) := by
  rw [ByteArray.extract_extract]
  congr 1
  omega
theorem pextract_on (s : ByteArray) (a n : Nat) (h : a + n ≤ s.size) : (s.extract a s.size).extract n (s.extract a s.size).size = s.extract (a + n) s.size := by
  rw [ByteArray.extract_extract]
  congr 1
  simp; omega
theorem pref_l0_nil (k : Nat) (s : ByteArray) (a b : Int) (d : Bool) : PText.crannogref01_Eye_Num.l0 (k + 18 + 1) ⟨#[]⟩ 0 0 0 s a d b = some (0, s, a, d, b) := by
  have hw : wrap64 0 = 0 := by rw [wrap64_eq]; omega
  unfold PText.crannogref01_Eye_Num.l0
  rw [if_neg (by omega), if_neg (by omega), hw]
theorem pref_num_short (k : Nat) (s : ByteArray) (a n : Nat) (b : Int) (hs : s.size ≤ 50000000) (ha : a ≤ s.size) (h1 : 1 ≤ n) (h8 : n ≤ 8) (h : s.size < a + n) :
    PText.crannogref01_Eye_Num.f (k + 20) s (a : Int) false b (n : Int) = some (0, s, (a : Int), true, 201) := by
  rw [pref_num_j (k + 19) s a b false n rfl h1 h8, pref_raw_short s a n b hs ha h]
  show PText.crannogref01_Eye_Num.l0 (k + 19) ⟨#[]⟩ 0 ((⟨#[]⟩ : ByteArray).size : Int) 0 s (a : Int) true 201 = _
  exact pref_l0_nil k s (a : Int) 201 true
theorem pref_num_done (k : Nat) (s : ByteArray) (a b n : Int) : PText.crannogref01_Eye_Num.f k s a true b n = some (0, s, a, true, b) := by
  unfold PText.crannogref01_Eye_Num.f
  rw [if_pos rfl]
theorem pnum_ok (s t : ByteArray) (a m : Nat) (n b : Int) (hs : s.size ≤ 50000000) (ha : a ≤ s.size) (h : numP (s.extract a s.size) n = .ok (m, t)) :
    ∃ a', (∀ k, PText.crannogref01_Eye_Num.f (k + 20) s (a : Int) false b n = some ((m : Int), s, ((a' : Nat) : Int), false, b)) ∧ t = s.extract a' s.size ∧ a' ≤ s.size := by
  unfold numP at h
  split at h
  · rename_i hn
    obtain ⟨j, rfl⟩ : ∃ j : Nat, n = (j : Int) := ⟨n.toNat, by omega⟩
    split at h
    · cases h
    · rename_i hz
      have hsz : a + j ≤ s.size := by simp at hz; omega
      split at h
      · rename_i hv
        injection h with h
        injection h with h1 h2
        rw [Int.toNat_natCast] at h1 h2 hv
        rw [pextract_on s a j hsz] at h2
        unfold numOf at h1 hv
        rw [pextract_at s a j hsz] at h1 hv
        have hx : (s.extract a (a + j)).size = j := by simp; omega
        refine ⟨a + j, fun k => ?_, h2.symm, hsz⟩
        rw [pref_num_j (k + 19) s a b false j rfl (by omega) (by omega), pref_raw s a j b hs hsz]
        show PText.crannogref01_Eye_Num.l0 (k + 19) (s.extract a (a + j)) 0 ((s.extract a (a + j)).size : Int) 0 s ((a + j : Nat) : Int) false b = _
        have := pref_l0 (s.extract a (a + j)) s ((a + j : Nat) : Int) b false (by omega) j 0 (k + 19) (by omega) (by omega)
        simp only [List.take_zero, beNat_nil] at this
        refine this.trans ?_
        rw [h1] at hv
        rw [h1, if_neg (by omega)]
        have e : wrap64 (m : Int) = (m : Int) := by rw [wrap64_eq]; omega
        rw [e]
      · cases h
  · cases h
theorem pfail_live (s : ByteArray) (a b c : Int) : PText.crannogref01_Eye_Fail.f s a false b c = some (s, a, true, c) := by unfold PText.crannogref01_Eye_Fail.f; rw [if_neg (by simp)]
theorem pnum_err (s : ByteArray) (a : Nat) (n b c : Int) (hs : s.size ≤ 50000000) (ha : a ≤ s.size) (h : numP (s.extract a s.size) n = .error c) :
    ∃ a' : Nat, ∀ k, PText.crannogref01_Eye_Num.f (k + 20) s (a : Int) false b n = some (0, s, (a' : Int), true, c) := by
  unfold numP at h
  split at h
  · rename_i hn
    obtain ⟨j, rfl⟩ : ∃ j : Nat, n = (j : Int) := ⟨n.toNat, by omega⟩
    split at h
    · rename_i hz
      injection h with h
      subst h
      have hsz : s.size < a + j := by simp at hz; omega
      exact ⟨a, fun k => pref_num_short k s a j b hs ha (by omega) (by omega) hsz⟩
    · rename_i hz
      have hsz : a + j ≤ s.size := by simp at hz; omega
      split at h
      · cases h
      · rename_i hv
        injection h with h
        subst h
        rw [Int.toNat_natCast] at hv
        unfold numOf at hv
        rw [pextract_at s a j hsz] at hv
        have hx : (s.extract a (a + j)).size = j := by simp; omega
        refine ⟨a + j, fun k => ?_⟩
        rw [pref_num_j (k + 19) s a b false j rfl (by omega) (by omega), pref_raw s a j b hs hsz]
        show PText.crannogref01_Eye_Num.l0 (k + 19) (s.extract a (a + j)) 0 ((s.extract a (a + j)).size : Int) 0 s ((a + j : Nat) : Int) false b = _
        have := pref_l0 (s.extract a (a + j)) s ((a + j : Nat) : Int) b false (by omega) j 0 (k + 19) (by omega) (by omega)
        simp only [List.take_zero, beNat_nil] at this
        refine this.trans ?_
        rw [if_pos (by omega), pfail_live]
        rfl
  · rename_i hn
    injection h with h
    subst h
    refine ⟨a, fun k => ?_⟩
    unfold PText.crannogref01_Eye_Num.f
    rw [if_neg (by simp)]
    by_cases h1 : n < 1
    · rw [if_pos h1, PText.crannogref01_Eye_Num.j0]
      rw [if_pos rfl, pfail_live]
      rfl
    · have e : decide (n > 8) = true := decide_eq_true (by omega)
      rw [if_neg h1, e, PText.crannogref01_Eye_Num.j0]
      rw [if_pos rfl, pfail_live]
      rfl
theorem praw_ok (s x t : ByteArray) (a : Nat) (n b : Int) (hs : s.size ≤ 50000000) (ha : a ≤ s.size) (h : rawP (s.extract a s.size) n = .ok (x, t)) :
    ∃ a', PText.crannogref01_Eye_Raw.f s (a : Int) false b n = some (x, s, ((a' : Nat) : Int), false, b) ∧ t = s.extract a' s.size ∧ a' ≤ s.size := by
  unfold rawP at h
  split at h
  · cases h
  · rename_i hz
    obtain ⟨j, rfl⟩ : ∃ j : Nat, n = (j : Int) := ⟨n.toNat, by omega⟩
    have hsz : a + j ≤ s.size := by simp at hz; omega
    injection h with h
    injection h with h1 h2
    rw [Int.toNat_natCast] at h1 h2
    rw [pextract_at s a j hsz] at h1
    rw [pextract_on s a j hsz] at h2
    subst h1; subst h2
    exact ⟨a + j, pref_raw s a j b hs hsz, rfl, hsz⟩
theorem praw_err (s : ByteArray) (a : Nat) (n b c : Int) (hs : s.size ≤ 50000000) (ha : a ≤ s.size) (h : rawP (s.extract a s.size) n = .error c) :
    PText.crannogref01_Eye_Raw.f s (a : Int) false b n = some (⟨#[]⟩, s, (a : Int), true, c) := by
  unfold rawP at h
  split at h
  · rename_i hz
    injection h with h
    subst h
    by_cases h0 : n < 0
    · unfold PText.crannogref01_Eye_Raw.f
      rw [if_neg (by simp), if_pos h0, pfail_live]
      rfl
    · obtain ⟨j, rfl⟩ : ∃ j : Nat, n = (j : Int) := ⟨n.toNat, by omega⟩
      exact pref_raw_short s a j b hs ha (by simp at hz; omega)
  · cases h
theorem praw_done (s : ByteArray) (a b n : Int) : PText.crannogref01_Eye_Raw.f s a true b n = some (⟨#[]⟩, s, a, true, b) := by
  unfold PText.crannogref01_Eye_Raw.f
  rw [if_pos rfl]
theorem ptext_ok (s x t : ByteArray) (a : Nat) (n b : Int) (hs : s.size ≤ 50000000) (ha : a ≤ s.size) (h : textP (s.extract a s.size) n = .ok (x, t)) :
    ∃ a', (∀ k, PText.crannogref01_Eye_Text.f (k + 20) s (a : Int) false b n = some (x, s, ((a' : Nat) : Int), false, b)) ∧ t = s.extract a' s.size ∧ a' ≤ s.size := by
  unfold textP at h
  split at h
  · cases h
  · rename_i q hq
    obtain ⟨m, u⟩ := q
    obtain ⟨a1, e1, rfl, l1⟩ := pnum_ok s u a m 2 b hs ha hq
    simp only at h
    split at h
    · cases h
    · rename_i hm
      obtain ⟨a2, e2, h2, l2⟩ := praw_ok s x t a1 (m : Int) b hs l1 h
      refine ⟨a2, fun k => ?_, h2, l2⟩
      unfold PText.crannogref01_Eye_Text.f
      rw [e1]
      simp only [Option.bind_some]
      rw [if_neg (by omega), e2]
      rfl
theorem ptext_err (s : ByteArray) (a : Nat) (n b c : Int) (hs : s.size ≤ 50000000) (ha : a ≤ s.size) (h : textP (s.extract a s.size) n = .error c) :
    ∃ a' : Nat, ∀ k, PText.crannogref01_Eye_Text.f (k + 20) s (a : Int) false b n = some (⟨#[]⟩, s, (a' : Int), true, c) := by
  unfold textP at h
  split at h
  · rename_i c' hq
    injection h with h
    subst h
    obtain ⟨a1, e1⟩ := pnum_err s a 2 b c' hs ha hq
    refine ⟨a1, fun k => ?_⟩
    unfold PText.crannogref01_Eye_Text.f
    rw [e1]
    simp only [Option.bind_some]
    have hf : PText.crannogref01_Eye_Fail.f s (a1 : Int) true c' 203 = some (s, (a1 : Int), true, c') := by unfold PText.crannogref01_Eye_Fail.f; rw [if_pos rfl]
    split
    · rw [hf]
      simp only [Option.bind_some]
      rw [praw_done]
      rfl
    · rw [praw_done]
      rfl
  · rename_i q hq
    obtain ⟨m, u⟩ := q
    obtain ⟨a1, e1, rfl, l1⟩ := pnum_ok s u a m 2 b hs ha hq
    simp only at h
    split at h
    · rename_i hm
      injection h with h
      subst h
      refine ⟨a1, fun k => ?_⟩
      unfold PText.crannogref01_Eye_Text.f
      rw [e1]
      simp only [Option.bind_some]
      rw [if_pos (by omega), pfail_live]
      simp only [Option.bind_some]
      rw [praw_done]
      rfl
    · rename_i hm
      have e2 := praw_err s a1 (m : Int) b c hs l1 h
      refine ⟨a1, fun k => ?_⟩
      unfold PText.crannogref01_Eye_Text.f
      rw [e1]
      simp only [Option.bind_some]
      rw [if_neg (by omega), e2]
      rfl
end Go.Proofs.Ytelhclamoapnhaa
