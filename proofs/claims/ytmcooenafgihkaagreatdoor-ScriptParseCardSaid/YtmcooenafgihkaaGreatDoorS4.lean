/- Plain laws: how long a step's words are, and of which bytes. No condition. -/
import Derived.Test.YtmcooenafgihkaaGreatDoorS3
import Derived.Lib.Join
set_option linter.unusedSimpArgs false
set_option linter.unusedVariables false
namespace Go.Proofs.YtmcooenafgihkaaGreatDoor

theorem dec_len (k u : Nat) (hk : 1 ≤ k) (h : u < 10 ^ k) : (Lib.decDigits u).length ≤ k := by
  rw [Lib.decDigits]
  split
  · simp; exact hk
  · rename_i h10
    rw [List.length_append, List.length_singleton]
    have h1 : 2 ≤ k := by
      rcases Nat.lt_or_ge k 2 with h' | h'
      · have : k = 1 := by omega
        subst this; omega
      · exact h'
    have h2 : u / 10 < 10 ^ (k - 1) := by
      apply Nat.div_lt_of_lt_mul
      rw [show 10 * 10 ^ (k - 1) = 10 ^ k by rw [← Nat.pow_succ']; congr 1; omega]
      exact h
    have := dec_len (k - 1) (u / 10) (by omega) h2
    omega
termination_by u
decreasing_by omega
theorem dec_range (u : Nat) : ∀ x ∈ Lib.decDigits u, 33 ≤ x.toNat := by
  rw [Lib.decDigits]
  split
  · rename_i h
    intro x hx
    rw [List.mem_singleton] at hx
    subst hx
    rw [digit_nat u h]; omega
  · intro x hx
    rw [List.mem_append, List.mem_singleton] at hx
    rcases hx with hx | hx
    · exact dec_range (u / 10) x hx
    · subst hx
      rw [digit_nat _ (by omega)]; omega
termination_by u
decreasing_by omega
/-- A word: bytes behind the blank, some, and not too many. -/
structure Wd (t : Bs) : Prop where
  len : t.length ≤ 100000000
  ran : ∀ x ∈ t, 33 ≤ x.toNat
theorem itoa_len (n : Int) (h : I64 n) : (Lib.itoa n).length ≤ 20 := by
  unfold I64 at h
  unfold Lib.itoa
  split
  · have := dec_len 19 n.natAbs (by decide) (by omega)
    simp; omega
  · have := dec_len 19 n.toNat (by decide) (by omega)
    omega
theorem itoa_wd (n : Int) (h : I64 n) : Wd (Lib.itoa n) := by
  refine ⟨by have := itoa_len n h; omega, ?_⟩
  unfold Lib.itoa
  split
  · intro x hx
    rw [List.mem_cons] at hx
    rcases hx with rfl | hx
    · decide
    · exact dec_range _ x hx
  · exact dec_range _
theorem wordL_len (l : Bs) : (wordL l).length ≤ 3 * l.length + 1 := by
  unfold wordL
  split
  · simp
  · have := flat_len l
    omega
theorem word_wd (s : ByteArray) (h : s.size ≤ 30000000) : Wd (wordL s.data.toList) := by
  refine ⟨?_, word_range _⟩
  have := wordL_len s.data.toList
  have : s.data.toList.length = s.size := by rw [Array.length_toList]; rfl
  omega
theorem far_i64 {b : Nat} (hb : b < 18446744073709551616) (h1 : ¬ b % 9223372036854775808 > 9218868437227405312) (hf : ¬ (far b || wt b) = true) : I64 (truncV b) := by
  rw [Bool.or_eq_true] at hf
  have hfar : far b = false := by simpa using fun e => hf (Or.inl e)
  unfold far at hfar
  rw [Bool.or_eq_false_iff] at hfar
  have hr := in_range b hb (by unfold isN; omega) hfar.1 hfar.2
  obtain ⟨_, _, r1, r2⟩ := sg_range (ng b) (wq b) (w_bounds b hr).1
  exact i64_of_far r1 r2
theorem time_wd {b : Nat} (hb : b < 18446744073709551616) {t : Bs} (h : timeL b = some t) : Wd t := by
  unfold timeL at h
  split at h
  · injection h with h; subst h; exact ⟨by decide, by decide⟩
  · rename_i h1
    split at h
    · injection h with h; subst h; exact ⟨by decide, by decide⟩
    · split at h
      · injection h with h; subst h; exact ⟨by decide, by decide⟩
      · split at h
        · injection h with h; subst h; exact ⟨by decide, by decide⟩
        · split at h
          · cases h
          · rename_i hf
            injection h with h
            subst h
            exact itoa_wd _ (far_i64 hb h1 hf)
/-- The texts of a step are not too long. -/
structure StepR.Small (s : StepR) : Prop where
  vol : s.vol.size ≤ 30000000
  dst : s.dst.size ≤ 30000000
  path : s.path.size ≤ 30000000
  cto : s.cto.size ≤ 30000000
  data : s.data.size ≤ 30000000
theorem flds_all {f : UInt8 → Option (List Bs)} {K : Nat} (hf : ∀ c a, f c = some a → a.length ≤ K ∧ ∀ t ∈ a, Wd t) : ∀ (cs : Bs) (l : List Bs), flds f cs = some l → l.length ≤ cs.length * K ∧ ∀ t ∈ l, Wd t
  | [], l, h => by simp only [flds, Option.some.injEq] at h; subst h; exact ⟨by simp, fun t ht => by cases ht⟩
  | c :: cs, l, h => by
    simp only [flds] at h
    obtain ⟨a, ha, h⟩ := Option.bind_eq_some_iff.1 h
    obtain ⟨b, hb, rfl⟩ := Option.map_eq_some_iff.1 h
    obtain ⟨h1, h2⟩ := hf c a ha
    obtain ⟨h3, h4⟩ := flds_all hf cs b hb
    refine ⟨?_, fun t ht => ?_⟩
    · rw [List.length_append, List.length_cons, Nat.add_mul]; omega
    · rw [List.mem_append] at ht
      rcases ht with ht | ht
      · exact h2 t ht
      · exact h4 t ht
theorem one_wd {t : Bs} (h : Wd t) : [t].length ≤ 1 ∧ ∀ u ∈ [t], Wd u := ⟨Nat.le_refl _, fun u hu => by rw [List.mem_singleton] at hu; subst hu; exact h⟩
theorem fldC_wd {s : StepR} (hs : s.Fine) (hm : s.Small) (c : UInt8) (a : List Bs) (h : fldC s c = some a) : a.length ≤ 1 ∧ ∀ t ∈ a, Wd t := by
  unfold fldC at h
  split at h
  · injection h with h; subst h; exact one_wd (word_wd _ hm.cto)
  · split at h
    · injection h with h; subst h; exact one_wd (itoa_wd _ hs.off)
    · split at h
      · injection h with h; subst h; exact one_wd (itoa_wd _ hs.cn)
      · split at h
        · injection h with h; subst h; exact one_wd (word_wd _ hm.data)
        · obtain ⟨t, ht, rfl⟩ := Option.map_eq_some_iff.1 h
          exact one_wd (time_wd hs.time ht)
theorem callWd : ∀ i, i < 19 → ((callF.getD i ([], [])).1.length ≤ 10 ∧ (∀ x ∈ (callF.getD i ([], [])).1, 33 ≤ x.toNat)) ∧ (callF.getD i ([], [])).2.length ≤ 3 := by decide +kernel
theorem stepWd : ∀ i, i < 13 → ((stepF.getD i ([], [])).1.length ≤ 10 ∧ (∀ x ∈ (stepF.getD i ([], [])).1, 33 ≤ x.toNat)) ∧ (stepF.getD i ([], [])).2.length ≤ 3 := by decide +kernel
theorem called_wd {s : StepR} (hs : s.Fine) (hm : s.Small) {l : List Bs} (h : calledL s = some l) : l.length ≤ 5 ∧ ∀ t ∈ l, Wd t := by
  unfold calledL at h
  cases hf : formAt callF s.ck with
  | none => rw [hf] at h; cases h
  | some z =>
    rw [hf] at h
    obtain ⟨i, hk, hi, hz⟩ := formAt_some hf
    have hw := callWd i hi
    rw [hz] at hw
    obtain ⟨w, cs⟩ := z
    simp only at h hw
    obtain ⟨l, hl, rfl⟩ := Option.map_eq_some_iff.1 h
    obtain ⟨h1, h2⟩ := flds_all (fldC_wd hs hm) cs l hl
    refine ⟨?_, fun t ht => ?_⟩
    · simp only [List.length_cons]; omega
    · rw [List.mem_cons, List.mem_cons] at ht
      rcases ht with rfl | rfl | ht
      · exact ⟨by omega, hw.1.2⟩
      · exact word_wd _ hm.path
      · exact h2 t ht
theorem fldS_wd {s : StepR} (hs : s.Fine) (hm : s.Small) (c : UInt8) (a : List Bs) (h : fldS s c = some a) : a.length ≤ s.keep.length + 5 ∧ ∀ t ∈ a, Wd t := by
  have key : ∀ {t : Bs}, Wd t → [t].length ≤ s.keep.length + 5 ∧ ∀ u ∈ [t], Wd u := fun h => ⟨by simp, (one_wd h).2⟩
  unfold fldS at h
  split at h
  · injection h with h; subst h; exact key (itoa_wd _ hs.rep)
  · split at h
    · injection h with h; subst h; exact key (word_wd _ hm.vol)
    · split at h
      · injection h with h; subst h; exact key (word_wd _ hm.dst)
      · split at h
        · injection h with h; subst h; exact key (itoa_wd _ hs.n)
        · split at h
          · injection h with h; subst h
            refine ⟨by simp, fun t ht => ?_⟩
            rw [List.mem_map] at ht
            obtain ⟨n, hn, rfl⟩ := ht
            exact itoa_wd _ (hs.keep n hn)
          · obtain ⟨h1, h2⟩ := called_wd hs hm h
            exact ⟨by omega, h2⟩
theorem text_wd {s : StepR} (hs : s.Fine) (hm : s.Small) {l : List Bs} (h : textW s = some l) : l.length ≤ 3 * (s.keep.length + 5) + 1 ∧ ¬ l = [] ∧ ∀ t ∈ l, Wd t := by
  unfold textW at h
  cases hf : formAt stepF s.kind with
  | none => rw [hf] at h; cases h
  | some z =>
    rw [hf] at h
    obtain ⟨i, hk, hi, hz⟩ := formAt_some hf
    have hw := stepWd i hi
    rw [hz] at hw
    obtain ⟨w, cs⟩ := z
    simp only at h hw
    obtain ⟨l, hl, rfl⟩ := Option.map_eq_some_iff.1 h
    obtain ⟨h1, h2⟩ := flds_all (fldS_wd hs hm) cs l hl
    refine ⟨?_, by simp, fun t ht => ?_⟩
    · simp only [List.length_cons]
      have : cs.length * (s.keep.length + 5) ≤ 3 * (s.keep.length + 5) := Nat.mul_le_mul_right _ hw.2
      omega
    · rw [List.mem_cons] at ht
      rcases ht with rfl | ht
      · exact ⟨by omega, hw.1.2⟩
      · exact h2 t ht
theorem join_eq : ∀ l : List Bs, Lib.join l [32] = joinW l
  | [] => rfl
  | [w] => by rw [Lib.join_one]; rfl
  | w :: v :: ws => by
    have ih := join_eq (v :: ws)
    rw [Lib.join_cons] at ih ⊢
    simp only [joinW]
    rw [← ih]
    simp [Lib.joinTail]
theorem joinW_len (K : Nat) : ∀ l : List Bs, (∀ t ∈ l, t.length ≤ K) → (joinW l).length ≤ l.length * (K + 1)
  | [], _ => by simp [joinW]
  | [w], h => by
    have := h w (by simp)
    simp [joinW]; omega
  | w :: v :: ws, h => by
    have ih := joinW_len K (v :: ws) fun t ht => h t (by simp [ht])
    have := h w (by simp)
    simp only [joinW, List.length_append, List.length_cons] at ih ⊢
    rw [Nat.add_mul (ws.length + 1) 1]
    omega
theorem join_text {s : StepR} (hs : s.Fine) (hm : s.Small) {l : List Bs} (h : textW s = some l) : wordsW (joinW l) = l := by
  obtain ⟨_, h2, h3⟩ := text_wd hs hm h
  refine words_join l h2 fun w hw x hx e => ?_
  have := (h3 w hw).ran x hx
  subst e
  exact absurd this (by decide)
end Go.Proofs.YtmcooenafgihkaaGreatDoor
