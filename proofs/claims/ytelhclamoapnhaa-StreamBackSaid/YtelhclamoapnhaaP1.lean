/- Plain laws: changes that were put are read back; a text in parts is that text. No condition. -/
import Derived.Test.YtelhclamoapnhaaGD
set_option linter.unusedSimpArgs false
set_option linter.unusedVariables false
namespace Go.Proofs.Ytelhclamoapnhaa
open Go.RowKit Go.Proofs.YtelhclamoapnhaaW.PrintWords

theorem bytesOf_app (a b : List Int) : Lib.bytesOf (a ++ b) = Lib.bytesOf a ++ Lib.bytesOf b := by simp [Lib.bytesOf]
theorem raw_app (x R : List Int) : x.length ≤ (strOfNums (x ++ R)).size ∧ (strOfNums (x ++ R)).extract 0 x.length = strOfNums x ∧ (strOfNums (x ++ R)).extract x.length (strOfNums (x ++ R)).size = strOfNums R := by
  have hd : (strOfNums (x ++ R)).data.toList = Lib.bytesOf x ++ Lib.bytesOf R := by rw [← Lib.toList_data, Lib.strOfNums_toList, bytesOf_app]
  have hl : (Lib.bytesOf x).length = x.length := by rw [Lib.bytesOf_length]
  have hsz : (strOfNums (x ++ R)).size = x.length + R.length := by rw [strOfNums_size, List.length_append]
  refine ⟨by omega, ?_, ?_⟩
  · apply ByteArray.ext
    apply Array.toList_inj.1
    have h1 := Lib.extract_toList (strOfNums (x ++ R)) 0 x.length
    rw [Lib.toList_data, hd, List.drop_zero, Nat.sub_zero, List.take_append_of_le_length (by omega), List.take_of_length_le (by omega)] at h1
    rw [h1, ← Lib.toList_data, Lib.strOfNums_toList]
  · apply ByteArray.ext
    apply Array.toList_inj.1
    have h1 := Lib.extract_toList (strOfNums (x ++ R)) x.length (strOfNums (x ++ R)).size
    rw [Lib.toList_data, hd, List.drop_append_of_le_length (by omega), List.drop_of_length_le (by omega), List.nil_append, List.take_of_length_le (by rw [hsz, Lib.bytesOf_length]; omega)] at h1
    rw [h1, ← Lib.toList_data, Lib.strOfNums_toList]
theorem numP_put (k n : Nat) (R : List Int) (h1 : 1 ≤ k) (h8 : k ≤ 8) (hn : n < 256 ^ k) (hb : n < 9223372036854775808) : numP (strOfNums (putL k (n : Int) ++ R)) (k : Int) = .ok (n, strOfNums R) := by
  have hl : (putL k (n : Int)).length = k := putL_length _ _
  obtain ⟨g1, g2, g3⟩ := raw_app (putL k (n : Int)) R
  rw [hl] at g1 g2 g3
  have hv : numOf (strOfNums (putL k (n : Int) ++ R)) k = n := by
    have h := numOf_all (putL k (n : Int))
    rw [beNat_put, Nat.mod_eq_of_lt hn, hl] at h
    unfold numOf at h ⊢
    rw [g2]
    have e : (strOfNums (putL k (n : Int))).extract 0 k = strOfNums (putL k (n : Int)) := by
      have := raw_app (putL k (n : Int)) []
      rw [List.append_nil, hl] at this
      exact this.2.1
    rw [e] at h
    exact h
  unfold numP
  rw [if_pos (by omega), if_neg (by omega), Int.toNat_natCast, hv, if_pos hb, g3]
theorem rawP_put (s : ByteArray) (R : List Int) : rawP (strOfNums (bytesOf s ++ R)) (s.size : Int) = .ok (s, strOfNums R) := by
  obtain ⟨g1, g2, g3⟩ := raw_app (bytesOf s) R
  rw [bytesOf_length] at g1 g2 g3
  unfold rawP
  rw [if_neg (by omega), Int.toNat_natCast, g2, g3, strOfNums_bytes]
theorem textP_put (s : ByteArray) (R : List Int) (m : Int) (hs : s.size ≤ 65535) (hm : (s.size : Int) ≤ m) : textP (strOfNums (putL 2 (s.size : Int) ++ (bytesOf s ++ R))) m = .ok (s, strOfNums R) := by
  have h := numP_put 2 s.size (bytesOf s ++ R) (by omega) (by omega) (by omega) (by omega)
  have e : ((2 : Nat) : Int) = 2 := rfl
  rw [e] at h
  unfold textP
  rw [h]
  simp only
  rw [if_neg (by omega)]
  exact rawP_put s R
/-- A change's bytes. -/
def chB (c : Ch) : List Int := [if c.gone = true then 1 else 0] ++ (putL 2 (c.key.size : Int) ++ (bytesOf c.key ++ (putL 2 (c.val.size : Int) ++ bytesOf c.val)))
theorem putL_one (n : Int) (h : 0 ≤ n) (h2 : n < 256) : putL 1 n = [n] := by simp [putL]; omega
theorem textR_eq (l : List Int) (s : ByteArray) (h : s.size ≤ 65535) : textR l s = l ++ (putL 2 (s.size : Int) ++ bytesOf s) := by
  unfold textR putR
  rw [if_pos (by omega), show min s.size 65535 = s.size by omega, List.take_of_length_le (by rw [bytesOf_length]; exact Nat.le_refl _), List.append_assoc]
  rfl
theorem putCh_eq (acc : List Int) (c : Ch) (h1 : c.key.size ≤ 65535) (h2 : c.val.size ≤ 65535) : putCh acc c = acc ++ chB c := by
  unfold putCh chB
  have e : putR acc (if c.gone then 1 else 0) 1 = acc ++ [if c.gone = true then 1 else 0] := by
    unfold putR
    rw [if_pos (by omega)]
    cases c.gone <;> rfl
  rw [e, textR_eq _ _ h1, textR_eq _ _ h2]
  simp only [List.append_assoc]
theorem putAll_eq (l : List Ch) (h : ∀ c ∈ l, c.key.size ≤ 65535 ∧ c.val.size ≤ 65535) : putAll l = putL 4 (l.length : Int) ++ l.flatMap chB := by
  have key : ∀ (l : List Ch) (acc : List Int), (∀ c ∈ l, c.key.size ≤ 65535 ∧ c.val.size ≤ 65535) → l.foldl putCh acc = acc ++ l.flatMap chB := by
    intro l
    induction l with
    | nil => intro acc _; simp
    | cons c l ih =>
      intro acc hh
      obtain ⟨h1, h2⟩ := hh c (by simp)
      rw [List.foldl_cons, ih _ (fun c hc => hh c (by simp [hc])), putCh_eq _ _ h1 h2, List.flatMap_cons, List.append_assoc]
  unfold putAll
  rw [key l _ h]
  rfl
theorem parse1_put (c : Ch) (R : List Int) (h1 : c.key.size ≤ 64) (h2 : c.val.size ≤ 300) : parse1 (strOfNums (chB c ++ R)) = some (c, strOfNums R) := by
  obtain ⟨k, v, g⟩ := c
  simp only at h1 h2
  unfold parse1 chB
  simp only
  have hg : ∃ n : Nat, n ≤ 1 ∧ (if g = true then (1 : Int) else 0) = (n : Int) ∧ ((n : Int) == 1) = g := by
    cases g
    · exact ⟨0, by omega, rfl, rfl⟩
    · exact ⟨1, by omega, rfl, rfl⟩
  obtain ⟨n, hn1, hn2, hn3⟩ := hg
  rw [hn2, ← putL_one (n : Int) (by omega) (by omega)]
  simp only [List.append_assoc]
  have h := numP_put 1 n (putL 2 (k.size : Int) ++ (bytesOf k ++ (putL 2 (v.size : Int) ++ (bytesOf v ++ R)))) (by omega) (by omega) (by omega) (by omega)
  have e : ((1 : Nat) : Int) = 1 := rfl
  rw [e] at h
  rw [h]
  simp only
  rw [if_neg (by omega), textP_put k _ 64 (by omega) (by omega)]
  simp only
  rw [textP_put v R 300 (by omega) (by omega)]
  simp only
  rw [hn3]
theorem parseN_put : ∀ (l acc : List Ch) (R : List Int), (∀ c ∈ l, c.key.size ≤ 64 ∧ c.val.size ≤ 300) → parseN l.length (strOfNums (l.flatMap chB ++ R)) acc = some (acc ++ l, strOfNums R)
  | [], acc, R, _ => by simp [parseN]
  | c :: l, acc, R, h => by
    obtain ⟨h1, h2⟩ := h c (by simp)
    rw [List.flatMap_cons, List.length_cons, List.append_assoc]
    unfold parseN
    rw [parse1_put c _ h1 h2]
    simp only
    rw [parseN_put l (acc ++ [c]) R (fun c hc => h c (by simp [hc])), List.append_assoc]
    rfl
theorem sorted_small {l : List Ch} (h : sortedP l = true) : ∀ c ∈ l, c.key.size ≤ 64 ∧ c.val.size ≤ 300 := fun c hc => by
  obtain ⟨i, hi, rfl⟩ := List.getElem_of_mem hc
  have h1 := of_decide_eq_true h i hi
  unfold goodAt at h1
  rw [Bool.and_eq_true] at h1
  have h2 := h1.1
  have e : l.getD i noCh = l[i] := by rw [List.getD_eq_getElem?_getD, List.getElem?_eq_getElem hi]; rfl
  rw [e] at h2
  obtain ⟨_, a, b, _⟩ := (okCh_iff l[i].key l[i].val l[i].gone).1 h2
  exact ⟨a, b⟩
theorem strOfNums_nil : strOfNums [] = ⟨#[]⟩ := by
  apply empty_of_size
  rw [strOfNums_size]
  rfl
/-- Changes that stand by rising keys are read back. -/
theorem getV_put (l : List Ch) (h : sortedP l = true) (hl : l.length < 4294967296) : getV (strOfNums (putAll l)) = some l := by
  have hs := sorted_small h
  have e := putAll_eq l (fun c hc => by have := hs c hc; omega)
  have h1 := numP_put 4 l.length (l.flatMap chB) (by omega) (by omega) (by omega) (by omega)
  have e4 : ((4 : Nat) : Int) = 4 := rfl
  rw [e4] at h1
  have h2 := parseN_put l [] [] hs
  rw [List.append_nil, List.nil_append, strOfNums_nil] at h2
  have hg : getG (strOfNums (putAll l)) = some (l, ⟨#[]⟩) := by
    unfold getG
    rw [e, h1]
    simp only
    rw [h2]
    simp only
    rw [if_pos h]
  unfold getV
  rw [hg]
  rfl
theorem joinL_cut (s : ByteArray) : joinL (cutP s) = s.data.toList := by
  by_cases h : s.size ≤ 512
  · rw [cutP_small h]; simp [joinL]
  · have ih := joinL_cut (s.extract 512 s.size)
    rw [cutP_big h]
    unfold joinL at ih ⊢
    rw [List.flatMap_cons, ih]
    have e : s.extract 0 512 ++ s.extract 512 s.size = s := by
      rw [← ByteArray.extract_eq_extract_append_extract 512 (by omega) (by omega)]
      exact ByteArray.extract_zero_size
    have e2 := congrArg (fun x : ByteArray => x.data.toList) e
    simp only [ByteArray.data_append, Array.toList_append] at e2
    exact e2
termination_by s.size
decreasing_by simp only [ByteArray.size_extract]; omega
theorem joinB_cut (s : ByteArray) : joinB (cutP s) = s := by
  unfold joinB
  rw [joinL_cut]
/-- What is true of the parts of a text. -/
theorem cutP_facts (s : ByteArray) (h0 : 0 < s.size) : 1 ≤ (cutP s).length ∧ ∀ i, i < (cutP s).length → 0 < ((cutP s).getD i ByteArray.empty).size ∧ ((cutP s).getD i ByteArray.empty).size ≤ 512 ∧ (i + 1 < (cutP s).length → ((cutP s).getD i ByteArray.empty).size = 512) := by
  by_cases h : s.size ≤ 512
  · rw [cutP_small h]
    refine ⟨Nat.le_refl _, fun i hi => ?_⟩
    obtain rfl : i = 0 := by simpa using hi
    exact ⟨h0, h, fun h => by simp at h⟩
  · have hsz : (s.extract 512 s.size).size = s.size - 512 := by rw [ByteArray.size_extract]; omega
    obtain ⟨ih1, ih2⟩ := cutP_facts (s.extract 512 s.size) (by omega)
    rw [cutP_big h]
    refine ⟨by simp, fun i hi => ?_⟩
    cases i with
    | zero =>
      have e : (s.extract 0 512).size = 512 := by rw [ByteArray.size_extract]; omega
      show 0 < (s.extract 0 512).size ∧ (s.extract 0 512).size ≤ 512 ∧ _
      rw [e]
      exact ⟨by omega, by omega, fun _ => e⟩
    | succ i =>
      rw [List.length_cons] at hi
      have hh := ih2 i (by omega)
      have e : (s.extract 0 512 :: cutP (s.extract 512 s.size)).getD (i + 1) ByteArray.empty = (cutP (s.extract 512 s.size)).getD i ByteArray.empty := rfl
      rw [e]
      exact ⟨hh.1, hh.2.1, fun h => hh.2.2 (by rw [List.length_cons] at h; omega)⟩
termination_by s.size
decreasing_by simp only [ByteArray.size_extract]; omega
end Go.Proofs.Ytelhclamoapnhaa
