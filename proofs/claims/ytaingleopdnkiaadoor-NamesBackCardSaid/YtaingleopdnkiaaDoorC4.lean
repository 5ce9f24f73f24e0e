/- Helper lemmas: the reference's Split is the same. No condition. -/
import Derived.Test.YtaingleopdnkiaaDoorC3
import Derived.Test.YtaingleopdnkiaaDoorB3
set_option linter.unusedSimpArgs false
set_option linter.unusedVariables false
namespace Go.Proofs.YtaingleopdnkiaaDoor
open Go.RowKit Go.Proofs.YtaingleopdnkiaaDoorW.PrintWords PParent

theorem good_up (s : ByteArray) (r : Int) (k : Nat) (h : crannogref04_Good.f k s = some r) : ∀ d, crannogref04_Good.f (k + d) s = some r
  | 0 => h
  | d + 1 => crannogref04_Good.mono s (k + d) r (good_up s r k h d)
theorem good_all : ∀ l : List ByteArray, (∀ x ∈ l, x.size < 4611686018427387904) → ∃ K, ∀ x ∈ l, ∀ d, crannogref04_Good.f (K + d) x = some (goodE x)
  | [], _ => ⟨0, fun x hx => by cases hx⟩
  | y :: l, h => by
    obtain ⟨K, hK⟩ := good_all l (fun x hx => h x (List.mem_cons_of_mem _ hx))
    obtain ⟨k, hk⟩ := ref_good y (h y (List.mem_cons_self ..))
    refine ⟨K + k, fun x hx d => ?_⟩
    rcases List.mem_cons.1 hx with rfl | hx
    · have := good_up x _ k hk (K + d)
      rwa [show k + (K + d) = K + k + d by omega] at this
    · have := hK x hx (k + d)
      rwa [show K + (k + d) = K + k + d by omega] at this
theorem l1_loop (l : List ByteArray) (hl : l.length ≤ 8) (K : Nat) (hK : ∀ x ∈ l, ∀ d, crannogref04_Good.f (K + d) x = some (goodE x)) : ∀ (m i : Nat), i + m = l.length →
    crannogref04_Split.l1 (K + m + 1) l l (l.length : Int) (i : Int) = some (if badE (l.drop i) = 0 then (l, 0) else ([], badE (l.drop i)))
  | 0, i, h => by
    rw [crannogref04_Split.l1, if_neg (by omega), List.drop_of_length_le (by omega)]
    rfl
  | m + 1, i, h => by
    have hi : i < l.length := by omega
    have hw : wrap64 ((i : Int) + 1) = ((i + 1 : Nat) : Int) := by rw [wrap64_eq]; omega
    have ih := l1_loop l hl K hK m (i + 1) (by omega)
    have hr : rdOf ByteArray.empty l (i : Int) = l.getD i ByteArray.empty := rfl
    have hmem : l.getD i ByteArray.empty ∈ l := by
      rw [List.getD_eq_getElem?_getD, List.getElem?_eq_getElem hi]
      exact List.getElem_mem hi
    have hg := hK _ hmem (m + 1)
    rw [show K + (m + 1) = K + m + 1 by omega] at hg
    show crannogref04_Split.l1 (K + m + 1 + 1) _ _ _ _ = _
    rw [crannogref04_Split.l1, if_pos (by omega), if_pos (by omega), if_pos (by omega), hr, hg, Option.bind_some, badE_step l i hi]
    by_cases h0 : goodE (l.getD i ByteArray.empty) = 0
    · rw [if_pos h0, if_pos h0, hw, ih]
    · rw [if_neg h0, if_neg h0, if_neg h0]
theorem map_data_inj (a b : List ByteArray) (h : a.map (·.data.toList) = b.map (·.data.toList)) : a = b :=
  (List.map_inj_right (fun x y e => ByteArray.ext (Array.toList_inj.1 e))).1 h
theorem cuts_len : ∀ (l : List UInt8) (x : List UInt8), x ∈ cuts l → x.length ≤ l.length
  | [], x, h => by
    rw [cuts, List.mem_singleton] at h
    rw [h]
    exact Nat.le_refl _
  | b :: l, x, h => by
    have ih := cuts_len l
    unfold cuts at h
    by_cases h47 : (b == 47) = true
    · rw [if_pos h47] at h
      rcases List.mem_cons.1 h with rfl | h
      · simp
      · have := ih x h
        rw [List.length_cons]; omega
    · rw [if_neg h47] at h
      cases hc : cuts l with
      | nil => exact absurd hc (cuts_ne _)
      | cons y r =>
        rw [hc] at h ih
        simp only at h
        rcases List.mem_cons.1 h with rfl | h
        · have := ih y (List.mem_cons_self ..)
          rw [List.length_cons, List.length_cons]; omega
        · have := ih x (List.mem_cons_of_mem _ h)
          rw [List.length_cons]; omega
theorem cutL_size (t x : ByteArray) (h : x ∈ cutL t) : x.size ≤ t.size := by
  have h1 : x.data.toList ∈ (cutL t).map (·.data.toList) := List.mem_map.2 ⟨x, h, rfl⟩
  rw [cutL_cuts] at h1
  have h2 := cuts_len _ _ h1
  rw [Array.length_toList, Array.length_toList] at h2
  exact h2
theorem ref_split (s : ByteArray) : ∃ k, crannogref04_Split.f k s = some (splitR s) := by
  unfold splitR
  by_cases h120 : (s.size : Int) > 120
  · exact ⟨0, by rw [crannogref04_Split.f, if_pos h120, if_pos h120]⟩
  simp only [if_neg h120]
  by_cases h0 : s.toList = ([] : List UInt8)
  · exact ⟨1, by rw [crannogref04_Split.f, if_neg h120, if_pos h0, if_pos h0, crannogref04_Split.j0, if_pos rfl]⟩
  simp only [if_neg h0]
  have hpos : 0 < s.size := by
    rcases Nat.eq_zero_or_pos s.size with hz | hz
    · obtain rfl : s = ⟨#[]⟩ := ByteArray.ext (Array.eq_empty_of_size_eq_zero hz)
      exact absurd (by decide +kernel) h0
    · exact hz
  have hb : bt s 0 = ((s[0]'hpos).toNat : Int) := by
    unfold bt
    rw [dif_pos (show (0 : Int).toNat < s.size from hpos)]
    rfl
  rw [first_eq s hpos, ← hb]
  by_cases h47 : bt s 0 = 47
  case neg =>
    rw [if_pos h47]
    exact ⟨1, by rw [crannogref04_Split.f, if_neg h120, if_neg h0, if_pos (by omega), crannogref04_Split.j0, if_pos (by simpa using h47)]⟩
  rw [if_neg (fun h => h h47)]
  by_cases hr : s.toList = ([47] : List UInt8)
  · rw [if_pos hr]
    exact ⟨1, by rw [crannogref04_Split.f, if_neg h120, if_neg h0, if_pos (by omega), crannogref04_Split.j0, if_neg (by simp [h47]), if_pos hr]⟩
  rw [if_neg hr]
  obtain ⟨K, hK⟩ := good_all (cutL (s.extract 1 s.size)) (fun x hx => by
    have h1 := cutL_size _ x hx
    rw [ByteArray.size_extract] at h1
    omega)
  have hcut := cutL_cuts (s.extract 1 s.size)
  generalize cutL (s.extract 1 s.size) = l at *
  obtain ⟨P, hP, hloop⟩ := refloop s (by omega) (K + l.length + 1) (s.size - 1) 1 1 [] (by omega) (by omega) (by omega) (by simp)
  have hPl : P = l := map_data_inj _ _ (by
    rw [hP, hcut, seg_data]
    have hlen : s.data.toList.length = s.size := by simp
    rw [Nat.sub_self, List.take_zero, List.take_of_length_le (by rw [List.length_drop]; omega)]
    cases hc : cuts (List.drop 1 s.data.toList) with
    | nil => exact absurd hc (cuts_ne _)
    | cons x r => rfl)
  subst hPl
  rw [List.nil_append] at hloop
  have hw1 : wrap64 ((s.size : Int) + 1) = (s.size : Int) + 1 := by rw [wrap64_eq]; omega
  have hw2 : wrap64 ((0 : Int) + 1) = ((1 : Nat) : Int) := by rw [wrap64_eq]; omega
  refine ⟨(K + P.length + 1) + (s.size - 1) + 2 + 1 + 1, ?_⟩
  rw [crannogref04_Split.f, if_neg h120, if_neg h0, if_pos (by omega), crannogref04_Split.j0, if_neg (by simp [h47]), if_neg hr, hw1, crannogref04_Split.l0, if_pos (by omega), if_neg (by omega), hw2]
  refine hloop.trans ?_
  unfold finR
  by_cases h8 : (P.length : Int) > 8
  · rw [if_pos h8, if_pos h8]
  · rw [if_neg h8, if_neg h8]
    have := l1_loop P (by omega) K hK P.length 0 (by omega)
    rw [List.drop_zero] at this
    exact this
theorem refsplit_any (s : ByteArray) (w : World) : Calls Tryd.prog 20 #[.string s] w fun e w' => ∃ v : Value, e = .returned (.tuple #[v, .int .i64 (splitR s).2]) ∧ Kd.R Kd.string 9 w' w.heap.size (fun _ => True) v (splitR s).1 ∧ Below w.heap.size w w' := by
  obtain ⟨k, hk⟩ := ref_split s
  exact crannogref04_Split.calls k s (splitR s).1 (splitR s).2 w hk
end Go.Proofs.YtaingleopdnkiaaDoor
