/- Helper lemmas: the closure that reads numbers and texts again. No condition. -/
import Derived.Test.YtdjmpedfeahajaaB1
import Derived.Test.YtdjmpedfeahajaaR4
set_option linter.unusedSimpArgs false
set_option linter.unusedVariables false
namespace Go.Proofs.Ytdjmpedfeahajaa
open Go.RowKit Go.Proofs.YtdjmpedfeahajaaW.PrintWords Go.Proofs.YtdjmpedfeahajaaW.PrintLast Go.Proofs.YtdjmpedfeahajaaW.PrintMore

/-- What is left of numbers in so many bytes, ahead of T. -/
def numsR (k : Nat) (l : List Int) (T : List Int) : List Int := l.flatMap (putL k) ++ T
theorem numsR_drop (k : Nat) (l T : List Int) (i : Nat) (hi : i < l.length) : numsR k (l.drop i) T = putL k (l.getD i 0) ++ numsR k (l.drop (i + 1)) T := by
  unfold numsR
  rw [List.drop_eq_getElem_cons hi, List.flatMap_cons, List.append_assoc, List.getD_eq_getElem?_getD, List.getElem?_eq_getElem hi]
  rfl
theorem raw_put (k : Nat) (n : Int) (R : List Int) : k ≤ (strOfNums (putL k n ++ R)).size ∧ (strOfNums (putL k n ++ R)).extract 0 k = strOfNums (putL k n) ∧ (strOfNums (putL k n ++ R)).extract k (strOfNums (putL k n ++ R)).size = strOfNums R := by
  have hd : (strOfNums (putL k n ++ R)).data.toList = Lib.bytesOf (putL k n) ++ Lib.bytesOf R := by rw [← Lib.toList_data, Lib.strOfNums_toList, bytesOf_app]
  have hl : (Lib.bytesOf (putL k n)).length = k := by rw [Lib.bytesOf_length, putL_length]
  have hsz : (strOfNums (putL k n ++ R)).size = k + R.length := by rw [strOfNums_size, List.length_append, putL_length]
  refine ⟨by omega, ?_, ?_⟩
  · apply ByteArray.ext
    apply Array.toList_inj.1
    have h1 := Lib.extract_toList (strOfNums (putL k n ++ R)) 0 k
    rw [Lib.toList_data, hd, List.drop_zero, Nat.sub_zero, List.take_append_of_le_length (by omega), List.take_of_length_le (by omega)] at h1
    rw [h1, ← Lib.toList_data, Lib.strOfNums_toList]
  · apply ByteArray.ext
    apply Array.toList_inj.1
    have h1 := Lib.extract_toList (strOfNums (putL k n ++ R)) k (strOfNums (putL k n ++ R)).size
    rw [Lib.toList_data, hd, List.drop_append_of_le_length (by omega), List.drop_of_length_le (by omega), List.nil_append, List.take_of_length_le (by rw [hsz, Lib.bytesOf_length]; omega)] at h1
    rw [h1, ← Lib.toList_data, Lib.strOfNums_toList]
theorem raw_app (x R : List Int) : x.length ≤ (strOfNums (x ++ R)).size ∧ (strOfNums (x ++ R)).extract 0 x.length = strOfNums x ∧ (strOfNums (x ++ R)).extract x.length (strOfNums (x ++ R)).size = strOfNums R := by
  have hd : (strOfNums (x ++ R)).data.toList = Lib.bytesOf x ++ Lib.bytesOf R := by rw [← Lib.toList_data, Lib.strOfNums_toList, bytesOf_app]
  have hl : (Lib.bytesOf x).length = x.length := by rw [Lib.bytesOf_length]
  have hsz : (strOfNums (x ++ R)).size = x.length + R.length := by rw [strOfNums_size, List.length_append]
  refine ⟨by omega, ?_, ?_⟩
  · apply ByteArray.ext
    apply Array.toList_inj.1
    have h1 := Lib.extract_toList (strOfNums (x ++ R)) 0 x.length
    rw [Lib.toList_data, hd, List.drop_zero, Nat.sub_zero, List.take_append_of_le_length (by omega), List.take_of_length_le (by omega)] at h1
    rw [h1, ← Lib.toList_data, Lib.strOfNums_toList]
  · apply ByteArray.ext
    apply Array.toList_inj.1
    have h1 := Lib.extract_toList (strOfNums (x ++ R)) x.length (strOfNums (x ++ R)).size
    rw [Lib.toList_data, hd, List.drop_append_of_le_length (by omega), List.drop_of_length_le (by omega), List.nil_append, List.take_of_length_le (by rw [hsz, Lib.bytesOf_length]; omega)] at h1
    rw [h1, ← Lib.toList_data, Lib.strOfNums_toList]
theorem strOfNums_bytes (s : ByteArray) : strOfNums (bytesOf s) = s := by
  apply ByteArray.ext
  apply Array.toList_inj.1
  rw [← Lib.toList_data, Lib.strOfNums_toList]
  simp [Lib.bytesOf, bytesOf]
  exact List.map_id'' (fun b => by simp) _
/-- What is left of texts. -/
def textB (s : ByteArray) : List Int := putL 2 (s.size : Int) ++ bytesOf s
def textsR (l : List ByteArray) : List Int := l.flatMap textB
theorem textsR_drop (l : List ByteArray) (i : Nat) (hi : i < l.length) : textsR (l.drop i) = putL 2 ((l.getD i ByteArray.empty).size : Int) ++ (bytesOf (l.getD i ByteArray.empty) ++ textsR (l.drop (i + 1))) := by
  unfold textsR
  rw [List.drop_eq_getElem_cons hi, List.flatMap_cons, List.getD_eq_getElem?_getD, List.getElem?_eq_getElem hi]
  simp [textB]
/-- A text ahead of others. -/
theorem text_facts (s : ByteArray) (R : List Int) (hs : s.size ≤ 8192) : Nx (strOfNums (putL 2 (s.size : Int) ++ (bytesOf s ++ R))) 2 s.size (strOfNums (bytesOf s ++ R)) ∧ s.size ≤ (strOfNums (bytesOf s ++ R)).size ∧
    (strOfNums (bytesOf s ++ R)).extract 0 s.size = s ∧ (strOfNums (bytesOf s ++ R)).extract s.size (strOfNums (bytesOf s ++ R)).size = strOfNums R := by
  have h := raw_app (bytesOf s) R
  rw [bytesOf_length, strOfNums_bytes] at h
  exact ⟨nx_put 2 s.size _ (by omega) (by omega), h⟩
theorem text_yes8 (b : Nat) (s t : ByteArray) (m : Nat) (w : World) (hr : w.cell? ⟨b, 0, none⟩ = some (.string s)) (ho : w.cell? ⟨b, 1, none⟩ = some (.bool true)) (hf : w.frozen? ⟨b, 0, none⟩ = false) (h : Nx s 2 m t) (hm : m ≤ 8192) (ht : m ≤ t.size) :
    Calls Try.prog 61 #[eyeP b, .int .i64 8192] w fun e w' => e = .returned (.string (t.extract 0 m)) ∧ ∃ j, w' = wext (eyeSet w b (t.extract m t.size)) j := text_yes b s t m 8192 w hr ho hf h hm ht

set_option maxHeartbeats 4000000 in
set_option maxRecDepth 100000 in
theorem look59 (b pn pw po pt : Nat) (A B : Option Addr) (c d : Nat) (nums : List Int) (texts : List ByteArray) (k : Nat) (T : List Int) (hT : T = textsR texts) (w : World) (h1 : 1 ≤ k) (h8 : k ≤ 8) (hl1 : nums.length ≤ 100) (hl2 : texts.length ≤ 100)
    (hr : w.cell? ⟨b, 0, none⟩ = some (.string (strOfNums (numsR k nums T)))) (ho : w.cell? ⟨b, 1, none⟩ = some (.bool true)) (hf : w.frozen? ⟨b, 0, none⟩ = false)
    (cn : w.cell? ⟨pn, 0, none⟩ = some (.slice A nums.length c)) (cw : w.cell? ⟨pw, 0, none⟩ = some (.int .i64 (k : Int))) (co : w.cell? ⟨po, 0, none⟩ = some (.bool true)) (fo : w.frozen? ⟨po, 0, none⟩ = false) (ct : w.cell? ⟨pt, 0, none⟩ = some (.slice B texts.length d))
    (n1 : ¬ pn = b) (n2 : ¬ pw = b) (n3 : ¬ po = b) (n4 : ¬ pt = b)
    (hN : ∀ i, i < nums.length → ∃ b' o, A = some ⟨b', o, none⟩ ∧ ¬ b' = b ∧ w.cell? ⟨b', o + i, none⟩ = some (.int .i64 (nums.getD i 0)))
    (hX : ∀ i, i < texts.length → ∃ b' o, B = some ⟨b', o, none⟩ ∧ ¬ b' = b ∧ w.cell? ⟨b', o + i, none⟩ = some (.string (texts.getD i ByteArray.empty))) (hZ : ∀ i, i < texts.length → (texts.getD i ByteArray.empty).size ≤ 8192) :
    Calls Try.prog 59 #[eyeP b, .pointer (some ⟨pn, 0, none⟩), .pointer (some ⟨pw, 0, none⟩), .pointer (some ⟨po, 0, none⟩), .pointer (some ⟨pt, 0, none⟩)] w fun e w' => e = .returned (.tuple #[]) ∧ ∃ j, w' = wext (eyeSet w b ⟨#[]⟩) j := by
  have hlt := leB_of_cell ho
  have hln := leB_of_cell cn
  have hlw := leB_of_cell cw
  have hlo := leB_of_cell co
  have hlq := leB_of_cell ct
  have HN := Lib.hid hN
  have HX := Lib.hid hX
  have HZ := Lib.hid hZ
  have HT := Lib.hid hT
  clear hN hX hZ hT
  have hnil : strOfNums [] = ⟨#[]⟩ := by decide +kernel
  have HNIL := Lib.hid hnil
  clear hnil
  have hso : ∀ s : ByteArray, (w.setCell ⟨b, 0, none⟩ (.string s)).setCell ⟨po, 0, none⟩ (.bool true) = w.setCell ⟨b, 0, none⟩ (.string s) := fun s => w_setCell_same (by simp [go_sem, co, n3])
  obtain ⟨m, hm⟩ : ∃ m, nums.length = m := ⟨_, rfl⟩
  rw [hm] at cn hl1
  obtain ⟨m2, hm2⟩ : ∃ m, texts.length = m := ⟨_, rfl⟩
  rw [hm2] at ct hl2
  have HM2 := Lib.hid hm2
  clear hm2
  have HM := Lib.hid hm
  clear hm
  go_enter Try.func59, Try.ntmps59
  go_wp2
  go_loopw [13] (fun v13 wr => ∃ (i : Nat) (j : Junk), i ≤ m ∧ v13 = .int .i64 (i : Int) ∧ wr = wext (eyeSet w b (strOfNums (numsR k (nums.drop i) T))) j) (fun i _ => ((m : Int) - intOf i).toNat)
  case atStart => exact ⟨0, ⟨[], w.drawn⟩, Nat.zero_le _, rfl, by rw [List.drop_zero]; show w = wext (w.setCell _ _) _; rw [w_setCell_same hr]; simp [wext]⟩
  case round =>
    obtain ⟨i, j, hi, rfl, rfl⟩ := hrel
    by_cases h0 : i = m
    · subst h0
      have hTT : numsR k (nums.drop i) T = T := by
        unfold numsR
        rw [List.drop_of_length_le (Nat.le_of_eq HM.out)]
        rfl
      rw [hTT]
      clear hTT
      go_wp2
      go_loopw [32] (fun v32 wr => ∃ (i' : Nat) (j' : Junk), i' ≤ m2 ∧ v32 = .int .i64 (i' : Int) ∧ wr = wext (eyeSet w b (strOfNums (textsR (texts.drop i')))) j') (fun i' _ => ((m2 : Int) - intOf i').toNat)
      case atStart => exact ⟨0, j, Nat.zero_le _, rfl, by rw [List.drop_zero, HT.out]⟩
      case round =>
        obtain ⟨i', j', hi', rfl, rfl⟩ := hrel
        by_cases h0 : i' = m2
        · subst h0
          rw [show textsR (texts.drop i') = [] by (rw [List.drop_of_length_le (Nat.le_of_eq HM2.out)]; rfl), HNIL.out]
          go_wp2_with (go_at_call 62; (with_reducible refine (left_on b ⟨#[]⟩ _ ?_ ?_).mono ?_); (· go_cell); (· go_cell); rintro e1 w1 ⟨rfl, j1, rfl⟩)
          go_end0
          exact ⟨rfl, _, rfl⟩
        · obtain ⟨b', o, eA, nb, hc⟩ := HX.out i' (by have := HM2.out; omega)
          subst eA
          have hlb := leB_of_cell hc
          have hlti : (i' : Int) < (m2 : Int) := by omega
          have hge : (0 : Int) ≤ (i' : Int) := by omega
          have hnl : ¬ (i' : Int) < 0 := by omega
          have hwr : wrap64 ((i' : Int) + 1) = ((i' + 1 : Nat) : Int) := by rw [wrap64_eq]; omega
          have hsz := HZ.out i' (by have := HM2.out; omega)
          rw [textsR_drop texts i' (by have := HM2.out; omega)]
          obtain ⟨x, hx⟩ : ∃ x, texts.getD i' ByteArray.empty = x := ⟨_, rfl⟩
          rw [hx] at hc hsz ⊢
          clear hx
          obtain ⟨Rr, hRr⟩ : ∃ Rr, textsR (texts.drop (i' + 1)) = Rr := ⟨_, rfl⟩
          rw [hRr]
          have HRR := Lib.hid hRr
          have HTF := Lib.hid (text_facts x Rr hsz)
          have HSZ := Lib.hid hsz
          clear hRr hsz
          go_wp2_with (go_at_call 61; (with_reducible refine (text_yes8 b _ _ x.size _ ?_ ?_ ?_ HTF.out.1 HSZ.out HTF.out.2.1).mono ?_); (· go_cell); (· go_cell); (· simp [go_sem, hlt, hf]); rw [HTF.out.2.2.1, HTF.out.2.2.2]; rintro e1 w1 ⟨rfl, j1, rfl⟩)
          go_roundw
          case rel => exact ⟨i' + 1, _, by omega, rfl, by rw [HRR.out]⟩
          case measure => simp [intOf]; omega
    · obtain ⟨b', o, eA, nb, hc⟩ := HN.out i (by have := HM.out; omega)
      subst eA
      have hlb := leB_of_cell hc
      have hlti : (i : Int) < (m : Int) := by omega
      have hge : (0 : Int) ≤ (i : Int) := by omega
      have hnl : ¬ (i : Int) < 0 := by omega
      have hwr : wrap64 ((i : Int) + 1) = ((i + 1 : Nat) : Int) := by rw [wrap64_eq]; omega
      rw [numsR_drop k nums T i (by have := HM.out; omega)]
      have RP := Lib.hid (raw_put k (nums.getD i 0) (numsR k (nums.drop (i + 1)) T))
      generalize nums.getD i 0 = n at *
      obtain ⟨Rr, hRr⟩ : ∃ Rr, numsR k (nums.drop (i + 1)) T = Rr := ⟨_, rfl⟩
      rw [hRr] at RP ⊢
      have HRR := Lib.hid hRr
      clear hRr
      go_wp2_with (first | (go_at_call 60; (with_reducible refine (raw_nx b _ k _ rfl _ ?_ ?_ ?_ RP.out.1).mono ?_); (· go_cell); (· go_cell); (· simp [go_sem, hlt, hf]); rw [RP.out.2.1, RP.out.2.2]; rintro e1 w1 ⟨rfl, j1, rfl⟩) | (go_at_call 47; (with_reducible refine (put_any _ k _ h1 h8).mono ?_); rintro e1 w1 ⟨Ap, cp, rfl, j1, rfl, hp⟩; (try simp only [w_ext_ext] at hp); have hcv := conv_read hp cp _ (Below.refl _ _); rw [putL_length] at hcv; (try simp only [w_ext_ext, eyeSet, List.append_assoc] at hcv); clear hp))
      go_roundw
      case rel => exact ⟨i + 1, _, by omega, rfl, by rw [HRR.out]⟩
      case measure => simp [intOf]; omega
end Go.Proofs.Ytdjmpedfeahajaa
