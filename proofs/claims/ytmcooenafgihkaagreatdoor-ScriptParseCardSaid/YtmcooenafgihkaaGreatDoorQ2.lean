/- Helper lemmas: a text as a word, by the reference. No condition. -/
import Derived.Test.YtmcooenafgihkaaGreatDoorQ1
set_option linter.unusedSimpArgs false
set_option linter.unusedVariables false
namespace Go.Proofs.YtmcooenafgihkaaGreatDoor
open Go.RowKit

theorem extract_one (s : ByteArray) (i : Nat) (h : i < s.size) (c : UInt8) (hc : s.data.toList.getD i 0 = c) : s.extract i (i + 1) = ⟨#[c]⟩ := by
  apply ByteArray.ext
  apply Array.toList_inj.1
  have hl : i < s.data.toList.length := by rw [Array.length_toList]; exact h
  rw [ByteArray.data_extract, Array.toList_extract]
  rw [List.getD_eq_getElem?_getD, List.getElem?_eq_getElem hl] at hc
  simp only [Option.getD_some] at hc
  rw [← hc, List.extract_eq_drop_take', List.drop_take]
  rw [show i + 1 - i = 1 by omega, List.drop_eq_getElem_cons hl]
  rfl
theorem hex_one (a : Nat) (ha : a < 16) : (⟨#[48, 49, 50, 51, 52, 53, 54, 55, 56, 57, 97, 98, 99, 100, 101, 102]⟩ : ByteArray).extract a (a + 1) = ⟨#[hexd a]⟩ := by
  have : a = 0 ∨ a = 1 ∨ a = 2 ∨ a = 3 ∨ a = 4 ∨ a = 5 ∨ a = 6 ∨ a = 7 ∨ a = 8 ∨ a = 9 ∨ a = 10 ∨ a = 11 ∨ a = 12 ∨ a = 13 ∨ a = 14 ∨ a = 15 := by omega
  rcases this with rfl | rfl | rfl | rfl | rfl | rfl | rfl | rfl | rfl | rfl | rfl | rfl | rfl | rfl | rfl | rfl <;> rfl
theorem app_bytes (a : ByteArray) (l : List UInt8) (b : ByteArray) (m : List UInt8) (ha : a = ⟨l.toArray⟩) (hb : b = ⟨m.toArray⟩) : a ++ b = ⟨(l ++ m).toArray⟩ := by
  subst ha; subst hb
  apply ByteArray.ext
  apply Array.toList_inj.1
  simp
set_option maxHeartbeats 8000000 in
set_option maxRecDepth 100000 in
theorem rword_any (s : ByteArray) (w : World) (hs : s.size ≤ 30000000) : Calls Tryz.prog 27 #[.string s] w (fun e w' => e = .returned (.string ⟨(wordL s.data.toList).toArray⟩) ∧ Below w.heap.size w w') := by
  by_cases h0 : s.size = 0
  · obtain rfl := empty_of_size h0
    go_enter Tryz.func27, Tryz.ntmps27
    go_wp2
    go_ret
    exact ⟨rfl, Below.refl _ _⟩
  obtain ⟨n, hn⟩ : ∃ n, s.size = n := ⟨_, rfl⟩
  have HN := Lib.hid (show s.data.toList.length = n by rw [Array.length_toList]; exact hn)
  have hne := nonempty_of_size (show 0 < s.size by omega)
  have HW := Lib.hid (show wordL s.data.toList = s.data.toList.flatMap wordC by
    unfold wordL
    rw [if_neg]
    intro e
    have := HN.out
    rw [e] at this
    simp at this
    omega)
  have HFL := Lib.hid (fun i => flat_len (s.data.toList.take i))
  have HNB := Lib.hid (show n ≤ 30000000 by omega)
  clear h0 hs
  go_enter Tryz.func27, Tryz.ntmps27
  go_wp2
  go_loopw [3, 11] (fun v3 v11 wr => ∃ (i : Nat) (acc : ByteArray), i ≤ n ∧ v11 = .int .i64 (i : Int) ∧ v3 = .string acc ∧ Hid (acc = ⟨((s.data.toList.take i).flatMap wordC).toArray⟩) ∧ Hid (Below w.heap.size w wr)) (fun _ i _ => ((n : Int) - intOf i).toNat)
  case atStart => exact ⟨0, ⟨#[]⟩, Nat.zero_le _, rfl, rfl, Lib.hid rfl, Lib.hid (Below.refl _ _)⟩
  case round =>
    obtain ⟨i, acc, hi, rfl, rfl, HA, HB⟩ := hrel
    by_cases hin : i = n
    · subst hin
      have HE := Lib.hid (show acc = ⟨(wordL s.data.toList).toArray⟩ by
        rw [HA.out, List.take_of_length_le (by rw [HN.out]; exact Nat.le_refl _), HW.out])
      go_wp2
      go_ret
      exact ⟨by rw [HE.out]; rfl, HB.out⟩
    · have hlt : (i : Int) < (n : Int) := by omega
      have hge : (0 : Int) ≤ (i : Int) := by omega
      have hnl : ¬ (i : Int) < 0 := by omega
      have hle : (i : Int) + 1 ≤ (n : Int) := by omega
      have hle2 : (i : Int) ≤ (i : Int) + 1 := by omega
      have ht1 : ((i : Int) + 1).toNat = i + 1 := by omega
      have hwr : wrap64 ((i : Int) + 1) = (i : Int) + 1 := by have := HNB.out; rw [wrap64_eq]; omega
      have HFT := Lib.hid (flat_take s.data.toList i (by rw [HN.out]; omega))
      have HAL := Lib.hid (show acc.size ≤ 90000000 by
        rw [HA.out]
        have h1 := HFL.out i
        have h2 : (s.data.toList.take i).length ≤ i := List.length_take_le ..
        have h3 : (⟨((s.data.toList.take i).flatMap wordC).toArray⟩ : ByteArray).size = ((s.data.toList.take i).flatMap wordC).length := rfl
        have := HNB.out
        omega)
      have hidx : ∀ h : i < s.size, s[i]'h = s.data.toList.getD i 0 := fun h => by
        rw [List.getD_eq_getElem?_getD, List.getElem?_eq_getElem (by simpa using h)]
        simp [ByteArray.getElem_eq_getElem_data]
      obtain ⟨c, hc⟩ : ∃ c, s.data.toList.getD i 0 = c := ⟨_, rfl⟩
      have hex1 := extract_one s i (by omega) c hc
      rw [hc] at HFT hidx
      have HP := Lib.hid (fun W => rplain_any c W)
      clear hc
      cases hp : plainB c with
      | true =>
        rw [hp] at HP
        have HWC := Lib.hid (show wordC c = [c] by unfold wordC; rw [if_pos hp])
        have hz1 : (9223372036854775807 < acc.size + 1) = False := eq_false (by have := HAL.out; omega)
        have hz2 : (9223372036854775807 < acc.size + (⟨#[c]⟩ : ByteArray).size) = False := eq_false (by have := HAL.out; have : (⟨#[c]⟩ : ByteArray).size = 1 := rfl; omega)
        clear hp
        go_wp2_with (go_at_call 48; (with_reducible refine (HP.out _).mono ?_); rintro e1 w1 ⟨rfl, hw⟩; replace hw := hw.symm; subst hw)
        go_roundw
        case rel => exact ⟨i + 1, _, by omega, by rw [hwr]; rfl, rfl, Lib.hid (by rw [HFT.out, HWC.out]; exact app_bytes _ _ _ _ HA.out rfl), HB⟩
        case measure => rw [intOf_lit, intOf_lit, hwr]; omega
      | false =>
        rw [hp] at HP
        obtain ⟨a, ha⟩ : ∃ a, c.toNat / 16 = a := ⟨_, rfl⟩
        obtain ⟨b, hb⟩ : ∃ b, c.toNat % 16 = b := ⟨_, rfl⟩
        have HWC := Lib.hid (show wordC c = [37, hexd a, hexd b] by unfold wordC; rw [if_neg (by rw [hp]; decide), ha, hb])
        have hc256 := c.toNat_lt
        have ha16 : a < 16 := by omega
        have hb16 : b < 16 := by omega
        have q1 : ((c.toNat : Int)).tdiv 16 = (a : Int) := by rw [Int.tdiv_eq_ediv_of_nonneg (by omega)]; omega
        have q2 : ((c.toNat : Int)) / 16 = (a : Int) := by omega
        have q3 : ((c.toNat : Int)).tmod 16 = (b : Int) := by rw [Int.tmod_eq_emod_of_nonneg (by omega)]; omega
        have q4 : ((c.toNat : Int)) % 16 = (b : Int) := by omega
        have xa := hex_one a ha16
        have xb := hex_one b hb16
        have wa : IntKind.u8.wrap ((a : Int) + 1) = (a : Int) + 1 := by show ((a : Int) + 1) % 256 = _; omega
        have wb : IntKind.u8.wrap ((b : Int) + 1) = (b : Int) + 1 := by show ((b : Int) + 1) % 256 = _; omega
        have wa2 : ((a : Int) + 1) % 256 = (a : Int) + 1 := by omega
        have wb2 : ((b : Int) + 1) % 256 = (b : Int) + 1 := by omega
        have ta : ((a : Int) + 1).toNat = a + 1 := by omega
        have tb : ((b : Int) + 1).toNat = b + 1 := by omega
        have la : (0 : Int) ≤ (a : Int) := by omega
        have lb : (0 : Int) ≤ (b : Int) := by omega
        have la2 : (a : Int) + 1 ≤ 16 := by omega
        have lb2 : (b : Int) + 1 ≤ 16 := by omega
        have la3 : (a : Int) ≤ (a : Int) + 1 := by omega
        have lb3 : (b : Int) ≤ (b : Int) + 1 := by omega
        have hz1 : (9223372036854775807 < acc.size + 1) = False := eq_false (by have := HAL.out; omega)
        have hz2 : (9223372036854775807 < acc.size + 1 + 1) = False := eq_false (by have := HAL.out; omega)
        have hz3 : (9223372036854775807 < acc.size + 1 + 1 + 1) = False := eq_false (by have := HAL.out; omega)
        clear hp ha hb hc256
        go_wp2_with (go_at_call 48; (with_reducible refine (HP.out _).mono ?_); rintro e1 w1 ⟨rfl, hw⟩; replace hw := hw.symm; subst hw)
        refine wp_region_mix [(0, true), (1, true), (2, true), (3, true), (4, true), (5, true), (6, true), (7, true), (8, true), (9, true), (10, true), (11, true), (12, true)] (by kernel_rfl) (by kernel_rfl) rfl (by kernel_rfl) (by intro _ _ d _ _ h; cases d <;> exact h) ?_; intro j1; (repeat (first | (refine wpMix_skipK rfl rfl ?_; intro K hK; go_simp; refine hK _ ?_; clear hK K) | (refine wpMix_light rfl rfl ?_; intro K hK; go_simp; refine hK _ ?_; clear hK K) | (refine wpMix_heavy rfl rfl ?_; intro K hK; go_wp2_with (fail); refine ⟨w_ext_of_below (by (repeat' (first | (with_reducible exact Below.refl _ _) | (with_reducible assumption) | (with_reducible exact below_app _ _ _ _) | (with_reducible refine below_pre ?_; (simp only [List.append_assoc, List.prefix_append, List.prefix_refl, List.prefix_append_right_inj])) | (with_reducible refine Below.alloc ?_ ?_ _) | (with_reducible refine below_ext ?_ ?_ _) | (with_reducible refine Below.drew ?_) | (with_reducible refine below_drewN ?_ _) | (with_reducible refine Below.setCell ?_ ?_ _) | go_size | (simp only [w_size_ext, List.length_append, World.alloc_size]; omega) | (simp; done) | (simp; omega)))), ?_⟩))); refine wpMix_nil ?_
        go_wp2
        go_roundw
        case rel => exact ⟨i + 1, _, by omega, by rw [hwr]; rfl, rfl, Lib.hid (by rw [HFT.out, HWC.out]; exact (app_bytes _ _ _ _ (app_bytes _ _ _ _ (app_bytes _ _ _ _ HA.out rfl) rfl) rfl).trans (by simp)), Lib.hid (below_tr HB.out (w_ext_below _ _))⟩
        case measure => rw [intOf_lit, intOf_lit, hwr]; omega
end Go.Proofs.YtmcooenafgihkaaGreatDoor
