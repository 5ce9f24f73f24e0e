/- Helper lemmas: the text of a word, by the program. No condition. -/
import Derived.Test.YtmcooenafgihkaaGreatDoorP2
import Derived.Laws.BytesString
import Derived.Laws.BytesArg
import Derived.Laws.Cells
set_option linter.unusedSimpArgs false
set_option linter.unusedVariables false
namespace Go.Proofs.YtmcooenafgihkaaGreatDoor
open Go.RowKit

/-- A row of one's own that holds these bytes. -/
abbrev OwnB (w : World) (B : Nat) (v : Value) (l : List UInt8) : Prop := w.ownsRow B 5 1 v (Lib.byteCells l).length (Lib.byteCells l)
theorem push_all (l : List UInt8) (r : ByteArray) : (l.map fun b => (b.toNat : Int)).foldl (fun (r : ByteArray) n => r.push (UInt8.ofNat n.toNat)) r = ⟨r.data ++ l.toArray⟩ := by
  induction l generalizing r with
  | nil => simp
  | cons c l ih =>
    rw [List.map_cons, List.foldl_cons, ih]
    apply ByteArray.ext
    apply Array.toList_inj.1
    simp [ByteArray.push]
theorem conv_own {w : World} {B : Nat} {v : Value} {l : List UInt8} (h : OwnB w B v l) : (convert 59 9 v).run Tryz.prog w = .ok (.string ⟨l.toArray⟩) w := by
  obtain ⟨_, ⟨rfl, h0⟩ | ⟨g, cap, cur, rfl, h1, h2, h3, h4, h5, h6⟩⟩ := id h
  · have hl : l = [] := by
      rw [Lib.byteCells_length] at h0
      exact List.eq_nil_of_length_eq_zero h0
    subst hl
    exact run_convert_bytes_nil w 59 5 Tryz.underlying59 Tryz.underlying5 0 0 _ Tryz.underlying9
  · rw [run_convert_bytes_string w 59 9 5 _ _ _ Tryz.underlying59 Tryz.underlying5 Tryz.underlying9]
    have hl := run_loadCells_list (P := Tryz.prog) (w := w) ⟨g, 0, none⟩ (Lib.byteCells l) (fun k u hu => h.cells (g := g) rfl k u hu)
    have e : Lib.byteCells l = (l.map fun b => (b.toNat : Int)).map (Value.int .u8) := by unfold Lib.byteCells; rw [List.map_map]; rfl
    rw [e] at hl
    rw [List.length_map, List.length_map] at hl
    rw [Lib.byteCells_length]
    rw [run_bytesToString w ⟨g, 0, none⟩ l.length cap (l.map fun b => (b.toNat : Int)) hl, push_all]
    simp
theorem own_sl {w : World} {B e k n : Nat} {v : Value} {xs : List Value} (h : w.ownsRow B e k v n xs) : ∃ (A : Option Addr) (m c : Nat), v = .slice A m c := by
  rcases h.2 with ⟨hv, _⟩ | ⟨g, cap, cur, hv, _⟩
  · exact ⟨_, _, _, hv⟩
  · exact ⟨_, _, _, hv⟩
theorem own_below {w w' : World} {B e k n : Nat} {v : Value} {xs : List Value} (h : w.ownsRow B e k v n xs) (hb : Below w.heap.size w w') : w'.ownsRow B e k v n xs := own_same h fun g _ hg => hb.block g hg
/-- What a sign of base 16 says, as the program asks. -/
theorem hex_index (c : UInt8) : Lib.indexByte (ByteArray.data ⟨#[48, 49, 50, 51, 52, 53, 54, 55, 56, 57, 97, 98, 99, 100, 101, 102]⟩).toList c = (match hexv c with | some x => (x : Int) | none => -1) := by
  have h : ∀ n : Fin 256, Lib.indexByte (ByteArray.data ⟨#[48, 49, 50, 51, 52, 53, 54, 55, 56, 57, 97, 98, 99, 100, 101, 102]⟩).toList (UInt8.ofNat n.val) = (match hexv (UInt8.ofNat n.val) with | some x => (x : Int) | none => -1) := by decide +kernel
  have h2 := h ⟨c.toNat, c.toNat_lt⟩
  simpa using h2
theorem hexv_lt {c : UInt8} {x : Nat} (h : hexv c = some x) : x < 16 := by
  unfold hexv at h
  have := c.toNat_lt
  split at h
  · injection h with h; omega
  · split at h
    · injection h with h; omega
    · cases h
theorem or16 (x y : Nat) (hx : x < 16) (hy : y < 16) : Go.bits .or .i64 ((x : Int) * 16) (y : Int) = ((16 * x + y : Nat) : Int) := by
  have h : ∀ a b : Fin 16, Go.bits .or .i64 ((a.val : Int) * 16) (b.val : Int) = ((16 * a.val + b.val : Nat) : Int) := by decide +kernel
  exact h ⟨x, hx⟩ ⟨y, hy⟩
/-- The call tells the text of a word, or throws. -/
def TextC (R : Option (List UInt8)) (w : World) (e : Ending) (w' : World) : Prop := (∃ t, R = some t ∧ e = .returned (.string ⟨t.toArray⟩) ∧ Below w.heap.size w w') ∨ (R = none ∧ e = .panicked [refusal] ∧ Below w.heap.size w w')
theorem idxHex (a : UInt8) (W : World) : Calls Tryz.prog 70 #[.string ⟨#[48, 49, 50, 51, 52, 53, 54, 55, 56, 57, 97, 98, 99, 100, 101, 102]⟩, .int .u8 (a.toNat : Int)] W (Tells (.int .i64 (match hexv a with | some x => (x : Int) | none => -1)) W) := by
  have h := Tryz.strings_IndexByte ⟨#[48, 49, 50, 51, 52, 53, 54, 55, 56, 57, 97, 98, 99, 100, 101, 102]⟩ (a.toNat : Int) W
  have e : ((a.toNat : Int).toNat).toUInt8 = a := by simp
  rw [e, hex_index] at h
  exact h
set_option maxHeartbeats 8000000 in
set_option maxRecDepth 100000 in
theorem text_empty (w : World) : Calls Tryz.prog 59 #[.string ⟨#[]⟩] w (TextC none w) := by
  go_enter Tryz.func59, Tryz.ntmps59
  go_wp2
  refine wp_loop_rounds 1 ?_
  rw [rounds_succ]
  go_wp2_with (go_at_call 61; (with_reducible refine (need_no _).mono ?_); rintro e1 w1 ⟨rfl, j9, hw9⟩; have HB9 := Lib.hid (show Below _ _ w1 by rw [hw9]; exact w_ext_below _ _); clear hw9)
  exact ⟨rfl, Or.inr ⟨rfl, rfl, HB9.out⟩⟩
set_option maxHeartbeats 8000000 in
set_option maxRecDepth 100000 in
theorem text_pct (w : World) : Calls Tryz.prog 59 #[.string ⟨#[37]⟩] w (TextC (some []) w) := by
  have HWO : Hid (∀ W, Calls Tryz.prog 26 #[.string ⟨#[]⟩] W (Ret (.string ⟨#[37]⟩) W)) := Lib.hid fun W => word_any ⟨#[]⟩ W (by decide)
  have hcv : ∀ W, (convert 59 9 (.slice none 0 0)).run Tryz.prog W = .ok (.string ⟨#[]⟩) W := fun W => conv_own (B := 0) (l := []) ⟨rfl, Or.inl ⟨rfl, rfl⟩⟩
  go_enter Tryz.func59, Tryz.ntmps59
  go_wp2
  refine wp_loop_rounds 1 ?_
  rw [rounds_succ]
  go_wp2_with (first | (go_at_call 26; (with_reducible refine (HWO.out _).mono ?_); rintro e1 w1 ⟨rfl, j1, rfl⟩) | (go_at_call 61; (with_reducible refine (need_yes _).mono ?_); rintro e1 w1 ⟨rfl, hw⟩; replace hw := hw.symm; subst hw))
  go_ret
  exact Or.inl ⟨[], rfl, rfl, w_ext_below _ _⟩
theorem or16v (x y : Nat) (hx : x < 16) (hy : y < 16) : Go.bits .or .i64 ((x : Int) * 16) (y : Int) % 256 = ((UInt8.ofNat (16 * x + y)).toNat : Int) := by
  rw [or16 x y hx hy, UInt8.toNat_ofNat']; omega
theorem wrap21 (z : Int) (h0 : 0 ≤ z) (h : z ≤ 30000000) : wrap64 (z + 2 + 1) = z + 3 := by
  rw [IntWalk.wrap64_in _ (by omega)]; omega
theorem wrapx (x : Nat) (h : x < 16) : wrap64 ((x : Int) * 16) = (x : Int) * 16 := IntWalk.wrap64_in _ (by omega)
theorem nat21 (i : Nat) : (i : Int) + 2 + 1 = ((i + 3 : Nat) : Int) := by omega
theorem meas3 (i n : Nat) (h : i + 2 < n) : ((n : Int) - ((i : Int) + 2 + 1)).toNat < ((n : Int) - (i : Int)).toNat := by omega
theorem wrap21n (i : Nat) (h : (i : Int) ≤ 30000000) : wrap64 ((i : Int) + 2 + 1) = ((i + 3 : Nat) : Int) := by
  rw [wrap21 _ (by omega) h]; omega
theorem meas3w (i n : Nat) (h : i + 2 < n) (hn : n ≤ 30000000) : ((n : Int) - wrap64 ((i : Int) + 2 + 1)).toNat < ((n : Int) - (i : Int)).toNat := by
  rw [wrap21 _ (by omega) (by omega)]; omega
theorem len3 (acc : List UInt8) (d : UInt8) (i : Nat) (h : acc.length ≤ i) : (acc ++ [d]).length ≤ i + 3 := by rw [List.length_append, List.length_singleton]; omega
theorem scan_one : scanL [37] = none := rfl
theorem scan_two (d : UInt8) : scanL [37, d] = none := by simp [scanL]
theorem scan_badA (a b : UInt8) (r : List UInt8) (h : hexv a = none) : scanL (37 :: a :: b :: r) = none := by simp [scanL, h]
theorem scan_badB (a b : UInt8) (r : List UInt8) (h : hexv b = none) : scanL (37 :: a :: b :: r) = none := by
  unfold scanL; rw [if_pos rfl, h]; cases hexv a <;> rfl
theorem drop_getD (l : List UInt8) (i : Nat) (h : i < l.length) : l.drop i = l.getD i 0 :: l.drop (i + 1) := by
  rw [List.drop_eq_getElem_cons h, List.getD_eq_getElem?_getD, List.getElem?_eq_getElem h]; rfl
theorem unword_none {w : List UInt8} (h0 : ¬ w = [37]) (h : scanL w = none) : unwordL w = none := by
  unfold unwordL; rw [if_neg h0, h]
theorem unword_some {w t : List UInt8} (h0 : ¬ w = [37]) (h : scanL w = some t) (hw : ¬ w = []) : unwordL w = if wordL t = w then some t else none := by
  unfold unwordL; rw [if_neg h0, h]
  by_cases e : wordL t = w
  · simp only; rw [if_pos e, if_pos ⟨hw, e⟩]
  · simp only; rw [if_neg e, if_neg (fun h => e h.2)]
set_option maxHeartbeats 8000000 in
set_option maxRecDepth 100000 in
theorem text_main (s : ByteArray) (w : World) (hs : s.size ≤ 30000000) (h0 : ¬ s.size = 0) (h37 : ¬ s = ⟨#[37]⟩) : Calls Tryz.prog 59 #[.string s] w (TextC (unwordL s.data.toList) w) := by
  obtain ⟨n, hn⟩ : ∃ n, s.size = n := ⟨_, rfl⟩
  have HN := Lib.hid (show s.data.toList.length = n by rw [Array.length_toList]; exact hn)
  have hne := nonempty_of_size (show 0 < s.size by omega)
  have H37 := Lib.hid (show ¬ s.data.toList = [37] by
    intro e
    refine h37 (ByteArray.ext (Array.toList_inj.1 e)))
  have H0 := Lib.hid (show ¬ s.data.toList = [] by
    intro e
    have := HN.out
    rw [e] at this
    simp at this
    omega)
  have hn0 : ¬ n = 0 := by omega
  have hs2 := hs
  rw [hn] at hs2
  have h37b : (s.toList == [37]) = false := by
    rw [ByteArray.toList_eq]
    exact beq_eq_false_iff_ne.2 H37.out
  clear h0 hs h37
  go_enter Tryz.func59, Tryz.ntmps59
  go_wp2
  go_loopw [3, 4] (fun v3 v4 wr => ∃ (i : Nat) (acc : List UInt8) (A : Option Addr) (m c : Nat), i ≤ n ∧ v3 = .slice A m c ∧ v4 = .int .i64 (i : Int) ∧ Hid (OwnB wr w.heap.size (.slice A m c) acc) ∧ Hid (acc.length ≤ i) ∧ Hid (scanL s.data.toList = (scanL (s.data.toList.drop i)).map fun t => acc ++ t) ∧ Hid (Below w.heap.size w wr)) (fun _ i _ => ((n : Int) - intOf i).toNat)
  case atStart => exact ⟨0, [], none, 0, 0, Nat.zero_le _, rfl, rfl, Lib.hid ⟨rfl, Or.inl ⟨rfl, rfl⟩⟩, Lib.hid (Nat.le_refl _), Lib.hid (by rw [List.drop_zero]; cases scanL s.data.toList <;> rfl), Lib.hid (Below.refl _ _)⟩
  case round =>
    obtain ⟨i, acc, A3, m3, c3, hi, rfl, rfl, HO, HAL, HSC, HBW⟩ := hrel
    by_cases hin : i = n
    · subst hin
      have HS2 := Lib.hid (show scanL s.data.toList = some acc by
        rw [HSC.out, List.drop_of_length_le (by rw [HN.out]; exact Nat.le_refl _)]
        show some (acc ++ []) = some acc
        rw [List.append_nil])
      have HWO := Lib.hid (fun W => word_any ⟨acc.toArray⟩ W (by have := HAL.out; show acc.toArray.size ≤ _; simp only [List.size_toArray]; omega))
      have hcv := conv_own HO.out
      have HR := Lib.hid (unword_some H37.out HS2.out H0.out)
      obtain ⟨t, ht⟩ : ∃ t : ByteArray, t = ⟨(wordL acc).toArray⟩ := ⟨_, rfl⟩
      have HWO2 : Hid (∀ W, Calls Tryz.prog 26 #[.string ⟨acc.toArray⟩] W (Ret (.string t) W)) := Lib.hid (by rw [ht]; exact HWO.out)
      clear HWO
      by_cases he : t = s
      · have HR2 := Lib.hid (show unwordL s.data.toList = some acc by
          rw [HR.out, if_pos]
          rw [← he, ht])
        clear ht HR
        subst he
        go_wp2_with (first | (go_at_call 26; (with_reducible refine (HWO2.out _).mono ?_); rintro e5 w5 ⟨rfl, j5, hw5⟩; have HB5 := Lib.hid (show Below _ _ w5 by rw [hw5]; exact w_ext_below _ _); clear hw5; have hcv5 := conv_own (own_below HO.out HB5.out)) | (go_at_call 61; (with_reducible refine (need_yes _).mono ?_); rintro e1 w1 ⟨rfl, hw⟩; replace hw := hw.symm; subst hw))
        go_ret
        exact Or.inl ⟨acc, HR2.out, rfl, below_tr HBW.out HB5.out⟩
      · have HR2 := Lib.hid (show unwordL s.data.toList = none by
          rw [HR.out, if_neg]
          intro e
          refine he (ByteArray.ext (Array.toList_inj.1 ?_))
          rw [ht, ← e])
        clear ht HR
        have hed : (t.toList == s.toList) = false := beq_eq_false_iff_ne.2 (toList_ne he)
        clear he
        go_wp2_with (first | (go_at_call 26; (with_reducible refine (HWO2.out _).mono ?_); rintro e5 w5 ⟨rfl, j5, hw5⟩; have HB5 := Lib.hid (show Below _ _ w5 by rw [hw5]; exact w_ext_below _ _); clear hw5; have hcv5 := conv_own (own_below HO.out HB5.out)) | (go_at_call 61; (with_reducible refine (need_no _).mono ?_); rintro e1 w1 ⟨rfl, j9, hw9⟩; have HB9 := Lib.hid (show Below _ _ w1 by rw [hw9]; exact w_ext_below _ _); clear hw9))
        exact ⟨rfl, Or.inr ⟨HR2.out, rfl, below_tr (below_tr HBW.out HB5.out) HB9.out⟩⟩
    · have hlt' : i < n := by omega
      have hlt : (i : Int) < (n : Int) := by omega
      have hge : (0 : Int) ≤ (i : Int) := by omega
      have hnl : ¬ (i : Int) < 0 := by omega
      have hwr : wrap64 ((i : Int) + 1) = ((i + 1 : Nat) : Int) := by rw [wrap64_eq]; omega
      have HD := Lib.hid (drop_getD s.data.toList i (by rw [HN.out]; omega))
      have hidx : ∀ h : i < s.size, s[i]'h = s.data.toList.getD i 0 := fun h => by
        rw [List.getD_eq_getElem?_getD, List.getElem?_eq_getElem (by simpa using h)]
        simp [ByteArray.getElem_eq_getElem_data]
      obtain ⟨c, hc⟩ : ∃ c, s.data.toList.getD i 0 = c := ⟨_, rfl⟩
      rw [hc] at HD hidx
      clear hc
      have hal : (Lib.byteCells acc).length ≤ 100000000 := by rw [Lib.byteCells_length]; have := HAL.out; omega
      by_cases h37c : c = 37
      · subst h37c
        by_cases h2 : i + 2 < n
        · have hw2 : wrap64 ((i : Int) + 2) = (i : Int) + 2 := by rw [wrap64_eq]; omega
          have hw1 : wrap64 ((i : Int) + 1) = (i : Int) + 1 := by rw [wrap64_eq]; omega
          have h2i : (i : Int) + 2 < (n : Int) := by omega
          have h1i : (i : Int) + 1 < (n : Int) := by omega
          have hg1 : (0 : Int) ≤ (i : Int) + 1 := by omega
          have hg2 : (0 : Int) ≤ (i : Int) + 2 := by omega
          have hd2 : decide ((i : Int) + 2 < (n : Int)) = true := decide_eq_true h2i
          have hiw1 : IntKind.i64.wrap ((i : Int) + 1) = (i : Int) + 1 := by rw [IntWalk.i64_left]; exact hw1
          have hiw2 : IntKind.i64.wrap ((i : Int) + 2) = (i : Int) + 2 := by rw [IntWalk.i64_left]; exact hw2
          have ht1 : ((i : Int) + 1).toNat = i + 1 := by omega
          have ht2 : ((i : Int) + 2).toNat = i + 2 := by omega
          have h1n : i + 1 < n := by omega
          have HD2 := Lib.hid (drop_getD s.data.toList (i + 1) (by rw [HN.out]; omega))
          have HD3 := Lib.hid (drop_getD s.data.toList (i + 2) (by rw [HN.out]; omega))
          have hidx1 : ∀ h : i + 1 < s.size, s[i + 1]'h = s.data.toList.getD (i + 1) 0 := fun h => by
            rw [List.getD_eq_getElem?_getD, List.getElem?_eq_getElem (by simpa using h)]
            simp [ByteArray.getElem_eq_getElem_data]
          have hidx2 : ∀ h : i + 2 < s.size, s[i + 2]'h = s.data.toList.getD (i + 2) 0 := fun h => by
            rw [List.getD_eq_getElem?_getD, List.getElem?_eq_getElem (by simpa using h)]
            simp [ByteArray.getElem_eq_getElem_data]
          have hi3 : (i : Int) ≤ 30000000 := by omega
          have hw3 : wrap64 ((i : Int) + 3) = (i : Int) + 3 := IntWalk.wrap64_in _ (by omega)
          have hw4 : wrap64 ((i : Int) + 2 + 1) = (i : Int) + 3 := wrap21 _ hge hi3
          obtain ⟨a, ha⟩ : ∃ a, s.data.toList.getD (i + 1) 0 = a := ⟨_, rfl⟩
          obtain ⟨b, hb⟩ : ∃ b, s.data.toList.getD (i + 2) 0 = b := ⟨_, rfl⟩
          rw [ha] at HD2 hidx1
          rw [hb] at HD3 hidx2
          have HDD := Lib.hid (show s.data.toList.drop i = 37 :: a :: b :: s.data.toList.drop (i + 3) by rw [HD.out, HD2.out, HD3.out])
          clear HD HD2 HD3 ha hb
          have HIA := Lib.hid (fun W => idxHex a W)
          have HIB := Lib.hid (fun W => idxHex b W)
          cases hva : hexv a with
          | none =>
            have HR2 := Lib.hid (unword_none H37.out (by rw [HSC.out, HDD.out, scan_badA a b _ hva]; rfl))
            rw [hva] at HIA
            replace HIA : Hid (∀ W, Calls Tryz.prog 70 _ W (Tells (.int .i64 (-1)) W)) := HIA
            obtain ⟨kb, hkb⟩ : ∃ kb : Int, (match hexv b with | some x => (x : Int) | none => -1) = kb := ⟨_, rfl⟩
            rw [hkb] at HIB
            clear hkb hva
            go_wp2_with (go_at_call 61; (with_reducible refine (need_yes _).mono ?_); rintro e1 w1 ⟨rfl, hw⟩; replace hw := hw.symm; subst hw)
            refine wp_region_mix [(0, true), (1, true), (2, true), (3, true), (5, true), (6, true), (7, true), (8, true), (4, false), (9, false), (10, true), (11, true)] (by kernel_rfl) (by kernel_rfl) rfl (by kernel_rfl) (by intro _ _ d _ _ h; cases d <;> exact h) ?_; intro j1; (repeat (first | (refine wpMix_skipK rfl rfl ?_; intro K hK; go_simp; refine hK _ ?_; clear hK K) | (refine wpMix_light rfl rfl ?_; intro K hK; go_simp; refine hK _ ?_; clear hK K) | (refine wpMix_heavy rfl rfl ?_; intro K hK; go_wp2_with ((first | (go_at_call 70; (with_reducible refine (HIA.out _).mono ?_); rintro e3 w3 ⟨rfl, hw⟩; replace hw := hw.symm; subst hw) | (go_at_call 70; (with_reducible refine (HIB.out _).mono ?_); rintro e4 w4 ⟨rfl, hw⟩; replace hw := hw.symm; subst hw))); refine ⟨w_ext_of_below (by (repeat' (first | (with_reducible exact Below.refl _ _) | (with_reducible assumption) | (with_reducible exact below_app _ _ _ _) | (with_reducible refine below_pre ?_; (simp only [List.append_assoc, List.prefix_append, List.prefix_refl, List.prefix_append_right_inj])) | (with_reducible refine Below.alloc ?_ ?_ _) | (with_reducible refine below_ext ?_ ?_ _) | (with_reducible refine Below.drew ?_) | (with_reducible refine below_drewN ?_ _) | (with_reducible refine Below.setCell ?_ ?_ _) | go_size | (simp only [w_size_ext, List.length_append, World.alloc_size]; omega) | (simp; done) | (simp; omega)))), ?_⟩))); refine wpMix_nil ?_
            go_wp2_with (go_at_call 61; (with_reducible refine (need_no _).mono ?_); rintro e1 w1 ⟨rfl, j9, hw9⟩; have HB9 := Lib.hid (show Below _ _ w1 by rw [hw9]; exact w_ext_below _ _); clear hw9)
            exact ⟨rfl, Or.inr ⟨HR2.out, rfl, below_tr (below_tr HBW.out (w_ext_below _ _)) HB9.out⟩⟩
          | some x =>
            rw [hva] at HIA
            replace HIA : Hid (∀ W, Calls Tryz.prog 70 _ W (Tells (.int .i64 (x : Int)) W)) := HIA
            have hx0 : (0 : Int) ≤ (x : Int) := by omega
            have HX := Lib.hid (hexv_lt hva)
            cases hvb : hexv b with
            | none =>
              have HR2 := Lib.hid (unword_none H37.out (by rw [HSC.out, HDD.out, scan_badB a b _ hvb]; rfl))
              rw [hvb] at HIB
              replace HIB : Hid (∀ W, Calls Tryz.prog 70 _ W (Tells (.int .i64 (-1)) W)) := HIB
              clear hva hvb
              go_wp2_with (go_at_call 61; (with_reducible refine (need_yes _).mono ?_); rintro e1 w1 ⟨rfl, hw⟩; replace hw := hw.symm; subst hw)
              refine wp_region_mix [(0, true), (1, true), (2, true), (3, true), (5, true), (6, true), (7, true), (8, true), (4, false), (9, false), (10, true), (11, true)] (by kernel_rfl) (by kernel_rfl) rfl (by kernel_rfl) (by intro _ _ d _ _ h; cases d <;> exact h) ?_; intro j1; (repeat (first | (refine wpMix_skipK rfl rfl ?_; intro K hK; go_simp; refine hK _ ?_; clear hK K) | (refine wpMix_light rfl rfl ?_; intro K hK; go_simp; refine hK _ ?_; clear hK K) | (refine wpMix_heavy rfl rfl ?_; intro K hK; go_wp2_with ((first | (go_at_call 70; (with_reducible refine (HIA.out _).mono ?_); rintro e3 w3 ⟨rfl, hw⟩; replace hw := hw.symm; subst hw) | (go_at_call 70; (with_reducible refine (HIB.out _).mono ?_); rintro e4 w4 ⟨rfl, hw⟩; replace hw := hw.symm; subst hw))); refine ⟨w_ext_of_below (by (repeat' (first | (with_reducible exact Below.refl _ _) | (with_reducible assumption) | (with_reducible exact below_app _ _ _ _) | (with_reducible refine below_pre ?_; (simp only [List.append_assoc, List.prefix_append, List.prefix_refl, List.prefix_append_right_inj])) | (with_reducible refine Below.alloc ?_ ?_ _) | (with_reducible refine below_ext ?_ ?_ _) | (with_reducible refine Below.drew ?_) | (with_reducible refine below_drewN ?_ _) | (with_reducible refine Below.setCell ?_ ?_ _) | go_size | (simp only [w_size_ext, List.length_append, World.alloc_size]; omega) | (simp; done) | (simp; omega)))), ?_⟩))); refine wpMix_nil ?_
              go_wp2_with (go_at_call 61; (with_reducible refine (need_no _).mono ?_); rintro e1 w1 ⟨rfl, j9, hw9⟩; have HB9 := Lib.hid (show Below _ _ w1 by rw [hw9]; exact w_ext_below _ _); clear hw9)
              exact ⟨rfl, Or.inr ⟨HR2.out, rfl, below_tr (below_tr HBW.out (w_ext_below _ _)) HB9.out⟩⟩
            | some y =>
              have HSC2 := Lib.hid (show scanL s.data.toList = (scanL (s.data.toList.drop (i + 3))).map fun t => (acc ++ [UInt8.ofNat (16 * x + y)]) ++ t by
                rw [HSC.out, HDD.out, scan_hex a b x y hva hvb]
                cases scanL (s.data.toList.drop (i + 3)) with
                | none => rfl
                | some t => simp)
              rw [hvb] at HIB
              replace HIB : Hid (∀ W, Calls Tryz.prog 70 _ W (Tells (.int .i64 (y : Int)) W)) := HIB
              have hy0 : (0 : Int) ≤ (y : Int) := by omega
              have HY := Lib.hid (hexv_lt hvb)
              clear hva hvb
              have HI3 := Lib.hid h2
              have HML := Lib.hid (meas3 i n h2)
              clear hw3 hw4
              have HAL3 := Lib.hid (fun d : UInt8 => len3 acc d i HAL.out)
              have hwx : wrap64 ((x : Int) * 16) = (x : Int) * 16 := wrapx x HX.out
              have hv : Go.bits .or .i64 ((x : Int) * 16) (y : Int) % 256 = ((UInt8.ofNat (16 * x + y)).toNat : Int) := or16v x y HX.out HY.out
              generalize UInt8.ofNat (16 * x + y) = d at *
              go_wp2_with (go_at_call 61; (with_reducible refine (need_yes _).mono ?_); rintro e1 w1 ⟨rfl, hw⟩; replace hw := hw.symm; subst hw)
              refine wp_region_mix [(0, true), (1, true), (2, true), (3, true), (5, true), (6, true), (7, true), (8, true), (4, false), (9, false), (10, true), (11, true)] (by kernel_rfl) (by kernel_rfl) rfl (by kernel_rfl) (by intro _ _ d _ _ h; cases d <;> exact h) ?_; intro j1; (repeat (first | (refine wpMix_skipK rfl rfl ?_; intro K hK; go_simp; refine hK _ ?_; clear hK K) | (refine wpMix_light rfl rfl ?_; intro K hK; go_simp; refine hK _ ?_; clear hK K) | (refine wpMix_heavy rfl rfl ?_; intro K hK; go_wp2_with ((first | (go_at_call 70; (with_reducible refine (HIA.out _).mono ?_); rintro e3 w3 ⟨rfl, hw⟩; replace hw := hw.symm; subst hw) | (go_at_call 70; (with_reducible refine (HIB.out _).mono ?_); rintro e4 w4 ⟨rfl, hw⟩; replace hw := hw.symm; subst hw))); refine ⟨w_ext_of_below (by (repeat' (first | (with_reducible exact Below.refl _ _) | (with_reducible assumption) | (with_reducible exact below_app _ _ _ _) | (with_reducible refine below_pre ?_; (simp only [List.append_assoc, List.prefix_append, List.prefix_refl, List.prefix_append_right_inj])) | (with_reducible refine Below.alloc ?_ ?_ _) | (with_reducible refine below_ext ?_ ?_ _) | (with_reducible refine Below.drew ?_) | (with_reducible refine below_drewN ?_ _) | (with_reducible refine Below.setCell ?_ ?_ _) | go_size | (simp only [w_size_ext, List.length_append, World.alloc_size]; omega) | (simp; done) | (simp; omega)))), ?_⟩))); refine wpMix_nil ?_
              obtain ⟨v2, w2, happ, hown2, hb2, -⟩ := app_one w.heap.size (wext wr j1) (.slice A3 m3 c3) (Lib.byteCells acc) (d.toNat : Int) (own_below HO.out (w_ext_below _ _)) (Nat.le_trans HBW.out.size (w_ext_below wr j1).size) hal
              rw [w_size_ext] at happ
              go_wp2_with (first | (go_at_call 61; (with_reducible refine (need_yes _).mono ?_); rintro e1 w1 ⟨rfl, hw⟩; replace hw := hw.symm; subst hw) | (at_builtin; refine app_step 59 _ _ rfl rfl rfl rfl rfl happ ?_))
              go_roundw
              case rel =>
                obtain ⟨A9, m9, c9, rfl⟩ := own_sl hown2
                exact ⟨i + 3, acc ++ [d], A9, m9, c9, HI3.out, rfl, congrArg (Value.int .i64) (nat21 i), Lib.hid (by rw [show OwnB w2 w.heap.size (.slice A9 m9 c9) (acc ++ [d]) ↔ w2.ownsRow w.heap.size 5 1 (.slice A9 m9 c9) (Lib.byteCells (acc ++ [d])).length (Lib.byteCells (acc ++ [d])) from Iff.rfl, Lib.byteCells_append]; exact hown2), Lib.hid (HAL3.out d), HSC2, Lib.hid ((below_tr HBW.out (w_ext_below _ _)).trans hb2)⟩
              case measure => exact HML.out
        · have HR2 := Lib.hid (unword_none H37.out (by
            rw [HSC.out, HD.out]
            have hl : (s.data.toList.drop (i + 1)).length < 2 := by rw [List.length_drop, HN.out]; omega
            match s.data.toList.drop (i + 1), hl with
            | [], _ => rfl
            | [d], _ => rw [scan_two]; rfl
            | _ :: _ :: _, h => simp at h; omega))
          have hw2 : wrap64 ((i : Int) + 2) = (i : Int) + 2 := by rw [wrap64_eq]; omega
          have hw1 : wrap64 ((i : Int) + 1) = (i : Int) + 1 := by rw [wrap64_eq]; omega
          have hd2 : decide ((i : Int) + 2 < (n : Int)) = false := decide_eq_false (by omega)
          go_wp2_with (go_at_call 61; (with_reducible refine (need_no _).mono ?_); rintro e1 w1 ⟨rfl, j9, hw9⟩; have HB9 := Lib.hid (show Below _ _ w1 by rw [hw9]; exact w_ext_below _ _); clear hw9)
          exact ⟨rfl, Or.inr ⟨HR2.out, rfl, below_tr HBW.out HB9.out⟩⟩
      · have HSC2 := Lib.hid (show scanL s.data.toList = (scanL (s.data.toList.drop (i + 1))).map fun t => (acc ++ [c]) ++ t by
          rw [HSC.out, HD.out, scan_plain c h37c]
          cases scanL (s.data.toList.drop (i + 1)) with
          | none => rfl
          | some t => simp)
        have hcn : ((c.toNat : Int) != 37) = true := bne_iff_ne.2 (fun e => h37c (by
          have e2 : c.toNat = (37 : UInt8).toNat := by have : (37 : UInt8).toNat = 37 := rfl; omega
          exact UInt8.toNat_inj.1 e2))
        obtain ⟨v2, w2, happ, hown2, hb2, _⟩ := app_one w.heap.size wr (.slice A3 m3 c3) (Lib.byteCells acc) (c.toNat : Int) HO.out HBW.out.size hal
        go_wp2_with (at_builtin; refine app_step 59 _ _ rfl rfl rfl rfl rfl happ ?_)
        go_roundw
        case rel =>
          obtain ⟨A9, m9, c9, rfl⟩ := own_sl hown2
          exact ⟨i + 1, acc ++ [c], A9, m9, c9, by omega, rfl, by first | rfl | rw [hwr], Lib.hid (by rw [show OwnB w2 w.heap.size (.slice A9 m9 c9) (acc ++ [c]) ↔ w2.ownsRow w.heap.size 5 1 (.slice A9 m9 c9) (Lib.byteCells (acc ++ [c])).length (Lib.byteCells (acc ++ [c])) from Iff.rfl, Lib.byteCells_append]; exact hown2), Lib.hid (by rw [List.length_append]; have := HAL.out; simp; omega), HSC2, Lib.hid (HBW.out.trans hb2)⟩
        case measure => first | (simp [intOf]; omega) | (rw [intOf_lit, intOf_lit, hwr]; omega)
theorem text_any (s : ByteArray) (w : World) (hs : s.size ≤ 30000000) : Calls Tryz.prog 59 #[.string s] w (TextC (unwordL s.data.toList) w) := by
  by_cases h0 : s.size = 0
  · obtain rfl := empty_of_size h0
    exact text_empty w
  · by_cases h37 : s = ⟨#[37]⟩
    · subst h37
      exact text_pct w
    · exact text_main s w hs h0 h37
end Go.Proofs.YtmcooenafgihkaaGreatDoor
