/- Helper lemmas: the text of a word, by the reference: the walk. No condition. -/
import Derived.Test.YtmcooenafgihkaaGreatDoorQ9
import Derived.Test.YtmcooenafgihkaaGreatDoorQ2
import Derived.Test.YtmcooenafgihkaaGreatDoorP3
set_option linter.unusedSimpArgs false
set_option linter.unusedVariables false
namespace Go.Proofs.YtmcooenafgihkaaGreatDoor
open Go.RowKit

theorem byte_at (s : ByteArray) (i : Nat) (h : i < s.size) : s[i]'h = s.data.toList.getD i 0 := by
  rw [List.getD_eq_getElem?_getD, List.getElem?_eq_getElem (by simpa using h)]
  simp [ByteArray.getElem_eq_getElem_data]
theorem cast1Q (j : Nat) : Value.int .i64 ((j : Int) + 1) = .int .i64 ((j + 1 : Nat) : Int) := by rw [Int.natCast_add]; rfl
theorem byte_ne {c : UInt8} (h : ¬ c = 37) : ((c.toNat : Int) == 37) = false := by
  rw [beq_eq_false_iff_ne]
  intro e
  have e2 : c.toNat = (37 : UInt8).toNat := by have : (37 : UInt8).toNat = 37 := rfl; omega
  exact h (UInt8.toNat_inj.1 e2)
theorem byte_bne {c : UInt8} (h : ¬ c = 37) : ((c.toNat : Int) != 37) = true := by
  have := byte_ne h
  rw [bne, this]; rfl
theorem dgt_le (c : UInt8) : dgt c ≤ 99 := by
  unfold dgt
  cases hv : hexv c with
  | none => exact Nat.le_refl _
  | some x =>
    have := (hexd_hexv c x hv).2
    show x ≤ 99
    omega
theorem byte_of (a b : UInt8) : wrap64 (16 * (dgt a : Int)) = 16 * (dgt a : Int) ∧ wrap64 (16 * (dgt a : Int) + (dgt b : Int)) = 16 * (dgt a : Int) + (dgt b : Int) ∧ (16 * (dgt a : Int) + (dgt b : Int)) % 256 = ((UInt8.ofNat (16 * dgt a + dgt b)).toNat : Int) ∧ IntKind.u8.wrap (16 * (dgt a : Int) + (dgt b : Int)) = ((UInt8.ofNat (16 * dgt a + dgt b)).toNat : Int) := by
  have h1 := dgt_le a
  have h2 := dgt_le b
  have e : (16 * (dgt a : Int) + (dgt b : Int)) % 256 = ((UInt8.ofNat (16 * dgt a + dgt b)).toNat : Int) := by rw [UInt8.toNat_ofNat']; omega
  refine ⟨IntWalk.wrap64_in _ (by omega), IntWalk.wrap64_in _ (by omega), e, ?_⟩
  rw [← e]
  simp [IntKind.wrap, IntKind.signed, IntKind.bits]
/-- The call tells the text of a word, and whether it is one. -/
def RTextC (R : Option (List UInt8)) (w : World) (e : Ending) (w' : World) : Prop := ∃ t : List UInt8, e = .returned (.tuple #[.string ⟨t.toArray⟩, .bool R.isSome]) ∧ (∀ u, R = some u → t = u) ∧ Below w.heap.size w w'
set_option maxHeartbeats 8000000 in
set_option maxRecDepth 100000 in
theorem rtextw_pct (w : World) : Calls Tryz.prog 62 #[.string ⟨#[37]⟩] w (RTextC (some []) w) := by
  go_enter Tryz.func62, Tryz.ntmps62
  go_wp2
  go_ret2
  exact ⟨[], rfl, fun u h => by injection h, Below.refl _ _⟩
set_option maxHeartbeats 8000000 in
set_option maxRecDepth 100000 in
theorem rtextw_main (s : ByteArray) (w : World) (hs : s.size ≤ 30000000) (h37 : ¬ s = ⟨#[37]⟩) : Calls Tryz.prog 62 #[.string s] w (RTextC (unwordL s.data.toList) w) := by
  obtain ⟨n, hn⟩ : ∃ n, s.size = n := ⟨_, rfl⟩
  have HN := Lib.hid (show s.data.toList.length = n by rw [Array.length_toList]; exact hn)
  have H37 := Lib.hid (show ¬ s.data.toList = [37] by
    intro e
    refine h37 (ByteArray.ext (Array.toList_inj.1 e)))
  have hs2 := hs
  rw [hn] at hs2
  have h37b : (s.toList == [37]) = false := by
    rw [ByteArray.toList_eq]
    exact beq_eq_false_iff_ne.2 H37.out
  have HUR := Lib.hid (unword_ref s.data.toList)
  clear hs h37
  go_enter Tryz.func62, Tryz.ntmps62
  go_wp2
  go_loopw [4, 12] (fun v4 v12 wr => ∃ (i : Nat) (acc : List UInt8) (A : Option Addr) (m c : Nat), i ≤ n ∧ v4 = .slice A m c ∧ v12 = .int .i64 (i : Int) ∧ Hid (OwnB wr w.heap.size (.slice A m c) acc) ∧ Hid (acc.length ≤ i) ∧ Hid (TxtI s.data.toList i acc) ∧ Hid (Below w.heap.size w wr)) (fun _ v12 _ => ((n : Int) - intOf v12).toNat)
  case atStart => exact ⟨0, [], none, 0, 0, Nat.zero_le _, rfl, rfl, Lib.hid ⟨rfl, Or.inl ⟨rfl, rfl⟩⟩, Lib.hid (Nat.le_refl _), Lib.hid (TxtI.start _), Lib.hid (Below.refl _ _)⟩
  case round =>
    obtain ⟨i, acc, A3, m3, c3, hi, rfl, rfl, HO, HAL, HTI, HBW⟩ := hrel
    by_cases hin : i = n
    · subst hin
      have HE := Lib.hid (HTI.out.done (by rw [HN.out]; exact Nat.le_refl _))
      have hcv := conv_own HO.out
      have HWO := Lib.hid (fun W => rword_any ⟨acc.toArray⟩ W (by have := HAL.out; show acc.toArray.size ≤ _; simp only [List.size_toArray]; omega))
      have hnn : ¬ (i : Int) < (i : Int) := by omega
      obtain ⟨T, hT⟩ : ∃ T : ByteArray, T = ⟨(wordL acc).toArray⟩ := ⟨_, rfl⟩
      have HWO2 : Hid (∀ W, Calls Tryz.prog 27 #[.string ⟨acc.toArray⟩] W fun e w' => e = .returned (.string T) ∧ Below W.heap.size W w') := Lib.hid (by rw [hT]; exact HWO.out)
      clear HWO
      by_cases he : T = s
      · have hla : wordL acc = s.data.toList := by rw [← he, hT]
        have hnb : ¬ acc = [] := fun e => H37.out (by rw [← hla, e]; rfl)
        have HR2 := Lib.hid (show unwordL s.data.toList = some acc by
          rw [HUR.out, if_neg H37.out, ← HE.out, if_pos ⟨hla, hnb⟩])
        have hne := nonempty_of_size (show 0 < (⟨acc.toArray⟩ : ByteArray).size from List.length_pos_iff.2 hnb)
        have hnc : acc.isEmpty = false := by simpa using hnb
        clear hla hnb hT
        subst he
        go_wp2_with (go_at_call 27; (with_reducible refine (HWO2.out _).mono ?_); rintro e5 w5 ⟨rfl, hb5⟩; have HB5 := Lib.hid (below_tr HBW.out hb5); clear hb5)
        go_ret2
        exact ⟨acc, by rw [HR2.out]; rfl, fun u h => (by rw [HR2.out] at h; injection h), HB5.out⟩
      · have hla : ¬ wordL acc = s.data.toList := fun e => he (by rw [hT]; exact ByteArray.ext (by rw [e]))
        have HR2 := Lib.hid (show unwordL s.data.toList = none by
          rw [HUR.out, if_neg H37.out, ← HE.out, if_neg (fun h => hla h.1)])
        have hed : (T.toList == s.toList) = false := beq_eq_false_iff_ne.2 (toList_ne he)
        clear hla hT he
        go_wp2_with (go_at_call 27; (with_reducible refine (HWO2.out _).mono ?_); rintro e5 w5 ⟨rfl, hb5⟩; have HB5 := Lib.hid (below_tr HBW.out hb5); clear hb5)
        go_ret2
        exact ⟨acc, by rw [HR2.out]; rfl, fun u h => (by rw [HR2.out] at h; cases h), HB5.out⟩
    · have hlt' : i < n := by omega
      have hlt : (i : Int) < (n : Int) := by omega
      have hge : (0 : Int) ≤ (i : Int) := by omega
      have hnl : ¬ (i : Int) < 0 := by omega
      have hwr : wrap64 ((i : Int) + 1) = (i : Int) + 1 := by rw [wrap64_eq]; omega
      have hwr2 : wrap64 ((i : Int) + 2) = (i : Int) + 2 := by rw [wrap64_eq]; omega
      have hiw1 : IntKind.i64.wrap ((i : Int) + 1) = (i : Int) + 1 := by rw [IntWalk.i64_left]; exact hwr
      have hiw2 : IntKind.i64.wrap ((i : Int) + 2) = (i : Int) + 2 := by rw [IntWalk.i64_left]; exact hwr2
      have hal : (Lib.byteCells acc).length ≤ 100000000 := by rw [Lib.byteCells_length]; have := HAL.out; omega
      have hidx : ∀ h : i < s.size, s[i]'h = s.data.toList.getD (i) 0 := fun h => byte_at s _ h
      have hidx1 : ∀ h : i + 1 < s.size, s[i + 1]'h = s.data.toList.getD (i + 1) 0 := fun h => byte_at s _ h
      have hidx2 : ∀ h : i + 2 < s.size, s[i + 2]'h = s.data.toList.getD (i + 2) 0 := fun h => byte_at s _ h
      obtain ⟨c, hc⟩ : ∃ c, s.data.toList.getD i 0 = c := ⟨_, rfl⟩
      have HC := Lib.hid hc
      rw [hc] at hidx
      clear hc
      by_cases hi0 : i = 0
      · have hp0 : ¬ (0 : Int) < (i : Int) := by omega
        have hp1 : ¬ (1 : Int) < (i : Int) := by omega
        have HFL := Lib.hid (show (isPct s.data.toList i 1 || isPct s.data.toList i 2) = false by subst hi0; rfl)
        clear hi0
        by_cases h37c : c = 37
        · subst h37c
          by_cases h2 : i + 2 < n
          · have h2i : (i : Int) + 2 < (n : Int) := by omega
            have h1i : (i : Int) + 1 < (n : Int) := by omega
            have hg1 : (0 : Int) ≤ (i : Int) + 1 := by omega
            have hg2 : (0 : Int) ≤ (i : Int) + 2 := by omega
            have hd2 : decide ((i : Int) + 2 < (n : Int)) = true := decide_eq_true h2i
            have ht1 : ((i : Int) + 1).toNat = i + 1 := by omega
            have ht2 : ((i : Int) + 2).toNat = i + 2 := by omega
            have h1n : i + 1 < n := by omega
            obtain ⟨a, ha⟩ : ∃ a, s.data.toList.getD (i + 1) 0 = a := ⟨_, rfl⟩
            obtain ⟨b, hb⟩ : ∃ b, s.data.toList.getD (i + 2) 0 = b := ⟨_, rfl⟩
            have HTX := Lib.hid (HTI.out.hex HC.out (by rw [HN.out]; exact h2) ha hb)
            rw [ha] at hidx1
            rw [hb] at hidx2
            clear ha hb
            have HDA := Lib.hid (fun W => rdigit_any a W)
            have HDB := Lib.hid (fun W => rdigit_any b W)
            have HMV := Lib.hid (byte_of a b)
            obtain ⟨da, hda⟩ : ∃ da, dgt a = da := ⟨_, rfl⟩
            obtain ⟨db, hdb⟩ : ∃ db, dgt b = db := ⟨_, rfl⟩
            rw [hda] at HDA
            rw [hdb] at HDB
            rw [hda, hdb] at HTX HMV
            obtain ⟨m1, m2, m3', m4⟩ := HMV.out
            clear hda hdb HMV
            generalize UInt8.ofNat (16 * da + db) = d at *
            obtain ⟨v2, w2, happ0, hown2, hb20, -⟩ := app_one w.heap.size wr.drew (.slice A3 m3 c3) (Lib.byteCells acc) (d.toNat : Int) (own_below HO.out (Below.refl _ wr).drew) HBW.out.size hal
            have happ : (Builtin.append_ #[59, 59] 59 #[.slice A3 m3 c3, .slice (some ⟨wr.heap.size, 0, none⟩) 1 1]).run Tryz.prog (wr.alloc (.cells #[.int .u8 (d.toNat : Int)] 5)).drew = .ok v2 w2 := happ0
            have hb2 : Below w.heap.size wr w2 := (Below.refl w.heap.size wr).drew.trans hb20
            clear happ0 hb20
            go_wp2
            refine wp_region_ord (.take 0 (.take 1 (.take 2 (.take 3 (.take 4 (.take 7 (.take 8 (.take 9 (.take 10 (.one 5 (.take 6 (.one 11 (.take 12 (.one 13 (.one 14 (.one 15 (.take 16 .done))))))))))))))))) (by kernel_rfl) (by kernel_rfl) (by decide) (by kernel_rfl) (by intro _ _ d _ _ h; cases d <;> exact h) ?_
            refine wpOrd_take rfl rfl ?_; intro K hK; go_simp; refine hK _ ?_; clear hK K
            refine wpOrd_take rfl rfl ?_; intro K hK; go_simp; refine hK _ ?_; clear hK K
            refine wpOrd_take rfl rfl ?_; intro K hK; go_simp; refine hK _ ?_; clear hK K
            refine wpOrd_take rfl rfl ?_; intro K hK; go_simp; refine hK _ ?_; clear hK K
            refine wpOrd_take rfl rfl ?_; intro K hK; go_simp; refine hK _ ?_; clear hK K
            refine wpOrd_take rfl rfl ?_; intro K hK; go_simp; refine hK _ ?_; clear hK K
            refine wpOrd_take rfl rfl ?_; intro K hK; go_simp; refine hK _ ?_; clear hK K
            refine wpOrd_take rfl rfl ?_; intro K hK; go_simp; refine hK _ ?_; clear hK K
            refine wpOrd_take rfl rfl ?_; intro K hK; go_simp; refine hK _ ?_; clear hK K
            refine wpOrd_one rfl rfl ?_; intro K hK; go_wp2_with (go_at_call 80; (with_reducible refine (HDA.out _).mono ?_); rintro e1 w1 ⟨rfl, hw⟩; replace hw := hw.symm; subst hw)
            refine wpOrd_take rfl rfl ?_; intro K hK; go_simp; refine hK _ ?_; clear hK K
            refine wpOrd_one rfl rfl ?_; intro K hK; go_wp2_with (go_at_call 80; (with_reducible refine (HDB.out _).mono ?_); rintro e1 w1 ⟨rfl, hw⟩; replace hw := hw.symm; subst hw)
            refine wpOrd_take rfl rfl ?_; intro K hK; go_simp; refine hK _ ?_; clear hK K
            refine wpOrd_one rfl rfl ?_; intro K hK; go_wp2
            refine wpOrd_one rfl rfl ?_; intro K hK; go_wp2
            refine wpOrd_one rfl rfl ?_; intro K hK; refine app_op 59 _ _ rfl rfl rfl rfl happ ?_; refine hK _ _ ?_; clear hK K
            refine wpOrd_take rfl rfl ?_; intro K hK; go_simp; refine hK _ ?_; clear hK K
            refine wpOrd_done ?_
            go_wp2
            go_roundw
            case rel =>
              obtain ⟨A9, m9, c9, rfl⟩ := own_sl hown2
              exact ⟨i + 1, acc ++ [d], A9, m9, c9, hlt', rfl, by first | exact cast1Q _ | (rw [hwr]; exact cast1Q _), Lib.hid (by rw [show OwnB w2 w.heap.size (.slice A9 m9 c9) (acc ++ [d]) ↔ w2.ownsRow w.heap.size 5 1 (.slice A9 m9 c9) (Lib.byteCells (acc ++ [d])).length (Lib.byteCells (acc ++ [d])) from Iff.rfl, Lib.byteCells_append]; exact hown2), Lib.hid (by rw [List.length_append]; have := HAL.out; simp; omega), HTX, Lib.hid (HBW.out.trans hb2)⟩
            case measure => first | (rw [intOf_lit, intOf_lit, hwr]; omega) | (rw [intOf_lit, intOf_lit]; omega)
          · have hd2 : decide ((i : Int) + 2 < (n : Int)) = false := decide_eq_false (by omega)
            have HTX := Lib.hid (HTI.out.lone HC.out (by rw [HN.out]; exact hlt') (by rw [HN.out]; exact h2))
            go_wp2
            go_roundw
            case rel => exact ⟨i + 1, acc, A3, m3, c3, hlt', rfl, by first | exact cast1Q _ | (rw [hwr]; exact cast1Q _), HO, Lib.hid (by have := HAL.out; omega), HTX, HBW⟩
            case measure => first | (rw [intOf_lit, intOf_lit, hwr]; omega) | (rw [intOf_lit, intOf_lit]; omega)
        · have hcn : ((c.toNat : Int) == 37) = false := byte_ne h37c
          have hcm : ((c.toNat : Int) != 37) = true := byte_bne h37c
          have HTX := Lib.hid (HTI.out.put HC.out h37c (by rw [HN.out]; exact hlt') HFL.out)
          obtain ⟨v2, w2, happ, hown2, hb2, _⟩ := app_one w.heap.size wr (.slice A3 m3 c3) (Lib.byteCells acc) (c.toNat : Int) HO.out HBW.out.size hal
          go_wp2_with (at_builtin; refine app_step 59 _ _ rfl rfl rfl rfl rfl happ ?_)
          go_roundw
          case rel =>
            obtain ⟨A9, m9, c9, rfl⟩ := own_sl hown2
            exact ⟨i + 1, acc ++ [c], A9, m9, c9, hlt', rfl, by first | exact cast1Q _ | (rw [hwr]; exact cast1Q _), Lib.hid (by rw [show OwnB w2 w.heap.size (.slice A9 m9 c9) (acc ++ [c]) ↔ w2.ownsRow w.heap.size 5 1 (.slice A9 m9 c9) (Lib.byteCells (acc ++ [c])).length (Lib.byteCells (acc ++ [c])) from Iff.rfl, Lib.byteCells_append]; exact hown2), Lib.hid (by rw [List.length_append]; have := HAL.out; simp; omega), HTX, Lib.hid (HBW.out.trans hb2)⟩
          case measure => first | (rw [intOf_lit, intOf_lit, hwr]; omega) | (rw [intOf_lit, intOf_lit]; omega)
      · have hp0 : (0 : Int) < (i : Int) := by omega
        have hwm1 : wrap64 ((i : Int) - 1) = (i : Int) - 1 := by rw [wrap64_eq]; omega
        have hgm1 : (0 : Int) ≤ (i : Int) - 1 := by omega
        have hlm1 : (i : Int) - 1 < (n : Int) := by omega
        have hlm1' : i - 1 < n := by omega
        have htm1 : ((i : Int) - 1).toNat = i - 1 := by omega
        have hidm1 : ∀ h : i - 1 < s.size, s[i - 1]'h = s.data.toList.getD (i - 1) 0 := fun h => byte_at s _ h
        obtain ⟨p, hp⟩ : ∃ p, s.data.toList.getD (i - 1) 0 = p := ⟨_, rfl⟩
        have HF1 := Lib.hid (show isPct s.data.toList i 1 = (p == 37) by
          unfold isPct
          rw [hp, decide_eq_true (show 1 ≤ i by omega)]; rfl)
        rw [hp] at hidm1
        clear hp
        by_cases hp37 : p = 37
        · have hpe : ((p.toNat : Int) == 37) = true := by subst hp37; rfl
          have HFL := Lib.hid (show (isPct s.data.toList i 1 || isPct s.data.toList i 2) = true by rw [HF1.out, hp37]; rfl)
          clear hp37 hi0 HF1
          by_cases h37c : c = 37
          · subst h37c
            by_cases h2 : i + 2 < n
            · have h2i : (i : Int) + 2 < (n : Int) := by omega
              have h1i : (i : Int) + 1 < (n : Int) := by omega
              have hg1 : (0 : Int) ≤ (i : Int) + 1 := by omega
              have hg2 : (0 : Int) ≤ (i : Int) + 2 := by omega
              have hd2 : decide ((i : Int) + 2 < (n : Int)) = true := decide_eq_true h2i
              have ht1 : ((i : Int) + 1).toNat = i + 1 := by omega
              have ht2 : ((i : Int) + 2).toNat = i + 2 := by omega
              have h1n : i + 1 < n := by omega
              obtain ⟨a, ha⟩ : ∃ a, s.data.toList.getD (i + 1) 0 = a := ⟨_, rfl⟩
              obtain ⟨b, hb⟩ : ∃ b, s.data.toList.getD (i + 2) 0 = b := ⟨_, rfl⟩
              have HTX := Lib.hid (HTI.out.hex HC.out (by rw [HN.out]; exact h2) ha hb)
              rw [ha] at hidx1
              rw [hb] at hidx2
              clear ha hb
              have HDA := Lib.hid (fun W => rdigit_any a W)
              have HDB := Lib.hid (fun W => rdigit_any b W)
              have HMV := Lib.hid (byte_of a b)
              obtain ⟨da, hda⟩ : ∃ da, dgt a = da := ⟨_, rfl⟩
              obtain ⟨db, hdb⟩ : ∃ db, dgt b = db := ⟨_, rfl⟩
              rw [hda] at HDA
              rw [hdb] at HDB
              rw [hda, hdb] at HTX HMV
              obtain ⟨m1, m2, m3', m4⟩ := HMV.out
              clear hda hdb HMV
              generalize UInt8.ofNat (16 * da + db) = d at *
              obtain ⟨v2, w2, happ0, hown2, hb20, -⟩ := app_one w.heap.size wr.drew (.slice A3 m3 c3) (Lib.byteCells acc) (d.toNat : Int) (own_below HO.out (Below.refl _ wr).drew) HBW.out.size hal
              have happ : (Builtin.append_ #[59, 59] 59 #[.slice A3 m3 c3, .slice (some ⟨wr.heap.size, 0, none⟩) 1 1]).run Tryz.prog (wr.alloc (.cells #[.int .u8 (d.toNat : Int)] 5)).drew = .ok v2 w2 := happ0
              have hb2 : Below w.heap.size wr w2 := (Below.refl w.heap.size wr).drew.trans hb20
              clear happ0 hb20
              go_wp2
              refine wp_region_ord (.take 0 (.take 1 (.take 2 (.take 3 (.take 4 (.take 7 (.take 8 (.take 9 (.take 10 (.one 5 (.take 6 (.one 11 (.take 12 (.one 13 (.one 14 (.one 15 (.take 16 .done))))))))))))))))) (by kernel_rfl) (by kernel_rfl) (by decide) (by kernel_rfl) (by intro _ _ d _ _ h; cases d <;> exact h) ?_
              refine wpOrd_take rfl rfl ?_; intro K hK; go_simp; refine hK _ ?_; clear hK K
              refine wpOrd_take rfl rfl ?_; intro K hK; go_simp; refine hK _ ?_; clear hK K
              refine wpOrd_take rfl rfl ?_; intro K hK; go_simp; refine hK _ ?_; clear hK K
              refine wpOrd_take rfl rfl ?_; intro K hK; go_simp; refine hK _ ?_; clear hK K
              refine wpOrd_take rfl rfl ?_; intro K hK; go_simp; refine hK _ ?_; clear hK K
              refine wpOrd_take rfl rfl ?_; intro K hK; go_simp; refine hK _ ?_; clear hK K
              refine wpOrd_take rfl rfl ?_; intro K hK; go_simp; refine hK _ ?_; clear hK K
              refine wpOrd_take rfl rfl ?_; intro K hK; go_simp; refine hK _ ?_; clear hK K
              refine wpOrd_take rfl rfl ?_; intro K hK; go_simp; refine hK _ ?_; clear hK K
              refine wpOrd_one rfl rfl ?_; intro K hK; go_wp2_with (go_at_call 80; (with_reducible refine (HDA.out _).mono ?_); rintro e1 w1 ⟨rfl, hw⟩; replace hw := hw.symm; subst hw)
              refine wpOrd_take rfl rfl ?_; intro K hK; go_simp; refine hK _ ?_; clear hK K
              refine wpOrd_one rfl rfl ?_; intro K hK; go_wp2_with (go_at_call 80; (with_reducible refine (HDB.out _).mono ?_); rintro e1 w1 ⟨rfl, hw⟩; replace hw := hw.symm; subst hw)
              refine wpOrd_take rfl rfl ?_; intro K hK; go_simp; refine hK _ ?_; clear hK K
              refine wpOrd_one rfl rfl ?_; intro K hK; go_wp2
              refine wpOrd_one rfl rfl ?_; intro K hK; go_wp2
              refine wpOrd_one rfl rfl ?_; intro K hK; refine app_op 59 _ _ rfl rfl rfl rfl happ ?_; refine hK _ _ ?_; clear hK K
              refine wpOrd_take rfl rfl ?_; intro K hK; go_simp; refine hK _ ?_; clear hK K
              refine wpOrd_done ?_
              go_wp2
              go_roundw
              case rel =>
                obtain ⟨A9, m9, c9, rfl⟩ := own_sl hown2
                exact ⟨i + 1, acc ++ [d], A9, m9, c9, hlt', rfl, by first | exact cast1Q _ | (rw [hwr]; exact cast1Q _), Lib.hid (by rw [show OwnB w2 w.heap.size (.slice A9 m9 c9) (acc ++ [d]) ↔ w2.ownsRow w.heap.size 5 1 (.slice A9 m9 c9) (Lib.byteCells (acc ++ [d])).length (Lib.byteCells (acc ++ [d])) from Iff.rfl, Lib.byteCells_append]; exact hown2), Lib.hid (by rw [List.length_append]; have := HAL.out; simp; omega), HTX, Lib.hid (HBW.out.trans hb2)⟩
              case measure => first | (rw [intOf_lit, intOf_lit, hwr]; omega) | (rw [intOf_lit, intOf_lit]; omega)
            · have hd2 : decide ((i : Int) + 2 < (n : Int)) = false := decide_eq_false (by omega)
              have HTX := Lib.hid (HTI.out.lone HC.out (by rw [HN.out]; exact hlt') (by rw [HN.out]; exact h2))
              go_wp2
              go_roundw
              case rel => exact ⟨i + 1, acc, A3, m3, c3, hlt', rfl, by first | exact cast1Q _ | (rw [hwr]; exact cast1Q _), HO, Lib.hid (by have := HAL.out; omega), HTX, HBW⟩
              case measure => first | (rw [intOf_lit, intOf_lit, hwr]; omega) | (rw [intOf_lit, intOf_lit]; omega)
          · have hcn : ((c.toNat : Int) == 37) = false := byte_ne h37c
            have hcm : ((c.toNat : Int) != 37) = true := byte_bne h37c
            have HTX := Lib.hid (HTI.out.skip HC.out h37c (by rw [HN.out]; exact hlt') HFL.out)
            go_wp2
            go_roundw
            case rel => exact ⟨i + 1, acc, A3, m3, c3, hlt', rfl, by first | exact cast1Q _ | (rw [hwr]; exact cast1Q _), HO, Lib.hid (by have := HAL.out; omega), HTX, HBW⟩
            case measure => first | (rw [intOf_lit, intOf_lit, hwr]; omega) | (rw [intOf_lit, intOf_lit]; omega)
        · have hpe : ((p.toNat : Int) == 37) = false := byte_ne hp37
          have HF2 := Lib.hid (show isPct s.data.toList i 1 = false by rw [HF1.out]; exact beq_eq_false_iff_ne.2 hp37)
          by_cases hi1 : i = 1
          · have hp1 : ¬ (1 : Int) < (i : Int) := by omega
            have HFL := Lib.hid (show (isPct s.data.toList i 1 || isPct s.data.toList i 2) = false by rw [HF2.out, hi1]; rfl)
            clear hp37 hi0 HF1 HF2 hi1
            by_cases h37c : c = 37
            · subst h37c
              by_cases h2 : i + 2 < n
              · have h2i : (i : Int) + 2 < (n : Int) := by omega
                have h1i : (i : Int) + 1 < (n : Int) := by omega
                have hg1 : (0 : Int) ≤ (i : Int) + 1 := by omega
                have hg2 : (0 : Int) ≤ (i : Int) + 2 := by omega
                have hd2 : decide ((i : Int) + 2 < (n : Int)) = true := decide_eq_true h2i
                have ht1 : ((i : Int) + 1).toNat = i + 1 := by omega
                have ht2 : ((i : Int) + 2).toNat = i + 2 := by omega
                have h1n : i + 1 < n := by omega
                obtain ⟨a, ha⟩ : ∃ a, s.data.toList.getD (i + 1) 0 = a := ⟨_, rfl⟩
                obtain ⟨b, hb⟩ : ∃ b, s.data.toList.getD (i + 2) 0 = b := ⟨_, rfl⟩
                have HTX := Lib.hid (HTI.out.hex HC.out (by rw [HN.out]; exact h2) ha hb)
                rw [ha] at hidx1
                rw [hb] at hidx2
                clear ha hb
                have HDA := Lib.hid (fun W => rdigit_any a W)
                have HDB := Lib.hid (fun W => rdigit_any b W)
                have HMV := Lib.hid (byte_of a b)
                obtain ⟨da, hda⟩ : ∃ da, dgt a = da := ⟨_, rfl⟩
                obtain ⟨db, hdb⟩ : ∃ db, dgt b = db := ⟨_, rfl⟩
                rw [hda] at HDA
                rw [hdb] at HDB
                rw [hda, hdb] at HTX HMV
                obtain ⟨m1, m2, m3', m4⟩ := HMV.out
                clear hda hdb HMV
                generalize UInt8.ofNat (16 * da + db) = d at *
                obtain ⟨v2, w2, happ0, hown2, hb20, -⟩ := app_one w.heap.size wr.drew (.slice A3 m3 c3) (Lib.byteCells acc) (d.toNat : Int) (own_below HO.out (Below.refl _ wr).drew) HBW.out.size hal
                have happ : (Builtin.append_ #[59, 59] 59 #[.slice A3 m3 c3, .slice (some ⟨wr.heap.size, 0, none⟩) 1 1]).run Tryz.prog (wr.alloc (.cells #[.int .u8 (d.toNat : Int)] 5)).drew = .ok v2 w2 := happ0
                have hb2 : Below w.heap.size wr w2 := (Below.refl w.heap.size wr).drew.trans hb20
                clear happ0 hb20
                go_wp2
                refine wp_region_ord (.take 0 (.take 1 (.take 2 (.take 3 (.take 4 (.take 7 (.take 8 (.take 9 (.take 10 (.one 5 (.take 6 (.one 11 (.take 12 (.one 13 (.one 14 (.one 15 (.take 16 .done))))))))))))))))) (by kernel_rfl) (by kernel_rfl) (by decide) (by kernel_rfl) (by intro _ _ d _ _ h; cases d <;> exact h) ?_
                refine wpOrd_take rfl rfl ?_; intro K hK; go_simp; refine hK _ ?_; clear hK K
                refine wpOrd_take rfl rfl ?_; intro K hK; go_simp; refine hK _ ?_; clear hK K
                refine wpOrd_take rfl rfl ?_; intro K hK; go_simp; refine hK _ ?_; clear hK K
                refine wpOrd_take rfl rfl ?_; intro K hK; go_simp; refine hK _ ?_; clear hK K
                refine wpOrd_take rfl rfl ?_; intro K hK; go_simp; refine hK _ ?_; clear hK K
                refine wpOrd_take rfl rfl ?_; intro K hK; go_simp; refine hK _ ?_; clear hK K
                refine wpOrd_take rfl rfl ?_; intro K hK; go_simp; refine hK _ ?_; clear hK K
                refine wpOrd_take rfl rfl ?_; intro K hK; go_simp; refine hK _ ?_; clear hK K
                refine wpOrd_take rfl rfl ?_; intro K hK; go_simp; refine hK _ ?_; clear hK K
                refine wpOrd_one rfl rfl ?_; intro K hK; go_wp2_with (go_at_call 80; (with_reducible refine (HDA.out _).mono ?_); rintro e1 w1 ⟨rfl, hw⟩; replace hw := hw.symm; subst hw)
                refine wpOrd_take rfl rfl ?_; intro K hK; go_simp; refine hK _ ?_; clear hK K
                refine wpOrd_one rfl rfl ?_; intro K hK; go_wp2_with (go_at_call 80; (with_reducible refine (HDB.out _).mono ?_); rintro e1 w1 ⟨rfl, hw⟩; replace hw := hw.symm; subst hw)
                refine wpOrd_take rfl rfl ?_; intro K hK; go_simp; refine hK _ ?_; clear hK K
                refine wpOrd_one rfl rfl ?_; intro K hK; go_wp2
                refine wpOrd_one rfl rfl ?_; intro K hK; go_wp2
                refine wpOrd_one rfl rfl ?_; intro K hK; refine app_op 59 _ _ rfl rfl rfl rfl happ ?_; refine hK _ _ ?_; clear hK K
                refine wpOrd_take rfl rfl ?_; intro K hK; go_simp; refine hK _ ?_; clear hK K
                refine wpOrd_done ?_
                go_wp2
                go_roundw
                case rel =>
                  obtain ⟨A9, m9, c9, rfl⟩ := own_sl hown2
                  exact ⟨i + 1, acc ++ [d], A9, m9, c9, hlt', rfl, by first | exact cast1Q _ | (rw [hwr]; exact cast1Q _), Lib.hid (by rw [show OwnB w2 w.heap.size (.slice A9 m9 c9) (acc ++ [d]) ↔ w2.ownsRow w.heap.size 5 1 (.slice A9 m9 c9) (Lib.byteCells (acc ++ [d])).length (Lib.byteCells (acc ++ [d])) from Iff.rfl, Lib.byteCells_append]; exact hown2), Lib.hid (by rw [List.length_append]; have := HAL.out; simp; omega), HTX, Lib.hid (HBW.out.trans hb2)⟩
                case measure => first | (rw [intOf_lit, intOf_lit, hwr]; omega) | (rw [intOf_lit, intOf_lit]; omega)
              · have hd2 : decide ((i : Int) + 2 < (n : Int)) = false := decide_eq_false (by omega)
                have HTX := Lib.hid (HTI.out.lone HC.out (by rw [HN.out]; exact hlt') (by rw [HN.out]; exact h2))
                go_wp2
                go_roundw
                case rel => exact ⟨i + 1, acc, A3, m3, c3, hlt', rfl, by first | exact cast1Q _ | (rw [hwr]; exact cast1Q _), HO, Lib.hid (by have := HAL.out; omega), HTX, HBW⟩
                case measure => first | (rw [intOf_lit, intOf_lit, hwr]; omega) | (rw [intOf_lit, intOf_lit]; omega)
            · have hcn : ((c.toNat : Int) == 37) = false := byte_ne h37c
              have hcm : ((c.toNat : Int) != 37) = true := byte_bne h37c
              have HTX := Lib.hid (HTI.out.put HC.out h37c (by rw [HN.out]; exact hlt') HFL.out)
              obtain ⟨v2, w2, happ, hown2, hb2, _⟩ := app_one w.heap.size wr (.slice A3 m3 c3) (Lib.byteCells acc) (c.toNat : Int) HO.out HBW.out.size hal
              go_wp2_with (at_builtin; refine app_step 59 _ _ rfl rfl rfl rfl rfl happ ?_)
              go_roundw
              case rel =>
                obtain ⟨A9, m9, c9, rfl⟩ := own_sl hown2
                exact ⟨i + 1, acc ++ [c], A9, m9, c9, hlt', rfl, by first | exact cast1Q _ | (rw [hwr]; exact cast1Q _), Lib.hid (by rw [show OwnB w2 w.heap.size (.slice A9 m9 c9) (acc ++ [c]) ↔ w2.ownsRow w.heap.size 5 1 (.slice A9 m9 c9) (Lib.byteCells (acc ++ [c])).length (Lib.byteCells (acc ++ [c])) from Iff.rfl, Lib.byteCells_append]; exact hown2), Lib.hid (by rw [List.length_append]; have := HAL.out; simp; omega), HTX, Lib.hid (HBW.out.trans hb2)⟩
              case measure => first | (rw [intOf_lit, intOf_lit, hwr]; omega) | (rw [intOf_lit, intOf_lit]; omega)
          · have hp1 : (1 : Int) < (i : Int) := by omega
            have hwm2 : wrap64 ((i : Int) - 2) = (i : Int) - 2 := by rw [wrap64_eq]; omega
            have hgm2 : (0 : Int) ≤ (i : Int) - 2 := by omega
            have hlm2 : (i : Int) - 2 < (n : Int) := by omega
            have hlm2' : i - 2 < n := by omega
            have htm2 : ((i : Int) - 2).toNat = i - 2 := by omega
            have hidm2 : ∀ h : i - 2 < s.size, s[i - 2]'h = s.data.toList.getD (i - 2) 0 := fun h => byte_at s _ h
            obtain ⟨q, hq⟩ : ∃ q, s.data.toList.getD (i - 2) 0 = q := ⟨_, rfl⟩
            have HF3 := Lib.hid (show isPct s.data.toList i 2 = (q == 37) by
              unfold isPct
              rw [hq, decide_eq_true (show 2 ≤ i by omega)]; rfl)
            rw [hq] at hidm2
            clear hq
            by_cases hq37 : q = 37
            · have hqe : ((q.toNat : Int) == 37) = true := by subst hq37; rfl
              have HFL := Lib.hid (show (isPct s.data.toList i 1 || isPct s.data.toList i 2) = true by rw [HF2.out, HF3.out, hq37]; rfl)
              clear hp37 hi0 HF1 HF2 HF3 hi1 hq37
              by_cases h37c : c = 37
              · subst h37c
                by_cases h2 : i + 2 < n
                · have h2i : (i : Int) + 2 < (n : Int) := by omega
                  have h1i : (i : Int) + 1 < (n : Int) := by omega
                  have hg1 : (0 : Int) ≤ (i : Int) + 1 := by omega
                  have hg2 : (0 : Int) ≤ (i : Int) + 2 := by omega
                  have hd2 : decide ((i : Int) + 2 < (n : Int)) = true := decide_eq_true h2i
                  have ht1 : ((i : Int) + 1).toNat = i + 1 := by omega
                  have ht2 : ((i : Int) + 2).toNat = i + 2 := by omega
                  have h1n : i + 1 < n := by omega
                  obtain ⟨a, ha⟩ : ∃ a, s.data.toList.getD (i + 1) 0 = a := ⟨_, rfl⟩
                  obtain ⟨b, hb⟩ : ∃ b, s.data.toList.getD (i + 2) 0 = b := ⟨_, rfl⟩
                  have HTX := Lib.hid (HTI.out.hex HC.out (by rw [HN.out]; exact h2) ha hb)
                  rw [ha] at hidx1
                  rw [hb] at hidx2
                  clear ha hb
                  have HDA := Lib.hid (fun W => rdigit_any a W)
                  have HDB := Lib.hid (fun W => rdigit_any b W)
                  have HMV := Lib.hid (byte_of a b)
                  obtain ⟨da, hda⟩ : ∃ da, dgt a = da := ⟨_, rfl⟩
                  obtain ⟨db, hdb⟩ : ∃ db, dgt b = db := ⟨_, rfl⟩
                  rw [hda] at HDA
                  rw [hdb] at HDB
                  rw [hda, hdb] at HTX HMV
                  obtain ⟨m1, m2, m3', m4⟩ := HMV.out
                  clear hda hdb HMV
                  generalize UInt8.ofNat (16 * da + db) = d at *
                  obtain ⟨v2, w2, happ0, hown2, hb20, -⟩ := app_one w.heap.size wr.drew (.slice A3 m3 c3) (Lib.byteCells acc) (d.toNat : Int) (own_below HO.out (Below.refl _ wr).drew) HBW.out.size hal
                  have happ : (Builtin.append_ #[59, 59] 59 #[.slice A3 m3 c3, .slice (some ⟨wr.heap.size, 0, none⟩) 1 1]).run Tryz.prog (wr.alloc (.cells #[.int .u8 (d.toNat : Int)] 5)).drew = .ok v2 w2 := happ0
                  have hb2 : Below w.heap.size wr w2 := (Below.refl w.heap.size wr).drew.trans hb20
                  clear happ0 hb20
                  go_wp2
                  refine wp_region_ord (.take 0 (.take 1 (.take 2 (.take 3 (.take 4 (.take 7 (.take 8 (.take 9 (.take 10 (.one 5 (.take 6 (.one 11 (.take 12 (.one 13 (.one 14 (.one 15 (.take 16 .done))))))))))))))))) (by kernel_rfl) (by kernel_rfl) (by decide) (by kernel_rfl) (by intro _ _ d _ _ h; cases d <;> exact h) ?_
                  refine wpOrd_take rfl rfl ?_; intro K hK; go_simp; refine hK _ ?_; clear hK K
                  refine wpOrd_take rfl rfl ?_; intro K hK; go_simp; refine hK _ ?_; clear hK K
                  refine wpOrd_take rfl rfl ?_; intro K hK; go_simp; refine hK _ ?_; clear hK K
                  refine wpOrd_take rfl rfl ?_; intro K hK; go_simp; refine hK _ ?_; clear hK K
                  refine wpOrd_take rfl rfl ?_; intro K hK; go_simp; refine hK _ ?_; clear hK K
                  refine wpOrd_take rfl rfl ?_; intro K hK; go_simp; refine hK _ ?_; clear hK K
                  refine wpOrd_take rfl rfl ?_; intro K hK; go_simp; refine hK _ ?_; clear hK K
                  refine wpOrd_take rfl rfl ?_; intro K hK; go_simp; refine hK _ ?_; clear hK K
                  refine wpOrd_take rfl rfl ?_; intro K hK; go_simp; refine hK _ ?_; clear hK K
                  refine wpOrd_one rfl rfl ?_; intro K hK; go_wp2_with (go_at_call 80; (with_reducible refine (HDA.out _).mono ?_); rintro e1 w1 ⟨rfl, hw⟩; replace hw := hw.symm; subst hw)
                  refine wpOrd_take rfl rfl ?_; intro K hK; go_simp; refine hK _ ?_; clear hK K
                  refine wpOrd_one rfl rfl ?_; intro K hK; go_wp2_with (go_at_call 80; (with_reducible refine (HDB.out _).mono ?_); rintro e1 w1 ⟨rfl, hw⟩; replace hw := hw.symm; subst hw)
                  refine wpOrd_take rfl rfl ?_; intro K hK; go_simp; refine hK _ ?_; clear hK K
                  refine wpOrd_one rfl rfl ?_; intro K hK; go_wp2
                  refine wpOrd_one rfl rfl ?_; intro K hK; go_wp2
                  refine wpOrd_one rfl rfl ?_; intro K hK; refine app_op 59 _ _ rfl rfl rfl rfl happ ?_; refine hK _ _ ?_; clear hK K
                  refine wpOrd_take rfl rfl ?_; intro K hK; go_simp; refine hK _ ?_; clear hK K
                  refine wpOrd_done ?_
                  go_wp2
                  go_roundw
                  case rel =>
                    obtain ⟨A9, m9, c9, rfl⟩ := own_sl hown2
                    exact ⟨i + 1, acc ++ [d], A9, m9, c9, hlt', rfl, by first | exact cast1Q _ | (rw [hwr]; exact cast1Q _), Lib.hid (by rw [show OwnB w2 w.heap.size (.slice A9 m9 c9) (acc ++ [d]) ↔ w2.ownsRow w.heap.size 5 1 (.slice A9 m9 c9) (Lib.byteCells (acc ++ [d])).length (Lib.byteCells (acc ++ [d])) from Iff.rfl, Lib.byteCells_append]; exact hown2), Lib.hid (by rw [List.length_append]; have := HAL.out; simp; omega), HTX, Lib.hid (HBW.out.trans hb2)⟩
                  case measure => first | (rw [intOf_lit, intOf_lit, hwr]; omega) | (rw [intOf_lit, intOf_lit]; omega)
                · have hd2 : decide ((i : Int) + 2 < (n : Int)) = false := decide_eq_false (by omega)
                  have HTX := Lib.hid (HTI.out.lone HC.out (by rw [HN.out]; exact hlt') (by rw [HN.out]; exact h2))
                  go_wp2
                  go_roundw
                  case rel => exact ⟨i + 1, acc, A3, m3, c3, hlt', rfl, by first | exact cast1Q _ | (rw [hwr]; exact cast1Q _), HO, Lib.hid (by have := HAL.out; omega), HTX, HBW⟩
                  case measure => first | (rw [intOf_lit, intOf_lit, hwr]; omega) | (rw [intOf_lit, intOf_lit]; omega)
              · have hcn : ((c.toNat : Int) == 37) = false := byte_ne h37c
                have hcm : ((c.toNat : Int) != 37) = true := byte_bne h37c
                have HTX := Lib.hid (HTI.out.skip HC.out h37c (by rw [HN.out]; exact hlt') HFL.out)
                go_wp2
                go_roundw
                case rel => exact ⟨i + 1, acc, A3, m3, c3, hlt', rfl, by first | exact cast1Q _ | (rw [hwr]; exact cast1Q _), HO, Lib.hid (by have := HAL.out; omega), HTX, HBW⟩
                case measure => first | (rw [intOf_lit, intOf_lit, hwr]; omega) | (rw [intOf_lit, intOf_lit]; omega)
            · have hqe : ((q.toNat : Int) == 37) = false := byte_ne hq37
              have HFL := Lib.hid (show (isPct s.data.toList i 1 || isPct s.data.toList i 2) = false by rw [HF2.out, HF3.out]; exact beq_eq_false_iff_ne.2 hq37)
              clear hp37 hi0 HF1 HF2 HF3 hi1 hq37
              by_cases h37c : c = 37
              · subst h37c
                by_cases h2 : i + 2 < n
                · have h2i : (i : Int) + 2 < (n : Int) := by omega
                  have h1i : (i : Int) + 1 < (n : Int) := by omega
                  have hg1 : (0 : Int) ≤ (i : Int) + 1 := by omega
                  have hg2 : (0 : Int) ≤ (i : Int) + 2 := by omega
                  have hd2 : decide ((i : Int) + 2 < (n : Int)) = true := decide_eq_true h2i
                  have ht1 : ((i : Int) + 1).toNat = i + 1 := by omega
                  have ht2 : ((i : Int) + 2).toNat = i + 2 := by omega
                  have h1n : i + 1 < n := by omega
                  obtain ⟨a, ha⟩ : ∃ a, s.data.toList.getD (i + 1) 0 = a := ⟨_, rfl⟩
                  obtain ⟨b, hb⟩ : ∃ b, s.data.toList.getD (i + 2) 0 = b := ⟨_, rfl⟩
                  have HTX := Lib.hid (HTI.out.hex HC.out (by rw [HN.out]; exact h2) ha hb)
                  rw [ha] at hidx1
                  rw [hb] at hidx2
                  clear ha hb
                  have HDA := Lib.hid (fun W => rdigit_any a W)
                  have HDB := Lib.hid (fun W => rdigit_any b W)
                  have HMV := Lib.hid (byte_of a b)
                  obtain ⟨da, hda⟩ : ∃ da, dgt a = da := ⟨_, rfl⟩
                  obtain ⟨db, hdb⟩ : ∃ db, dgt b = db := ⟨_, rfl⟩
                  rw [hda] at HDA
                  rw [hdb] at HDB
                  rw [hda, hdb] at HTX HMV
                  obtain ⟨m1, m2, m3', m4⟩ := HMV.out
                  clear hda hdb HMV
                  generalize UInt8.ofNat (16 * da + db) = d at *
                  obtain ⟨v2, w2, happ0, hown2, hb20, -⟩ := app_one w.heap.size wr.drew (.slice A3 m3 c3) (Lib.byteCells acc) (d.toNat : Int) (own_below HO.out (Below.refl _ wr).drew) HBW.out.size hal
                  have happ : (Builtin.append_ #[59, 59] 59 #[.slice A3 m3 c3, .slice (some ⟨wr.heap.size, 0, none⟩) 1 1]).run Tryz.prog (wr.alloc (.cells #[.int .u8 (d.toNat : Int)] 5)).drew = .ok v2 w2 := happ0
                  have hb2 : Below w.heap.size wr w2 := (Below.refl w.heap.size wr).drew.trans hb20
                  clear happ0 hb20
                  go_wp2
                  refine wp_region_ord (.take 0 (.take 1 (.take 2 (.take 3 (.take 4 (.take 7 (.take 8 (.take 9 (.take 10 (.one 5 (.take 6 (.one 11 (.take 12 (.one 13 (.one 14 (.one 15 (.take 16 .done))))))))))))))))) (by kernel_rfl) (by kernel_rfl) (by decide) (by kernel_rfl) (by intro _ _ d _ _ h; cases d <;> exact h) ?_
                  refine wpOrd_take rfl rfl ?_; intro K hK; go_simp; refine hK _ ?_; clear hK K
                  refine wpOrd_take rfl rfl ?_; intro K hK; go_simp; refine hK _ ?_; clear hK K
                  refine wpOrd_take rfl rfl ?_; intro K hK; go_simp; refine hK _ ?_; clear hK K
                  refine wpOrd_take rfl rfl ?_; intro K hK; go_simp; refine hK _ ?_; clear hK K
                  refine wpOrd_take rfl rfl ?_; intro K hK; go_simp; refine hK _ ?_; clear hK K
                  refine wpOrd_take rfl rfl ?_; intro K hK; go_simp; refine hK _ ?_; clear hK K
                  refine wpOrd_take rfl rfl ?_; intro K hK; go_simp; refine hK _ ?_; clear hK K
                  refine wpOrd_take rfl rfl ?_; intro K hK; go_simp; refine hK _ ?_; clear hK K
                  refine wpOrd_take rfl rfl ?_; intro K hK; go_simp; refine hK _ ?_; clear hK K
                  refine wpOrd_one rfl rfl ?_; intro K hK; go_wp2_with (go_at_call 80; (with_reducible refine (HDA.out _).mono ?_); rintro e1 w1 ⟨rfl, hw⟩; replace hw := hw.symm; subst hw)
                  refine wpOrd_take rfl rfl ?_; intro K hK; go_simp; refine hK _ ?_; clear hK K
                  refine wpOrd_one rfl rfl ?_; intro K hK; go_wp2_with (go_at_call 80; (with_reducible refine (HDB.out _).mono ?_); rintro e1 w1 ⟨rfl, hw⟩; replace hw := hw.symm; subst hw)
                  refine wpOrd_take rfl rfl ?_; intro K hK; go_simp; refine hK _ ?_; clear hK K
                  refine wpOrd_one rfl rfl ?_; intro K hK; go_wp2
                  refine wpOrd_one rfl rfl ?_; intro K hK; go_wp2
                  refine wpOrd_one rfl rfl ?_; intro K hK; refine app_op 59 _ _ rfl rfl rfl rfl happ ?_; refine hK _ _ ?_; clear hK K
                  refine wpOrd_take rfl rfl ?_; intro K hK; go_simp; refine hK _ ?_; clear hK K
                  refine wpOrd_done ?_
                  go_wp2
                  go_roundw
                  case rel =>
                    obtain ⟨A9, m9, c9, rfl⟩ := own_sl hown2
                    exact ⟨i + 1, acc ++ [d], A9, m9, c9, hlt', rfl, by first | exact cast1Q _ | (rw [hwr]; exact cast1Q _), Lib.hid (by rw [show OwnB w2 w.heap.size (.slice A9 m9 c9) (acc ++ [d]) ↔ w2.ownsRow w.heap.size 5 1 (.slice A9 m9 c9) (Lib.byteCells (acc ++ [d])).length (Lib.byteCells (acc ++ [d])) from Iff.rfl, Lib.byteCells_append]; exact hown2), Lib.hid (by rw [List.length_append]; have := HAL.out; simp; omega), HTX, Lib.hid (HBW.out.trans hb2)⟩
                  case measure => first | (rw [intOf_lit, intOf_lit, hwr]; omega) | (rw [intOf_lit, intOf_lit]; omega)
                · have hd2 : decide ((i : Int) + 2 < (n : Int)) = false := decide_eq_false (by omega)
                  have HTX := Lib.hid (HTI.out.lone HC.out (by rw [HN.out]; exact hlt') (by rw [HN.out]; exact h2))
                  go_wp2
                  go_roundw
                  case rel => exact ⟨i + 1, acc, A3, m3, c3, hlt', rfl, by first | exact cast1Q _ | (rw [hwr]; exact cast1Q _), HO, Lib.hid (by have := HAL.out; omega), HTX, HBW⟩
                  case measure => first | (rw [intOf_lit, intOf_lit, hwr]; omega) | (rw [intOf_lit, intOf_lit]; omega)
              · have hcn : ((c.toNat : Int) == 37) = false := byte_ne h37c
                have hcm : ((c.toNat : Int) != 37) = true := byte_bne h37c
                have HTX := Lib.hid (HTI.out.put HC.out h37c (by rw [HN.out]; exact hlt') HFL.out)
                obtain ⟨v2, w2, happ, hown2, hb2, _⟩ := app_one w.heap.size wr (.slice A3 m3 c3) (Lib.byteCells acc) (c.toNat : Int) HO.out HBW.out.size hal
                go_wp2_with (at_builtin; refine app_step 59 _ _ rfl rfl rfl rfl rfl happ ?_)
                go_roundw
                case rel =>
                  obtain ⟨A9, m9, c9, rfl⟩ := own_sl hown2
                  exact ⟨i + 1, acc ++ [c], A9, m9, c9, hlt', rfl, by first | exact cast1Q _ | (rw [hwr]; exact cast1Q _), Lib.hid (by rw [show OwnB w2 w.heap.size (.slice A9 m9 c9) (acc ++ [c]) ↔ w2.ownsRow w.heap.size 5 1 (.slice A9 m9 c9) (Lib.byteCells (acc ++ [c])).length (Lib.byteCells (acc ++ [c])) from Iff.rfl, Lib.byteCells_append]; exact hown2), Lib.hid (by rw [List.length_append]; have := HAL.out; simp; omega), HTX, Lib.hid (HBW.out.trans hb2)⟩
                case measure => first | (rw [intOf_lit, intOf_lit, hwr]; omega) | (rw [intOf_lit, intOf_lit]; omega)
theorem rtextw_any (s : ByteArray) (w : World) (hs : s.size ≤ 30000000) : Calls Tryz.prog 62 #[.string s] w (RTextC (unwordL s.data.toList) w) := by
  by_cases h37 : s = ⟨#[37]⟩
  · subst h37
    exact rtextw_pct w
  · exact rtextw_main s w hs h37
end Go.Proofs.YtmcooenafgihkaaGreatDoor
