/- Changes that are sorted, cut, and added in any order, some of them twice, are what they were, for all changes and all orders. -/
import Derived.Test.YtelhclamoapnhaaL2
import Derived.Test.YtelhclamoapnhaaP2
import Derived.Test.YtelhclamoapnhaaR3
namespace Go.Proofs.Ytelhclamoapnhaa
open Go.ChangeShapes Go.WideShapes Go.ChangeAt Go.RowKit Go.Proofs.YtelhclamoapnhaaW.PrintWords
set_option linter.unusedSimpArgs false
set_option linter.unusedVariables false
theorem u64_idx (k : Int) (m : Nat) (hm : 1 ≤ m) (hm2 : m ≤ 4096) : ∃ i : Nat, i < m ∧ wrap64 (Int.tmod (IntKind.u64.wrap k) (m : Int)) = (i : Int) := by
  have h0 : 0 ≤ IntKind.u64.wrap k := by
    simp [IntKind.wrap, IntKind.signed, IntKind.bits]
    omega
  have h1 := Int.emod_nonneg (IntKind.u64.wrap k) (show ((m : Int)) ≠ 0 by omega)
  have h2 := Int.emod_lt_of_pos (IntKind.u64.wrap k) (show (0 : Int) < (m : Int) by omega)
  rw [Int.tmod_eq_emod_of_nonneg h0]
  refine ⟨((IntKind.u64.wrap k) % (m : Int)).toNat, by omega, ?_⟩
  rw [wrap64_eq]
  omega
/-- A part of a text that was added. -/
def AddQ (P L : List ByteArray) (i : Nat) (sb mb : Nat) (w : World) (e : Ending) (w' : World) : Prop := ∃ (b : Bool) (L' : List ByteArray), e = .returned (.tuple #[.bool b, .int .i64 0]) ∧ Hid (StageAt w' sb mb L') ∧ Hid (SubOf L' P) ∧ Hid (L'.getD i ByteArray.empty = P.getD i ByteArray.empty ∧ ∀ j, j < P.length → ¬ j = i → L'.getD j ByteArray.empty = L.getD j ByteArray.empty) ∧ Hid (Below mb w w')
theorem add_q (P L : List ByteArray) (hP : FullP P) (i : Nat) (hi : i < P.length) (sb mb : Nat) (w : World) (hL : SubOf L P) (h : StageAt w sb mb L) : Calls Try.prog 19 #[.pointer (some ⟨sb, 0, none⟩), .int .i64 (i : Int), .string (P.getD i ByteArray.empty)] w (AddQ P L i sb mb w) := by
  obtain ⟨b, L', hr, h1, h2, h3⟩ := add_sub P L hP hL i hi
  refine (add_live sb mb L (i : Int) (P.getD i ByteArray.empty) w h).mono ?_
  rw [hr]
  rintro e w' ⟨he, hs, ht⟩
  exact ⟨b, L', he, Lib.hid hs, Lib.hid h1, Lib.hid ⟨h2, h3⟩, Lib.hid (below_turned ht (Nat.le_refl _))⟩
/-- Parts, in a slice. -/
def StrsN (l : List ByteArray) (m : Nat) (w : World) (e : Ending) (w' : World) : Prop := ∃ (A : Option Addr) (c : Nat), e = .returned (.slice A m c) ∧ Hid (Below w.heap.size w w') ∧ Hid (StrsAt w' A l)
/-- Changes, in a slice. -/
def ChgN (l : List Ch) (n : Nat) (w : World) (e : Ending) (w' : World) : Prop := ∃ (A : Option Addr) (c : Nat), e = .returned (.tuple #[.slice A n c, .int .i64 0]) ∧ Hid (Below w.heap.size w w') ∧ Hid (ChsAt w' A l)
set_option maxHeartbeats 16000000 in
set_option maxRecDepth 100000 in
theorem streamBack_calls {w : World} (A : Option Addr) (c : Nat) (l : List Ch) (hA : ChsAt w A l) (hc : l.length ≤ c) (hm : l.length ≤ maxLen) (B : Option Addr) (d : Nat) (ord : List Int) (hB : IntsAt w B ord) (hd : ord.length ≤ d) (hm2 : ord.length ≤ maxLen) (w' : World) (e : w = w') : Calls Try.prog 5 #[.slice A l.length c, .slice B ord.length d] w' (Ret (.bool true) w') := by
  subst e
  obtain ⟨r, hr, hsm⟩ := small_any l
  have H9 := Lib.hid (fun W (h : ChsAt W A l) => hsm A c W h hc (by simp only [maxLen] at hm; omega))
  have HA := Lib.hid hA
  have HO := Lib.hid hB
  clear hsm hA hB
  cases r with
  | false =>
    clear hr
    generalize l.length = n at *
    generalize ord.length = no at *
    go_enter Try.func5, Try.ntmps5
    go_wp2_with (first | (go_at_call 9; (with_reducible refine (H9.out _ HA.out).mono ?_); rintro e1 w1 ⟨rfl, j1, hw1⟩; have HB1 := Lib.hid (show Below w.heap.size w w1 by rw [hw1]; exact w_ext_below _ _); have HA1 := Lib.hid (HA.out.later HB1.out); clear hw1) | (go_at_call 13; (with_reducible refine (awake_any _).mono ?_); rintro e9 w9 ⟨rfl, j9, hw9⟩; have HBZ := Lib.hid (show Below w.heap.size w w9 from below_tr HB1.out (by rw [hw9]; exact w_ext_below _ _)); clear hw9))
    go_ret
    exact Ret.mk rfl HBZ.out
  | true =>
  obtain ⟨h1, h2⟩ := hr rfl
  clear hr
  have H17 := Lib.hid (fun W (h : ChsAt W A l) => sorted_any A c l W h (by omega))
  cases hso : sortedP l with
  | false =>
    rw [hso] at H17
    clear hso h1 h2
    generalize l.length = n at *
    generalize ord.length = no at *
    go_enter Try.func5, Try.ntmps5
    go_wp2_with (first | (go_at_call 9; (with_reducible refine (H9.out _ HA.out).mono ?_); rintro e1 w1 ⟨rfl, j1, hw1⟩; have HB1 := Lib.hid (show Below w.heap.size w w1 by rw [hw1]; exact w_ext_below _ _); have HA1 := Lib.hid (HA.out.later HB1.out); clear hw1) | (go_at_call 17; (with_reducible refine (H17.out _ HA1.out).mono ?_); rintro e2 w2 ⟨rfl, j2, hw2⟩; have HB2 := Lib.hid (show Below w.heap.size w w2 from below_tr HB1.out (by rw [hw2]; exact w_ext_below _ _)); have HA2 := Lib.hid (HA.out.later HB2.out); clear hw2) | (go_at_call 13; (with_reducible refine (awake_any _).mono ?_); rintro e9 w9 ⟨rfl, j9, hw9⟩; have HBZ := Lib.hid (show Below w.heap.size w w9 from below_tr HB2.out (by rw [hw9]; exact w_ext_below _ _)); clear hw9))
    go_ret
    exact Ret.mk rfl HBZ.out
  | true =>
  rw [hso] at H17
  by_cases hbig : (1000 : Int) < (ord.length : Int)
  · clear hso h1 h2
    generalize l.length = n at *
    generalize ord.length = no at *
    go_enter Try.func5, Try.ntmps5
    go_wp2_with (first | (go_at_call 9; (with_reducible refine (H9.out _ HA.out).mono ?_); rintro e1 w1 ⟨rfl, j1, hw1⟩; have HB1 := Lib.hid (show Below w.heap.size w w1 by rw [hw1]; exact w_ext_below _ _); have HA1 := Lib.hid (HA.out.later HB1.out); clear hw1) | (go_at_call 17; (with_reducible refine (H17.out _ HA1.out).mono ?_); rintro e2 w2 ⟨rfl, j2, hw2⟩; have HB2 := Lib.hid (show Below w.heap.size w w2 from below_tr HB1.out (by rw [hw2]; exact w_ext_below _ _)); have HA2 := Lib.hid (HA.out.later HB2.out); clear hw2) | (go_at_call 13; (with_reducible refine (awake_any _).mono ?_); rintro e9 w9 ⟨rfl, j9, hw9⟩; have HBZ := Lib.hid (show Below w.heap.size w w9 from below_tr HB2.out (by rw [hw9]; exact w_ext_below _ _)); clear hw9))
    go_ret
    exact Ret.mk rfl HBZ.out
  obtain ⟨P, hP, hP1, hP2, hPF, hPC⟩ := cut_tells l hso (by omega) (by omega)
  have H21 := Lib.hid (fun (A5 : Option Addr) (c5 : Nat) W (h : ChsAt W A5 l) (h' : ChsAt W A l) => show Calls Try.prog 21 #[.slice A5 l.length c5, .slice A l.length c] W (Ret (.bool true) W) from by
    have h := eqC_any A5 A c5 c l l W h h' (by omega)
    rwa [decide_eq_true rfl] at h)
  have H23 := Lib.hid (fun (A5 : Option Addr) (c5 : Nat) W (h : ChsAt W A5 l) => show Calls Try.prog 23 #[.slice A5 l.length c5] W (Ret (.bool true) W) from by
    have h := refsorted_any A5 c5 l W h (by omega) (fun i => by
      by_cases hi : i < l.length
      · have h3 := (sorted_small hso) _ (List.getElem_mem hi)
        rw [List.getD_eq_getElem?_getD, List.getElem?_eq_getElem hi]
        show l[i].key.size < _
        omega
      · rw [List.getD_eq_getElem?_getD, List.getElem?_eq_none (by omega)]
        decide)
    rwa [hso] at h)
  have H11 : Hid (∀ W, ChsAt W A l → Calls Try.prog 11 #[.slice A l.length c] W (StrsN P P.length W)) := Lib.hid (fun W (h : ChsAt W A l) => (cut_any A c l W h (by omega) (by omega)).mono fun e w' h => by
    rw [hP] at h
    obtain ⟨A3, c3, he, h3, h4, _, _⟩ := h
    exact ⟨A3, c3, he, h3, h4⟩)
  have H20 : Hid (∀ sb mb W, StageAt W sb mb P → Calls Try.prog 20 #[.pointer (some ⟨sb, 0, none⟩)] W (ChgN l l.length W)) := Lib.hid (fun sb mb W h => (changes_live sb mb P W h).mono fun e w' h => by
    rw [hPC] at h
    obtain ⟨A3, c3, he, h3, h4, _, _⟩ := h
    exact ⟨A3, c3, he, h3, h4⟩)
  have H22 := Lib.hid (fun sb mb W (h : StageAt W sb mb P) => show Calls Try.prog 22 #[.pointer (some ⟨sb, 0, none⟩)] W (Tells (.int .i64 (P.length : Int)) W) from by
    have h := missing_live sb mb P W h
    rwa [missP_full hPF] at h)
  obtain ⟨m, hm0⟩ : ∃ m, P.length = m := ⟨_, rfl⟩
  obtain ⟨no, hno⟩ : ∃ no, ord.length = no := ⟨_, rfl⟩
  have HM := Lib.hid hm0
  have HNO := Lib.hid hno
  have HPF := Lib.hid hPF
  have H18 : Hid (∀ W, Calls Try.prog 18 #[.int .i64 (m : Int)] W (NewP m W)) := Lib.hid fun W => new_stage m (by omega) (by omega) W
  have HSUB := Lib.hid (sub_new P)
  have H19 := Lib.hid (fun i (hi : i < m) sb mb L W (hL : SubOf L P) (h : StageAt W sb mb L) => add_q P L hPF i (by omega) sb mb W hL h)
  have HIDX := Lib.hid (fun k => u64_idx k m (by omega) (by omega))
  rw [hm0] at H11 H22 HSUB hP1 hP2
  rw [hno] at hbig ⊢
  have hmz : ¬ (m : Int) = 0 := by omega
  have hmz2 : ((m : Int) == 0) = false := beq_eq_false_iff_ne.2 hmz
  have hwm : IntKind.u64.wrap (m : Int) = (m : Int) := by
    simp [IntKind.wrap, IntKind.signed, IntKind.bits]
    omega
  clear hso hP hPF hPC hm0 hno h1 h2 hc hm hd hm2
  generalize l.length = n at *
  go_enter Try.func5, Try.ntmps5
  go_wp2_with (first | (go_at_call 9; (with_reducible refine (H9.out _ HA.out).mono ?_); rintro e1 w1 ⟨rfl, j1, hw1⟩; have HB1 := Lib.hid (show Below w.heap.size w w1 by rw [hw1]; exact w_ext_below _ _); have HA1 := Lib.hid (HA.out.later HB1.out); clear hw1) | (go_at_call 17; (with_reducible refine (H17.out _ HA1.out).mono ?_); rintro e2 w2 ⟨rfl, j2, hw2⟩; have HB2 := Lib.hid (show Below w.heap.size w w2 from below_tr HB1.out (by rw [hw2]; exact w_ext_below _ _)); have HA2 := Lib.hid (HA.out.later HB2.out); clear hw2) | (go_at_call 11; (with_reducible refine (H11.out _ HA2.out).mono ?_); rintro e3 w3 ⟨A3, c3, rfl, HB3, HS3⟩; have HBA := Lib.hid (below_tr HB2.out HB3.out)) | (go_at_call 18; (with_reducible refine (H18.out _).mono ?_); rintro e4 w4 ⟨rfl, HST, HB4⟩))
  go_loopw [9, 10, 11, 12, 48] (fun v9 v10 v11 v12 v48 wr => ∃ (k : Nat) (L : List ByteArray), k ≤ no ∧ v48 = .int .i64 (k : Int) ∧ Hid (StageAt wr (w3.heap.size + 1) w3.heap.size L) ∧ Hid (SubOf L P) ∧ Hid (Below w3.heap.size w3 wr)) (fun _ _ _ _ k _ => ((no : Int) - intOf k).toNat)
  case atStart => exact ⟨0, _, Nat.zero_le _, rfl, HST, HSUB, HB4⟩
  case round =>
    obtain ⟨k, L, hk, rfl, HLT, HL, HB5⟩ := hrel
    by_cases hkn : k = no
    · subst hkn
      have hwm1 : wrap64 ((m : Int) - 1) = (m : Int) - 1 := by rw [wrap64_eq]; omega
      go_wp2
      go_loopw [13, 14, 15] (fun v13 v14 v15 wr2 => ∃ (t : Nat) (L : List ByteArray), t ≤ m ∧ v13 = .int .i64 ((t : Int) - 1) ∧ Hid (StageAt wr2 (w3.heap.size + 1) w3.heap.size L) ∧ Hid (SubOf L P) ∧ Hid (∀ j, t ≤ j → j < m → L.getD j ByteArray.empty = P.getD j ByteArray.empty) ∧ Hid (Below w3.heap.size w3 wr2)) (fun i _ _ _ => (intOf i + 1).toNat)
      case atStart => exact ⟨m, L, Nat.le_refl _, by first | rfl | rw [hwm1], HLT, HL, Lib.hid fun j h1 h2 => by omega, HB5⟩
      case round =>
        obtain ⟨t, L2, ht, rfl, HLT2, HL2, HN2, HB6⟩ := hrel
        by_cases ht0 : t = 0
        · have e0 : (t : Int) - 1 = -1 := by omega
          have hLP : L2 = P := sub_all HL2.out (fun j hj => HN2.out j (by omega) (by rw [← HM.out]; exact hj))
          subst hLP
          rw [e0]
          clear e0 HN2 HL2
          go_wp2_with (first | (go_at_call 20; (with_reducible refine (H20.out _ _ _ HLT2.out).mono ?_); rintro e6 w6 ⟨A6, c6, rfl, HB8, HC8⟩; have HBX := Lib.hid (below_tr HB6.out HB8.out); have HA6 := Lib.hid (HA.out.later (below_tr HBA.out HBX.out)); have HT6 := Lib.hid (HLT2.out.later HB8.out)) | (go_at_call 21; (with_reducible refine (H21.out _ _ _ HC8.out HA6.out).mono ?_); rintro e7 w7 ⟨rfl, j7, hw7⟩; have HB9 := Lib.hid (show Below w6.heap.size w6 w7 by rw [hw7]; exact w_ext_below _ _); have HT7 := Lib.hid (HT6.out.later HB9.out); have HC9 := Lib.hid (HC8.out.later HB9.out); clear hw7) | (go_at_call 22; (with_reducible refine (H22.out _ _ _ HT7.out).mono ?_); rintro e8 w8 ⟨rfl, hw8⟩; replace hw8 := hw8.symm; subst hw8) | (go_at_call 23; (with_reducible refine (H23.out _ _ _ HC9.out).mono ?_); rintro e8 w8 ⟨rfl, j8, hw8⟩; have HB10 := Lib.hid (show Below w.heap.size w w8 from below_tr HBA.out (below_tr HBX.out (below_tr HB9.out (by rw [hw8]; exact w_ext_below _ _)))); clear hw8) | (go_at_call 13; (with_reducible refine (awake_any _).mono ?_); rintro e9 w9 ⟨rfl, j9, hw9⟩; have HBZ := Lib.hid (show Below w.heap.size w w9 from below_tr HB10.out (by rw [hw9]; exact w_ext_below _ _)); clear hw9))
          go_ret
          exact Ret.mk (by first | rfl | simp) HBZ.out
        · obtain ⟨s, rfl⟩ : ∃ s, t = s + 1 := ⟨t - 1, by omega⟩
          have e0 : ((s + 1 : Nat) : Int) - 1 = (s : Int) := by omega
          rw [e0]
          have hs0 : (0 : Int) ≤ (s : Int) := by omega
          have hsm2 : (s : Int) < (m : Int) := by omega
          have hws : wrap64 ((s : Int) - 1) = (s : Int) - 1 := by rw [wrap64_eq]; omega
          obtain ⟨b3, o3, eA3, g0⟩ := (HS3.out.later HB6.out) s (by rw [HM.out]; omega)
          subst eA3
          have H19s := Lib.hid (fun sb mb L W (hL : SubOf L P) (h : StageAt W sb mb L) => H19.out s (by omega) sb mb L W hL h)
          generalize P.getD s ByteArray.empty = q at *
          go_wp2_with (go_at_call 19; (with_reducible refine (H19s.out _ _ _ _ HL2.out HLT2.out).mono ?_); rintro e5 w5 ⟨bb, L5, rfl, HL5, HS5, HN5, HB7⟩)
          go_roundw
          case rel => exact ⟨s, L5, by omega, by first | rfl | rw [hws], HL5, HS5, Lib.hid (fun j h1 h2 => by
            by_cases hj : j = s
            · subst hj; exact HN5.out.1
            · rw [HN5.out.2 j (by rw [HM.out]; exact h2) hj]; exact HN2.out j (by omega) h2), Lib.hid (HB6.out.trans HB7.out)⟩
          case measure => first | (simp [intOf]; omega) | (rw [intOf_lit, intOf_lit]; omega) | (rw [intOf_lit, intOf_lit, hws]; omega)
    · have hlt : (k : Int) < (no : Int) := by omega
      have hge : (0 : Int) ≤ (k : Int) := by omega
      have hnl : ¬ (k : Int) < 0 := by omega
      have hwr : wrap64 ((k : Int) + 1) = ((k + 1 : Nat) : Int) := by rw [wrap64_eq]; omega
      obtain ⟨b, o, eB, h0⟩ := (HO.out.later (below_tr HBA.out HB5.out)) k (by rw [HNO.out]; omega)
      subst eB
      generalize ord.getD k 0 = x at *
      obtain ⟨i, him, hidx⟩ := HIDX.out x
      have hcv : ∀ W, (convert 36 3 (.int .u64 (Int.tmod (IntKind.u64.wrap x) (m : Int)))).run Try.prog W = .ok (.int .i64 (i : Int)) W := fun W => by
        have h : (convert 36 3 (.int .u64 (Int.tmod (IntKind.u64.wrap x) (m : Int)))).run Try.prog W = .ok (.int .i64 (wrap64 (Int.tmod (IntKind.u64.wrap x) (m : Int)))) W := by simp [go_sem]; (rw [IntKind.wrap_i64, wrap64_eq])
        rw [h, hidx]
      have hi0 : (0 : Int) ≤ (i : Int) := by omega
      have hi1 : (i : Int) < (m : Int) := by omega
      clear hidx
      obtain ⟨b3, o3, eA3, g0⟩ := (HS3.out.later HB5.out) i (by rw [HM.out]; omega)
      subst eA3
      have H19i := Lib.hid (fun sb mb L W (hL : SubOf L P) (h : StageAt W sb mb L) => H19.out i him sb mb L W hL h)
      generalize P.getD i ByteArray.empty = q at *
      go_wp2_with (go_at_call 19; (with_reducible refine (H19i.out _ _ _ _ HL.out HLT.out).mono ?_); rintro e5 w5 ⟨bb, L5, rfl, HL5, HS5, HN5, HB7⟩)
      go_roundw
      case rel => exact ⟨k + 1, L5, by omega, by first | rfl | rw [hwr], HL5, HS5, Lib.hid (HB5.out.trans HB7.out)⟩
      case measure => first | (simp [intOf]; omega) | (rw [intOf_lit, intOf_lit, hwr]; omega)

set_option maxRecDepth 100000 in
theorem streamBack_lifted (os : Os) (started : os.Started) (H : Type) (enc : TypeId × Value → H) :
    ReturnsInHanded {} Try.checked os 5 .any (Rows.streamBackSpec.pre6 enc Try.prog Try.f5 Rows.streamBackRow.domain false) (Rows.streamBackSpec.post enc Try.prog Try.f5 false true false false) := by
  refine returnsInHanded_of_change (C := Try.checked) Try.own started (by kernel_rfl) Try.func5
    (ChangeSpec.witness6 (enc := enc) (C := Try.checked) false ⟨#[], #[.slice none 0 0, .slice none 0 0], []⟩ 8 (by kernel_rfl) (by kernel_rfl) (by kernel_rfl) (by kernel_rfl)) ?_
  intro W base args ds gs before hval0 hW hcnd _
  have hval : ∀ (j : Nat) t v, Try.f5.params[j]? = some t → args[j]? = some v → Value.okWide Try.prog W .any base t v := hval0
  have hW' := hW
  obtain ⟨p, q, hA0, hV, rfl, hfz, hnd⟩ := hW
  have hA : DataW.TrodAll enc Try.prog W 0 (fun _ => true) true Try.f5.params.toList args.toList ds p := hA0
  rw [Try.params5] at hA hval
  obtain ⟨v0, vs0, d0, ds0, p0, q0, hargs, rfl, rfl, h0, r0⟩ := trodAll_cons hA
  obtain ⟨v1, vs1, d1, ds1, p1, q1, rfl, rfl, rfl, h1, r1⟩ := trodAll_cons r0
  obtain ⟨rfl, rfl, rfl⟩ := trodAll_nil r1
  obtain rfl : args = #[v0, v1] := by cases args; simp_all
  obtain ⟨rfl, rfl⟩ := trodVars_none hV
  obtain ⟨A0, c0, l0, rfl, C0, k0, m0⟩ := open_chs (hval 0 22 _ rfl rfl) h0
  obtain ⟨A1, c1, l1, rfl, C1, k1, m1⟩ := open_nums (hval 1 29 _ rfl rfl) h1
  refine (streamBack_calls A0 c0 l0 C0 k0 m0 A1 c1 l1 C1 k1 m1 W rfl).mono fun e W' ⟨he, j, hj⟩ => ?_
  subst he; subst hj
  exact ⟨_, rfl, law_post Try.laidOut (by kernel_rfl) rfl rfl rfl hW' (w_ext_below _ _)⟩

theorem streamBack_holds : Rows.StreamBackSaid :=
  OpenClaim.holds_of_wide 5 Try.f5 rfl rfl rfl rfl rfl rfl rfl ⟨rfl, rfl, rfl, rfl, rfl⟩ rfl rfl rfl rfl rfl (by kernel_rfl) Try.func5 (by kernel_rfl)
    (of_decide_eq_true (by kernel_rfl)) (by unfold Func.isWrapper; first | (rw [if_pos (by decide +kernel)]; kernel_rfl) | (rw [if_neg (by decide +kernel)]; exact ⟨rfl, rfl⟩))
    (fun os started H enc _ => streamBack_lifted os started H enc)

end Go.Proofs.Ytelhclamoapnhaa
