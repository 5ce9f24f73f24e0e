/- Helper lemmas: the number of a word, by the reference. No condition. -/
import Derived.Test.YtmcooenafgihkaaGreatDoorQ3
import Derived.Test.YtmcooenafgihkaaGreatDoorP4
set_option linter.unusedSimpArgs false
set_option linter.unusedVariables false
namespace Go.Proofs.YtmcooenafgihkaaGreatDoor
open Go.RowKit

theorem drop_byte (l : Bs) (i : Nat) (h : i < l.length) : l.drop i = l.getD i 0 :: l.drop (i + 1) := by
  rw [List.drop_eq_getElem_cons h, List.getD_eq_getElem?_getD, List.getElem?_eq_getElem h]
  rfl
theorem head_byte (l : Bs) (h : 0 < l.length) : l.head? = some (l.getD 0 0) := by
  cases l with
  | nil => simp at h
  | cons c l => rfl
set_option maxHeartbeats 8000000 in
set_option maxRecDepth 100000 in
theorem rnumber_long (s : ByteArray) (w : World) (hl : 20 < (s.size : Int)) : Calls Tryz.prog 23 #[.string s] w (fun e w' => e = .returned (numV none) ∧ Below w.heap.size w w') := by
  go_enter Tryz.func23, Tryz.ntmps23
  go_wp2
  go_ret2
  exact ⟨rfl, Below.refl _ _⟩
set_option maxHeartbeats 8000000 in
set_option maxRecDepth 100000 in
theorem rnumber_main (s : ByteArray) (w : World) (n : Nat) (hn : s.size = n) (hl : ¬ 20 < (n : Int)) (v : Nat) (HV : Hid (accL 0 s.data.toList = v)) (N : Int) (T : ByteArray) (n1 n2 : Int) (HI1 : Hid (IntKind.i64.wrap (v : Int) = n1)) (HI1B : Hid (wrap64 (v : Int) = n1)) (v2 : Int) (HNEG : Hid (IntKind.u64.wrap (-(v : Int)) = v2)) (HI2 : Hid (IntKind.i64.wrap v2 = n2)) (HI2B : Hid (wrap64 v2 = n2)) (HN0 : Hid (N = if s.data.toList.head? = some 45 then n2 else n1))
    (HDT : Hid (∀ W, Calls Tryz.prog 43 #[.int .i64 N] W fun e w' => e = .returned (.string T) ∧ Below W.heap.size W w')) (b : Bool) (hb : (T.toList == s.toList) = b) (HVL : Hid (v < 18446744073709551616)) : Calls Tryz.prog 23 #[.string s] w (fun e w' => e = .returned (numV (if b = true then some N else none)) ∧ Below w.heap.size w w') := by
  have HN := Lib.hid (show s.data.toList.length = n by rw [Array.length_toList]; exact hn)
  have HB0 := Lib.hid hb
  clear hb
  go_enter Tryz.func23, Tryz.ntmps23
  go_wp2
  go_loopw [4, 12] (fun v4 v12 wr => ∃ (i u : Nat), i ≤ n ∧ v12 = .int .i64 (i : Int) ∧ v4 = .int .u64 (u : Int) ∧ Hid (accL u (s.data.toList.drop i) = v) ∧ Hid (u < 18446744073709551616) ∧ Hid (Below w.heap.size w wr)) (fun _ i _ => ((n : Int) - intOf i).toNat)
  case atStart => exact ⟨0, 0, Nat.zero_le _, rfl, rfl, HV, Lib.hid (by decide), Lib.hid (Below.refl _ _)⟩
  case round =>
    obtain ⟨i, u, hi, rfl, rfl, HA, HU, HB⟩ := hrel
    by_cases hin : i < n
    · have hlt : (i : Int) < (n : Int) := by omega
      have hge : (0 : Int) ≤ (i : Int) := by omega
      have hnl : ¬ (i : Int) < 0 := by omega
      have hwr : wrap64 ((i : Int) + 1) = (i : Int) + 1 := by rw [wrap64_eq]; omega
      have hidx : ∀ h : i < s.size, s[i]'h = s.data.toList.getD i 0 := fun h => by
        rw [List.getD_eq_getElem?_getD, List.getElem?_eq_getElem (by simpa using h)]
        simp [ByteArray.getElem_eq_getElem_data]
      have HDB := Lib.hid (drop_byte s.data.toList i (by rw [HN.out]; exact hin))
      obtain ⟨c, hc⟩ : ∃ c, s.data.toList.getD i 0 = c := ⟨_, rfl⟩
      rw [hc] at hidx HDB
      clear hc
      by_cases hd : 48 ≤ c.toNat ∧ c.toNat ≤ 57
      · obtain ⟨hd1, hd2⟩ := hd
        have g1 : (48 : Int) ≤ (c.toNat : Int) := by omega
        have g2 : (c.toNat : Int) ≤ 57 := by omega
        have g1n : decide (48 ≤ c.toNat) = true := decide_eq_true hd1
        have g2n : decide (c.toNat ≤ 57) = true := decide_eq_true hd2
        have HA2 := Lib.hid (show accL ((u * 10 + (c.toNat - 48)) % 18446744073709551616) (s.data.toList.drop (i + 1)) = v by
          have := HA.out
          rw [HDB.out] at this
          simp only [accL] at this
          rw [if_pos ⟨hd1, hd2⟩] at this
          exact this)
        have HU2 := Lib.hid (show (u * 10 + (c.toNat - 48)) % 18446744073709551616 < 18446744073709551616 from Nat.mod_lt _ (by decide))
        obtain ⟨e, he⟩ : ∃ e : Nat, c.toNat - 48 = e := ⟨_, rfl⟩
        obtain ⟨m, hm⟩ : ∃ m : Nat, u * 10 % 18446744073709551616 = m := ⟨_, rfl⟩
        have w1 : IntKind.u64.wrap ((u : Int) * 10) = (m : Int) := by rw [u64_wrap]; omega
        have w2 : IntKind.u8.wrap ((c.toNat : Int) - 48) = (e : Int) := by show ((c.toNat : Int) - 48) % 256 = _; omega
        have w2b : (c.toNat : Int) - 48 = (e : Int) := by omega
        have w3 : IntKind.u64.wrap (e : Int) = (e : Int) := by rw [u64_wrap]; omega
        have w4 : IntKind.u64.wrap ((m : Int) + (e : Int)) = (((u * 10 + (c.toNat - 48)) % 18446744073709551616 : Nat) : Int) := by rw [u64_wrap]; omega
        clear he hm hd1 hd2
        generalize (u * 10 + (c.toNat - 48)) % 18446744073709551616 = u2 at *
        go_wp2
        go_roundw
        case rel => exact ⟨i + 1, u2, hin, (by first | (rw [hwr]; done) | (rw [hwr]; rfl) | rfl), rfl, HA2, HU2, HB⟩
        case measure => (first | rw [intOf_lit, intOf_lit, hwr] | rw [intOf_lit, intOf_lit]); omega
      · have HA2 := Lib.hid (show accL u (s.data.toList.drop (i + 1)) = v by
          have := HA.out
          rw [HDB.out] at this
          simp only [accL] at this
          rw [if_neg hd] at this
          exact this)
        by_cases h1 : 48 ≤ c.toNat
        · have g1 : (48 : Int) ≤ (c.toNat : Int) := by omega
          have g2 : ¬ (c.toNat : Int) ≤ 57 := by omega
          have g1n : decide (48 ≤ c.toNat) = true := decide_eq_true h1
          have g2n : decide (c.toNat ≤ 57) = false := decide_eq_false (by omega)
          clear hd h1
          go_wp2
          go_roundw
          case rel => exact ⟨i + 1, u, hin, (by first | (rw [hwr]; done) | (rw [hwr]; rfl) | rfl), rfl, HA2, HU, HB⟩
          case measure => (first | rw [intOf_lit, intOf_lit, hwr] | rw [intOf_lit, intOf_lit]); omega
        · have g1 : ¬ (48 : Int) ≤ (c.toNat : Int) := by omega
          have g1n : decide (48 ≤ c.toNat) = false := decide_eq_false h1
          clear hd h1
          go_wp2
          go_roundw
          case rel => exact ⟨i + 1, u, hin, (by first | (rw [hwr]; done) | (rw [hwr]; rfl) | rfl), rfl, HA2, HU, HB⟩
          case measure => (first | rw [intOf_lit, intOf_lit, hwr] | rw [intOf_lit, intOf_lit]); omega
    · have hnlt : ¬ (i : Int) < (n : Int) := by omega
      have HUV := Lib.hid (show u = v by
        have := HA.out
        rw [List.drop_eq_nil_of_le (by rw [HN.out]; omega)] at this
        exact this)
      obtain rfl := HUV.out
      clear HA HV
      have hb := HB0.out
      rcases Nat.eq_zero_or_pos n with h0 | h0
      · have HN1 := Lib.hid (show N = n1 by
          rw [HN0.out, if_neg]
          have hnil : s.data.toList = [] := List.eq_nil_of_length_eq_zero (by rw [HN.out]; exact h0)
          rw [hnil]; simp)
        have h00 : ¬ (0 : Int) < (n : Int) := by omega
        have h00n : decide (0 < n) = false := decide_eq_false (by omega)
        obtain rfl := HN1.out
        clear HN0 h0
        have hi1 := HI1.out; have hi1b := HI1B.out; have hi2 := HI2.out; have hi2b := HI2B.out; have hneg := HNEG.out
        cases b with
        | true =>
          go_wp2_with (go_at_call 43; (with_reducible refine (HDT.out _).mono ?_); rintro e2 w2 ⟨rfl, hb2⟩; have HB2 := Lib.hid (below_tr HB.out hb2); clear hb2)
          go_ret2
          exact ⟨rfl, HB2.out⟩
        | false =>
          go_wp2_with (go_at_call 43; (with_reducible refine (HDT.out _).mono ?_); rintro e2 w2 ⟨rfl, hb2⟩; have HB2 := Lib.hid (below_tr HB.out hb2); clear hb2)
          go_ret2
          exact ⟨rfl, HB2.out⟩
      · have h00 : (0 : Int) < (n : Int) := by omega
        have h00n : decide (0 < n) = true := decide_eq_true h0
        have hidx : ∀ h : 0 < s.size, s[0]'h = s.data.toList.getD 0 0 := fun h => by
          rw [List.getD_eq_getElem?_getD, List.getElem?_eq_getElem (by simpa using h)]
          simp [ByteArray.getElem_eq_getElem_data]
        have HHD := Lib.hid (head_byte s.data.toList (by rw [HN.out]; exact h0))
        obtain ⟨c, hc⟩ : ∃ c, s.data.toList.getD 0 0 = c := ⟨_, rfl⟩
        rw [hc] at hidx HHD
        clear hc
        by_cases h45 : c = 45
        · have HN1 := Lib.hid (show N = n2 by rw [HN0.out, if_pos]; rw [HHD.out, h45])
          have hq : ((c.toNat : Int) == 45) = true := by rw [h45]; rfl
          obtain rfl := HN1.out
          clear HN0 h45
          have hi1 := HI1.out; have hi1b := HI1B.out; have hi2 := HI2.out; have hi2b := HI2B.out; have hneg := HNEG.out
          cases b with
          | true =>
            go_wp2_with (go_at_call 43; (with_reducible refine (HDT.out _).mono ?_); rintro e2 w2 ⟨rfl, hb2⟩; have HB2 := Lib.hid (below_tr HB.out hb2); clear hb2)
            go_ret2
            exact ⟨rfl, HB2.out⟩
          | false =>
            go_wp2_with (go_at_call 43; (with_reducible refine (HDT.out _).mono ?_); rintro e2 w2 ⟨rfl, hb2⟩; have HB2 := Lib.hid (below_tr HB.out hb2); clear hb2)
            go_ret2
            exact ⟨rfl, HB2.out⟩
        · have HN1 := Lib.hid (show N = n1 by rw [HN0.out, if_neg]; rw [HHD.out]; simpa using h45)
          have hq : ((c.toNat : Int) == 45) = false := by
            rw [beq_eq_false_iff_ne]
            intro e
            have h45n : (45 : UInt8).toNat = 45 := rfl
            exact h45 (UInt8.toNat_inj.1 (by omega))
          obtain rfl := HN1.out
          clear HN0 h45
          have hi1 := HI1.out; have hi1b := HI1B.out; have hi2 := HI2.out; have hi2b := HI2B.out; have hneg := HNEG.out
          cases b with
          | true =>
            go_wp2_with (go_at_call 43; (with_reducible refine (HDT.out _).mono ?_); rintro e2 w2 ⟨rfl, hb2⟩; have HB2 := Lib.hid (below_tr HB.out hb2); clear hb2)
            go_ret2
            exact ⟨rfl, HB2.out⟩
          | false =>
            go_wp2_with (go_at_call 43; (with_reducible refine (HDT.out _).mono ?_); rintro e2 w2 ⟨rfl, hb2⟩; have HB2 := Lib.hid (below_tr HB.out hb2); clear hb2)
            go_ret2
            exact ⟨rfl, HB2.out⟩
theorem rnumber_any (s : ByteArray) (w : World) : Calls Tryz.prog 23 #[.string s] w (fun e w' => e = .returned (numV (numL s.data.toList)) ∧ Below w.heap.size w w') := by
  have hlen : s.data.toList.length = s.size := by rw [Array.length_toList]; rfl
  by_cases hl : 20 < s.size
  · have e : numL s.data.toList = none := by rw [num_ref, if_neg]; intro h; omega
    rw [e]; exact rnumber_long s w (by omega)
  · have hv := accL_lt s.data.toList 0 (by decide)
    have key := rnumber_main s w s.size rfl (by omega) (accL 0 s.data.toList) (Lib.hid rfl) (refN s.data.toList) ⟨(Lib.itoa (refN s.data.toList)).toArray⟩ _ _ (Lib.hid (IntWalk.i64_left _)) (Lib.hid rfl) (IntKind.u64.wrap (-(accL 0 s.data.toList : Int))) (Lib.hid rfl) (Lib.hid (IntWalk.i64_left _)) (Lib.hid rfl)
      (Lib.hid (by
        unfold refN
        split
        · rw [u64_wrap]; unfold wrap64; omega
        · rfl)) (Lib.hid fun W => digits_any _ (by unfold refN; split <;> exact wrap_i64 _) W) _ rfl (Lib.hid hv)
    have e : numL s.data.toList = (if ((⟨(Lib.itoa (refN s.data.toList)).toArray⟩ : ByteArray).toList == s.toList) = true then some (refN s.data.toList) else none) := by
      rw [num_ref]
      by_cases h : Lib.itoa (refN s.data.toList) = s.data.toList
      · rw [if_pos ⟨by omega, h⟩, if_pos]
        rw [beq_iff_eq, ByteArray.toList_eq, ByteArray.toList_eq]
        exact h
      · rw [if_neg (fun hh => h hh.2), if_neg]
        rw [beq_iff_eq, ByteArray.toList_eq, ByteArray.toList_eq]
        exact h
    rw [e]; exact key
end Go.Proofs.YtmcooenafgihkaaGreatDoor
