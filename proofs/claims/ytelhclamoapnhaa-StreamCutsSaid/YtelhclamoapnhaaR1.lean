/- Helper lemmas: changes as bytes, by the document. No condition. -/
import Derived.Test.YtelhclamoapnhaaGB
set_option linter.unusedSimpArgs false
set_option linter.unusedVariables false
namespace Go.Proofs.Ytelhclamoapnhaa
open Go.RowKit Go.Proofs.YtelhclamoapnhaaW.PrintWords Go.Proofs.YtelhclamoapnhaaW.PrintLast Go.Proofs.YtelhclamoapnhaaW.PrintMore

/-- Bytes in a row of the call's own. -/
def RetO (r : List Int) (w : World) (e : Ending) (w' : World) : Prop := ∃ v : Value, e = .returned v ∧ Hid (Kd.R (Kd.int .u8) 5 w' w.heap.size (fun _ => True) v r) ∧ Hid (Below w.heap.size w w')
theorem rput_own (A : Option Addr) (c : Nat) (l : List Int) (n k : Int) (w : World) (hA : ReadsB w A l) (hc : l.length ≤ c) (hl : l.length < 140737488355000) :
    Calls Try.prog 45 #[.slice A l.length c, .int .i64 n, .int .i64 k] w (RetO (putR l n k) w) :=
  (PPutText.crannogref01_Put.calls 10 A c l n k (putR l n k) w hA hc (rput_all l n k hl 10 (Nat.le_refl _))).mono fun _ _ ⟨v, he, hR, hb⟩ => ⟨v, he, Lib.hid hR, Lib.hid hb⟩
theorem rtext_own (A : Option Addr) (c : Nat) (l : List Int) (s : ByteArray) (w : World) (hA : ReadsB w A l) (hc : l.length ≤ c) (hl : l.length < 140737488254000) :
    Calls Try.prog 46 #[.slice A l.length c, .string s] w (RetO (textR l s) w) :=
  (PPutText.crannogref01_PutText.calls (65535 + 10) A c l s (textR l s) w hA hc (rtext_all l s hl)).mono fun _ _ ⟨v, he, hR, hb⟩ => ⟨v, he, Lib.hid hR, Lib.hid hb⟩
/-- One byte behind bytes. -/
theorem app_byte (w W : World) (n : Nat) (v : Value) (l : List Int) (x : Int) (HO : Kd.R (Kd.int .u8) 5 W w.heap.size (fun _ => True) v l) (HB : Below w.heap.size w W) (hl : l.length ≤ 100000000) (hn : n = W.heap.size) :
    ∃ (v2 : Value) (w2 : World), (Builtin.append_ #[65, 65] 65 #[v, .slice (some ⟨n, 0, none⟩) 1 1]).run Try.prog (W.alloc (.cells #[.int .u8 x] 5)) = .ok v2 w2 ∧ Hid (Kd.R (Kd.int .u8) 5 w2 w.heap.size (fun _ => True) v2 (l ++ [x])) ∧ Hid (Below w.heap.size w w2) ∧ Hid (∀ k, k < W.heap.size → ¬ v.ownBlock = some k → w2.heap[k]? = W.heap[k]?) := by
  subst hn
  obtain ⟨i0, hi, hzz⟩ := Option.map_eq_some_iff.1 (show (Try.prog.info? 5).map (fun i => (i.zero, i.size, i.bytes)) = some (some (.int .u8 0), 1, 1) by kernel_rfl)
  simp only [Prod.mk.injEq] at hzz
  obtain ⟨hz0, hz1, hz2⟩ := hzz
  have hbase : w.heap.size ≤ W.heap.size := HB.size
  have HO2 := Kd.own_of_R HO
  obtain ⟨v2, w2, hr, hown, hg, _, _⟩ := run_append_own_at (P := Try.prog) (W.alloc (.cells #[.int .u8 x] 5)) w.heap.size 65 65 5 i0 (.int .u8 0) 1 1 Try.underlying65 hi hz0 hz1 hz2 rfl (by decide) v l.length (encs (Value.int .u8) l) (HO2.alloc _) ⟨W.heap.size, 0, none⟩ 1 1 [.int .u8 x] rfl
    (World.news_of_block (cs := #[.int .u8 x]) (t := 5) (fr := (0, 0)) (heap_alloc_new W _)) (by simp [Value.oneCell']) (by simp only [maxLen]; omega) (by omega) (by simp; omega)
  have own_b : ∀ k, v.ownBlock = some k → w.heap.size ≤ k := fun k hk => by
    obtain ⟨_, ⟨rfl, _⟩ | ⟨g, cap, cur, rfl, hb, _⟩⟩ := HO2
    · simp [Value.ownBlock] at hk
    · have : g = k := by simpa [Value.ownBlock] using hk
      omega
  refine ⟨v2, w2, hr, Lib.hid ?_, Lib.hid ((HB.alloc hbase _).grown hg (by simp; omega) own_b), Lib.hid fun k hk hne => ?_⟩
  · refine Kd.R_of_own (h1 := fun _ => rfl) ?_ (fun _ _ => trivial)
    rw [List.length_append]
    unfold encs at hown ⊢
    rw [List.map_append]
    exact hown
  · rw [hg.block k (by simp; omega) (fun e => hne e.symm)]
    exact Lib.alloc_old W _ k hk
/-- One byte behind bytes, and the change that lies beside them. -/
theorem app_gone (w wr : World) (v : Value) (acc : List Int) (x : Int) (key val : ByteArray) (g : Bool) (HO : Kd.R (Kd.int .u8) 5 wr w.heap.size (fun _ => True) v acc) (HB : Below w.heap.size w wr) (hl : acc.length ≤ 100000000) :
    ∃ (A2 : Option Addr) (c2 : Nat) (w2 : World), (Builtin.append_ #[65, 65] 65 #[v, .slice (some ⟨wr.heap.size + 1, 0, none⟩) 1 1]).run Try.prog ((wr.alloc (.cells #[.string key, .string val, .bool g] 43)).alloc (.cells #[.int .u8 x] 5)) = .ok (.slice A2 (acc ++ [x]).length c2) w2 ∧ Hid (ReadsB w2 A2 (acc ++ [x])) ∧ Hid ((acc ++ [x]).length ≤ c2) ∧ Hid (Below w.heap.size w w2) ∧ w2.cell? ⟨wr.heap.size, 0, none⟩ = some (.string key) ∧ w2.cell? ⟨wr.heap.size, 1, none⟩ = some (.string val) := by
  have hb := HB.size
  obtain ⟨v2, w2, h1, h2, h3, h4⟩ := app_byte w (wr.alloc (.cells #[.string key, .string val, .bool g] 43)) (wr.heap.size + 1) v acc x (Kd.R_alloc HO _) (HB.alloc hb _) hl (by simp)
  obtain ⟨A2, c2, rfl, hc, hC⟩ := Kd.R_reads h2.out
  have hblk : w2.heap[wr.heap.size]? = some (.cells #[.string key, .string val, .bool g] 43 (0, 0)) := by
    rw [h4.out wr.heap.size (by simp) (fun e => by have := Kd.R_lt HO _ e; omega)]
    exact heap_alloc_new wr _
  exact ⟨A2, c2, w2, h1, Lib.hid hC, Lib.hid hc, h3, by rw [Lib.cell_of_heap hblk]; rfl, by rw [Lib.cell_of_heap hblk]; rfl⟩
theorem putR_one (l : List Int) (n : Int) (h : 0 ≤ n) (h2 : n < 256) : putR l n 1 = l ++ [n] := by
  unfold putR
  rw [if_pos (by omega)]
  simp [putL]
  omega
set_option maxHeartbeats 8000000 in
set_option maxRecDepth 100000 in
theorem refput_any (A : Option Addr) (c : Nat) (l : List Ch) (w : World) (hA : ChsAt w A l) (hl : l.length ≤ 5000) (ht : chTot l ≤ 1000000) : Calls Try.prog 34 #[.slice A l.length c] w (Ret (.string (strOfNums (putAll l))) w) := by
  have HA := Lib.hid hA
  have HPE := Lib.hid (putUp_end l)
  have HPS := Lib.hid (putUp_step l)
  have HPL := Lib.hid (fun i (hi : i ≤ l.length) => show (putUp l i).length ≤ 2000000 by have := putUp_length l i hi; have := chTot_le l i; omega)
  have HP0 := Lib.hid (show putR [] (l.length : Int) 4 = putUp l 0 from rfl)
  have hR0 : ReadsB w none [] := (Kd.R_reads' (Kd.R_nil (Kd.int .u8) 5 w 0 (fun _ => True))).2.2
  obtain ⟨n, hn⟩ : ∃ n, l.length = n := ⟨_, rfl⟩
  rw [hn] at HP0 HPE hl ⊢
  have HN := Lib.hid hn
  have H0 := Lib.hid (show Calls Try.prog 45 #[.slice none 0 0, .int .i64 (n : Int), .int .i64 4] w (RetO (putUp l 0) w) from by
    rw [← HP0.out]
    exact rput_own none 0 [] (n : Int) 4 w hR0 (Nat.le_refl _) (by simp))
  have HTT := Lib.hid ht
  clear hA hn ht hR0
  go_enter Try.func34, Try.ntmps34
  go_wp2_with (go_at_call 45; (with_reducible refine H0.out.mono ?_); rintro e1 w1 ⟨v1, rfl, HR1, HB1⟩)
  go_loopw [3, 5, 11] (fun v3 v5 v11 wr => ∃ (i : Nat), i ≤ n ∧ v11 = .int .i64 (i : Int) ∧ Hid (Below w.heap.size w wr) ∧ Hid (Kd.R (Kd.int .u8) 5 wr w.heap.size (fun _ => True) v3 (putUp l i))) (fun _ _ i _ => ((n : Int) - intOf i).toNat)
  case atStart => exact ⟨0, Nat.zero_le _, rfl, HB1, HR1⟩
  case round =>
    obtain ⟨i, hi, rfl, HB, HC⟩ := hrel
    have HLEN := Lib.hid (HPL.out i (by rw [HN.out]; exact hi))
    by_cases hin : i = n
    · subst hin
      have e1 := HPE.out
      rw [e1] at HC
      clear e1
      obtain ⟨B, d, rfl, hd, hC⟩ := Kd.R_reads HC.out
      have hcv := Kd.C_string (P := Try.prog) (c := d) Try.underlying65 Try.underlying5 Try.underlying9 hC
      clear HC hC
      generalize putAll l = r at *
      generalize r.length = m at *
      go_wp2
      go_ret
      exact Ret.mk rfl HB.out
    · have hlt : (i : Int) < (n : Int) := by omega
      have hge : (0 : Int) ≤ (i : Int) := by omega
      have hnl : ¬ (i : Int) < 0 := by omega
      have hwr : wrap64 ((i : Int) + 1) = ((i + 1 : Nat) : Int) := by rw [wrap64_eq]; omega
      obtain ⟨b, o, eA, h0, h1, h2⟩ := (HA.out.later HB.out) i (by rw [HN.out]; omega)
      subst eA
      have HSTEP := Lib.hid (HPS.out i (by rw [HN.out]; omega))
      have hlb := leB_of_cell h0
      have hkv : min (l.getD i noCh).key.size 65535 + min (l.getD i noCh).val.size 65535 ≤ 1000000 := by
        have g1 := chTot_take l i (by rw [HN.out]; omega)
        have g2 := chTot_le l (i + 1)
        have g3 := HTT.out
        omega
      generalize l.getD i noCh = ch at *
      obtain ⟨key, val, gone⟩ := ch
      simp only at h0 h1 h2 hkv
      obtain ⟨r3, hr3⟩ : ∃ r, putUp l (i + 1) = r := ⟨_, rfl⟩
      rw [hr3] at HSTEP
      have HR3 := Lib.hid hr3
      clear hr3
      generalize putUp l i = acc at *
      have HL2 := HLEN.out
      unfold putCh at HSTEP
      simp only at HSTEP
      have hg1 : putR acc (if gone = true then 1 else 0) 1 = acc ++ [if gone = true then 1 else 0] := putR_one acc _ (by split <;> decide) (by split <;> decide)
      rw [hg1] at HSTEP
      have hq2 := textR_length (acc ++ [if gone = true then 1 else 0]) key
      rw [List.length_append, List.length_singleton] at hq2
      have H44a := Lib.hid (fun W A c (h : ReadsB W A (acc ++ [if gone = true then 1 else 0])) hc => rtext_own A c (acc ++ [if gone = true then 1 else 0]) key W h hc (by rw [List.length_append, List.length_singleton]; omega))
      have H44b := Lib.hid (fun W A c (h : ReadsB W A (textR (acc ++ [if gone = true then 1 else 0]) key)) hc => rtext_own A c (textR (acc ++ [if gone = true then 1 else 0]) key) val W h hc (by omega))
      rw [← HSTEP.out] at H44b
      clear hq2 HL2 HSTEP hg1 hkv
      obtain ⟨B3, d3, hv3, -, -⟩ := Kd.R_reads HC.out
      obtain ⟨A2, c2, w2, happ, HC2, hd2, HB2, hk2, hv2⟩ := app_gone w wr u3 acc (if gone = true then 1 else 0) key val gone HC.out HB.out (Nat.le_trans HLEN.out (by decide))
      rw [hv3] at happ
      subst hv3
      generalize acc ++ [if gone = true then 1 else 0] = r1 at *
      generalize textR r1 key = r2 at *
      generalize r1.length = m1 at *
      generalize acc.length = m0 at *
      clear HLEN
      cases gone with
      | false =>
        simp only [Bool.false_eq_true, if_false] at happ
        go_wp2_with (first | (at_builtin; refine app_step 65 _ _ rfl rfl rfl rfl rfl happ ?_) | (go_at_call 46; (with_reducible refine (H44a.out _ _ _ HC2.out hd2.out).mono ?_); rintro e4 w4 ⟨v4, rfl, HR4, HB4⟩; obtain ⟨A4, c4, rfl, hd4, hC4⟩ := Kd.R_reads HR4.out; have HC4 := Lib.hid hC4; have HD4 := Lib.hid hd4; clear hC4 hd4; have hv4 : w4.cell? ⟨wr.heap.size, 1, none⟩ = some (.string val) := (HB4.out.cell (p := ⟨wr.heap.size, 1, none⟩) (World.block_lt_of_cell? w2 _ hv2)).trans hv2) | (go_at_call 46; (with_reducible refine (H44b.out _ _ _ HC4.out HD4.out).mono ?_); rintro e5 w5 ⟨v5, rfl, HR5, HB5⟩))
        go_roundw
        case rel => exact ⟨i + 1, by omega, by first | rfl | rw [hwr], Lib.hid (HB2.out.trans ((HB4.out.mono HB2.out.size).trans (HB5.out.mono (Nat.le_trans HB2.out.size HB4.out.size)))), Lib.hid (by rw [HR3.out]; exact Kd.R_lower HR5.out (Nat.le_trans HB2.out.size HB4.out.size))⟩
        case measure => first | (simp [intOf]; omega) | (rw [intOf_lit, intOf_lit, hwr]; omega)
      | true =>
        simp only [if_true] at happ
        go_wp2_with (first | (at_builtin; refine app_step 65 _ _ rfl rfl rfl rfl rfl happ ?_) | (go_at_call 46; (with_reducible refine (H44a.out _ _ _ HC2.out hd2.out).mono ?_); rintro e4 w4 ⟨v4, rfl, HR4, HB4⟩; obtain ⟨A4, c4, rfl, hd4, hC4⟩ := Kd.R_reads HR4.out; have HC4 := Lib.hid hC4; have HD4 := Lib.hid hd4; clear hC4 hd4; have hv4 : w4.cell? ⟨wr.heap.size, 1, none⟩ = some (.string val) := (HB4.out.cell (p := ⟨wr.heap.size, 1, none⟩) (World.block_lt_of_cell? w2 _ hv2)).trans hv2) | (go_at_call 46; (with_reducible refine (H44b.out _ _ _ HC4.out HD4.out).mono ?_); rintro e5 w5 ⟨v5, rfl, HR5, HB5⟩))
        go_roundw
        case rel => exact ⟨i + 1, by omega, by first | rfl | rw [hwr], Lib.hid (HB2.out.trans ((HB4.out.mono HB2.out.size).trans (HB5.out.mono (Nat.le_trans HB2.out.size HB4.out.size)))), Lib.hid (by rw [HR3.out]; exact Kd.R_lower HR5.out (Nat.le_trans HB2.out.size HB4.out.size))⟩
        case measure => first | (simp [intOf]; omega) | (rw [intOf_lit, intOf_lit, hwr]; omega)
end Go.Proofs.Ytelhclamoapnhaa
