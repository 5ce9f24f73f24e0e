/- Helper lemmas: a step as a line, by the reference. No condition. -/
import Derived.Test.YtmcooenafgihkaaGreatDoorQ7
set_option linter.unusedSimpArgs false
set_option linter.unusedVariables false
namespace Go.Proofs.YtmcooenafgihkaaGreatDoor
open Go.RowKit

theorem join_snoc : ∀ (l : List Bs) (t : Bs), ¬ l = [] → joinW (l ++ [t]) = joinW l ++ 32 :: t
  | [], _, h => absurd rfl h
  | [w], t, _ => rfl
  | w :: v :: ws, t, _ => by
    have ih := join_snoc (v :: ws) t (by simp)
    simp only [List.cons_append] at ih ⊢
    simp only [joinW]
    rw [ih]
    simp
theorem take_next (l : List Int) (j : Nat) (h : j < l.length) : l.take (j + 1) = l.take j ++ [l.getD j 0] := by
  rw [List.take_succ_eq_append_getElem h, List.getD_eq_getElem?_getD, List.getElem?_eq_getElem h]; rfl
/-- A text is what words say, one behind the other. -/
def OutL (l : List Bs) (out : ByteArray) : Prop := out = ⟨(joinW l).toArray⟩ ∧ ¬ l = [] ∧ ∀ t ∈ l, Wd t
/-- How far a line has come. -/
def OutI (R : Option (List Bs)) (f : UInt8 → Option (List Bs)) (cs : Bs) (i : Nat) (out : ByteArray) : Prop := ∃ l, OutL l out ∧ l.length ≤ 10 + i * 100010 ∧ i ≤ 5 ∧ Goes R f cs i l
/-- The same, within a list of numbers. -/
def OutK (R : Option (List Bs)) (f : UInt8 → Option (List Bs)) (cs : Bs) (i : Nat) (ks : List Int) (out : ByteArray) : Prop := ∃ l, OutL (l ++ ks.map Lib.itoa) out ∧ ¬ l = [] ∧ l.length ≤ 10 + i * 100010 ∧ i ≤ 5 ∧ Goes R f cs i l
theorem OutL.size {l : List Bs} {out : ByteArray} (h : OutL l out) (hl : l.length ≤ 1000000) : out.size ≤ 200000000000000 := by
  obtain ⟨rfl, _, h3⟩ := h
  have h1 := joinW_len 100000000 l fun t ht => (h3 t ht).len
  have h2 : l.length * (100000000 + 1) ≤ 1000000 * 100000001 := Nat.mul_le_mul_right _ hl
  have h4 : (⟨(joinW l).toArray⟩ : ByteArray).size = (joinW l).length := rfl
  omega
theorem OutL.snoc {l : List Bs} {out : ByteArray} (h : OutL l out) {t : Bs} (ht : Wd t) (T : ByteArray) (hT : T = ⟨(32 :: t).toArray⟩) : OutL (l ++ [t]) (out ++ T) := by
  obtain ⟨h1, h2, h3⟩ := h
  refine ⟨?_, by simp, fun u hu => ?_⟩
  · rw [join_snoc l t h2]
    exact app_bytes _ _ _ _ h1 hT
  · rw [List.mem_append, List.mem_singleton] at hu
    rcases hu with hu | rfl
    · exact h3 u hu
    · exact ht
section
variable {R : Option (List Bs)} {f : UInt8 → Option (List Bs)} {cs : Bs} {i : Nat} {out : ByteArray}
theorem OutI.size (h : OutI R f cs i out) : out.size ≤ 200000000000000 := by
  obtain ⟨l, h1, h2, h3, _⟩ := h
  exact h1.size (by omega)
theorem OutI.none (h : OutI R f cs i out) {c : UInt8} (hc : cs[i]? = some c) (hf : f c = Option.none) : R = Option.none := by
  obtain ⟨l, _, _, _, h4⟩ := h
  exact h4.none hc hf
theorem OutI.step (h : OutI R f cs i out) {c : UInt8} (hc : cs[i]? = some c) {t : Bs} (hf : f c = some [t]) (ht : Wd t) (T : ByteArray) (hT : T = ⟨(32 :: t).toArray⟩) (hi : i + 1 ≤ 5) : OutI R f cs (i + 1) (out ++ T) := by
  obtain ⟨l, h1, h2, h3, h4⟩ := h
  exact ⟨l ++ [t], h1.snoc ht T hT, by rw [List.length_append]; simp; omega, hi, h4.step hc hf⟩
theorem OutI.done (h : OutI R f cs i out) (hi : ¬ i < cs.length) : ∃ l, R = some l ∧ out = ⟨(joinW l).toArray⟩ := by
  obtain ⟨l, h1, _, _, h4⟩ := h
  exact ⟨l, h4.done hi, h1.1⟩
theorem OutK.start (h : OutI R f cs i out) {ks : List Int} : OutK R f cs i (ks.take 0) out := by
  obtain ⟨l, h1, h2, h3, h4⟩ := h
  refine ⟨l, ?_, h1.2.1, h2, h3, h4⟩
  simpa using h1
theorem OutK.size {mk : Nat} {ks : List Int} {j : Nat} (h : OutK R f cs i (ks.take j) out) (hm : mk ≤ 100000) (hk : ks.length = mk) : out.size ≤ 200000000000000 := by
  obtain ⟨l, h1, _, h2, h3, _⟩ := h
  refine h1.size ?_
  rw [List.length_append, List.length_map, List.length_take]
  omega
theorem OutK.step {ks : List Int} (h : OutK R f cs i ks out) {x : Int} (hx : I64 x) (D : ByteArray) (hD : D = ⟨(Lib.itoa x).toArray⟩) : OutK R f cs i (ks ++ [x]) (out ++ ⟨#[32]⟩ ++ D) := by
  obtain ⟨l, h1, h2, h3, h4, h5⟩ := h
  refine ⟨l, ?_, h2, h3, h4, h5⟩
  have := h1.snoc (itoa_wd x hx) (⟨#[32]⟩ ++ D) (app_bytes _ [32] _ _ rfl hD)
  rw [List.map_append, ← List.append_assoc]
  rw [ByteArray.append_assoc]
  exact this
theorem OutK.done {ks : List Int} (h : OutK R f cs i ks out) {c : UInt8} (hc : cs[i]? = some c) (hf : f c = some (ks.map Lib.itoa)) (hk : ks.length ≤ 100000) (hi : i + 1 ≤ 5) : OutI R f cs (i + 1) out := by
  obtain ⟨l, h1, h2, h3, h4, h5⟩ := h
  exact ⟨_, h1, by rw [List.length_append, List.length_map]; omega, hi, h5.step hc hf⟩
end
theorem out_end {R : Option (List Bs)} {w w' : World} {l : List Bs} {out : ByteArray} (h : R = some l) (ho : out = ⟨(joinW l).toArray⟩) (hb : Below w.heap.size w w') : LineP R w (.returned (.tuple #[.string out, .int .i64 0])) w' := by subst ho; exact LineP.some h hb
set_option maxHeartbeats 8000000 in
set_option maxRecDepth 100000 in
theorem rtext_bad (s : StepR) (AK : Value) (w : World) (h : formAt stepF s.kind = none) : Calls Tryz.prog 29 #[.agg #[.int .i64 s.kind, .int .i64 s.rep, .string s.vol, .string s.dst, .int .i64 s.n, AK, .int .i64 s.ck, .string s.path, .string s.cto, .int .i64 s.off, .int .i64 s.cn, .string s.data, f64 s.time]] w (LineP none w) := by
  have HST := Lib.hid (fun W => rstep_any s.kind W)
  have e : stepK s.kind = ([], []) := by unfold stepK; rw [h]
  rw [e] at HST
  replace HST : Hid (∀ W, Calls Tryz.prog 38 #[.int .i64 s.kind] W fun e w' => e = .returned (.tuple #[.string ⟨#[]⟩, .string ⟨#[]⟩]) ∧ Below W.heap.size W w') := HST
  have HB0 := Lib.hid (Below.alloc (Below.refl w.heap.size w) (Nat.le_refl _) (.cells #[.int .i64 s.kind, .int .i64 s.rep, .string s.vol, .string s.dst, .int .i64 s.n, AK, .int .i64 s.ck, .string s.path, .string s.cto, .int .i64 s.off, .int .i64 s.cn, .string s.data, f64 s.time] 33 (0, 0)))
  clear h e
  go_enter Tryz.func29, Tryz.ntmps29
  go_wp2_with (go_at_call 38; (with_reducible refine (HST.out _).mono ?_); rintro e1 w1 ⟨rfl, hb1⟩; have HB1 := Lib.hid (below_tr HB0.out hb1); clear hb1)
  go_ret2
  exact LineP.none rfl HB1.out
set_option maxHeartbeats 8000000 in
set_option maxRecDepth 100000 in
theorem rtext_plain (s : StepR) (AK : Option Addr) (mk ck : Nat) (w : World) (R : Option (List Bs)) (HF : Hid s.Fine) (HM : Hid s.Small) (HKL : Hid (s.keep.length = mk)) (HKM : Hid (mk ≤ 100000)) (HKL2 : Hid (s.keep.length ≤ 100000)) (HKI : Hid (IntsAt w AK s.keep)) (fw : ByteArray) (cs : Bs) (args : ByteArray) (n : Nat) (HARGS : Hid (args = ⟨cs.toArray⟩)) (HCL : Hid (cs.length = n)) (hsz : args.size = n) (HN9 : Hid (n ≤ 4)) (HLET : Hid (∀ c ∈ cs, c = 107 ∨ isRL c)) (HST : Hid (∀ W, Calls Tryz.prog 38 #[.int .i64 s.kind] W fun e w' => e = .returned (.tuple #[.string fw, .string args]) ∧ Below W.heap.size W w')) (hne : fw.toList.isEmpty = false) (hk1 : (s.kind == 1) = false) (HO0 : Hid (OutI R (fldR s) cs 0 fw)) : Calls Tryz.prog 29 #[.agg #[.int .i64 s.kind, .int .i64 s.rep, .string s.vol, .string s.dst, .int .i64 s.n, .slice AK mk ck, .int .i64 s.ck, .string s.path, .string s.cto, .int .i64 s.off, .int .i64 s.cn, .string s.data, f64 s.time]] w (LineP R w) := by
  have HB0 := Lib.hid (Below.alloc (Below.refl w.heap.size w) (Nat.le_refl _) (.cells #[.int .i64 s.kind, .int .i64 s.rep, .string s.vol, .string s.dst, .int .i64 s.n, .slice AK mk ck, .int .i64 s.ck, .string s.path, .string s.cto, .int .i64 s.off, .int .i64 s.cn, .string s.data, f64 s.time] 33 (0, 0)))
  go_enter Tryz.func29, Tryz.ntmps29
  go_wp2_with (go_at_call 38; (with_reducible refine (HST.out _).mono ?_); rintro e1 w1 ⟨rfl, hb1⟩; have hx1 := (hb1.block w.heap.size (by simp)).trans (heap_alloc_new w _); have k0 := cell_at (i := 0) hx1 rfl; have k1 := cell_at (i := 1) hx1 rfl; have k2 := cell_at (i := 2) hx1 rfl; have k6 := cell_at (i := 6) hx1 rfl; have lk := leB_of_cell k0; have HX1 := Lib.hid hx1; have HB1 := Lib.hid (below_tr HB0.out hb1); clear hb1 hx1)
  have HBX0 := HX1
  have HBL0 := HB1
  go_loopw [4, 50] (fun v4 v50 wr => ∃ (i : Nat) (out : ByteArray), i ≤ n ∧ v50 = .int .i64 (i : Int) ∧ v4 = .string out ∧ Hid (OutI R (fldR s) cs i out) ∧ Hid (wr.heap[w.heap.size]? = some (.cells #[.int .i64 s.kind, .int .i64 s.rep, .string s.vol, .string s.dst, .int .i64 s.n, .slice AK mk ck, .int .i64 s.ck, .string s.path, .string s.cto, .int .i64 s.off, .int .i64 s.cn, .string s.data, f64 s.time] 33 (0, 0))) ∧ Hid (Below w.heap.size w wr)) (fun _ v50 _ => ((n : Int) - intOf v50).toNat)
  case atStart => exact ⟨0, _, Nat.zero_le _, rfl, rfl, HO0, HBX0, HBL0⟩
  case round =>
    obtain ⟨i, out, hi, rfl, rfl, HO, HBX, HBL⟩ := hrel
    have HOZ := Lib.hid (HO.out.size)
    by_cases hin : i < n
    · have hlt : (i : Int) < (n : Int) := by omega
      have hge : (0 : Int) ≤ (i : Int) := by omega
      have hnl : ¬ (i : Int) < 0 := by omega
      have hwr : wrap64 ((i : Int) + 1) = (i : Int) + 1 := by have := HN9.out; rw [wrap64_eq]; omega
      have hidx : ∀ h : i < args.size, args[i]'h = cs.getD i 0 := fun h => by
        rw [List.getD_eq_getElem?_getD, List.getElem?_eq_getElem (by rw [HCL.out]; exact hin), ByteArray.getElem_eq_getElem_data]
        simp [HARGS.out]
      obtain ⟨c, hc⟩ : ∃ c, cs[i]? = some c := ⟨_, List.getElem?_eq_getElem (by rw [HCL.out]; exact hin)⟩
      have hcd : cs.getD i 0 = c := by rw [List.getD_eq_getElem?_getD, hc]; rfl
      rw [hcd] at hidx
      have hlet := HLET.out c (List.mem_of_getElem? hc)
      have HC := Lib.hid hc
      clear hc hcd
      rcases hlet with rfl | hlet
      · have HK0 : Hid (OutK R (fldR s) cs i (s.keep.take 0) out) := Lib.hid (OutK.start HO.out)
        have cf := cell_at (i := 5) HBX.out rfl
        go_wp2
        go_loopw [4, 60] (fun v4 v60 wr => ∃ (j : Nat) (out : ByteArray), j ≤ mk ∧ v60 = .int .i64 (j : Int) ∧ v4 = .string out ∧ Hid (OutK R (fldR s) cs i (s.keep.take j) out) ∧ Hid (wr.heap[w.heap.size]? = some (.cells #[.int .i64 s.kind, .int .i64 s.rep, .string s.vol, .string s.dst, .int .i64 s.n, .slice AK mk ck, .int .i64 s.ck, .string s.path, .string s.cto, .int .i64 s.off, .int .i64 s.cn, .string s.data, f64 s.time] 33 (0, 0))) ∧ Hid (Below w.heap.size w wr)) (fun _ v60 _ => ((mk : Int) - intOf v60).toNat)
        case atStart => exact ⟨0, out, Nat.zero_le _, rfl, rfl, HK0, HBX, HBL⟩
        case round =>
          clear cf HOZ HO
          obtain ⟨j, out, hj, rfl, rfl, HK, HBX2, HBL2⟩ := hrel
          have HKZ := Lib.hid (HK.out.size HKM.out HKL.out)
          by_cases hjn : j < mk
          · obtain ⟨kb, ko, hAK, hck⟩ := HKI.out j (by rw [HKL.out]; exact hjn)
            have hckw := (HBL2.out.cell (p := ⟨kb, ko + j, none⟩) (World.block_lt_of_cell? w _ hck)).trans hck
            have HXI := Lib.hid (HF.out.keep _ (show s.keep.getD j 0 ∈ s.keep by
              rw [List.getD_eq_getElem?_getD, List.getElem?_eq_getElem (by rw [HKL.out]; exact hjn)]
              exact List.getElem_mem _))
            have HKN := Lib.hid (HK.out.step HXI.out)
            have HTK := Lib.hid (take_next s.keep j (by rw [HKL.out]; exact hjn))
            generalize s.keep.getD j 0 = x at *
            have HDG := Lib.hid (fun W => digits_any x HXI.out W)
            obtain ⟨D, hD⟩ : ∃ D : ByteArray, D = ⟨(Lib.itoa x).toArray⟩ := ⟨_, rfl⟩
            have HDG2 : Hid (∀ W, Calls Tryz.prog 43 #[.int .i64 x] W fun e w' => e = .returned (.string D) ∧ Below W.heap.size W w') := Lib.hid (by rw [hD]; exact HDG.out)
            have HDS := Lib.hid (show D.size ≤ 20 by rw [hD]; exact itoa_len x HXI.out)
            have HDD := Lib.hid hD
            have hz1 : (9223372036854775807 < out.size + 1) = False := eq_false (by have := HKZ.out; omega)
            have hz2 : (9223372036854775807 < out.size + 1 + D.size) = False := eq_false (by have := HKZ.out; have := HDS.out; omega)
            have hjlt : (j : Int) < (mk : Int) := by omega
            have hjge : (0 : Int) ≤ (j : Int) := by omega
            have hjnl : ¬ (j : Int) < 0 := by omega
            have hwr2 : wrap64 ((j : Int) + 1) = ((j + 1 : Nat) : Int) := by have := HKM.out; rw [wrap64_eq]; omega
            clear hck hD HDG
            subst hAK
            go_wp2_with (go_at_call 43; (with_reducible refine (HDG2.out _).mono ?_); rintro e4 w4 ⟨rfl, hb4⟩; have HB4 := Lib.hid hb4; clear hb4)
            go_roundw
            case rel => exact ⟨j + 1, _, hjn, (by first | rw [hwr2] | rfl), rfl, Lib.hid (by rw [HTK.out]; exact HKN.out _ HDD.out), Lib.hid ((HB4.out.block w.heap.size (Array.getElem?_eq_some_iff.1 HBX2.out).1).trans HBX2.out), Lib.hid (below_tr HBL2.out HB4.out)⟩
            case measure => rw [intOf_lit, intOf_lit, hwr2]; omega
          · have hjnlt : ¬ (j : Int) < (mk : Int) := by omega
            have HO2 := Lib.hid (show OutI R (fldR s) cs (i + 1) out from by
              have h := HK.out
              rw [List.take_of_length_le (by rw [HKL.out]; omega)] at h
              exact h.done HC.out (by simp [fldR]) HKL2.out (by have := HN9.out; omega))
            go_wp2
            go_roundw
            case rel => exact ⟨i + 1, out, hin, (by first | (rw [hwr]; done) | (rw [hwr]; rfl) | rfl), rfl, HO2, HBX2, HBL2⟩
            case measure => rw [intOf_lit, intOf_lit, hwr]; omega
      · have hq : ((c.toNat : Int) == 107) = false := by
          rw [beq_eq_false_iff_ne]
          intro e
          have h107 : (107 : UInt8).toNat = 107 := rfl
          have : c = 107 := UInt8.toNat_inj.1 (by omega)
          subst this
          rcases hlet with h | h | h | h | h | h | h | h | h <;> exact absurd h (by decide)
        have HFI := Lib.hid (fun W => field_any s (.slice AK mk ck) c HF.out HM.out hlet W)
        have HFL := Lib.hid (wordR_fld s c hlet)
        have c0 := cell_at (i := 0) HBX.out rfl
        have c1 := cell_at (i := 1) HBX.out rfl
        have c2 := cell_at (i := 2) HBX.out rfl
        have c3 := cell_at (i := 3) HBX.out rfl
        have c4 := cell_at (i := 4) HBX.out rfl
        have c5 := cell_at (i := 5) HBX.out rfl
        have c6 := cell_at (i := 6) HBX.out rfl
        have c7 := cell_at (i := 7) HBX.out rfl
        have c8 := cell_at (i := 8) HBX.out rfl
        have c9 := cell_at (i := 9) HBX.out rfl
        have c10 := cell_at (i := 10) HBX.out rfl
        have c11 := cell_at (i := 11) HBX.out rfl
        have c12 := cell_at (i := 12) HBX.out rfl
        have lp := leB_of_cell c0
        cases hw : wordR s c with
        | none =>
          rw [hw] at HFI HFL
          have HRN := Lib.hid (HO.out.none HC.out HFL.out)
          replace HFI : Hid (∀ W, Calls Tryz.prog 52 #[.agg #[.int .i64 s.kind, .int .i64 s.rep, .string s.vol, .string s.dst, .int .i64 s.n, .slice AK mk ck, .int .i64 s.ck, .string s.path, .string s.cto, .int .i64 s.off, .int .i64 s.cn, .string s.data, f64 s.time], .int .u8 (c.toNat : Int)] W fun e w' => e = .returned (.tuple #[.string ⟨#[32]⟩, .bool false]) ∧ Below W.heap.size W w') := HFI
          clear hw hlet
          go_wp2
          refine wp_region_mix [(0, true), (1, true), (2, true), (3, true), (4, false), (5, true), (6, true), (7, true), (8, true), (9, true)] (by kernel_rfl) (by kernel_rfl) rfl (by kernel_rfl) (by intro _ _ d _ _ h; cases d <;> exact h) ?_; intro j1; (repeat (first | (refine wpMix_skipK rfl rfl ?_; intro K hK; go_simp; refine hK _ ?_; clear hK K) | (refine wpMix_light rfl rfl ?_; intro K hK; go_simp; refine hK _ ?_; clear hK K) | (refine wpMix_heavy rfl rfl ?_; intro K hK; go_wp2_with ((go_at_call 52; (with_reducible refine (HFI.out _).mono ?_); rintro e3 w3 ⟨rfl, hb3⟩; have hb13 : Below wr.heap.size wr w3 := below_tr (w_ext_below _ _) hb3; have HB3 := Lib.hid hb13; clear hb3)); refine ⟨w_ext_of_below (by (repeat' (first | (with_reducible exact Below.refl _ _) | (with_reducible assumption) | (with_reducible exact below_app _ _ _ _) | (with_reducible refine below_pre ?_; (simp only [List.append_assoc, List.prefix_append, List.prefix_refl, List.prefix_append_right_inj])) | (with_reducible refine Below.alloc ?_ ?_ _) | (with_reducible refine below_ext ?_ ?_ _) | (with_reducible refine Below.drew ?_) | (with_reducible refine below_drewN ?_ _) | (with_reducible refine Below.setCell ?_ ?_ _) | go_size | (simp only [w_size_ext, List.length_append, World.alloc_size]; omega) | (simp; done) | (simp; omega)))), ?_⟩))); refine wpMix_nil ?_
          go_wp2
          go_ret2
          exact LineP.none HRN.out (below_tr HBL.out HB3.out)
        | some t =>
          rw [hw] at HFI HFL
          have HTW := Lib.hid (wordR_wd HF.out HM.out hlet hw)
          obtain ⟨T, hT⟩ : ∃ T : ByteArray, T = ⟨(32 :: t).toArray⟩ := ⟨_, rfl⟩
          replace HFI : Hid (∀ W, Calls Tryz.prog 52 #[.agg #[.int .i64 s.kind, .int .i64 s.rep, .string s.vol, .string s.dst, .int .i64 s.n, .slice AK mk ck, .int .i64 s.ck, .string s.path, .string s.cto, .int .i64 s.off, .int .i64 s.cn, .string s.data, f64 s.time], .int .u8 (c.toNat : Int)] W fun e w' => e = .returned (.tuple #[.string ⟨(32 :: t).toArray⟩, .bool true]) ∧ Below W.heap.size W w') := HFI
          rw [← hT] at HFI
          have HTT := Lib.hid hT
          have hz : (9223372036854775807 < out.size + T.size) = False := eq_false (by
            have h1 := HOZ.out
            have h2 := HTW.out.len
            have h3 : T.size = t.length + 1 := by rw [hT]; rfl
            omega)
          have HO2 := Lib.hid (HO.out.step HC.out HFL.out HTW.out T hT (by have := HN9.out; omega))
          clear hw hlet hT
          go_wp2
          refine wp_region_mix [(0, true), (1, true), (2, true), (3, true), (4, false), (5, true), (6, true), (7, true), (8, true), (9, true)] (by kernel_rfl) (by kernel_rfl) rfl (by kernel_rfl) (by intro _ _ d _ _ h; cases d <;> exact h) ?_; intro j1; (repeat (first | (refine wpMix_skipK rfl rfl ?_; intro K hK; go_simp; refine hK _ ?_; clear hK K) | (refine wpMix_light rfl rfl ?_; intro K hK; go_simp; refine hK _ ?_; clear hK K) | (refine wpMix_heavy rfl rfl ?_; intro K hK; go_wp2_with ((go_at_call 52; (with_reducible refine (HFI.out _).mono ?_); rintro e3 w3 ⟨rfl, hb3⟩; have hb13 : Below wr.heap.size wr w3 := below_tr (w_ext_below _ _) hb3; have HB3 := Lib.hid hb13; clear hb3)); refine ⟨w_ext_of_below (by (repeat' (first | (with_reducible exact Below.refl _ _) | (with_reducible assumption) | (with_reducible exact below_app _ _ _ _) | (with_reducible refine below_pre ?_; (simp only [List.append_assoc, List.prefix_append, List.prefix_refl, List.prefix_append_right_inj])) | (with_reducible refine Below.alloc ?_ ?_ _) | (with_reducible refine below_ext ?_ ?_ _) | (with_reducible refine Below.drew ?_) | (with_reducible refine below_drewN ?_ _) | (with_reducible refine Below.setCell ?_ ?_ _) | go_size | (simp only [w_size_ext, List.length_append, World.alloc_size]; omega) | (simp; done) | (simp; omega)))), ?_⟩))); refine wpMix_nil ?_
          go_wp2
          go_roundw
          case rel => exact ⟨i + 1, _, hin, (by first | (rw [hwr]; done) | (rw [hwr]; rfl) | rfl), rfl, HO2, Lib.hid ((HB3.out.block w.heap.size (Array.getElem?_eq_some_iff.1 HBX.out).1).trans HBX.out), Lib.hid (below_tr HBL.out HB3.out)⟩
          case measure => rw [intOf_lit, intOf_lit, hwr]; omega
    · have hnlt : ¬ (i : Int) < (n : Int) := by omega
      obtain ⟨l, hl1, hl2⟩ := HO.out.done (by rw [HCL.out]; exact hin)
      have HL1 := Lib.hid hl1
      have HL2 := Lib.hid hl2
      clear hl1 hl2
      go_wp2
      go_ret2
      exact out_end HL1.out HL2.out HBL.out
set_option maxHeartbeats 8000000 in
set_option maxRecDepth 100000 in
theorem rtext_callbad (s : StepR) (AK : Option Addr) (mk ck : Nat) (w : World) (R : Option (List Bs)) (HF : Hid s.Fine) (HM : Hid s.Small) (HKL : Hid (s.keep.length = mk)) (HKM : Hid (mk ≤ 100000)) (HKL2 : Hid (s.keep.length ≤ 100000)) (HKI : Hid (IntsAt w AK s.keep)) (fw fa : ByteArray) (HST : Hid (∀ W, Calls Tryz.prog 38 #[.int .i64 s.kind] W fun e w' => e = .returned (.tuple #[.string fw, .string fa]) ∧ Below W.heap.size W w')) (hne : fw.toList.isEmpty = false) (hk1 : (s.kind == 1) = true) (HCA : Hid (∀ W, Calls Tryz.prog 39 #[.int .i64 s.ck] W fun e w' => e = .returned (.tuple #[.string ⟨#[]⟩, .string ⟨#[]⟩]) ∧ Below W.heap.size W w')) (HR : Hid (R = none)) : Calls Tryz.prog 29 #[.agg #[.int .i64 s.kind, .int .i64 s.rep, .string s.vol, .string s.dst, .int .i64 s.n, .slice AK mk ck, .int .i64 s.ck, .string s.path, .string s.cto, .int .i64 s.off, .int .i64 s.cn, .string s.data, f64 s.time]] w (LineP R w) := by
  have HB0 := Lib.hid (Below.alloc (Below.refl w.heap.size w) (Nat.le_refl _) (.cells #[.int .i64 s.kind, .int .i64 s.rep, .string s.vol, .string s.dst, .int .i64 s.n, .slice AK mk ck, .int .i64 s.ck, .string s.path, .string s.cto, .int .i64 s.off, .int .i64 s.cn, .string s.data, f64 s.time] 33 (0, 0)))
  go_enter Tryz.func29, Tryz.ntmps29
  go_wp2_with (first | (go_at_call 38; (with_reducible refine (HST.out _).mono ?_); rintro e1 w1 ⟨rfl, hb1⟩; have hx1 := (hb1.block w.heap.size (by simp)).trans (heap_alloc_new w _); have k0 := cell_at (i := 0) hx1 rfl; have k1 := cell_at (i := 1) hx1 rfl; have k2 := cell_at (i := 2) hx1 rfl; have k6 := cell_at (i := 6) hx1 rfl; have lk := leB_of_cell k0; have HX1 := Lib.hid hx1; have HB1 := Lib.hid (below_tr HB0.out hb1); clear hb1 hx1) | (go_at_call 39; (with_reducible refine (HCA.out _).mono ?_); rintro e2 w2 ⟨rfl, hb2⟩; have hx2 := (hb2.block w.heap.size (Array.getElem?_eq_some_iff.1 HX1.out).1).trans HX1.out; have m1 := cell_at (i := 1) hx2 rfl; have m2 := cell_at (i := 2) hx2 rfl; have lm := leB_of_cell m1; have HX2 := Lib.hid hx2; have HB2 := Lib.hid (below_tr HB1.out hb2); clear hb2 hx2))
  go_ret2
  exact LineP.none HR.out HB2.out
set_option maxHeartbeats 8000000 in
set_option maxRecDepth 100000 in
theorem rtext_call (s : StepR) (AK : Option Addr) (mk ck : Nat) (w : World) (R : Option (List Bs)) (HF : Hid s.Fine) (HM : Hid s.Small) (HKL : Hid (s.keep.length = mk)) (HKM : Hid (mk ≤ 100000)) (HKL2 : Hid (s.keep.length ≤ 100000)) (HKI : Hid (IntsAt w AK s.keep)) (fw fa cw : ByteArray) (cs : Bs) (args : ByteArray) (n : Nat) (HARGS : Hid (args = ⟨cs.toArray⟩)) (HCL : Hid (cs.length = n)) (hsz : args.size = n) (HN9 : Hid (n ≤ 4)) (HLET : Hid (∀ c ∈ cs, c = 107 ∨ isRL c)) (HST : Hid (∀ W, Calls Tryz.prog 38 #[.int .i64 s.kind] W fun e w' => e = .returned (.tuple #[.string fw, .string fa]) ∧ Below W.heap.size W w')) (hne : fw.toList.isEmpty = false) (hk1 : (s.kind == 1) = true)
    (HCA : Hid (∀ W, Calls Tryz.prog 39 #[.int .i64 s.ck] W fun e w' => e = .returned (.tuple #[.string cw, .string args]) ∧ Below W.heap.size W w')) (hne2 : cw.toList.isEmpty = false) (D V : ByteArray) (HDG : Hid (∀ W, Calls Tryz.prog 43 #[.int .i64 s.rep] W fun e w' => e = .returned (.string D) ∧ Below W.heap.size W w')) (HWD : Hid (∀ W, Calls Tryz.prog 27 #[.string s.vol] W fun e w' => e = .returned (.string V) ∧ Below W.heap.size W w'))
    (z1 : (9223372036854775807 < fw.size + 1) = False) (z2 : (9223372036854775807 < fw.size + 1 + D.size) = False) (z3 : (9223372036854775807 < fw.size + 1 + D.size + 1) = False) (z4 : (9223372036854775807 < fw.size + 1 + D.size + 1 + V.size) = False) (z5 : (9223372036854775807 < fw.size + 1 + D.size + 1 + V.size + 1) = False) (z6 : (9223372036854775807 < fw.size + 1 + D.size + 1 + V.size + 1 + cw.size) = False)
    (HO0 : Hid (OutI R (fldR s) cs 0 (fw ++ ⟨#[32]⟩ ++ D ++ ⟨#[32]⟩ ++ V ++ ⟨#[32]⟩ ++ cw))) : Calls Tryz.prog 29 #[.agg #[.int .i64 s.kind, .int .i64 s.rep, .string s.vol, .string s.dst, .int .i64 s.n, .slice AK mk ck, .int .i64 s.ck, .string s.path, .string s.cto, .int .i64 s.off, .int .i64 s.cn, .string s.data, f64 s.time]] w (LineP R w) := by
  have HB0 := Lib.hid (Below.alloc (Below.refl w.heap.size w) (Nat.le_refl _) (.cells #[.int .i64 s.kind, .int .i64 s.rep, .string s.vol, .string s.dst, .int .i64 s.n, .slice AK mk ck, .int .i64 s.ck, .string s.path, .string s.cto, .int .i64 s.off, .int .i64 s.cn, .string s.data, f64 s.time] 33 (0, 0)))
  go_enter Tryz.func29, Tryz.ntmps29
  go_wp2_with (first | (go_at_call 38; (with_reducible refine (HST.out _).mono ?_); rintro e1 w1 ⟨rfl, hb1⟩; have hx1 := (hb1.block w.heap.size (by simp)).trans (heap_alloc_new w _); have k0 := cell_at (i := 0) hx1 rfl; have k1 := cell_at (i := 1) hx1 rfl; have k2 := cell_at (i := 2) hx1 rfl; have k6 := cell_at (i := 6) hx1 rfl; have lk := leB_of_cell k0; have HX1 := Lib.hid hx1; have HB1 := Lib.hid (below_tr HB0.out hb1); clear hb1 hx1) | (go_at_call 39; (with_reducible refine (HCA.out _).mono ?_); rintro e2 w2 ⟨rfl, hb2⟩; have hx2 := (hb2.block w.heap.size (Array.getElem?_eq_some_iff.1 HX1.out).1).trans HX1.out; have m1 := cell_at (i := 1) hx2 rfl; have m2 := cell_at (i := 2) hx2 rfl; have lm := leB_of_cell m1; have HX2 := Lib.hid hx2; have HB2 := Lib.hid (below_tr HB1.out hb2); clear hb2 hx2))
  refine wp_region_mix [(0, true), (1, true), (2, true), (3, true), (7, true), (8, true), (12, true), (4, false), (5, true), (6, true), (9, false), (10, true), (11, true), (13, true), (14, true)] (by kernel_rfl) (by kernel_rfl) rfl (by kernel_rfl) (by intro _ _ d _ _ h; cases d <;> exact h) ?_; intro j1; (repeat (first | (refine wpMix_skipK rfl rfl ?_; intro K hK; go_simp; refine hK _ ?_; clear hK K) | (refine wpMix_light rfl rfl ?_; intro K hK; go_simp; refine hK _ ?_; clear hK K) | (refine wpMix_heavy rfl rfl ?_; intro K hK; go_wp2_with ((first | (go_at_call 43; (with_reducible refine (HDG.out _).mono ?_); rintro e3 w3 ⟨rfl, hb3⟩; have hb13 : Below w2.heap.size w2 w3 := below_tr (w_ext_below _ _) hb3; have HB3 := Lib.hid hb13; clear hb3) | (go_at_call 27; (with_reducible refine (HWD.out _).mono ?_); rintro e4 w4 ⟨rfl, hb4⟩; have hb14 : Below w2.heap.size w2 w4 := below_tr hb13 hb4; have HB4 := Lib.hid hb14; clear hb4))); refine ⟨w_ext_of_below (by (repeat' (first | (with_reducible exact Below.refl _ _) | (with_reducible assumption) | (with_reducible exact below_app _ _ _ _) | (with_reducible refine below_pre ?_; (simp only [List.append_assoc, List.prefix_append, List.prefix_refl, List.prefix_append_right_inj])) | (with_reducible refine Below.alloc ?_ ?_ _) | (with_reducible refine below_ext ?_ ?_ _) | (with_reducible refine Below.drew ?_) | (with_reducible refine below_drewN ?_ _) | (with_reducible refine Below.setCell ?_ ?_ _) | go_size | (simp only [w_size_ext, List.length_append, World.alloc_size]; omega) | (simp; done) | (simp; omega)))), ?_⟩))); refine wpMix_nil ?_
  have HBX0 := Lib.hid ((HB4.out.block w.heap.size (Array.getElem?_eq_some_iff.1 HX2.out).1).trans HX2.out)
  have HBL0 := Lib.hid (below_tr HB2.out HB4.out)
  clear hb13 hb14
  go_wp2
  go_loopw [4, 50] (fun v4 v50 wr => ∃ (i : Nat) (out : ByteArray), i ≤ n ∧ v50 = .int .i64 (i : Int) ∧ v4 = .string out ∧ Hid (OutI R (fldR s) cs i out) ∧ Hid (wr.heap[w.heap.size]? = some (.cells #[.int .i64 s.kind, .int .i64 s.rep, .string s.vol, .string s.dst, .int .i64 s.n, .slice AK mk ck, .int .i64 s.ck, .string s.path, .string s.cto, .int .i64 s.off, .int .i64 s.cn, .string s.data, f64 s.time] 33 (0, 0))) ∧ Hid (Below w.heap.size w wr)) (fun _ v50 _ => ((n : Int) - intOf v50).toNat)
  case atStart => exact ⟨0, _, Nat.zero_le _, rfl, rfl, HO0, HBX0, HBL0⟩
  case round =>
    obtain ⟨i, out, hi, rfl, rfl, HO, HBX, HBL⟩ := hrel
    have HOZ := Lib.hid (HO.out.size)
    by_cases hin : i < n
    · have hlt : (i : Int) < (n : Int) := by omega
      have hge : (0 : Int) ≤ (i : Int) := by omega
      have hnl : ¬ (i : Int) < 0 := by omega
      have hwr : wrap64 ((i : Int) + 1) = (i : Int) + 1 := by have := HN9.out; rw [wrap64_eq]; omega
      have hidx : ∀ h : i < args.size, args[i]'h = cs.getD i 0 := fun h => by
        rw [List.getD_eq_getElem?_getD, List.getElem?_eq_getElem (by rw [HCL.out]; exact hin), ByteArray.getElem_eq_getElem_data]
        simp [HARGS.out]
      obtain ⟨c, hc⟩ : ∃ c, cs[i]? = some c := ⟨_, List.getElem?_eq_getElem (by rw [HCL.out]; exact hin)⟩
      have hcd : cs.getD i 0 = c := by rw [List.getD_eq_getElem?_getD, hc]; rfl
      rw [hcd] at hidx
      have hlet := HLET.out c (List.mem_of_getElem? hc)
      have HC := Lib.hid hc
      clear hc hcd
      rcases hlet with rfl | hlet
      · have HK0 : Hid (OutK R (fldR s) cs i (s.keep.take 0) out) := Lib.hid (OutK.start HO.out)
        have cf := cell_at (i := 5) HBX.out rfl
        go_wp2
        go_loopw [4, 60] (fun v4 v60 wr => ∃ (j : Nat) (out : ByteArray), j ≤ mk ∧ v60 = .int .i64 (j : Int) ∧ v4 = .string out ∧ Hid (OutK R (fldR s) cs i (s.keep.take j) out) ∧ Hid (wr.heap[w.heap.size]? = some (.cells #[.int .i64 s.kind, .int .i64 s.rep, .string s.vol, .string s.dst, .int .i64 s.n, .slice AK mk ck, .int .i64 s.ck, .string s.path, .string s.cto, .int .i64 s.off, .int .i64 s.cn, .string s.data, f64 s.time] 33 (0, 0))) ∧ Hid (Below w.heap.size w wr)) (fun _ v60 _ => ((mk : Int) - intOf v60).toNat)
        case atStart => exact ⟨0, out, Nat.zero_le _, rfl, rfl, HK0, HBX, HBL⟩
        case round =>
          clear cf HOZ HO
          obtain ⟨j, out, hj, rfl, rfl, HK, HBX2, HBL2⟩ := hrel
          have HKZ := Lib.hid (HK.out.size HKM.out HKL.out)
          by_cases hjn : j < mk
          · obtain ⟨kb, ko, hAK, hck⟩ := HKI.out j (by rw [HKL.out]; exact hjn)
            have hckw := (HBL2.out.cell (p := ⟨kb, ko + j, none⟩) (World.block_lt_of_cell? w _ hck)).trans hck
            have HXI := Lib.hid (HF.out.keep _ (show s.keep.getD j 0 ∈ s.keep by
              rw [List.getD_eq_getElem?_getD, List.getElem?_eq_getElem (by rw [HKL.out]; exact hjn)]
              exact List.getElem_mem _))
            have HKN := Lib.hid (HK.out.step HXI.out)
            have HTK := Lib.hid (take_next s.keep j (by rw [HKL.out]; exact hjn))
            generalize s.keep.getD j 0 = x at *
            have HDG := Lib.hid (fun W => digits_any x HXI.out W)
            obtain ⟨D, hD⟩ : ∃ D : ByteArray, D = ⟨(Lib.itoa x).toArray⟩ := ⟨_, rfl⟩
            have HDG2 : Hid (∀ W, Calls Tryz.prog 43 #[.int .i64 x] W fun e w' => e = .returned (.string D) ∧ Below W.heap.size W w') := Lib.hid (by rw [hD]; exact HDG.out)
            have HDS := Lib.hid (show D.size ≤ 20 by rw [hD]; exact itoa_len x HXI.out)
            have HDD := Lib.hid hD
            have hz1 : (9223372036854775807 < out.size + 1) = False := eq_false (by have := HKZ.out; omega)
            have hz2 : (9223372036854775807 < out.size + 1 + D.size) = False := eq_false (by have := HKZ.out; have := HDS.out; omega)
            have hjlt : (j : Int) < (mk : Int) := by omega
            have hjge : (0 : Int) ≤ (j : Int) := by omega
            have hjnl : ¬ (j : Int) < 0 := by omega
            have hwr2 : wrap64 ((j : Int) + 1) = ((j + 1 : Nat) : Int) := by have := HKM.out; rw [wrap64_eq]; omega
            clear hck hD HDG
            subst hAK
            go_wp2_with (go_at_call 43; (with_reducible refine (HDG2.out _).mono ?_); rintro e4 w4 ⟨rfl, hb4⟩; have HB4 := Lib.hid hb4; clear hb4)
            go_roundw
            case rel => exact ⟨j + 1, _, hjn, (by first | rw [hwr2] | rfl), rfl, Lib.hid (by rw [HTK.out]; exact HKN.out _ HDD.out), Lib.hid ((HB4.out.block w.heap.size (Array.getElem?_eq_some_iff.1 HBX2.out).1).trans HBX2.out), Lib.hid (below_tr HBL2.out HB4.out)⟩
            case measure => rw [intOf_lit, intOf_lit, hwr2]; omega
          · have hjnlt : ¬ (j : Int) < (mk : Int) := by omega
            have HO2 := Lib.hid (show OutI R (fldR s) cs (i + 1) out from by
              have h := HK.out
              rw [List.take_of_length_le (by rw [HKL.out]; omega)] at h
              exact h.done HC.out (by simp [fldR]) HKL2.out (by have := HN9.out; omega))
            go_wp2
            go_roundw
            case rel => exact ⟨i + 1, out, hin, (by first | (rw [hwr]; done) | (rw [hwr]; rfl) | rfl), rfl, HO2, HBX2, HBL2⟩
            case measure => rw [intOf_lit, intOf_lit, hwr]; omega
      · have hq : ((c.toNat : Int) == 107) = false := by
          rw [beq_eq_false_iff_ne]
          intro e
          have h107 : (107 : UInt8).toNat = 107 := rfl
          have : c = 107 := UInt8.toNat_inj.1 (by omega)
          subst this
          rcases hlet with h | h | h | h | h | h | h | h | h <;> exact absurd h (by decide)
        have HFI := Lib.hid (fun W => field_any s (.slice AK mk ck) c HF.out HM.out hlet W)
        have HFL := Lib.hid (wordR_fld s c hlet)
        have c0 := cell_at (i := 0) HBX.out rfl
        have c1 := cell_at (i := 1) HBX.out rfl
        have c2 := cell_at (i := 2) HBX.out rfl
        have c3 := cell_at (i := 3) HBX.out rfl
        have c4 := cell_at (i := 4) HBX.out rfl
        have c5 := cell_at (i := 5) HBX.out rfl
        have c6 := cell_at (i := 6) HBX.out rfl
        have c7 := cell_at (i := 7) HBX.out rfl
        have c8 := cell_at (i := 8) HBX.out rfl
        have c9 := cell_at (i := 9) HBX.out rfl
        have c10 := cell_at (i := 10) HBX.out rfl
        have c11 := cell_at (i := 11) HBX.out rfl
        have c12 := cell_at (i := 12) HBX.out rfl
        have lp := leB_of_cell c0
        cases hw : wordR s c with
        | none =>
          rw [hw] at HFI HFL
          have HRN := Lib.hid (HO.out.none HC.out HFL.out)
          replace HFI : Hid (∀ W, Calls Tryz.prog 52 #[.agg #[.int .i64 s.kind, .int .i64 s.rep, .string s.vol, .string s.dst, .int .i64 s.n, .slice AK mk ck, .int .i64 s.ck, .string s.path, .string s.cto, .int .i64 s.off, .int .i64 s.cn, .string s.data, f64 s.time], .int .u8 (c.toNat : Int)] W fun e w' => e = .returned (.tuple #[.string ⟨#[32]⟩, .bool false]) ∧ Below W.heap.size W w') := HFI
          clear hw hlet
          go_wp2
          refine wp_region_mix [(0, true), (1, true), (2, true), (3, true), (4, false), (5, true), (6, true), (7, true), (8, true), (9, true)] (by kernel_rfl) (by kernel_rfl) rfl (by kernel_rfl) (by intro _ _ d _ _ h; cases d <;> exact h) ?_; intro j1; (repeat (first | (refine wpMix_skipK rfl rfl ?_; intro K hK; go_simp; refine hK _ ?_; clear hK K) | (refine wpMix_light rfl rfl ?_; intro K hK; go_simp; refine hK _ ?_; clear hK K) | (refine wpMix_heavy rfl rfl ?_; intro K hK; go_wp2_with ((go_at_call 52; (with_reducible refine (HFI.out _).mono ?_); rintro e3 w3 ⟨rfl, hb3⟩; have hb13 : Below wr.heap.size wr w3 := below_tr (w_ext_below _ _) hb3; have HB3 := Lib.hid hb13; clear hb3)); refine ⟨w_ext_of_below (by (repeat' (first | (with_reducible exact Below.refl _ _) | (with_reducible assumption) | (with_reducible exact below_app _ _ _ _) | (with_reducible refine below_pre ?_; (simp only [List.append_assoc, List.prefix_append, List.prefix_refl, List.prefix_append_right_inj])) | (with_reducible refine Below.alloc ?_ ?_ _) | (with_reducible refine below_ext ?_ ?_ _) | (with_reducible refine Below.drew ?_) | (with_reducible refine below_drewN ?_ _) | (with_reducible refine Below.setCell ?_ ?_ _) | go_size | (simp only [w_size_ext, List.length_append, World.alloc_size]; omega) | (simp; done) | (simp; omega)))), ?_⟩))); refine wpMix_nil ?_
          go_wp2
          go_ret2
          exact LineP.none HRN.out (below_tr HBL.out HB3.out)
        | some t =>
          rw [hw] at HFI HFL
          have HTW := Lib.hid (wordR_wd HF.out HM.out hlet hw)
          obtain ⟨T, hT⟩ : ∃ T : ByteArray, T = ⟨(32 :: t).toArray⟩ := ⟨_, rfl⟩
          replace HFI : Hid (∀ W, Calls Tryz.prog 52 #[.agg #[.int .i64 s.kind, .int .i64 s.rep, .string s.vol, .string s.dst, .int .i64 s.n, .slice AK mk ck, .int .i64 s.ck, .string s.path, .string s.cto, .int .i64 s.off, .int .i64 s.cn, .string s.data, f64 s.time], .int .u8 (c.toNat : Int)] W fun e w' => e = .returned (.tuple #[.string ⟨(32 :: t).toArray⟩, .bool true]) ∧ Below W.heap.size W w') := HFI
          rw [← hT] at HFI
          have HTT := Lib.hid hT
          have hz : (9223372036854775807 < out.size + T.size) = False := eq_false (by
            have h1 := HOZ.out
            have h2 := HTW.out.len
            have h3 : T.size = t.length + 1 := by rw [hT]; rfl
            omega)
          have HO2 := Lib.hid (HO.out.step HC.out HFL.out HTW.out T hT (by have := HN9.out; omega))
          clear hw hlet hT
          go_wp2
          refine wp_region_mix [(0, true), (1, true), (2, true), (3, true), (4, false), (5, true), (6, true), (7, true), (8, true), (9, true)] (by kernel_rfl) (by kernel_rfl) rfl (by kernel_rfl) (by intro _ _ d _ _ h; cases d <;> exact h) ?_; intro j1; (repeat (first | (refine wpMix_skipK rfl rfl ?_; intro K hK; go_simp; refine hK _ ?_; clear hK K) | (refine wpMix_light rfl rfl ?_; intro K hK; go_simp; refine hK _ ?_; clear hK K) | (refine wpMix_heavy rfl rfl ?_; intro K hK; go_wp2_with ((go_at_call 52; (with_reducible refine (HFI.out _).mono ?_); rintro e3 w3 ⟨rfl, hb3⟩; have hb13 : Below wr.heap.size wr w3 := below_tr (w_ext_below _ _) hb3; have HB3 := Lib.hid hb13; clear hb3)); refine ⟨w_ext_of_below (by (repeat' (first | (with_reducible exact Below.refl _ _) | (with_reducible assumption) | (with_reducible exact below_app _ _ _ _) | (with_reducible refine below_pre ?_; (simp only [List.append_assoc, List.prefix_append, List.prefix_refl, List.prefix_append_right_inj])) | (with_reducible refine Below.alloc ?_ ?_ _) | (with_reducible refine below_ext ?_ ?_ _) | (with_reducible refine Below.drew ?_) | (with_reducible refine below_drewN ?_ _) | (with_reducible refine Below.setCell ?_ ?_ _) | go_size | (simp only [w_size_ext, List.length_append, World.alloc_size]; omega) | (simp; done) | (simp; omega)))), ?_⟩))); refine wpMix_nil ?_
          go_wp2
          go_roundw
          case rel => exact ⟨i + 1, _, hin, (by first | (rw [hwr]; done) | (rw [hwr]; rfl) | rfl), rfl, HO2, Lib.hid ((HB3.out.block w.heap.size (Array.getElem?_eq_some_iff.1 HBX.out).1).trans HBX.out), Lib.hid (below_tr HBL.out HB3.out)⟩
          case measure => rw [intOf_lit, intOf_lit, hwr]; omega
    · have hnlt : ¬ (i : Int) < (n : Int) := by omega
      obtain ⟨l, hl1, hl2⟩ := HO.out.done (by rw [HCL.out]; exact hin)
      have HL1 := Lib.hid hl1
      have HL2 := Lib.hid hl2
      clear hl1 hl2
      go_wp2
      go_ret2
      exact out_end HL1.out HL2.out HBL.out
end Go.Proofs.YtmcooenafgihkaaGreatDoor
