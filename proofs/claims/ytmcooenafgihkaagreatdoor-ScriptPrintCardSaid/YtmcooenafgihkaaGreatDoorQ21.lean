/- Helper lemmas: steps as a text, by the program and by the reference. No condition. -/
import Derived.Test.YtmcooenafgihkaaGreatDoorS10
import Derived.Test.YtmcooenafgihkaaGreatDoorT1
import Derived.Test.YtmcooenafgihkaaGreatDoorP19
import Derived.Test.YtmcooenafgihkaaGreatDoorQ10
import Derived.OwnWalk
set_option linter.unusedSimpArgs false
set_option linter.unusedVariables false
namespace Go.Proofs.YtmcooenafgihkaaGreatDoor
open Go.RowKit

theorem brief_small {s : StepR} (h : Brief s) : s.Small := by
  obtain ⟨h1, h2, h3, h4, h5, h6⟩ := h
  exact ⟨by omega, by omega, by omega, by omega, by omega⟩
/-- What steps are as a text, or the first that can't be said. -/
def printV (l : List StepR) : Value := match badF l with
  | some i => .tuple #[.string ⟨#[]⟩, .int .i64 (i : Int), .int .i64 205]
  | none => .tuple #[str (l.flatMap sayL), .int .i64 0, .int .i64 0]
theorem print_bad {l : List StepR} {i : Nat} (h : badF l = some i) : printV l = .tuple #[.string ⟨#[]⟩, .int .i64 (i : Int), .int .i64 205] := by unfold printV; rw [h]
theorem print_good {l : List StepR} {out : Bs} (h : badF l = none ∧ out = l.flatMap sayL) : printV l = .tuple #[str out, .int .i64 0, .int .i64 0] := by unfold printV; rw [h.1, h.2]
theorem say_len {s : StepR} (hf : s.Fine) (hb : Brief s) {ws : List Bs} (h : textW s = some ws) : (joinW ws).length ≤ 700000000000 := by
  obtain ⟨h1, _, h3⟩ := text_wd hf (brief_small hb) h
  have h4 := joinW_len 100000000 ws fun t ht => (h3 t ht).len
  have h5 := hb.2.2.2.2.2
  have h6 : ws.length * (100000000 + 1) ≤ 6160 * (100000000 + 1) := Nat.mul_le_mul_right _ (by omega)
  omega
/-- A step off a row of steps: what a load gives. -/
theorem step_at {w : World} {A : Option Addr} {l : List StepR} (h : StsAt w A l) {i : Nat} (hi : i < l.length) : ∃ (b o : Nat) (K : Option Addr) (m c : Nat), A = some ⟨b, o, none⟩ ∧ IntsAt w K (l.getD i zeroR).keep ∧ (l.getD i zeroR).keep.length = m ∧ ∀ k, k < 13 → w.cell? ⟨b, o + i * 13 + k, none⟩ = (cellsOf (l.getD i zeroR) K m c)[k]? := by
  obtain ⟨b, o, e, K, m, c, h1, h2, h3⟩ := h i hi
  exact ⟨b, o, K, m, c, e, h1, h2, h3⟩
theorem at_of {l : List StepR} {i : Nat} (hi : i < l.length) : l[i]? = some (l.getD i zeroR) := by
  rw [List.getD_eq_getElem?_getD, List.getElem?_eq_getElem hi]; rfl
theorem isb_below {T e : TypeId} {B b : Nat} {bs : List Value} {W W' : World} (h : Lib.IsBuilder T e B b bs W) (hb : Below W.heap.size W W') : Lib.IsBuilder T e B b bs W' := by
  have key : ∀ p, Lib.BuilderAt T e B b p bs W → Lib.BuilderAt T e B b p bs W' := fun p h => by
    obtain ⟨hB, v, h1, h2, h3⟩ := h
    exact ⟨hB, v, (hb.block _ (Array.getElem?_eq_some_iff.1 h1).1).trans h1, own_below h2 hb, h3⟩
  exact h.imp (key _) (key _)
theorem more_len {a k n : Nat} (h : a ≤ k * 700000000001) (hn : n ≤ 700000000000) : a + n + 1 ≤ (k + 1) * 700000000001 := by omega
theorem less_len {a k : Nat} (h : a ≤ k * 700000000001) (hk : k ≤ 60) : a ≤ 42000000000060 := by omega
set_option maxHeartbeats 8000000 in
set_option maxRecDepth 100000 in
theorem print_any (A : Option Addr) (cp : Nat) (l : List StepR) (w : World) (HA : Hid (StsAt w A l)) (HN : Hid (l.length ≤ 60)) (HF : Hid (∀ i, i < l.length → (l.getD i zeroR).Fine ∧ Brief (l.getD i zeroR))) (HG : Hid (Glob w)) : Calls Tryz.prog 18 #[.slice A l.length cp] w (fun e w' => e = .returned (printV l) ∧ Below w.heap.size w w') := by
  obtain ⟨n, hn⟩ : ∃ n, l.length = n := ⟨_, rfl⟩
  have HNL := Lib.hid hn
  have hn60 : n ≤ 60 := by have := HN.out; omega
  rw [hn]
  clear hn
  have HW0 := Lib.hid (show Below w.heap.size w (w.alloc (.cells #[.pointer none, .slice none 0 0] 61)) from Below.alloc (Below.refl _ _) (Nat.le_refl _) _)
  go_enter Tryz.func18, Tryz.ntmps18
  go_wp2
  go_loopw [12] (fun v12 wr => ∃ (i : Nat) (out : Bs), i ≤ n ∧ v12 = .int .i64 (i : Int) ∧ Hid (SaidS l i out) ∧ Hid (out.length ≤ i * 700000000001) ∧ Hid (Lib.IsBuilder 61 5 w.heap.size w.heap.size (Lib.byteCells out) wr) ∧ Hid (Below w.heap.size w wr)) (fun v12 _ => ((n : Int) - intOf v12).toNat)
  case atStart => exact ⟨0, [], Nat.zero_le _, rfl, Lib.hid (SaidS.start _), Lib.hid (Nat.zero_le _), Lib.hid (Lib.fresh_isBuilder 61 5 w), Lib.hid (Below.alloc (Below.refl _ _) (Nat.le_refl _) _)⟩
  case round =>
    obtain ⟨i, out, hi, rfl, HS, HO, HBU, HB⟩ := hrel
    by_cases hin : i < n
    · have hlt : (i : Int) < (n : Int) := by omega
      have hge : (0 : Int) ≤ (i : Int) := by omega
      have hnl : ¬ (i : Int) < 0 := by omega
      have hwr : wrap64 ((i : Int) + 1) = (i : Int) + 1 := by rw [wrap64_eq]; omega
      have hil : i < l.length := by rw [HNL.out]; exact hin
      have HLI := Lib.hid (at_of hil)
      have HFI := Lib.hid (HF.out i hil)
      obtain ⟨b, o, K, mk, ck, eA, hki, hk, hcell⟩ := step_at (HA.out.later HB.out) hil
      subst eA
      obtain ⟨s, hs⟩ : ∃ s, l.getD i zeroR = s := ⟨_, rfl⟩
      rw [hs] at HLI HFI hki hk hcell
      have HKI := Lib.hid hki
      have HK := Lib.hid hk
      have q0 : wr.cell? ⟨b, o + i * 13, none⟩ = some (.int .i64 s.kind) := hcell 0 (by decide)
      have q1 : wr.cell? ⟨b, o + i * 13 + 1, none⟩ = some (.int .i64 s.rep) := hcell 1 (by decide)
      have q2 : wr.cell? ⟨b, o + i * 13 + 2, none⟩ = some (.string s.vol) := hcell 2 (by decide)
      have q3 : wr.cell? ⟨b, o + i * 13 + 3, none⟩ = some (.string s.dst) := hcell 3 (by decide)
      have q4 : wr.cell? ⟨b, o + i * 13 + 4, none⟩ = some (.int .i64 s.n) := hcell 4 (by decide)
      have q5 : wr.cell? ⟨b, o + i * 13 + 5, none⟩ = some (.slice K mk ck) := hcell 5 (by decide)
      have q6 : wr.cell? ⟨b, o + i * 13 + 6, none⟩ = some (.int .i64 s.ck) := hcell 6 (by decide)
      have q7 : wr.cell? ⟨b, o + i * 13 + 7, none⟩ = some (.string s.path) := hcell 7 (by decide)
      have r7 : wr.cell? ⟨b, o + i * 13 + 6 + 1, none⟩ = some (.string s.path) := q7
      have q8 : wr.cell? ⟨b, o + i * 13 + 8, none⟩ = some (.string s.cto) := hcell 8 (by decide)
      have r8 : wr.cell? ⟨b, o + i * 13 + 6 + 2, none⟩ = some (.string s.cto) := q8
      have q9 : wr.cell? ⟨b, o + i * 13 + 9, none⟩ = some (.int .i64 s.off) := hcell 9 (by decide)
      have r9 : wr.cell? ⟨b, o + i * 13 + 6 + 3, none⟩ = some (.int .i64 s.off) := q9
      have q10 : wr.cell? ⟨b, o + i * 13 + 10, none⟩ = some (.int .i64 s.cn) := hcell 10 (by decide)
      have r10 : wr.cell? ⟨b, o + i * 13 + 6 + 4, none⟩ = some (.int .i64 s.cn) := q10
      have q11 : wr.cell? ⟨b, o + i * 13 + 11, none⟩ = some (.string s.data) := hcell 11 (by decide)
      have r11 : wr.cell? ⟨b, o + i * 13 + 6 + 5, none⟩ = some (.string s.data) := q11
      have q12 : wr.cell? ⟨b, o + i * 13 + 12, none⟩ = some (f64 s.time) := hcell 12 (by decide)
      have r12 : wr.cell? ⟨b, o + i * 13 + 6 + 6, none⟩ = some (f64 s.time) := q12
      have lb := leB_of_cell q0
      clear hcell hki hk hs hil
      obtain ⟨w2, hst2, hs2⟩ := row_store (w := wr.alloc (.cells stepZero 33)) (ty := 33) (cs := #[.int .i64 s.kind, .int .i64 s.rep, .string s.vol, .string s.dst, .int .i64 s.n, .slice K mk ck, .int .i64 s.ck, .string s.path, .string s.cto, .int .i64 s.off, .int .i64 s.cn, .string s.data, f64 s.time]) (heap_alloc_new wr _) (by kernel_rfl) rfl (by simp [Value.oneCell'])
      have hb2 : Below wr.heap.size wr w2 := ⟨hs2.os, hs2.tape, hs2.output, by rw [hs2.size]; simp, fun j hj => (hs2.rest j (by omega)).trans (Lib.alloc_old wr _ j hj)⟩
      have hld2 := (row_load (ty := 33) hs2.at' Tryz.underlying33 (by kernel_rfl)).2
      have HB2 := Lib.hid (HB.out.trans (hb2.mono HB.out.size))
      have HKI2 := Lib.hid (HKI.out.later hb2)
      have HBU2 := Lib.hid (isb_below HBU.out hb2)
      have HT : Hid (Calls Tryz.prog 28 #[.agg #[.int .i64 s.kind, .int .i64 s.rep, .string s.vol, .string s.dst, .int .i64 s.n, .slice K mk ck, .int .i64 s.ck, .string s.path, .string s.cto, .int .i64 s.off, .int .i64 s.cn, .string s.data, f64 s.time]] w2 (LineP (textW s) w2)) := Lib.hid (by
        have hf := HFI.out.1
        have hb := HFI.out.2
        have hk := HK.out
        have h2 := HKI2.out
        have h1 := HG.out.later HB2.out
        exact script_text s K mk ck w2 hf (brief_small hb) hk (by have := hb.2.2.2.2.2; omega) h2 h1)
      clear hs2 hb2
      cases htx : textW s with
      | none =>
        have HE := Lib.hid (print_bad (HS.out.fail HLI.out htx))
        have HT2 : Hid (Calls Tryz.prog 28 #[.agg #[.int .i64 s.kind, .int .i64 s.rep, .string s.vol, .string s.dst, .int .i64 s.n, .slice K mk ck, .int .i64 s.ck, .string s.path, .string s.cto, .int .i64 s.off, .int .i64 s.cn, .string s.data, f64 s.time]] w2 (fun e w' => e = .returned (.tuple #[.string ⟨#[]⟩, .int .i64 205]) ∧ Below w2.heap.size w2 w')) := Lib.hid (by
          have h := HT.out
          rw [htx] at h
          exact h)
        clear htx HT
        go_wp2_with (first | (refine store_step 33 _ _ rfl rfl rfl rfl hst2 ?_) | (refine load_step 33 _ rfl rfl rfl hld2 ?_))
        refine HT2.out.mono ?_
        rintro e3 w3 ⟨rfl, hb3⟩
        have HB3 := Lib.hid (HB2.out.trans (hb3.mono HB2.out.size))
        clear hb3
        go_wp2
        go_ret3
        exact ⟨by rw [HE.out]; rfl, HB3.out⟩
      | some ws =>
        have HSL := Lib.hid (say_len HFI.out.1 HFI.out.2 htx)
        have HS2 := Lib.hid (HS.out.step HLI.out htx)
        obtain ⟨t, ht⟩ : ∃ t : ByteArray, (⟨(joinW ws).toArray⟩ : ByteArray) = t := ⟨_, rfl⟩
        have HTJ := Lib.hid ht
        have HTS := Lib.hid (show t.size ≤ 700000000000 by rw [← ht]; exact HSL.out)
        have HT2 : Hid (Calls Tryz.prog 28 #[.agg #[.int .i64 s.kind, .int .i64 s.rep, .string s.vol, .string s.dst, .int .i64 s.n, .slice K mk ck, .int .i64 s.ck, .string s.path, .string s.cto, .int .i64 s.off, .int .i64 s.cn, .string s.data, f64 s.time]] w2 (fun e w' => e = .returned (.tuple #[.string t, .int .i64 0]) ∧ Below w2.heap.size w2 w')) := Lib.hid (by
          have h := HT.out
          rw [htx] at h
          rw [← ht]
          exact h)
        have HO2 := Lib.hid (less_len HO.out (by omega))
        clear htx ht HT
        go_wp2_with (first | (refine store_step 33 _ _ rfl rfl rfl rfl hst2 ?_) | (refine load_step 33 _ rfl rfl rfl hld2 ?_))
        refine HT2.out.mono ?_
        rintro e3 w3 ⟨rfl, hb3⟩
        have HB3 := Lib.hid (HB2.out.trans (hb3.mono HB2.out.size))
        have HBU3 := Lib.hid (isb_below HBU2.out hb3)
        clear hb3
        go_wp2_with (fail)
        refine (write_any w.heap.size w.heap.size (Lib.byteCells out) t w3 HBU3.out (by rw [Lib.byteCells_length]; have := HO2.out; have := HTS.out; omega) HB3.out.size).mono ?_
        rintro e4 w4 ⟨rfl, hbu4, hb4⟩
        have HB4 := Lib.hid (HB3.out.trans hb4)
        have HBU4 := Lib.hid (show Lib.IsBuilder 61 5 _ _ _ _ from Or.inr hbu4)
        clear hbu4 hb4
        go_wp2_with (fail)
        refine (wbyte_any w.heap.size w.heap.size _ 10 w4 HBU4.out (by rw [List.length_append, Lib.byteCells_length, Lib.strCells_length]; have := HO2.out; have := HTS.out; omega) HB4.out.size).mono ?_
        rintro e5 w5 ⟨rfl, hbu5, hb5⟩
        have HB5 := Lib.hid (HB4.out.trans hb5)
        have HBU5 : Hid (Lib.IsBuilder 61 5 w.heap.size w.heap.size (Lib.byteCells (out ++ joinW ws ++ [10])) w5) := Lib.hid (by
          have h : Lib.IsBuilder 61 5 _ _ _ _ := Or.inr hbu5
          rw [← HTJ.out] at h
          have e : Lib.byteCells out ++ Lib.strCells ⟨(joinW ws).toArray⟩ ++ [Value.int .u8 10] = Lib.byteCells (out ++ joinW ws ++ [10]) := by simp [Lib.byteCells, Lib.strCells]
          rw [e] at h
          exact h)
        clear hbu5 hb5
        go_wp2
        go_roundw
        case rel => exact ⟨i + 1, out ++ joinW ws ++ [10], hin, by first | exact cast_one _ | (rw [hwr]; exact cast_one _), HS2, Lib.hid (by rw [List.length_append, List.length_append, List.length_singleton]; exact more_len HO.out HSL.out), HBU5, HB5⟩
        case measure => first | (rw [intOf_lit, intOf_lit, hwr]; omega) | (rw [intOf_lit, intOf_lit]; omega)
    · have hnlt : ¬ (i : Int) < (n : Int) := by omega
      have HE := Lib.hid (print_good (HS.out.done (by rw [HNL.out]; omega)))
      go_wp2_with (go_at_call 34; (with_reducible refine (Tryz.Builder_String_any _ _ out _ HBU.out HB.out.size).mono ?_); rintro e1 w3 ⟨rfl, hb3⟩; have HB3 := Lib.hid (HB.out.trans hb3); clear hb3)
      go_ret3
      exact ⟨by rw [HE.out]; rfl, HB3.out⟩
set_option maxHeartbeats 8000000 in
set_option maxRecDepth 100000 in
theorem rprint_any (A : Option Addr) (cp : Nat) (l : List StepR) (w : World) (HA : Hid (StsAt w A l)) (HN : Hid (l.length ≤ 60)) (HF : Hid (∀ i, i < l.length → (l.getD i zeroR).Fine ∧ Brief (l.getD i zeroR))) : Calls Tryz.prog 19 #[.slice A l.length cp] w (fun e w' => e = .returned (printV l) ∧ Below w.heap.size w w') := by
  obtain ⟨n, hn⟩ : ∃ n, l.length = n := ⟨_, rfl⟩
  have HNL := Lib.hid hn
  have hn60 : n ≤ 60 := by have := HN.out; omega
  rw [hn]
  clear hn
  have HW0 := Lib.hid (show Below w.heap.size w (w.alloc (.cells #[.pointer none, .slice none 0 0] 61)) from Below.alloc (Below.refl _ _) (Nat.le_refl _) _)
  go_enter Tryz.func19, Tryz.ntmps19
  go_wp2
  go_loopw [5, 12] (fun v5 v12 wr => ∃ (i : Nat) (out : Bs) (q : ByteArray), i ≤ n ∧ v12 = .int .i64 (i : Int) ∧ v5 = .string q ∧ Hid (q = ⟨out.toArray⟩) ∧ Hid (SaidS l i out) ∧ Hid (out.length ≤ i * 700000000001) ∧ Hid (Below w.heap.size w wr)) (fun _ v12 _ => ((n : Int) - intOf v12).toNat)
  case atStart => exact ⟨0, [], ⟨#[]⟩, Nat.zero_le _, rfl, rfl, Lib.hid rfl, Lib.hid (SaidS.start _), Lib.hid (Nat.zero_le _), Lib.hid (Below.refl _ _)⟩
  case round =>
    obtain ⟨i, out, q, hi, rfl, rfl, HQ, HS, HO, HB⟩ := hrel
    by_cases hin : i < n
    · have hlt : (i : Int) < (n : Int) := by omega
      have hge : (0 : Int) ≤ (i : Int) := by omega
      have hnl : ¬ (i : Int) < 0 := by omega
      have hwr : wrap64 ((i : Int) + 1) = (i : Int) + 1 := by rw [wrap64_eq]; omega
      have hil : i < l.length := by rw [HNL.out]; exact hin
      have HLI := Lib.hid (at_of hil)
      have HFI := Lib.hid (HF.out i hil)
      obtain ⟨b, o, K, mk, ck, eA, hki, hk, hcell⟩ := step_at (HA.out.later HB.out) hil
      subst eA
      obtain ⟨s, hs⟩ : ∃ s, l.getD i zeroR = s := ⟨_, rfl⟩
      rw [hs] at HLI HFI hki hk hcell
      have HKI := Lib.hid hki
      have HK := Lib.hid hk
      have q0 : wr.cell? ⟨b, o + i * 13, none⟩ = some (.int .i64 s.kind) := hcell 0 (by decide)
      have q1 : wr.cell? ⟨b, o + i * 13 + 1, none⟩ = some (.int .i64 s.rep) := hcell 1 (by decide)
      have q2 : wr.cell? ⟨b, o + i * 13 + 2, none⟩ = some (.string s.vol) := hcell 2 (by decide)
      have q3 : wr.cell? ⟨b, o + i * 13 + 3, none⟩ = some (.string s.dst) := hcell 3 (by decide)
      have q4 : wr.cell? ⟨b, o + i * 13 + 4, none⟩ = some (.int .i64 s.n) := hcell 4 (by decide)
      have q5 : wr.cell? ⟨b, o + i * 13 + 5, none⟩ = some (.slice K mk ck) := hcell 5 (by decide)
      have q6 : wr.cell? ⟨b, o + i * 13 + 6, none⟩ = some (.int .i64 s.ck) := hcell 6 (by decide)
      have q7 : wr.cell? ⟨b, o + i * 13 + 7, none⟩ = some (.string s.path) := hcell 7 (by decide)
      have r7 : wr.cell? ⟨b, o + i * 13 + 6 + 1, none⟩ = some (.string s.path) := q7
      have q8 : wr.cell? ⟨b, o + i * 13 + 8, none⟩ = some (.string s.cto) := hcell 8 (by decide)
      have r8 : wr.cell? ⟨b, o + i * 13 + 6 + 2, none⟩ = some (.string s.cto) := q8
      have q9 : wr.cell? ⟨b, o + i * 13 + 9, none⟩ = some (.int .i64 s.off) := hcell 9 (by decide)
      have r9 : wr.cell? ⟨b, o + i * 13 + 6 + 3, none⟩ = some (.int .i64 s.off) := q9
      have q10 : wr.cell? ⟨b, o + i * 13 + 10, none⟩ = some (.int .i64 s.cn) := hcell 10 (by decide)
      have r10 : wr.cell? ⟨b, o + i * 13 + 6 + 4, none⟩ = some (.int .i64 s.cn) := q10
      have q11 : wr.cell? ⟨b, o + i * 13 + 11, none⟩ = some (.string s.data) := hcell 11 (by decide)
      have r11 : wr.cell? ⟨b, o + i * 13 + 6 + 5, none⟩ = some (.string s.data) := q11
      have q12 : wr.cell? ⟨b, o + i * 13 + 12, none⟩ = some (f64 s.time) := hcell 12 (by decide)
      have r12 : wr.cell? ⟨b, o + i * 13 + 6 + 6, none⟩ = some (f64 s.time) := q12
      have lb := leB_of_cell q0
      clear hcell hki hk hs hil
      obtain ⟨w2, hst2, hs2⟩ := row_store (w := wr.alloc (.cells stepZero 33)) (ty := 33) (cs := #[.int .i64 s.kind, .int .i64 s.rep, .string s.vol, .string s.dst, .int .i64 s.n, .slice K mk ck, .int .i64 s.ck, .string s.path, .string s.cto, .int .i64 s.off, .int .i64 s.cn, .string s.data, f64 s.time]) (heap_alloc_new wr _) (by kernel_rfl) rfl (by simp [Value.oneCell'])
      have hb2 : Below wr.heap.size wr w2 := ⟨hs2.os, hs2.tape, hs2.output, by rw [hs2.size]; simp, fun j hj => (hs2.rest j (by omega)).trans (Lib.alloc_old wr _ j hj)⟩
      have hld2 := (row_load (ty := 33) hs2.at' Tryz.underlying33 (by kernel_rfl)).2
      have HB2 := Lib.hid (HB.out.trans (hb2.mono HB.out.size))
      have HKI2 := Lib.hid (HKI.out.later hb2)
      have HT : Hid (Calls Tryz.prog 29 #[.agg #[.int .i64 s.kind, .int .i64 s.rep, .string s.vol, .string s.dst, .int .i64 s.n, .slice K mk ck, .int .i64 s.ck, .string s.path, .string s.cto, .int .i64 s.off, .int .i64 s.cn, .string s.data, f64 s.time]] w2 (LineP (textW s) w2)) := Lib.hid (by
        have hf := HFI.out.1
        have hb := HFI.out.2
        have hk := HK.out
        have h2 := HKI2.out
        exact rtext_any s K mk ck w2 hf (brief_small hb) hk (by have := hb.2.2.2.2.2; omega) h2)
      clear hs2 hb2
      cases htx : textW s with
      | none =>
        have HE := Lib.hid (print_bad (HS.out.fail HLI.out htx))
        have HT2 : Hid (Calls Tryz.prog 29 #[.agg #[.int .i64 s.kind, .int .i64 s.rep, .string s.vol, .string s.dst, .int .i64 s.n, .slice K mk ck, .int .i64 s.ck, .string s.path, .string s.cto, .int .i64 s.off, .int .i64 s.cn, .string s.data, f64 s.time]] w2 (fun e w' => e = .returned (.tuple #[.string ⟨#[]⟩, .int .i64 205]) ∧ Below w2.heap.size w2 w')) := Lib.hid (by
          have h := HT.out
          rw [htx] at h
          exact h)
        clear htx HT
        go_wp2_with (first | (refine store_step 33 _ _ rfl rfl rfl rfl hst2 ?_) | (refine load_step 33 _ rfl rfl rfl hld2 ?_))
        refine HT2.out.mono ?_
        rintro e3 w3 ⟨rfl, hb3⟩
        have HB3 := Lib.hid (HB2.out.trans (hb3.mono HB2.out.size))
        clear hb3
        go_wp2
        go_ret3
        exact ⟨by rw [HE.out]; rfl, HB3.out⟩
      | some ws =>
        have HSL := Lib.hid (say_len HFI.out.1 HFI.out.2 htx)
        have HS2 := Lib.hid (HS.out.step HLI.out htx)
        obtain ⟨t, ht⟩ : ∃ t : ByteArray, (⟨(joinW ws).toArray⟩ : ByteArray) = t := ⟨_, rfl⟩
        have HTJ := Lib.hid ht
        have HTS := Lib.hid (show t.size ≤ 700000000000 by rw [← ht]; exact HSL.out)
        have HT2 : Hid (Calls Tryz.prog 29 #[.agg #[.int .i64 s.kind, .int .i64 s.rep, .string s.vol, .string s.dst, .int .i64 s.n, .slice K mk ck, .int .i64 s.ck, .string s.path, .string s.cto, .int .i64 s.off, .int .i64 s.cn, .string s.data, f64 s.time]] w2 (fun e w' => e = .returned (.tuple #[.string t, .int .i64 0]) ∧ Below w2.heap.size w2 w')) := Lib.hid (by
          have h := HT.out
          rw [htx] at h
          rw [← ht]
          exact h)
        have HO2 := Lib.hid (less_len HO.out (by omega))
        clear htx ht HT
        have hq1 : q.size = out.length := by rw [HQ.out]; rfl
        have hz1 : (9223372036854775807 < q.size + t.size) = False := eq_false (by have := HO2.out; have := HTS.out; omega)
        have hz2 : (9223372036854775807 < q.size + t.size + 1) = False := eq_false (by have := HO2.out; have := HTS.out; omega)
        have hz3 : (9223372036854775807 < (q ++ t).size + 1) = False := eq_false (by have : (q ++ t).size = q.size + t.size := ByteArray.size_append; have := HO2.out; have := HTS.out; omega)
        clear hq1
        go_wp2_with (first | (refine store_step 33 _ _ rfl rfl rfl rfl hst2 ?_) | (refine load_step 33 _ rfl rfl rfl hld2 ?_))
        refine HT2.out.mono ?_
        rintro e3 w3 ⟨rfl, hb3⟩
        have HB3 := Lib.hid (HB2.out.trans (hb3.mono HB2.out.size))
        clear hb3
        go_wp2
        go_roundw
        case rel => exact ⟨i + 1, out ++ joinW ws ++ [10], _, hin, by first | exact cast_one _ | (rw [hwr]; exact cast_one _), rfl, Lib.hid (by rw [HQ.out, ← HTJ.out]; exact app_bytes _ _ _ _ (app_bytes _ _ _ _ rfl rfl) rfl), HS2, Lib.hid (by rw [List.length_append, List.length_append, List.length_singleton]; exact more_len HO.out HSL.out), HB3⟩
        case measure => first | (rw [intOf_lit, intOf_lit, hwr]; omega) | (rw [intOf_lit, intOf_lit]; omega)
    · have hnlt : ¬ (i : Int) < (n : Int) := by omega
      have HE := Lib.hid (print_good (HS.out.done (by rw [HNL.out]; omega)))
      go_wp2
      go_ret3
      exact ⟨by rw [HE.out, HQ.out]; rfl, HB.out⟩
end Go.Proofs.YtmcooenafgihkaaGreatDoor
