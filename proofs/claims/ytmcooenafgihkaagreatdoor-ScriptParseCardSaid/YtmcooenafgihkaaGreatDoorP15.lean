/- Helper lemmas: a call off its words, by the program. No condition. -/
import Derived.Test.YtmcooenafgihkaaGreatDoorP14
set_option linter.unusedSimpArgs false
set_option linter.unusedVariables false
namespace Go.Proofs.YtmcooenafgihkaaGreatDoor
open Go.RowKit

theorem callP_nil (s : StepR) : callP s [] = none := rfl
theorem callP_one (s : StepR) (t : Bs) : callP s [t] = none := by
  simp only [callP]
  cases findF callF t <;> rfl
theorem callP_bad {s : StepR} {t : Bs} {ws : List Bs} (h : findF callF t = none) : callP s (t :: ws) = none := by
  simp only [callP, h]; rfl
theorem callP_path {s : StepR} {t u : Bs} {ws : List Bs} (h : unwordL u = none) : callP s (t :: u :: ws) = none := by
  simp only [callP]
  cases findF callF t with
  | none => rfl
  | some i => simp only [Option.bind_some, h]; rfl
theorem callP_go {s : StepR} {t u v : Bs} {ws : List Bs} {i : Nat} (h : findF callF t = some i) (h2 : unwordL u = some v) : callP s (t :: u :: ws) = runC (argsAt callF i) { s with ck := (i : Int) + 1, path := ⟨v.toArray⟩ } ws := by
  simp only [callP, h, Option.bind_some, h2]
theorem callLen : callF.length = 19 := rfl
/-- A kind was found. -/
theorem find_some {b : Nat} {t : Bs} {w : World} {i : Nat} (hf : FormsAt w b callF) (h : findF callF t = some i) : Calls Tryz.prog 56 #[.slice (some ⟨b, 0, none⟩) 19 19, str t] w fun e w' => e = .returned (.int .i64 ((i : Int) + 1)) ∧ Below w.heap.size w w' := by
  refine (find_any callF 19 b t w callLen (by decide) hf).mono ?_
  rw [h]
  rintro e w' (⟨_, h1, h2, h3⟩ | ⟨h1, _⟩)
  · injection h1 with h1
    subst h1; exact ⟨h2, h3⟩
  · cases h1
theorem find_none {b : Nat} {t : Bs} {w : World} (hf : FormsAt w b callF) (h : findF callF t = none) : Calls Tryz.prog 56 #[.slice (some ⟨b, 0, none⟩) 19 19, str t] w fun e w' => e = .panicked [refusal] ∧ Below w.heap.size w w' := by
  refine (find_any callF 19 b t w callLen (by decide) hf).mono ?_
  rw [h]
  rintro e w' (⟨_, h1, _⟩ | ⟨_, h2, h3⟩)
  · cases h1
  · exact ⟨h2, h3⟩
/-- Before the letters: the reader, the result's cells. -/
structure Pre (W0 : World) (B p r : Nat) (t : TypeId) (zero : Array Value) (ws : List Bs) (w : World) : Prop where
  rd : Rd B p ws w
  res : w.heap[r]? = some (.cells zero t (0, 0))
  kept : Kept p W0 w
  hB : B ≤ W0.heap.size
  hr : W0.heap.size ≤ r
/-- And the struct. -/
structure Bx (W0 : World) (B p r q : Nat) (t : TypeId) (zero cells : Array Value) (ws : List Bs) (w : World) : Prop where
  pre : Pre W0 B p r t zero ws w
  box : w.heap[q]? = some (.cells cells t (0, 0))
  hq : W0.heap.size ≤ q
  hrq : ¬ r = q
section
variable {W0 w w' : World} {B p r q k : Nat} {t : TypeId} {zero cells : Array Value} {args : ByteArray} {i : Nat} {ws : List Bs}
theorem Pre.pk (h : Pre W0 B p r t zero ws w) : p < W0.heap.size := Nat.lt_of_lt_of_le h.rd.1 h.hB
theorem Pre.later (h : Pre W0 B p r t zero ws w) (hb : Below w.heap.size w w') : Pre W0 B p r t zero ws w' :=
  ⟨h.rd.same fun j hj => hb.block j (by have := h.kept.size; have := h.hB; omega), (hb.block r (Array.getElem?_eq_some_iff.1 h.res).1).trans h.res, h.kept.trans (Kept.of_below hb), h.hB, h.hr⟩
theorem Pre.took (h : Pre W0 B p r t zero ws w) {ws' : List Bs} (hk : Kept p w w') (hr : Rd B p ws' w') : Pre W0 B p r t zero ws' w' :=
  ⟨hr, (hk.rest r (Array.getElem?_eq_some_iff.1 h.res).1 (by have := h.pk; have := h.hr; omega)).trans h.res, h.kept.trans hk, h.hB, h.hr⟩
theorem Pre.boxed (h : Pre W0 B p r t zero ws w) (cells : Array Value) : Bx W0 B p r w.heap.size t zero cells ws (w.alloc (.cells cells t (0, 0))) :=
  ⟨h.later (Below.alloc (Below.refl _ _) (Nat.le_refl _) _), heap_alloc_new w _, h.kept.size, by have := (Array.getElem?_eq_some_iff.1 h.res).1; omega⟩
theorem Bx.later (h : Bx W0 B p r q t zero cells ws w) (hb : Below w.heap.size w w') : Bx W0 B p r q t zero cells ws w' := ⟨h.pre.later hb, (hb.block q (Array.getElem?_eq_some_iff.1 h.box).1).trans h.box, h.hq, h.hrq⟩
theorem Bx.took (h : Bx W0 B p r q t zero cells ws w) {ws' : List Bs} (hk : Kept p w w') (hr : Rd B p ws' w') : Bx W0 B p r q t zero cells ws' w' := ⟨h.pre.took hk hr, (hk.rest q (Array.getElem?_eq_some_iff.1 h.box).1 (by have := h.pre.pk; have := h.hq; omega)).trans h.box, h.hq, h.hrq⟩
theorem Bx.set (h : Bx W0 B p r q t zero cells ws w) (j : Nat) (v : Value) : Bx W0 B p r q t zero (cells.setIfInBounds j v) ws (w.setCell ⟨q, j, none⟩ v) := by
  refine ⟨⟨h.pre.rd.same fun g hg => heap_set_other w _ v g (by have := h.pre.hB; have := h.hq; show ¬ g = q; omega), (heap_set_other w _ v r h.hrq).trans h.pre.res, ⟨h.pre.kept.os, h.pre.kept.tape, h.pre.kept.output, by have := h.pre.kept.size; simpa [World.setCell] using this, fun g hg hp => (heap_set_other w _ v g (by have := h.hq; show ¬ g = q; omega)).trans (h.pre.kept.rest g hg hp)⟩, h.pre.hB, h.pre.hr⟩, ?_, h.hq, h.hrq⟩
  simp only [World.setCell, Array.getElem?_modify, if_true, h.box]
  rfl
theorem Bx.row (h : Bx W0 B p r q t zero cells ws w) {cells' : Array Value} (hs : SetRow q cells' t w w') : Bx W0 B p r q t zero cells' ws w' :=
  ⟨⟨h.pre.rd.same fun g hg => hs.rest g (by have := h.pre.hB; have := h.hq; omega), (hs.rest r h.hrq).trans h.pre.res, hs.kept h.pre.kept h.hq, h.pre.hB, h.pre.hr⟩, hs.at', h.hq, h.hrq⟩
theorem Bx.iter (h : Bx W0 B p r q t zero cells ws w) (args : ByteArray) : Cst W0 B p r q w.heap.size t zero cells args 0 ws (w.iter args 0) := by
  have h2 := h.later (w' := w.iter args 0) (Below.alloc (Below.refl _ _) (Nat.le_refl _) _)
  exact ⟨h2.pre.rd, h2.box, h2.pre.res, World.iter_heap w args 0, h2.pre.kept, h2.pre.hB, h2.pre.hr, h2.hq, h.pre.kept.size, h2.hrq⟩
theorem Bx.cell (h : Bx W0 B p r q t zero cells ws w) {j : Nat} {u : Value} (hu : cells[j]? = some u) : w.cell? ⟨q, j, none⟩ = some u := cell_at h.box hu
theorem Bx.fr (h : Bx W0 B p r q t zero cells ws w) (j : Nat) : w.frozen? ⟨q, j, none⟩ = false := Lib.frozen_of_heap h.box j
end
theorem call_end {R : Option (StepR × List Bs)} {B p r q k : Nat} {W0 w w' : World} {s : StepR} {ws : List Bs} {args : ByteArray} {i : Nat} (hR : R = some (s, ws)) (h : Cst W0 B p r q k 31 callZero (callCells s) args i ws w) (hs : SetRow r (callCells s) 31 w w') : CallC R B p W0 (.returned (.agg (callCells s))) w' :=
  Or.inl ⟨s, ws, hR, rfl, hs.kept h.kept h.hr, h.rd.same fun j hj => hs.rest j (by have := h.hB; have := h.hr; omega)⟩
set_option maxHeartbeats 8000000 in
set_option maxRecDepth 100000 in
theorem call_main (B p : Nat) (R : Option (StepR × List Bs)) (s0 : StepR) (t0 u0 v0 : Bs) (ws0 : List Bs) (w : World) (HRD : Hid (Rd B p (t0 :: u0 :: ws0) w)) (HB : Hid (B ≤ w.heap.size)) (HGP : Hid (GlobP p w)) (ki : Nat) (cw cs : Bs) (HX : Hid (callF.getD ki ([], []) = (cw, cs))) (HF : Hid (findF callF t0 = some ki)) (HUW : Hid (unwordL u0 = some v0)) (HTL0 : Hid (u0.length ≤ 30000000)) (HWL0 : Hid (∀ t, t ∈ ws0 → t.length ≤ 30000000))
    (HZ : Hid (s0.cto = ⟨#[]⟩ ∧ s0.off = 0 ∧ s0.cn = 0 ∧ s0.data = ⟨#[]⟩ ∧ s0.time = 0)) (HR0 : Hid (RunsC R cs 0 { s0 with ck := (ki : Int) + 1, path := ⟨v0.toArray⟩ } ws0)) : Calls Tryz.prog 60 #[.pointer (some ⟨p, 0, none⟩)] w (CallC R B p w) := by
  have HKI := Lib.hid (show ki < 19 by have := findF_lt HF.out; have := callLen; omega)
  have hk0 : wrap64 ((ki : Int) + 1 - 1) = (ki : Int) := by have := HKI.out; rw [wrap64_eq]; omega
  have hwk : wrap64 (ki : Int) = (ki : Int) := by have := HKI.out; rw [wrap64_eq]; omega
  have hk3 : ¬ (ki : Int) < 0 := by omega
  have hk4 : (ki : Int) < 19 := by have := HKI.out; omega
  obtain ⟨args, hargs⟩ : ∃ args : ByteArray, args = ⟨cs.toArray⟩ := ⟨_, rfl⟩
  have HARGS := Lib.hid hargs
  have HARGV := Lib.hid (show str cs = .string args by rw [hargs])
  clear hargs
  have hsz : args.size = cs.length := by rw [HARGS.out]; rfl
  obtain ⟨n, hn⟩ : ∃ n, cs.length = n := ⟨_, rfl⟩
  have HSZ := Lib.hid (hsz.trans hn)
  have HCL := Lib.hid hn
  have HLET : Hid (∀ c ∈ cs, isC c = true) := Lib.hid (by
    have := callArgs ki HKI.out
    unfold argsAt at this
    rw [HX.out] at this; exact this)
  clear hsz hn
  go_enter Tryz.func60, Tryz.ntmps60
  go_wp2_with (fail)
  refine (calls_any _).mono ?_
  rintro e1 w1 ⟨b, rfl, hbs, hb1, hf1⟩
  have HP1 : Hid (Pre w B p w.heap.size 31 callZero (t0 :: u0 :: ws0) w1) := Lib.hid ((⟨HRD.out.same fun j hj => Lib.alloc_old w _ j (Nat.lt_of_lt_of_le hj HB.out), heap_alloc_new w _, Kept.of_below (Below.alloc (Below.refl _ _) (Nat.le_refl _) _), HB.out, Nat.le_refl _⟩ : Pre w B p w.heap.size 31 callZero (t0 :: u0 :: ws0) (w.alloc (.cells callZero 31))).later hb1)
  have HF1 := Lib.hid hf1
  have HBS := Lib.hid (show w.heap.size < b by have := hbs; simp at this; omega)
  have HNX := Lib.hid (next_some B p t0 (u0 :: ws0) w1 HP1.out.rd)
  clear hbs hb1 hf1
  go_wp2_with (fail)
  refine HNX.out.mono ?_
  rintro e2 w2 ⟨rfl, hk2, _, hr2⟩
  have HP2 := Lib.hid (HP1.out.took hk2 hr2)
  have HF2 : Hid (FormsAt w2 b callF) := Lib.hid fun i hi => by
    obtain ⟨g1, g2⟩ := HF1.out i hi
    have hbp : ¬ b = p := by have := HP1.out.pk; have := HBS.out; omega
    exact ⟨hk2.cell hbp g1, hk2.cell hbp g2⟩
  have HFI := Lib.hid (find_some HF2.out HF.out)
  clear hk2 hr2 HNX
  go_wp2_with (fail)
  refine HFI.out.mono ?_
  rintro e3 w3 ⟨rfl, hb3⟩
  have HP3 := Lib.hid (HP2.out.later hb3)
  have HF3 := Lib.hid (HF2.out.later hb3)
  obtain ⟨w4, hst, hsr⟩ := row_store (w := w3.alloc (.cells callZero 31)) (ty := 31) (cs := #[.int .i64 ((ki : Int) + 1), .string ⟨#[]⟩, .string ⟨#[]⟩, .int .i64 0, .int .i64 0, .string ⟨#[]⟩, f64 0]) (heap_alloc_new w3 _) (by kernel_rfl) rfl (by simp [Value.oneCell'])
  have HX4 := Lib.hid ((HP3.out.boxed callZero).row hsr)
  have HF4 : Hid (FormsAt w4 b callF) := Lib.hid fun i hi => by
    obtain ⟨g1, g2⟩ := HF3.out i hi
    have hlt := World.block_lt_of_cell? w3 _ g1
    simp only at hlt
    have e : w4.heap[b]? = w3.heap[b]? := (hsr.rest b (by omega)).trans (Lib.alloc_old w3 _ b hlt)
    unfold World.cell? at g1 g2 ⊢
    simp only at g1 g2 ⊢
    rw [e]; exact ⟨g1, g2⟩
  have HNX2 := Lib.hid (next_some B p u0 ws0 _ HX4.out.pre.rd)
  clear hb3 hsr
  go_wp2_with (refine store_step 31 _ _ rfl rfl rfl rfl hst ?_)
  refine HNX2.out.mono ?_
  rintro e5 w5 ⟨rfl, hk5, _, hr5⟩
  have HX5 := Lib.hid (HX4.out.took hk5 hr5)
  have HF5 : Hid (FormsAt w5 b callF) := Lib.hid fun i hi => by
    obtain ⟨g1, g2⟩ := HF4.out i hi
    have hbp : ¬ b = p := by have := HP1.out.pk; have := HBS.out; omega
    exact ⟨hk5.cell hbp g1, hk5.cell hbp g2⟩
  clear hk5 hr5
  go_wp2_with (fail)
  refine (wtext_some u0 _ HTL0.out v0 HUW.out).mono ?_
  rintro e6 w6 ⟨rfl, hb6⟩
  have HX6 := Lib.hid (HX5.out.later hb6)
  have hc1 := HX6.out.cell (j := 1) rfl
  have hc0 := HX6.out.cell (j := 0) rfl
  have hf1 := HX6.out.fr 1
  obtain ⟨hx1, hx2⟩ := HF5.out.later hb6 ki HKI.out
  rw [HX.out] at hx1 hx2
  replace hx2 : w6.cell? ⟨b, ki * 2 + 1, none⟩ = some (str cs) := hx2
  rw [HARGV.out] at hx2
  have hbq : ¬ b = w3.heap.size := by
    have hz := HF3.out ki HKI.out
    have := World.block_lt_of_cell? w3 _ hz.1
    simp only at this
    omega
  have HX7 : Hid (Cst w B p w.heap.size w3.heap.size w6.heap.size 31 callZero (callCells { s0 with ck := (ki : Int) + 1, path := ⟨v0.toArray⟩ }) args 0 ws0 ((w6.setCell ⟨w3.heap.size, 1, none⟩ (str v0)).iter args 0)) := Lib.hid (by
    have h := (HX6.out.set 1 (str v0)).iter args
    rw [show (w6.setCell ⟨w3.heap.size, 1, none⟩ (str v0)).heap.size = w6.heap.size by simp [World.setCell]] at h
    obtain ⟨z1, z2, z3, z4, z5⟩ := HZ.out
    unfold callCells
    simp only [z1, z2, z3, z4, z5]
    exact h)
  clear hb6 hx1
  go_wp2_with (fail)
  go_loopw [] (fun wr => ∃ (i : Nat) (s : StepR) (ws : List Bs), i ≤ n ∧ Hid (Cst w B p w.heap.size w3.heap.size w6.heap.size 31 callZero (callCells s) args i ws wr) ∧ Hid (RunsC R cs i s ws) ∧ Hid (∀ t, t ∈ ws → t.length ≤ 30000000)) (fun wr => n - wr.iterPos w6.heap.size)
  case atStart => exact ⟨0, _, ws0, Nat.zero_le _, HX7, HR0, HWL0⟩
  case round =>
    obtain ⟨i, s, ws, hi, HST, HRU, HWL⟩ := hrel
    by_cases hin : i < n
    · obtain ⟨ch, hch⟩ : ∃ ch, cs[i]? = some ch := ⟨_, List.getElem?_eq_getElem (by rw [HCL.out]; exact hin)⟩
      have hcl := (isC_iff ch).1 (HLET.out ch (List.mem_of_getElem? hch))
      have hca : args.data[i]? = some ch := by rw [HARGS.out]; simpa using hch
      have HC := Lib.hid hch
      have HCA := Lib.hid hca
      clear hch hca
      rcases hcl with rfl | rfl | rfl | rfl | rfl
      · obtain ⟨w2, hnx, hn2, _⟩ := HST.out.next (c := 116) (HCA.out) (by decide)
        have HS2 := Lib.hid hn2
        clear hn2
        cases ws with
        | nil =>
          have HRN := Lib.hid (HRU.out.empty HC.out)
          have HNX := Lib.hid (next_none B p w2 HS2.out.rd)
          go_wp2_with (go_at_call 57; (with_reducible refine HNX.out.mono ?_); rintro e3 w3 ⟨rfl, hb3⟩; have HB3 := Lib.hid hb3; clear hb3)
          exact ⟨rfl, CallC.thrown HRN.out (HS2.out.kept.trans (Kept.of_below HB3.out))⟩
        | cons t ws =>
          have HNX := Lib.hid (next_some B p t ws w2 HS2.out.rd)
          have HTL := Lib.hid (HWL.out t (by simp))
          have HWL2 := Lib.hid (fun u (hu : u ∈ ws) => HWL.out u (by simp [hu]))
          cases hu : unwordL t with
          | none =>
            have HRN := Lib.hid (HRU.out.fail HC.out (by simp [setC, hu]))
            have HU := Lib.hid hu
            clear hu
            go_wp2_with (first | (go_at_call 57; (with_reducible refine HNX.out.mono ?_); rintro e3 w3 ⟨rfl, hk3, hz3, hr3⟩; have HS3 := Lib.hid (HS2.out.took hk3 hr3); clear hk3 hz3 hr3) | (go_at_call 59; (with_reducible refine (wtext_none t _ HTL.out HU.out).mono ?_); rintro e4 w4 ⟨rfl, hb4⟩; have HK4 := Lib.hid (HS3.out.kept.trans (Kept.of_below hb4)); clear hb4))
            exact ⟨rfl, CallC.thrown HRN.out HK4.out⟩
          | some u =>
            have HR2 := Lib.hid (HRU.out.step (s' := { s with cto := ⟨u.toArray⟩ }) HC.out (by simp [setC, hu]))
            have HU := Lib.hid hu
            clear hu
            go_wp2_with (first | (go_at_call 57; (with_reducible refine HNX.out.mono ?_); rintro e3 w3 ⟨rfl, hk3, hz3, hr3⟩; have HS3 := Lib.hid (HS2.out.took hk3 hr3); clear hk3 hz3 hr3) | (go_at_call 59; (with_reducible refine (wtext_some t _ HTL.out u HU.out).mono ?_); rintro e4 w4 ⟨rfl, hb4⟩; have HS4 := Lib.hid (HS3.out.later hb4); clear hb4; have c4 := HS4.out.cell (j := 2) rfl; have f4 := HS4.out.fr 2))
            go_roundw
            case rel => exact ⟨i + 1, { s with cto := ⟨u.toArray⟩ }, ws, hin, Lib.hid (HS4.out.set 2 _), HR2, HWL2⟩
            case measure =>
              simp only [World.iterPos, (HS4.out.set 2 _).it, HST.out.it]
              omega
      · obtain ⟨w2, hnx, hn2, _⟩ := HST.out.next (c := 111) (HCA.out) (by decide)
        have HS2 := Lib.hid hn2
        clear hn2
        cases ws with
        | nil =>
          have HRN := Lib.hid (HRU.out.empty HC.out)
          have HNX := Lib.hid (next_none B p w2 HS2.out.rd)
          go_wp2_with (go_at_call 57; (with_reducible refine HNX.out.mono ?_); rintro e3 w3 ⟨rfl, hb3⟩; have HB3 := Lib.hid hb3; clear hb3)
          exact ⟨rfl, CallC.thrown HRN.out (HS2.out.kept.trans (Kept.of_below HB3.out))⟩
        | cons t ws =>
          have HNX := Lib.hid (next_some B p t ws w2 HS2.out.rd)
          have HTL := Lib.hid (HWL.out t (by simp))
          have HWL2 := Lib.hid (fun u (hu : u ∈ ws) => HWL.out u (by simp [hu]))
          cases hu : numL t with
          | none =>
            have HRN := Lib.hid (HRU.out.fail HC.out (by simp [setC, hu]))
            have HU := Lib.hid hu
            clear hu
            go_wp2_with (first | (go_at_call 57; (with_reducible refine HNX.out.mono ?_); rintro e3 w3 ⟨rfl, hk3, hz3, hr3⟩; have HS3 := Lib.hid (HS2.out.took hk3 hr3); clear hk3 hz3 hr3) | (go_at_call 58; (with_reducible refine (wnum_none t _ HTL.out HU.out (HGP.out.kept HS3.out.kept).glob).mono ?_); rintro e4 w4 ⟨rfl, hb4⟩; have HK4 := Lib.hid (HS3.out.kept.trans (Kept.of_below hb4)); clear hb4))
            exact ⟨rfl, CallC.thrown HRN.out HK4.out⟩
          | some u =>
            have HR2 := Lib.hid (HRU.out.step (s' := { s with off := u }) HC.out (by simp [setC, hu]))
            have HU := Lib.hid hu
            clear hu
            go_wp2_with (first | (go_at_call 57; (with_reducible refine HNX.out.mono ?_); rintro e3 w3 ⟨rfl, hk3, hz3, hr3⟩; have HS3 := Lib.hid (HS2.out.took hk3 hr3); clear hk3 hz3 hr3) | (go_at_call 58; (with_reducible refine (wnum_some t _ HTL.out u HU.out (HGP.out.kept HS3.out.kept).glob).mono ?_); rintro e4 w4 ⟨rfl, hb4⟩; have HS4 := Lib.hid (HS3.out.later hb4); clear hb4; have c4 := HS4.out.cell (j := 3) rfl; have f4 := HS4.out.fr 3))
            go_roundw
            case rel => exact ⟨i + 1, { s with off := u }, ws, hin, Lib.hid (HS4.out.set 3 _), HR2, HWL2⟩
            case measure =>
              simp only [World.iterPos, (HS4.out.set 3 _).it, HST.out.it]
              omega
      · obtain ⟨w2, hnx, hn2, _⟩ := HST.out.next (c := 110) (HCA.out) (by decide)
        have HS2 := Lib.hid hn2
        clear hn2
        cases ws with
        | nil =>
          have HRN := Lib.hid (HRU.out.empty HC.out)
          have HNX := Lib.hid (next_none B p w2 HS2.out.rd)
          go_wp2_with (go_at_call 57; (with_reducible refine HNX.out.mono ?_); rintro e3 w3 ⟨rfl, hb3⟩; have HB3 := Lib.hid hb3; clear hb3)
          exact ⟨rfl, CallC.thrown HRN.out (HS2.out.kept.trans (Kept.of_below HB3.out))⟩
        | cons t ws =>
          have HNX := Lib.hid (next_some B p t ws w2 HS2.out.rd)
          have HTL := Lib.hid (HWL.out t (by simp))
          have HWL2 := Lib.hid (fun u (hu : u ∈ ws) => HWL.out u (by simp [hu]))
          cases hu : numL t with
          | none =>
            have HRN := Lib.hid (HRU.out.fail HC.out (by simp [setC, hu]))
            have HU := Lib.hid hu
            clear hu
            go_wp2_with (first | (go_at_call 57; (with_reducible refine HNX.out.mono ?_); rintro e3 w3 ⟨rfl, hk3, hz3, hr3⟩; have HS3 := Lib.hid (HS2.out.took hk3 hr3); clear hk3 hz3 hr3) | (go_at_call 58; (with_reducible refine (wnum_none t _ HTL.out HU.out (HGP.out.kept HS3.out.kept).glob).mono ?_); rintro e4 w4 ⟨rfl, hb4⟩; have HK4 := Lib.hid (HS3.out.kept.trans (Kept.of_below hb4)); clear hb4))
            exact ⟨rfl, CallC.thrown HRN.out HK4.out⟩
          | some u =>
            have HR2 := Lib.hid (HRU.out.step (s' := { s with cn := u }) HC.out (by simp [setC, hu]))
            have HU := Lib.hid hu
            clear hu
            go_wp2_with (first | (go_at_call 57; (with_reducible refine HNX.out.mono ?_); rintro e3 w3 ⟨rfl, hk3, hz3, hr3⟩; have HS3 := Lib.hid (HS2.out.took hk3 hr3); clear hk3 hz3 hr3) | (go_at_call 58; (with_reducible refine (wnum_some t _ HTL.out u HU.out (HGP.out.kept HS3.out.kept).glob).mono ?_); rintro e4 w4 ⟨rfl, hb4⟩; have HS4 := Lib.hid (HS3.out.later hb4); clear hb4; have c4 := HS4.out.cell (j := 4) rfl; have f4 := HS4.out.fr 4))
            go_roundw
            case rel => exact ⟨i + 1, { s with cn := u }, ws, hin, Lib.hid (HS4.out.set 4 _), HR2, HWL2⟩
            case measure =>
              simp only [World.iterPos, (HS4.out.set 4 _).it, HST.out.it]
              omega
      · obtain ⟨w2, hnx, hn2, _⟩ := HST.out.next (c := 100) (HCA.out) (by decide)
        have HS2 := Lib.hid hn2
        clear hn2
        cases ws with
        | nil =>
          have HRN := Lib.hid (HRU.out.empty HC.out)
          have HNX := Lib.hid (next_none B p w2 HS2.out.rd)
          go_wp2_with (go_at_call 57; (with_reducible refine HNX.out.mono ?_); rintro e3 w3 ⟨rfl, hb3⟩; have HB3 := Lib.hid hb3; clear hb3)
          exact ⟨rfl, CallC.thrown HRN.out (HS2.out.kept.trans (Kept.of_below HB3.out))⟩
        | cons t ws =>
          have HNX := Lib.hid (next_some B p t ws w2 HS2.out.rd)
          have HTL := Lib.hid (HWL.out t (by simp))
          have HWL2 := Lib.hid (fun u (hu : u ∈ ws) => HWL.out u (by simp [hu]))
          cases hu : unwordL t with
          | none =>
            have HRN := Lib.hid (HRU.out.fail HC.out (by simp [setC, hu]))
            have HU := Lib.hid hu
            clear hu
            go_wp2_with (first | (go_at_call 57; (with_reducible refine HNX.out.mono ?_); rintro e3 w3 ⟨rfl, hk3, hz3, hr3⟩; have HS3 := Lib.hid (HS2.out.took hk3 hr3); clear hk3 hz3 hr3) | (go_at_call 59; (with_reducible refine (wtext_none t _ HTL.out HU.out).mono ?_); rintro e4 w4 ⟨rfl, hb4⟩; have HK4 := Lib.hid (HS3.out.kept.trans (Kept.of_below hb4)); clear hb4))
            exact ⟨rfl, CallC.thrown HRN.out HK4.out⟩
          | some u =>
            have HR2 := Lib.hid (HRU.out.step (s' := { s with data := ⟨u.toArray⟩ }) HC.out (by simp [setC, hu]))
            have HU := Lib.hid hu
            clear hu
            go_wp2_with (first | (go_at_call 57; (with_reducible refine HNX.out.mono ?_); rintro e3 w3 ⟨rfl, hk3, hz3, hr3⟩; have HS3 := Lib.hid (HS2.out.took hk3 hr3); clear hk3 hz3 hr3) | (go_at_call 59; (with_reducible refine (wtext_some t _ HTL.out u HU.out).mono ?_); rintro e4 w4 ⟨rfl, hb4⟩; have HS4 := Lib.hid (HS3.out.later hb4); clear hb4; have c4 := HS4.out.cell (j := 5) rfl; have f4 := HS4.out.fr 5))
            go_roundw
            case rel => exact ⟨i + 1, { s with data := ⟨u.toArray⟩ }, ws, hin, Lib.hid (HS4.out.set 5 _), HR2, HWL2⟩
            case measure =>
              simp only [World.iterPos, (HS4.out.set 5 _).it, HST.out.it]
              omega
      · obtain ⟨w2, hnx, hn2, _⟩ := HST.out.next (c := 115) (HCA.out) (by decide)
        have HS2 := Lib.hid hn2
        clear hn2
        cases ws with
        | nil =>
          have HRN := Lib.hid (HRU.out.empty HC.out)
          have HNX := Lib.hid (next_none B p w2 HS2.out.rd)
          go_wp2_with (go_at_call 57; (with_reducible refine HNX.out.mono ?_); rintro e3 w3 ⟨rfl, hb3⟩; have HB3 := Lib.hid hb3; clear hb3)
          exact ⟨rfl, CallC.thrown HRN.out (HS2.out.kept.trans (Kept.of_below HB3.out))⟩
        | cons t ws =>
          have HNX := Lib.hid (next_some B p t ws w2 HS2.out.rd)
          have HTL := Lib.hid (HWL.out t (by simp))
          have HWL2 := Lib.hid (fun u (hu : u ∈ ws) => HWL.out u (by simp [hu]))
          cases hu : timeU t with
          | none =>
            have HRN := Lib.hid (HRU.out.fail HC.out (by simp [setC, hu]))
            have HU := Lib.hid hu
            clear hu
            go_wp2_with (first | (go_at_call 57; (with_reducible refine HNX.out.mono ?_); rintro e3 w3 ⟨rfl, hk3, hz3, hr3⟩; have HS3 := Lib.hid (HS2.out.took hk3 hr3); clear hk3 hz3 hr3) | (go_at_call 79; (with_reducible refine (wtime_none t _ HTL.out HU.out (HGP.out.kept HS3.out.kept).glob).mono ?_); rintro e4 w4 ⟨rfl, hb4⟩; have HK4 := Lib.hid (HS3.out.kept.trans (Kept.of_below hb4)); clear hb4))
            exact ⟨rfl, CallC.thrown HRN.out HK4.out⟩
          | some u =>
            have HR2 := Lib.hid (HRU.out.step (s' := { s with time := u }) HC.out (by simp [setC, hu]))
            have HU := Lib.hid hu
            clear hu
            go_wp2_with (first | (go_at_call 57; (with_reducible refine HNX.out.mono ?_); rintro e3 w3 ⟨rfl, hk3, hz3, hr3⟩; have HS3 := Lib.hid (HS2.out.took hk3 hr3); clear hk3 hz3 hr3) | (go_at_call 79; (with_reducible refine (wtime_some t _ HTL.out u HU.out (HGP.out.kept HS3.out.kept).glob).mono ?_); rintro e4 w4 ⟨rfl, hb4⟩; have HS4 := Lib.hid (HS3.out.later hb4); clear hb4; have c4 := HS4.out.cell (j := 6) rfl; have f4 := HS4.out.fr 6))
            go_roundw
            case rel => exact ⟨i + 1, { s with time := u }, ws, hin, Lib.hid (HS4.out.set 6 _), HR2, HWL2⟩
            case measure =>
              simp only [World.iterPos, (HS4.out.set 6 _).it, HST.out.it]
              omega
    · have HRE := Lib.hid (HRU.out.done (by rw [HCL.out]; exact hin))
      have hnx := HST.out.ended (by rw [HSZ.out]; exact hin)
      have hld := (row_load (ty := 31) HST.out.box Tryz.underlying31 (by kernel_rfl)).2
      obtain ⟨w9, hst9, hs9⟩ := row_store (ty := 31) (cs := callCells s) HST.out.res (by kernel_rfl) rfl (by simp [Value.oneCell'])
      have hv0 := cell_at (i := 0) hs9.at' rfl
      have hv1 := cell_at (i := 1) hs9.at' rfl
      have hv2 := cell_at (i := 2) hs9.at' rfl
      have hv3 := cell_at (i := 3) hs9.at' rfl
      have hv4 := cell_at (i := 4) hs9.at' rfl
      have hv5 := cell_at (i := 5) hs9.at' rfl
      have hv6 := cell_at (i := 6) hs9.at' rfl
      have HS9 := Lib.hid hs9
      clear hs9
      go_wp2_with (first | (refine load_step 31 _ rfl rfl rfl hld ?_) | (refine store_step 31 _ _ rfl rfl rfl rfl hst9 ?_))
      exact bodyPost_ret (v := .agg (callCells s)) (by simp [results, Tryz.results60, go_sem, hv0, hv1, hv2, hv3, hv4, hv5, hv6]) rfl (call_end HRE.out HST.out HS9.out)
set_option maxHeartbeats 8000000 in
set_option maxRecDepth 100000 in
theorem call_nil (B p : Nat) (w : World) (R : Option (StepR × List Bs)) (HRD : Hid (Rd B p [] w)) (HB : Hid (B ≤ w.heap.size))  (HR : R = none) : Calls Tryz.prog 60 #[.pointer (some ⟨p, 0, none⟩)] w (CallC R B p w) := by
  go_enter Tryz.func60, Tryz.ntmps60
  go_wp2_with (fail)
  refine (calls_any _).mono ?_
  rintro e1 w1 ⟨b, rfl, hbs, hb1, hf1⟩
  have HP1 : Hid (Pre w B p w.heap.size 31 callZero [] w1) := Lib.hid ((⟨HRD.out.same fun j hj => Lib.alloc_old w _ j (Nat.lt_of_lt_of_le hj HB.out), heap_alloc_new w _, Kept.of_below (Below.alloc (Below.refl _ _) (Nat.le_refl _) _), HB.out, Nat.le_refl _⟩ : Pre w B p w.heap.size 31 callZero [] (w.alloc (.cells callZero 31))).later hb1)
  have HF1 := Lib.hid hf1
  have HBS := Lib.hid (show w.heap.size < b by have := hbs; simp at this; omega)
  clear hbs hb1 hf1
  have HNX := Lib.hid (next_none B p w1 HP1.out.rd)
  go_wp2_with (fail)
  refine HNX.out.mono ?_
  rintro e2 w2 ⟨rfl, hb2⟩
  have HB2 := Lib.hid (HP1.out.kept.trans (Kept.of_below hb2))
  clear hb2
  go_wp2_with (fail)
  exact ⟨rfl, CallC.thrown rfl HB2.out⟩
set_option maxHeartbeats 8000000 in
set_option maxRecDepth 100000 in
theorem call_bad (B p : Nat) (w : World) (t : Bs) (ws : List Bs) (R : Option (StepR × List Bs)) (HRD : Hid (Rd B p (t :: ws) w)) (HB : Hid (B ≤ w.heap.size)) (HF : Hid (findF callF t = none)) (HR : R = none) : Calls Tryz.prog 60 #[.pointer (some ⟨p, 0, none⟩)] w (CallC R B p w) := by
  go_enter Tryz.func60, Tryz.ntmps60
  go_wp2_with (fail)
  refine (calls_any _).mono ?_
  rintro e1 w1 ⟨b, rfl, hbs, hb1, hf1⟩
  have HP1 : Hid (Pre w B p w.heap.size 31 callZero (t :: ws) w1) := Lib.hid ((⟨HRD.out.same fun j hj => Lib.alloc_old w _ j (Nat.lt_of_lt_of_le hj HB.out), heap_alloc_new w _, Kept.of_below (Below.alloc (Below.refl _ _) (Nat.le_refl _) _), HB.out, Nat.le_refl _⟩ : Pre w B p w.heap.size 31 callZero (t :: ws) (w.alloc (.cells callZero 31))).later hb1)
  have HF1 := Lib.hid hf1
  have HBS := Lib.hid (show w.heap.size < b by have := hbs; simp at this; omega)
  clear hbs hb1 hf1
  have HNX := Lib.hid (next_some B p t ws w1 HP1.out.rd)
  go_wp2_with (fail)
  refine HNX.out.mono ?_
  rintro e2 w2 ⟨rfl, hk2, _, hr2⟩
  have HP2 := Lib.hid (HP1.out.took hk2 hr2)
  have HF2 : Hid (FormsAt w2 b callF) := Lib.hid fun i hi => by
    obtain ⟨g1, g2⟩ := HF1.out i hi
    have hbp : ¬ b = p := by have := HP1.out.pk; have := HBS.out; omega
    exact ⟨hk2.cell hbp g1, hk2.cell hbp g2⟩
  clear hk2 hr2 HNX
  have HFI := Lib.hid (find_none HF2.out HF.out)
  go_wp2_with (fail)
  refine HFI.out.mono ?_
  rintro e3 w3 ⟨rfl, hb3⟩
  have HB3 := Lib.hid (HP2.out.kept.trans (Kept.of_below hb3))
  clear hb3
  go_wp2_with (fail)
  exact ⟨rfl, CallC.thrown rfl HB3.out⟩
set_option maxHeartbeats 8000000 in
set_option maxRecDepth 100000 in
theorem call_one (B p : Nat) (w : World) (t : Bs) (ki : Nat) (R : Option (StepR × List Bs)) (HRD : Hid (Rd B p [t] w)) (HB : Hid (B ≤ w.heap.size)) (HF : Hid (findF callF t = some ki)) (HR : R = none) : Calls Tryz.prog 60 #[.pointer (some ⟨p, 0, none⟩)] w (CallC R B p w) := by
  go_enter Tryz.func60, Tryz.ntmps60
  go_wp2_with (fail)
  refine (calls_any _).mono ?_
  rintro e1 w1 ⟨b, rfl, hbs, hb1, hf1⟩
  have HP1 : Hid (Pre w B p w.heap.size 31 callZero [t] w1) := Lib.hid ((⟨HRD.out.same fun j hj => Lib.alloc_old w _ j (Nat.lt_of_lt_of_le hj HB.out), heap_alloc_new w _, Kept.of_below (Below.alloc (Below.refl _ _) (Nat.le_refl _) _), HB.out, Nat.le_refl _⟩ : Pre w B p w.heap.size 31 callZero [t] (w.alloc (.cells callZero 31))).later hb1)
  have HF1 := Lib.hid hf1
  have HBS := Lib.hid (show w.heap.size < b by have := hbs; simp at this; omega)
  clear hbs hb1 hf1
  have HNX := Lib.hid (next_some B p t [] w1 HP1.out.rd)
  go_wp2_with (fail)
  refine HNX.out.mono ?_
  rintro e2 w2 ⟨rfl, hk2, _, hr2⟩
  have HP2 := Lib.hid (HP1.out.took hk2 hr2)
  have HF2 : Hid (FormsAt w2 b callF) := Lib.hid fun i hi => by
    obtain ⟨g1, g2⟩ := HF1.out i hi
    have hbp : ¬ b = p := by have := HP1.out.pk; have := HBS.out; omega
    exact ⟨hk2.cell hbp g1, hk2.cell hbp g2⟩
  clear hk2 hr2 HNX
  have HFI := Lib.hid (find_some HF2.out HF.out)
  go_wp2_with (fail)
  refine HFI.out.mono ?_
  rintro e3 w3 ⟨rfl, hb3⟩
  have HP3 := Lib.hid (HP2.out.later hb3)
  clear hb3
  obtain ⟨w4, hst, hsr⟩ := row_store (w := w3.alloc (.cells callZero 31)) (ty := 31) (cs := #[.int .i64 ((ki : Int) + 1), .string ⟨#[]⟩, .string ⟨#[]⟩, .int .i64 0, .int .i64 0, .string ⟨#[]⟩, f64 0]) (heap_alloc_new w3 _) (by kernel_rfl) rfl (by simp [Value.oneCell'])
  have HX4 := Lib.hid ((HP3.out.boxed callZero).row hsr)
  clear hsr
  have HNX2 := Lib.hid (next_none B p _ HX4.out.pre.rd)
  go_wp2_with (refine store_step 31 _ _ rfl rfl rfl rfl hst ?_)
  refine HNX2.out.mono ?_
  rintro e5 w5 ⟨rfl, hb5⟩
  have HB5 := Lib.hid (HX4.out.pre.kept.trans (Kept.of_below hb5))
  clear hb5
  go_wp2_with (fail)
  exact ⟨rfl, CallC.thrown rfl HB5.out⟩
set_option maxHeartbeats 8000000 in
set_option maxRecDepth 100000 in
theorem call_path (B p : Nat) (w : World) (t u : Bs) (ws : List Bs) (ki : Nat) (R : Option (StepR × List Bs)) (HRD : Hid (Rd B p (t :: u :: ws) w)) (HB : Hid (B ≤ w.heap.size)) (HF : Hid (findF callF t = some ki)) (HU : Hid (unwordL u = none)) (HTL0 : Hid (u.length ≤ 30000000)) (HR : R = none) : Calls Tryz.prog 60 #[.pointer (some ⟨p, 0, none⟩)] w (CallC R B p w) := by
  go_enter Tryz.func60, Tryz.ntmps60
  go_wp2_with (fail)
  refine (calls_any _).mono ?_
  rintro e1 w1 ⟨b, rfl, hbs, hb1, hf1⟩
  have HP1 : Hid (Pre w B p w.heap.size 31 callZero (t :: u :: ws) w1) := Lib.hid ((⟨HRD.out.same fun j hj => Lib.alloc_old w _ j (Nat.lt_of_lt_of_le hj HB.out), heap_alloc_new w _, Kept.of_below (Below.alloc (Below.refl _ _) (Nat.le_refl _) _), HB.out, Nat.le_refl _⟩ : Pre w B p w.heap.size 31 callZero (t :: u :: ws) (w.alloc (.cells callZero 31))).later hb1)
  have HF1 := Lib.hid hf1
  have HBS := Lib.hid (show w.heap.size < b by have := hbs; simp at this; omega)
  clear hbs hb1 hf1
  have HNX := Lib.hid (next_some B p t (u :: ws) w1 HP1.out.rd)
  go_wp2_with (fail)
  refine HNX.out.mono ?_
  rintro e2 w2 ⟨rfl, hk2, _, hr2⟩
  have HP2 := Lib.hid (HP1.out.took hk2 hr2)
  have HF2 : Hid (FormsAt w2 b callF) := Lib.hid fun i hi => by
    obtain ⟨g1, g2⟩ := HF1.out i hi
    have hbp : ¬ b = p := by have := HP1.out.pk; have := HBS.out; omega
    exact ⟨hk2.cell hbp g1, hk2.cell hbp g2⟩
  clear hk2 hr2 HNX
  have HFI := Lib.hid (find_some HF2.out HF.out)
  go_wp2_with (fail)
  refine HFI.out.mono ?_
  rintro e3 w3 ⟨rfl, hb3⟩
  have HP3 := Lib.hid (HP2.out.later hb3)
  clear hb3
  obtain ⟨w4, hst, hsr⟩ := row_store (w := w3.alloc (.cells callZero 31)) (ty := 31) (cs := #[.int .i64 ((ki : Int) + 1), .string ⟨#[]⟩, .string ⟨#[]⟩, .int .i64 0, .int .i64 0, .string ⟨#[]⟩, f64 0]) (heap_alloc_new w3 _) (by kernel_rfl) rfl (by simp [Value.oneCell'])
  have HX4 := Lib.hid ((HP3.out.boxed callZero).row hsr)
  clear hsr
  have HNX2 := Lib.hid (next_some B p u ws _ HX4.out.pre.rd)
  go_wp2_with (refine store_step 31 _ _ rfl rfl rfl rfl hst ?_)
  refine HNX2.out.mono ?_
  rintro e5 w5 ⟨rfl, hk5, _, hr5⟩
  have HX5 := Lib.hid (HX4.out.took hk5 hr5)
  clear hk5 hr5
  go_wp2_with (fail)
  refine (wtext_none u _ HTL0.out HU.out).mono ?_
  rintro e6 w6 ⟨rfl, hb6⟩
  have HB6 := Lib.hid (HX5.out.pre.kept.trans (Kept.of_below hb6))
  clear hb6
  go_wp2_with (fail)
  exact ⟨rfl, CallC.thrown rfl HB6.out⟩
theorem call_any (B p : Nat) (s0 : StepR) (ws0 : List Bs) (w : World) (HRD : Rd B p ws0 w) (HB : B ≤ w.heap.size) (HGP : GlobP p w) (HWL : ∀ t, t ∈ ws0 → t.length ≤ 30000000) (HZ : s0.cto = ⟨#[]⟩ ∧ s0.off = 0 ∧ s0.cn = 0 ∧ s0.data = ⟨#[]⟩ ∧ s0.time = 0) : Calls Tryz.prog 60 #[.pointer (some ⟨p, 0, none⟩)] w (CallC (callP s0 ws0) B p w) := by
  match ws0 with
  | [] => exact call_nil B p w _ (Lib.hid HRD) (Lib.hid HB) rfl
  | t :: ws =>
    cases hf : findF callF t with
    | none => exact call_bad B p w t ws _ (Lib.hid HRD) (Lib.hid HB) (Lib.hid hf) (callP_bad hf)
    | some i =>
      match ws with
      | [] => exact call_one B p w t i _ (Lib.hid HRD) (Lib.hid HB) (Lib.hid hf) (callP_one s0 t)
      | u :: ws =>
        cases hu : unwordL u with
        | none => exact call_path B p w t u ws i _ (Lib.hid HRD) (Lib.hid HB) (Lib.hid hf) (Lib.hid hu) (Lib.hid (HWL u (by simp))) (callP_path hu)
        | some v =>
          refine call_main B p _ s0 t u v ws w (Lib.hid HRD) (Lib.hid HB) (Lib.hid HGP) i (callF.getD i ([], [])).1 (callF.getD i ([], [])).2 (Lib.hid rfl) (Lib.hid hf) (Lib.hid hu) (Lib.hid (HWL u (by simp))) (Lib.hid fun t ht => HWL t (by simp [ht])) (Lib.hid HZ) (Lib.hid ?_)
          unfold RunsC
          rw [callP_go hf hu]
          rfl
end Go.Proofs.YtmcooenafgihkaaGreatDoor
