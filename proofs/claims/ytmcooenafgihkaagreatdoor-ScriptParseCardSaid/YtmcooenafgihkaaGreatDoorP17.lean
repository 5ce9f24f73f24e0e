/- Helper lemmas: a step off its words, by the program. No condition. -/
import Derived.Test.YtmcooenafgihkaaGreatDoorP16
set_option linter.unusedSimpArgs false
set_option linter.unusedVariables false
namespace Go.Proofs.YtmcooenafgihkaaGreatDoor
open Go.RowKit

theorem stepLen : stepF.length = 13 := rfl
/-- A step's kind was found. -/
theorem find_somes {b : Nat} {t : Bs} {w : World} {i : Nat} (hf : FormsAt w b stepF) (h : findF stepF t = some i) : Calls Tryz.prog 56 #[.slice (some ⟨b, 0, none⟩) 13 13, str t] w fun e w' => e = .returned (.int .i64 ((i : Int) + 1)) ∧ Below w.heap.size w w' := by
  refine (find_any stepF 13 b t w stepLen (by decide) hf).mono ?_
  rw [h]
  rintro e w' (⟨_, h1, h2, h3⟩ | ⟨h1, _⟩)
  · injection h1 with h1
    subst h1; exact ⟨h2, h3⟩
  · cases h1
theorem find_nones {b : Nat} {t : Bs} {w : World} (hf : FormsAt w b stepF) (h : findF stepF t = none) : Calls Tryz.prog 56 #[.slice (some ⟨b, 0, none⟩) 13 13, str t] w fun e w' => e = .panicked [refusal] ∧ Below w.heap.size w w' := by
  refine (find_any stepF 13 b t w stepLen (by decide) hf).mono ?_
  rw [h]
  rintro e w' (⟨_, h1, _⟩ | ⟨_, h2, h3⟩)
  · cases h1
  · exact ⟨h2, h3⟩
theorem Rd.slice {B p : Nat} {ws : List Bs} {w : World} (h : Rd B p ws w) : ∃ (A : Option Addr) (c : Nat), w.cell? ⟨p, 0, none⟩ = some (.slice A ws.length c) := by
  obtain ⟨_, A, c, h2, _⟩ := h
  exact ⟨A, c, cell_at h2 rfl⟩
/-- How many words a reader has still got. -/
def rdLen (p : Nat) (w : World) : Nat := match w.cell? ⟨p, 0, none⟩ with
  | some (.slice _ n _) => n
  | _ => 0
theorem rd_len {B p : Nat} {ws : List Bs} {w : World} (h : Rd B p ws w) : rdLen p w = ws.length := by
  obtain ⟨A, c, hc⟩ := h.slice
  unfold rdLen
  rw [hc]
/-- The call's own fields are empty. -/
def Zc (s : StepR) : Prop := s.cto = ⟨#[]⟩ ∧ s.off = 0 ∧ s.cn = 0 ∧ s.data = ⟨#[]⟩ ∧ s.time = 0
/-- What reading a step gives. -/
def StepC (R : Option StepR) (p : Nat) (w : World) (e : Ending) (w' : World) : Prop := (∃ (s : StepR) (v : Value), R = some s ∧ e = .returned (.agg (stepCells s v)) ∧ Kept p w w' ∧ OwnI w' w.heap.size v s.keep) ∨ (R = none ∧ e = .panicked [refusal] ∧ Kept p w w')
theorem StepC.thrown {R : Option StepR} {p : Nat} {w w' : World} (h : R = none) (hk : Kept p w w') : StepC R p w (.panicked [refusal]) w' := Or.inr ⟨h, rfl, hk⟩
theorem step_end {R : Option StepR} {B p r q k : Nat} {W0 w w' : World} {s : StepR} {v : Value} {ws : List Bs} {args : ByteArray} {i : Nat} (hR : R = some s) (h : Stp W0 B p r q k args i s v ws w) (hs : SetRow r (stepCells s v) 33 w w') : StepC R p W0 (.returned (.agg (stepCells s v))) w' := by
  refine Or.inl ⟨s, v, hR, rfl, hs.kept h.c.kept h.c.hr, own_upd h.own fun g hg => hs.rest g fun e => ?_⟩
  subst e
  exact own_ne h.own h.c.res (fun _ _ e => by injection e with _ e2; exact absurd e2 (by decide)) hg
theorem dup_99 : ∀ i, i < 13 → ∀ a b : Nat, (argsAt stepF i)[a]? = some 99 → (argsAt stepF i)[b]? = some 99 → a = b := by
  intro i hi a b ha hb
  have h0 : ∀ i, i < 13 → ∀ a : Nat, a < 3 → ∀ b : Nat, b < 3 → ((argsAt stepF i)[a]? == some 99 && (argsAt stepF i)[b]? == some 99 && a != b) = false := by decide +kernel
  have hl : (argsAt stepF i).length ≤ 3 := (stepWd i hi).2
  have h1 := (List.getElem?_eq_some_iff.1 ha).1
  have h2 := (List.getElem?_eq_some_iff.1 hb).1
  have h3 := h0 i hi a (by omega) b (by omega)
  rw [ha, hb] at h3
  simpa using h3
set_option maxHeartbeats 8000000 in
set_option maxRecDepth 100000 in
theorem step_main (B p : Nat) (R : Option StepR) (t : Bs) (ws0 : List Bs) (w : World) (HRD : Hid (Rd B p (t :: ws0) w)) (HB : Hid (B ≤ w.heap.size)) (HGP : Hid (GlobP p w)) (ki : Nat) (cw cs : Bs) (HX : Hid (stepF.getD ki ([], []) = (cw, cs))) (HF : Hid (findF stepF t = some ki)) (HWL0 : Hid (∀ t, t ∈ ws0 → t.length ≤ 30000000)) (HKL0 : Hid (ws0.length ≤ 1000000)) (HR0 : Hid (RunsS R cs 0 { zeroR with kind := (ki : Int) + 1 } ws0)) : Calls Tryz.prog 36 #[.pointer (some ⟨p, 0, none⟩)] w (StepC R p w) := by
  have HKI := Lib.hid (show ki < 13 by have := findF_lt HF.out; have := stepLen; omega)
  have hk0 : wrap64 ((ki : Int) + 1 - 1) = (ki : Int) := by have := HKI.out; rw [wrap64_eq]; omega
  have hwk : wrap64 (ki : Int) = (ki : Int) := by have := HKI.out; rw [wrap64_eq]; omega
  have hk3 : ¬ (ki : Int) < 0 := by omega
  have hk4 : (ki : Int) < 13 := by have := HKI.out; omega
  obtain ⟨args, hargs⟩ : ∃ args : ByteArray, args = ⟨cs.toArray⟩ := ⟨_, rfl⟩
  have HARGS := Lib.hid hargs
  have HARGV := Lib.hid (show str cs = .string args by rw [hargs])
  clear hargs
  have hsz : args.size = cs.length := by rw [HARGS.out]; rfl
  obtain ⟨n, hn⟩ : ∃ n, cs.length = n := ⟨_, rfl⟩
  have HSZ := Lib.hid (hsz.trans hn)
  have HCL := Lib.hid hn
  have HLET : Hid (∀ c ∈ cs, c = 114 ∨ c = 118 ∨ c = 116 ∨ c = 110 ∨ c = 107 ∨ c = 99) := Lib.hid (by
    have := stepLet ki HKI.out
    unfold argsAt at this
    rw [HX.out] at this; exact this)
  have HDU : Hid (∀ a b : Nat, cs[a]? = some 99 → cs[b]? = some 99 → a = b) := Lib.hid (by
    have := dup_99 ki HKI.out
    unfold argsAt at this
    rw [HX.out] at this; exact this)
  clear hsz hn
  go_enter Tryz.func36, Tryz.ntmps36
  go_wp2_with (fail)
  refine (steps_any _).mono ?_
  rintro e1 w1 ⟨b, rfl, hbs, hb1, hf1⟩
  have HP1 : Hid (Pre w B p w.heap.size 33 stepZero (t :: ws0) w1) := Lib.hid ((⟨HRD.out.same fun j hj => Lib.alloc_old w _ j (Nat.lt_of_lt_of_le hj HB.out), heap_alloc_new w _, Kept.of_below (Below.alloc (Below.refl _ _) (Nat.le_refl _) _), HB.out, Nat.le_refl _⟩ : Pre w B p w.heap.size 33 stepZero (t :: ws0) (w.alloc (.cells stepZero 33))).later hb1)
  have HF1 := Lib.hid hf1
  have HBS := Lib.hid (show w.heap.size < b by have := hbs; simp at this; omega)
  clear hbs hb1 hf1
  have HNX := Lib.hid (next_some B p t ws0 w1 HP1.out.rd)
  go_wp2_with (fail)
  refine HNX.out.mono ?_
  rintro e2 w2 ⟨rfl, hk2, _, hr2⟩
  have HP2 := Lib.hid (HP1.out.took hk2 hr2)
  have HF2 : Hid (FormsAt w2 b stepF) := Lib.hid fun i hi => by
    obtain ⟨g1, g2⟩ := HF1.out i hi
    have hbp : ¬ b = p := by have := HP1.out.pk; have := HBS.out; omega
    exact ⟨hk2.cell hbp g1, hk2.cell hbp g2⟩
  clear hk2 hr2 HNX
  have HFI := Lib.hid (find_somes HF2.out HF.out)
  go_wp2_with (fail)
  refine HFI.out.mono ?_
  rintro e3 w3 ⟨rfl, hb3⟩
  have HP3 := Lib.hid (HP2.out.later hb3)
  have HF3 := Lib.hid (HF2.out.later hb3)
  clear hb3
  obtain ⟨w4, hst, hsr⟩ := row_store (w := w3.alloc (.cells stepZero 33)) (ty := 33) (cs := #[.int .i64 ((ki : Int) + 1), .int .i64 0, .string ⟨#[]⟩, .string ⟨#[]⟩, .int .i64 0, .slice none 0 0, .int .i64 0, .string ⟨#[]⟩, .string ⟨#[]⟩, .int .i64 0, .int .i64 0, .string ⟨#[]⟩, f64 0]) (heap_alloc_new w3 _) (by kernel_rfl) rfl (by simp [Value.oneCell'])
  have HX4 := Lib.hid ((HP3.out.boxed stepZero).row hsr)
  obtain ⟨hx1, hx2⟩ := HF3.out ki HKI.out
  have hlt := World.block_lt_of_cell? w3 _ hx1
  simp only at hlt
  rw [HX.out] at hx1 hx2
  replace hx2 : w3.cell? ⟨b, ki * 2 + 1, none⟩ = some (str cs) := hx2
  rw [HARGV.out] at hx2
  have hx4 : w4.cell? ⟨b, ki * 2 + 1, none⟩ = some (.string args) := by
    have e : w4.heap[b]? = w3.heap[b]? := (hsr.rest b (by omega)).trans (Lib.alloc_old w3 _ b hlt)
    unfold World.cell? at hx2 ⊢
    simp only at hx2 ⊢
    rw [e]; exact hx2
  have hc0 := HX4.out.cell (j := 0) rfl
  have HST0 : Hid (Stp w B p w.heap.size w3.heap.size w4.heap.size args 0 { zeroR with kind := (ki : Int) + 1 } (.slice none 0 0) ws0 (w4.iter args 0)) := Lib.hid ⟨HX4.out.iter args, World.ownsRow_nil _ _ _ _⟩
  clear hsr hx1 hx2 hlt
  go_wp2_with (refine store_step 33 _ _ rfl rfl rfl rfl hst ?_)
  go_loopw [] (fun wr => ∃ (i : Nat) (s : StepR) (A : Option Addr) (m c : Nat) (ws : List Bs), i ≤ n ∧ Hid (Stp w B p w.heap.size w3.heap.size w4.heap.size args i s (.slice A m c) ws wr) ∧ Hid (RunsS R cs i s ws) ∧ Hid (∀ t, t ∈ ws → t.length ≤ 30000000) ∧ Hid (s.keep.length + ws.length ≤ 1000000) ∧ Hid (∀ j : Nat, i ≤ j → cs[j]? = some 99 → Zc s)) (fun wr => n - wr.iterPos w4.heap.size)
  case atStart => exact ⟨0, _, none, 0, 0, ws0, Nat.zero_le _, HST0, HR0, HWL0, Lib.hid (by have := HKL0.out; simp [zeroR]; exact this), Lib.hid fun _ _ _ => ⟨rfl, rfl, rfl, rfl, rfl⟩⟩
  case round =>
    obtain ⟨i, s, A, m, c, ws, hi, HST, HRU, HWL, HKL, HZC⟩ := hrel
    by_cases hin : i < n
    · obtain ⟨ch, hch⟩ : ∃ ch, cs[i]? = some ch := ⟨_, List.getElem?_eq_getElem (by rw [HCL.out]; exact hin)⟩
      have hcl := HLET.out ch (List.mem_of_getElem? hch)
      have hca : args.data[i]? = some ch := by rw [HARGS.out]; simpa using hch
      have HC := Lib.hid hch
      have HCA := Lib.hid hca
      clear hch hca
      rcases hcl with rfl | rfl | rfl | rfl | rfl | rfl
      · obtain ⟨w2, hnx, hn2⟩ := HST.out.next (c := 114) (HCA.out) (by decide)
        have HS2 := Lib.hid hn2
        clear hn2
        cases ws with
        | nil =>
          have HRN := Lib.hid (HRU.out.empty HC.out (by decide))
          have HNX := Lib.hid (next_none B p w2 HS2.out.c.rd)
          go_wp2_with (go_at_call 57; (with_reducible refine HNX.out.mono ?_); rintro e3 w3 ⟨rfl, hb3⟩; have HB3 := Lib.hid hb3; clear hb3)
          exact ⟨rfl, StepC.thrown HRN.out (HS2.out.c.kept.trans (Kept.of_below HB3.out))⟩
        | cons t ws =>
          have HNX := Lib.hid (next_some B p t ws w2 HS2.out.c.rd)
          have HTL := Lib.hid (HWL.out t (by simp))
          have HWL2 := Lib.hid (fun u (hu : u ∈ ws) => HWL.out u (by simp [hu]))
          have HKL2 := Lib.hid (show s.keep.length + ws.length ≤ 1000000 by have := HKL.out; rw [List.length_cons] at this; omega)
          cases hu : numL t with
          | none =>
            have HRN := Lib.hid (HRU.out.fail HC.out (by decide) (by simp [setS, hu]))
            have HU := Lib.hid hu
            clear hu
            go_wp2_with (first | (go_at_call 57; (with_reducible refine HNX.out.mono ?_); rintro e3 w3 ⟨rfl, hk3, hz3, hr3⟩; have HS3 := Lib.hid (HS2.out.took hk3 hr3); clear hk3 hz3 hr3) | (go_at_call 58; (with_reducible refine (wnum_none t _ HTL.out HU.out (HGP.out.kept HS3.out.c.kept).glob).mono ?_); rintro e4 w4 ⟨rfl, hb4⟩; have HK4 := Lib.hid (HS3.out.c.kept.trans (Kept.of_below hb4)); clear hb4))
            exact ⟨rfl, StepC.thrown HRN.out HK4.out⟩
          | some u =>
            have HR2 := Lib.hid (HRU.out.step (s' := { s with rep := u }) HC.out (by decide) (by simp [setS, hu]))
            have HU := Lib.hid hu
            clear hu
            go_wp2_with (first | (go_at_call 57; (with_reducible refine HNX.out.mono ?_); rintro e3 w3 ⟨rfl, hk3, hz3, hr3⟩; have HS3 := Lib.hid (HS2.out.took hk3 hr3); clear hk3 hz3 hr3) | (go_at_call 58; (with_reducible refine (wnum_some t _ HTL.out u HU.out (HGP.out.kept HS3.out.c.kept).glob).mono ?_); rintro e4 w4 ⟨rfl, hb4⟩; have HS4 := Lib.hid (HS3.out.later hb4); clear hb4; have c4 := HS4.out.c.cell (j := 1) rfl; have f4 := HS4.out.c.fr 1))
            go_roundw
            case rel => exact ⟨i + 1, { s with rep := u }, A, m, c, ws, hin, Lib.hid (HS4.out.set 1 (.int .i64 u) { s with rep := u } rfl rfl), HR2, HWL2, HKL2, Lib.hid fun j hj => HZC.out j (by omega)⟩
            case measure =>
              simp only [World.iterPos, (HS4.out.set 1 (.int .i64 u) { s with rep := u } rfl rfl).c.it, HST.out.c.it]
              omega
      · obtain ⟨w2, hnx, hn2⟩ := HST.out.next (c := 118) (HCA.out) (by decide)
        have HS2 := Lib.hid hn2
        clear hn2
        cases ws with
        | nil =>
          have HRN := Lib.hid (HRU.out.empty HC.out (by decide))
          have HNX := Lib.hid (next_none B p w2 HS2.out.c.rd)
          go_wp2_with (go_at_call 57; (with_reducible refine HNX.out.mono ?_); rintro e3 w3 ⟨rfl, hb3⟩; have HB3 := Lib.hid hb3; clear hb3)
          exact ⟨rfl, StepC.thrown HRN.out (HS2.out.c.kept.trans (Kept.of_below HB3.out))⟩
        | cons t ws =>
          have HNX := Lib.hid (next_some B p t ws w2 HS2.out.c.rd)
          have HTL := Lib.hid (HWL.out t (by simp))
          have HWL2 := Lib.hid (fun u (hu : u ∈ ws) => HWL.out u (by simp [hu]))
          have HKL2 := Lib.hid (show s.keep.length + ws.length ≤ 1000000 by have := HKL.out; rw [List.length_cons] at this; omega)
          cases hu : unwordL t with
          | none =>
            have HRN := Lib.hid (HRU.out.fail HC.out (by decide) (by simp [setS, hu]))
            have HU := Lib.hid hu
            clear hu
            go_wp2_with (first | (go_at_call 57; (with_reducible refine HNX.out.mono ?_); rintro e3 w3 ⟨rfl, hk3, hz3, hr3⟩; have HS3 := Lib.hid (HS2.out.took hk3 hr3); clear hk3 hz3 hr3) | (go_at_call 59; (with_reducible refine (wtext_none t _ HTL.out HU.out).mono ?_); rintro e4 w4 ⟨rfl, hb4⟩; have HK4 := Lib.hid (HS3.out.c.kept.trans (Kept.of_below hb4)); clear hb4))
            exact ⟨rfl, StepC.thrown HRN.out HK4.out⟩
          | some u =>
            have HR2 := Lib.hid (HRU.out.step (s' := { s with vol := ⟨u.toArray⟩ }) HC.out (by decide) (by simp [setS, hu]))
            have HU := Lib.hid hu
            clear hu
            go_wp2_with (first | (go_at_call 57; (with_reducible refine HNX.out.mono ?_); rintro e3 w3 ⟨rfl, hk3, hz3, hr3⟩; have HS3 := Lib.hid (HS2.out.took hk3 hr3); clear hk3 hz3 hr3) | (go_at_call 59; (with_reducible refine (wtext_some t _ HTL.out u HU.out).mono ?_); rintro e4 w4 ⟨rfl, hb4⟩; have HS4 := Lib.hid (HS3.out.later hb4); clear hb4; have c4 := HS4.out.c.cell (j := 2) rfl; have f4 := HS4.out.c.fr 2))
            go_roundw
            case rel => exact ⟨i + 1, { s with vol := ⟨u.toArray⟩ }, A, m, c, ws, hin, Lib.hid (HS4.out.set 2 (str u) { s with vol := ⟨u.toArray⟩ } rfl rfl), HR2, HWL2, HKL2, Lib.hid fun j hj => HZC.out j (by omega)⟩
            case measure =>
              simp only [World.iterPos, (HS4.out.set 2 (str u) { s with vol := ⟨u.toArray⟩ } rfl rfl).c.it, HST.out.c.it]
              omega
      · obtain ⟨w2, hnx, hn2⟩ := HST.out.next (c := 116) (HCA.out) (by decide)
        have HS2 := Lib.hid hn2
        clear hn2
        cases ws with
        | nil =>
          have HRN := Lib.hid (HRU.out.empty HC.out (by decide))
          have HNX := Lib.hid (next_none B p w2 HS2.out.c.rd)
          go_wp2_with (go_at_call 57; (with_reducible refine HNX.out.mono ?_); rintro e3 w3 ⟨rfl, hb3⟩; have HB3 := Lib.hid hb3; clear hb3)
          exact ⟨rfl, StepC.thrown HRN.out (HS2.out.c.kept.trans (Kept.of_below HB3.out))⟩
        | cons t ws =>
          have HNX := Lib.hid (next_some B p t ws w2 HS2.out.c.rd)
          have HTL := Lib.hid (HWL.out t (by simp))
          have HWL2 := Lib.hid (fun u (hu : u ∈ ws) => HWL.out u (by simp [hu]))
          have HKL2 := Lib.hid (show s.keep.length + ws.length ≤ 1000000 by have := HKL.out; rw [List.length_cons] at this; omega)
          cases hu : unwordL t with
          | none =>
            have HRN := Lib.hid (HRU.out.fail HC.out (by decide) (by simp [setS, hu]))
            have HU := Lib.hid hu
            clear hu
            go_wp2_with (first | (go_at_call 57; (with_reducible refine HNX.out.mono ?_); rintro e3 w3 ⟨rfl, hk3, hz3, hr3⟩; have HS3 := Lib.hid (HS2.out.took hk3 hr3); clear hk3 hz3 hr3) | (go_at_call 59; (with_reducible refine (wtext_none t _ HTL.out HU.out).mono ?_); rintro e4 w4 ⟨rfl, hb4⟩; have HK4 := Lib.hid (HS3.out.c.kept.trans (Kept.of_below hb4)); clear hb4))
            exact ⟨rfl, StepC.thrown HRN.out HK4.out⟩
          | some u =>
            have HR2 := Lib.hid (HRU.out.step (s' := { s with dst := ⟨u.toArray⟩ }) HC.out (by decide) (by simp [setS, hu]))
            have HU := Lib.hid hu
            clear hu
            go_wp2_with (first | (go_at_call 57; (with_reducible refine HNX.out.mono ?_); rintro e3 w3 ⟨rfl, hk3, hz3, hr3⟩; have HS3 := Lib.hid (HS2.out.took hk3 hr3); clear hk3 hz3 hr3) | (go_at_call 59; (with_reducible refine (wtext_some t _ HTL.out u HU.out).mono ?_); rintro e4 w4 ⟨rfl, hb4⟩; have HS4 := Lib.hid (HS3.out.later hb4); clear hb4; have c4 := HS4.out.c.cell (j := 3) rfl; have f4 := HS4.out.c.fr 3))
            go_roundw
            case rel => exact ⟨i + 1, { s with dst := ⟨u.toArray⟩ }, A, m, c, ws, hin, Lib.hid (HS4.out.set 3 (str u) { s with dst := ⟨u.toArray⟩ } rfl rfl), HR2, HWL2, HKL2, Lib.hid fun j hj => HZC.out j (by omega)⟩
            case measure =>
              simp only [World.iterPos, (HS4.out.set 3 (str u) { s with dst := ⟨u.toArray⟩ } rfl rfl).c.it, HST.out.c.it]
              omega
      · obtain ⟨w2, hnx, hn2⟩ := HST.out.next (c := 110) (HCA.out) (by decide)
        have HS2 := Lib.hid hn2
        clear hn2
        cases ws with
        | nil =>
          have HRN := Lib.hid (HRU.out.empty HC.out (by decide))
          have HNX := Lib.hid (next_none B p w2 HS2.out.c.rd)
          go_wp2_with (go_at_call 57; (with_reducible refine HNX.out.mono ?_); rintro e3 w3 ⟨rfl, hb3⟩; have HB3 := Lib.hid hb3; clear hb3)
          exact ⟨rfl, StepC.thrown HRN.out (HS2.out.c.kept.trans (Kept.of_below HB3.out))⟩
        | cons t ws =>
          have HNX := Lib.hid (next_some B p t ws w2 HS2.out.c.rd)
          have HTL := Lib.hid (HWL.out t (by simp))
          have HWL2 := Lib.hid (fun u (hu : u ∈ ws) => HWL.out u (by simp [hu]))
          have HKL2 := Lib.hid (show s.keep.length + ws.length ≤ 1000000 by have := HKL.out; rw [List.length_cons] at this; omega)
          cases hu : numL t with
          | none =>
            have HRN := Lib.hid (HRU.out.fail HC.out (by decide) (by simp [setS, hu]))
            have HU := Lib.hid hu
            clear hu
            go_wp2_with (first | (go_at_call 57; (with_reducible refine HNX.out.mono ?_); rintro e3 w3 ⟨rfl, hk3, hz3, hr3⟩; have HS3 := Lib.hid (HS2.out.took hk3 hr3); clear hk3 hz3 hr3) | (go_at_call 58; (with_reducible refine (wnum_none t _ HTL.out HU.out (HGP.out.kept HS3.out.c.kept).glob).mono ?_); rintro e4 w4 ⟨rfl, hb4⟩; have HK4 := Lib.hid (HS3.out.c.kept.trans (Kept.of_below hb4)); clear hb4))
            exact ⟨rfl, StepC.thrown HRN.out HK4.out⟩
          | some u =>
            have HR2 := Lib.hid (HRU.out.step (s' := { s with n := u }) HC.out (by decide) (by simp [setS, hu]))
            have HU := Lib.hid hu
            clear hu
            go_wp2_with (first | (go_at_call 57; (with_reducible refine HNX.out.mono ?_); rintro e3 w3 ⟨rfl, hk3, hz3, hr3⟩; have HS3 := Lib.hid (HS2.out.took hk3 hr3); clear hk3 hz3 hr3) | (go_at_call 58; (with_reducible refine (wnum_some t _ HTL.out u HU.out (HGP.out.kept HS3.out.c.kept).glob).mono ?_); rintro e4 w4 ⟨rfl, hb4⟩; have HS4 := Lib.hid (HS3.out.later hb4); clear hb4; have c4 := HS4.out.c.cell (j := 4) rfl; have f4 := HS4.out.c.fr 4))
            go_roundw
            case rel => exact ⟨i + 1, { s with n := u }, A, m, c, ws, hin, Lib.hid (HS4.out.set 4 (.int .i64 u) { s with n := u } rfl rfl), HR2, HWL2, HKL2, Lib.hid fun j hj => HZC.out j (by omega)⟩
            case measure =>
              simp only [World.iterPos, (HS4.out.set 4 (.int .i64 u) { s with n := u } rfl rfl).c.it, HST.out.c.it]
              omega
      · obtain ⟨w2, hnx, hn2⟩ := HST.out.next (c := 107) (HCA.out) (by decide)
        have HS2 := Lib.hid hn2
        clear hn2
        have HRK := Lib.hid (HRU.out.keep HC.out)
        go_wp2
        go_loopw [] (fun wr => ∃ (s : StepR) (A : Option Addr) (m c : Nat) (ws : List Bs), Hid (Stp w B p w.heap.size w3.heap.size w4.heap.size args (i + 1) s (.slice A m c) ws wr) ∧ Hid (RunsK R cs (i + 1) s ws) ∧ Hid (∀ t, t ∈ ws → t.length ≤ 30000000) ∧ Hid (s.keep.length + ws.length ≤ 1000000) ∧ Hid (∀ j : Nat, i + 1 ≤ j → cs[j]? = some 99 → Zc s)) (fun wr => rdLen p wr)
        case atStart => exact ⟨s, A, m, c, ws, HS2, HRK, HWL, HKL, Lib.hid fun j hj => HZC.out j (by omega)⟩
        case round =>
          clear HKL HWL HRU HZC HRK HS2 hnx
          obtain ⟨s, A, m, c, ws, HST2, HRK, HWL, HKL, HZC⟩ := hrel
          obtain ⟨AR, cR, hcr⟩ := HST2.out.c.rd.slice
          cases ws with
          | nil =>
            have HR2 := Lib.hid (HRK.out.done)
            replace hcr : wr.cell? ⟨p, 0, none⟩ = some (.slice AR 0 cR) := hcr
            go_wp2
            go_roundw
            case rel => exact ⟨i + 1, s, A, m, c, [], hin, HST2, HR2, HWL, HKL, HZC⟩
            case measure =>
              simp only [World.iterPos, HST2.out.c.it, HST.out.c.it]
              omega
          | cons t ws =>
            obtain ⟨mw, hmw⟩ : ∃ mw, ws.length = mw := ⟨_, rfl⟩
            have HMW := Lib.hid hmw
            replace hcr : wr.cell? ⟨p, 0, none⟩ = some (.slice AR (mw + 1) cR) := by rw [← hmw]; exact hcr
            clear hmw
            have g1 : (0 : Int) < (mw : Int) + 1 := by omega
            have HTL := Lib.hid (HWL.out t (by simp))
            have HWL2 := Lib.hid (fun u (hu : u ∈ ws) => HWL.out u (by simp [hu]))
            have HSD := Lib.hid (HST2.out.later (w' := wr.drew) (Below.drew (Below.refl _ _)))
            have HNX := Lib.hid (next_some B p t ws wr.drew HSD.out.c.rd)
            have cd := HSD.out.c.cell (j := 5) (u := .slice A m c) rfl
            have cw := HST2.out.c.cell (j := 5) (u := .slice A m c) rfl
            cases hu : numL t with
            | none =>
              have HRN := Lib.hid (HRK.out.fail hu)
              have HU := Lib.hid hu
              clear hu
              go_wp2
              refine wp_region_ord (.take 0 (.take 2 (.two 1 3 (.one 3 (.one 4 (.one 5 (.one 6 (.take 7 (.one 8 .done)))))) (.two 1 4 (.one 4 (.one 5 (.one 6 (.take 7 (.one 8 .done))))) (.two 1 5 (.one 5 (.one 6 (.take 7 (.one 8 .done)))) (.one 1 (.one 6 (.take 7 (.one 8 .done))))))))) (by kernel_rfl) (by kernel_rfl) (by decide) (by kernel_rfl) (by intro _ _ d _ _ h; cases d <;> exact h) ?_
              refine wpOrd_take rfl rfl ?_; intro K hK; go_simp; refine hK _ ?_; clear hK K
              refine wpOrd_take rfl rfl ?_; intro K hK; go_simp; refine hK _ ?_; clear hK K
              refine wpOrd_two ?_ ?_
              · refine wpOrd_one rfl rfl ?_; intro K hK; go_wp2
                refine wpOrd_one rfl rfl ?_; intro K hK; go_wp2_with (go_at_call 57; (with_reducible refine HNX.out.mono ?_); rintro e3 w5 ⟨rfl, hk3, hz3, hr3⟩; have HS5 := Lib.hid (HSD.out.took hk3 hr3); clear hk3 hz3 hr3; have c5 := HS5.out.c.cell (j := 5) rfl)
                refine wpOrd_one rfl rfl ?_; intro K hK; go_wp2_with (go_at_call 58; (with_reducible refine (wnum_none t _ HTL.out HU.out (HGP.out.kept HS5.out.c.kept).glob).mono ?_); rintro e4 w6 ⟨rfl, hb4⟩; have HK6 := Lib.hid (HS5.out.c.kept.trans (Kept.of_below hb4)); clear hb4)
                exact ⟨rfl, StepC.thrown HRN.out HK6.out⟩
              · refine wpOrd_one rfl rfl ?_; intro K hK; go_wp2_with (go_at_call 57; (with_reducible refine HNX.out.mono ?_); rintro e3 w5 ⟨rfl, hk3, hz3, hr3⟩; have HS5 := Lib.hid (HSD.out.took hk3 hr3); clear hk3 hz3 hr3; have c5 := HS5.out.c.cell (j := 5) rfl)
                refine wpOrd_two ?_ ?_
                · refine wpOrd_one rfl rfl ?_; intro K hK; go_wp2
                  refine wpOrd_one rfl rfl ?_; intro K hK; go_wp2_with (go_at_call 58; (with_reducible refine (wnum_none t _ HTL.out HU.out (HGP.out.kept HS5.out.c.kept).glob).mono ?_); rintro e4 w6 ⟨rfl, hb4⟩; have HK6 := Lib.hid (HS5.out.c.kept.trans (Kept.of_below hb4)); clear hb4)
                  exact ⟨rfl, StepC.thrown HRN.out HK6.out⟩
                · refine wpOrd_one rfl rfl ?_; intro K hK; go_wp2_with (go_at_call 58; (with_reducible refine (wnum_none t _ HTL.out HU.out (HGP.out.kept HS5.out.c.kept).glob).mono ?_); rintro e4 w6 ⟨rfl, hb4⟩; have HK6 := Lib.hid (HS5.out.c.kept.trans (Kept.of_below hb4)); clear hb4)
                  exact ⟨rfl, StepC.thrown HRN.out HK6.out⟩
            | some u =>
              have HR2 := Lib.hid (HRK.out.step hu)
              have HU := Lib.hid hu
              clear hu
              go_wp2
              refine wp_region_ord (.take 0 (.take 2 (.two 1 3 (.one 3 (.one 4 (.one 5 (.one 6 (.take 7 (.one 8 .done)))))) (.two 1 4 (.one 4 (.one 5 (.one 6 (.take 7 (.one 8 .done))))) (.two 1 5 (.one 5 (.one 6 (.take 7 (.one 8 .done)))) (.one 1 (.one 6 (.take 7 (.one 8 .done))))))))) (by kernel_rfl) (by kernel_rfl) (by decide) (by kernel_rfl) (by intro _ _ d _ _ h; cases d <;> exact h) ?_
              refine wpOrd_take rfl rfl ?_; intro K hK; go_simp; refine hK _ ?_; clear hK K
              refine wpOrd_take rfl rfl ?_; intro K hK; go_simp; refine hK _ ?_; clear hK K
              refine wpOrd_two ?_ ?_
              · refine wpOrd_one rfl rfl ?_; intro K hK; go_wp2
                refine wpOrd_one rfl rfl ?_; intro K hK; go_wp2_with (go_at_call 57; (with_reducible refine HNX.out.mono ?_); rintro e3 w5 ⟨rfl, hk3, hz3, hr3⟩; have HS5 := Lib.hid (HSD.out.took hk3 hr3); clear hk3 hz3 hr3; have c5 := HS5.out.c.cell (j := 5) rfl)
                refine wpOrd_one rfl rfl ?_; intro K hK; go_wp2_with (go_at_call 58; (with_reducible refine (wnum_some t _ HTL.out u HU.out (HGP.out.kept HS5.out.c.kept).glob).mono ?_); rintro e4 w6 ⟨rfl, hb4⟩; have HS6 := Lib.hid (HS5.out.later hb4); clear hb4; have c6 := HS6.out.c.cell (j := 5) rfl; have l6 := leB_of_cell c6; obtain ⟨A9, m9, c9, w9, happ, hc9, hf9, hn9⟩ := HS6.out.push u (by have := HKL.out; omega); have HN9 := Lib.hid hn9; clear hn9)
                refine wpOrd_one rfl rfl ?_; intro K hK; go_wp2
                refine wpOrd_one rfl rfl ?_; intro K hK; refine app_op 28 _ _ rfl rfl rfl rfl happ ?_; refine hK _ _ ?_; clear hK K
                refine wpOrd_take rfl rfl ?_; intro K hK; go_simp; refine hK _ ?_; clear hK K
                refine wpOrd_one rfl rfl ?_; intro K hK; go_wp2
                refine wpOrd_done ?_; go_wp2
                go_roundw
                case rel => exact ⟨{ s with keep := s.keep ++ [u] }, A9, m9, c9, ws, HN9, HR2, HWL2, Lib.hid (by have := HKL.out; rw [List.length_append]; simp at this ⊢; omega), Lib.hid fun j hj => HZC.out j (by omega)⟩
                case measure =>
                  rw [rd_len HN9.out.c.rd, rd_len HST2.out.c.rd]
                  simp
              · refine wpOrd_one rfl rfl ?_; intro K hK; go_wp2_with (go_at_call 57; (with_reducible refine HNX.out.mono ?_); rintro e3 w5 ⟨rfl, hk3, hz3, hr3⟩; have HS5 := Lib.hid (HSD.out.took hk3 hr3); clear hk3 hz3 hr3; have c5 := HS5.out.c.cell (j := 5) rfl)
                refine wpOrd_two ?_ ?_
                · refine wpOrd_one rfl rfl ?_; intro K hK; go_wp2
                  refine wpOrd_one rfl rfl ?_; intro K hK; go_wp2_with (go_at_call 58; (with_reducible refine (wnum_some t _ HTL.out u HU.out (HGP.out.kept HS5.out.c.kept).glob).mono ?_); rintro e4 w6 ⟨rfl, hb4⟩; have HS6 := Lib.hid (HS5.out.later hb4); clear hb4; have c6 := HS6.out.c.cell (j := 5) rfl; have l6 := leB_of_cell c6; obtain ⟨A9, m9, c9, w9, happ, hc9, hf9, hn9⟩ := HS6.out.push u (by have := HKL.out; omega); have HN9 := Lib.hid hn9; clear hn9)
                  refine wpOrd_one rfl rfl ?_; intro K hK; go_wp2
                  refine wpOrd_one rfl rfl ?_; intro K hK; refine app_op 28 _ _ rfl rfl rfl rfl happ ?_; refine hK _ _ ?_; clear hK K
                  refine wpOrd_take rfl rfl ?_; intro K hK; go_simp; refine hK _ ?_; clear hK K
                  refine wpOrd_one rfl rfl ?_; intro K hK; go_wp2
                  refine wpOrd_done ?_; go_wp2
                  go_roundw
                  case rel => exact ⟨{ s with keep := s.keep ++ [u] }, A9, m9, c9, ws, HN9, HR2, HWL2, Lib.hid (by have := HKL.out; rw [List.length_append]; simp at this ⊢; omega), Lib.hid fun j hj => HZC.out j (by omega)⟩
                  case measure =>
                    rw [rd_len HN9.out.c.rd, rd_len HST2.out.c.rd]
                    simp
                · refine wpOrd_one rfl rfl ?_; intro K hK; go_wp2_with (go_at_call 58; (with_reducible refine (wnum_some t _ HTL.out u HU.out (HGP.out.kept HS5.out.c.kept).glob).mono ?_); rintro e4 w6 ⟨rfl, hb4⟩; have HS6 := Lib.hid (HS5.out.later hb4); clear hb4; have c6 := HS6.out.c.cell (j := 5) rfl; have l6 := leB_of_cell c6; obtain ⟨A9, m9, c9, w9, happ, hc9, hf9, hn9⟩ := HS6.out.push u (by have := HKL.out; omega); have HN9 := Lib.hid hn9; clear hn9)
                  refine wpOrd_two ?_ ?_
                  · refine wpOrd_one rfl rfl ?_; intro K hK; go_wp2
                    refine wpOrd_one rfl rfl ?_; intro K hK; go_wp2
                    refine wpOrd_one rfl rfl ?_; intro K hK; refine app_op 28 _ _ rfl rfl rfl rfl happ ?_; refine hK _ _ ?_; clear hK K
                    refine wpOrd_take rfl rfl ?_; intro K hK; go_simp; refine hK _ ?_; clear hK K
                    refine wpOrd_one rfl rfl ?_; intro K hK; go_wp2
                    refine wpOrd_done ?_; go_wp2
                    go_roundw
                    case rel => exact ⟨{ s with keep := s.keep ++ [u] }, A9, m9, c9, ws, HN9, HR2, HWL2, Lib.hid (by have := HKL.out; rw [List.length_append]; simp at this ⊢; omega), Lib.hid fun j hj => HZC.out j (by omega)⟩
                    case measure =>
                      rw [rd_len HN9.out.c.rd, rd_len HST2.out.c.rd]
                      simp
                  · refine wpOrd_one rfl rfl ?_; intro K hK; go_wp2
                    refine wpOrd_one rfl rfl ?_; intro K hK; go_wp2
                    refine wpOrd_one rfl rfl ?_; intro K hK; refine app_op 28 _ _ rfl rfl rfl rfl happ ?_; refine hK _ _ ?_; clear hK K
                    refine wpOrd_take rfl rfl ?_; intro K hK; go_simp; refine hK _ ?_; clear hK K
                    refine wpOrd_one rfl rfl ?_; intro K hK; go_wp2
                    refine wpOrd_done ?_; go_wp2
                    go_roundw
                    case rel => exact ⟨{ s with keep := s.keep ++ [u] }, A9, m9, c9, ws, HN9, HR2, HWL2, Lib.hid (by have := HKL.out; rw [List.length_append]; simp at this ⊢; omega), Lib.hid fun j hj => HZC.out j (by omega)⟩
                    case measure =>
                      rw [rd_len HN9.out.c.rd, rd_len HST2.out.c.rd]
                      simp
      · obtain ⟨w2, hnx, hn2⟩ := HST.out.next (c := 99) (HCA.out) (by decide)
        have HS2 := Lib.hid hn2
        clear hn2
        have HCL9 := Lib.hid (call_any B p s ws w2 HS2.out.c.rd (by have := HB.out; have := HS2.out.size; omega) (HGP.out.kept HS2.out.c.kept) HWL.out (HZC.out i (Nat.le_refl _) HC.out))
        cases hcp : callP s ws with
        | none =>
          have HRN := Lib.hid (HRU.out.callNone HC.out hcp)
          rw [hcp] at HCL9
          have HCN : Hid (Calls Tryz.prog 60 #[.pointer (some ⟨p, 0, none⟩)] w2 fun e w' => e = .panicked [refusal] ∧ Kept p w2 w') := Lib.hid (HCL9.out.mono (by
            rintro e w' (⟨_, _, h1, _⟩ | ⟨_, h2, h3⟩)
            · cases h1
            · exact ⟨h2, h3⟩))
          clear hcp HCL9
          go_wp2_with (go_at_call 60; (with_reducible refine HCN.out.mono ?_); rintro e5 w5 ⟨rfl, hk5⟩; have HK5 := Lib.hid (HS2.out.c.kept.trans hk5); clear hk5)
          exact ⟨rfl, StepC.thrown HRN.out HK5.out⟩
        | some x =>
          obtain ⟨x, rest⟩ := x
          have HR2 := Lib.hid (HRU.out.callSome HC.out hcp)
          obtain ⟨hsame, us, hus⟩ := callP_same hcp
          have HSM := Lib.hid hsame
          have HUS := Lib.hid hus
          rw [hcp] at HCL9
          have HCN : Hid (Calls Tryz.prog 60 #[.pointer (some ⟨p, 0, none⟩)] w2 fun e w' => e = .returned (.agg (callCells x)) ∧ Kept p w2 w' ∧ Rd B p rest w') := Lib.hid (HCL9.out.mono (by
            rintro e w' (⟨s1, ws1, h1, h2, h3, h4⟩ | ⟨h1, _⟩)
            · injection h1 with h1
              injection h1 with h1 h1'
              subst h1; subst h1'
              exact ⟨h2, h3, h4⟩
            · cases h1))
          clear hcp HCL9 hsame hus
          go_wp2_with (first | (go_at_call 60; (with_reducible refine HCN.out.mono ?_); rintro e5 w5 ⟨rfl, hk5, hr5⟩; have HS5 := Lib.hid (HS2.out.took hk5 hr5); clear hk5 hr5; obtain ⟨w9, hst9, hs9⟩ := call_store HS5.out.c.box HSM.out; have HS9 := Lib.hid (HS5.out.call hs9 HSM.out.2.2.2.2.2); clear hs9) | (refine store_step 31 _ _ rfl rfl rfl rfl hst9 ?_))
          go_roundw
          case rel => (repeat apply Exists.intro); exact ⟨⟨i + 1, x, A, m, c, rest, hin, HS9, HR2, Lib.hid (fun t ht => HWL.out t (by rw [HUS.out]; simp [ht])), Lib.hid (by have := HKL.out; rw [HUS.out, List.length_append] at this; rw [HSM.out.2.2.2.2.2]; omega), Lib.hid fun j hj h => absurd (HDU.out i j HC.out h) (by omega)⟩, rfl⟩
          case measure =>
            simp only [World.iterPos, HS9.out.c.it, HST.out.c.it]
            omega
    · have hnx := HST.out.c.ended (by rw [HSZ.out]; exact hin)
      obtain ⟨AR, cR, hcr⟩ := HST.out.c.rd.slice
      cases ws with
      | nil =>
        have HRE := Lib.hid (HRU.out.done (by rw [HCL.out]; exact hin))
        replace hcr : wr.cell? ⟨p, 0, none⟩ = some (.slice AR 0 cR) := hcr
        have hld := (row_load (ty := 33) HST.out.c.box Tryz.underlying33 (by kernel_rfl)).2
        obtain ⟨w9, hst9, hs9⟩ := row_store (ty := 33) (cs := stepCells s (.slice A m c)) HST.out.c.res (by kernel_rfl) rfl (by simp [Value.oneCell'])
        have hv0 := cell_at (i := 0) hs9.at' rfl
        have hv1 := cell_at (i := 1) hs9.at' rfl
        have hv2 := cell_at (i := 2) hs9.at' rfl
        have hv3 := cell_at (i := 3) hs9.at' rfl
        have hv4 := cell_at (i := 4) hs9.at' rfl
        have hv5 := cell_at (i := 5) hs9.at' rfl
        have hv6 := cell_at (i := 6) hs9.at' rfl
        have hv7 := cell_at (i := 7) hs9.at' rfl
        have hv8 := cell_at (i := 8) hs9.at' rfl
        have hv9 := cell_at (i := 9) hs9.at' rfl
        have hv10 := cell_at (i := 10) hs9.at' rfl
        have hv11 := cell_at (i := 11) hs9.at' rfl
        have hv12 := cell_at (i := 12) hs9.at' rfl
        have HS9 := Lib.hid hs9
        clear hs9
        go_wp2_with (first | (go_at_call 61; (with_reducible refine (need_yes _).mono ?_); rintro e2 w2 ⟨rfl, hw⟩; replace hw := hw.symm; subst hw) | (refine load_step 33 _ rfl rfl rfl hld ?_) | (refine store_step 33 _ _ rfl rfl rfl rfl hst9 ?_))
        exact bodyPost_ret (v := .agg (stepCells s (.slice A m c))) (by simp [results, Tryz.results36, go_sem, hv0, hv1, hv2, hv3, hv4, hv5, hv6, hv7, hv8, hv9, hv10, hv11, hv12]) rfl (step_end HRE.out HST.out HS9.out)
      | cons t ws =>
        have HRN := Lib.hid (HRU.out.left (by rw [HCL.out]; exact hin))
        obtain ⟨mw, hmw⟩ : ∃ mw, ws.length = mw := ⟨_, rfl⟩
        replace hcr : wr.cell? ⟨p, 0, none⟩ = some (.slice AR (mw + 1) cR) := by rw [← hmw]; exact hcr
        clear hmw
        have g1 : ((mw : Int) + 1 == 0) = false := by simp; omega
        go_wp2_with (go_at_call 61; (with_reducible refine (need_no _).mono ?_); rintro e2 w2 ⟨rfl, j9, hw9⟩; have HB9 := Lib.hid (show Below _ _ w2 by rw [hw9]; exact w_ext_below _ _); clear hw9)
        exact ⟨rfl, StepC.thrown HRN.out (HST.out.c.kept.trans (Kept.of_below HB9.out))⟩
set_option maxHeartbeats 8000000 in
set_option maxRecDepth 100000 in
theorem step_nil (B p : Nat) (w : World) (R : Option StepR) (HRD : Hid (Rd B p [] w)) (HB : Hid (B ≤ w.heap.size)) (HR : R = none) : Calls Tryz.prog 36 #[.pointer (some ⟨p, 0, none⟩)] w (StepC R p w) := by
  go_enter Tryz.func36, Tryz.ntmps36
  go_wp2_with (fail)
  refine (steps_any _).mono ?_
  rintro e1 w1 ⟨b, rfl, hbs, hb1, hf1⟩
  have HP1 : Hid (Pre w B p w.heap.size 33 stepZero [] w1) := Lib.hid ((⟨HRD.out.same fun j hj => Lib.alloc_old w _ j (Nat.lt_of_lt_of_le hj HB.out), heap_alloc_new w _, Kept.of_below (Below.alloc (Below.refl _ _) (Nat.le_refl _) _), HB.out, Nat.le_refl _⟩ : Pre w B p w.heap.size 33 stepZero [] (w.alloc (.cells stepZero 33))).later hb1)
  have HF1 := Lib.hid hf1
  have HBS := Lib.hid (show w.heap.size < b by have := hbs; simp at this; omega)
  clear hbs hb1 hf1
  have HNX := Lib.hid (next_none B p w1 HP1.out.rd)
  go_wp2_with (fail)
  refine HNX.out.mono ?_
  rintro e2 w2 ⟨rfl, hb2⟩
  have HB2 := Lib.hid (HP1.out.kept.trans (Kept.of_below hb2))
  clear hb2
  go_wp2_with (fail)
  exact ⟨rfl, StepC.thrown rfl HB2.out⟩
set_option maxHeartbeats 8000000 in
set_option maxRecDepth 100000 in
theorem step_bad (B p : Nat) (w : World) (t : Bs) (ws : List Bs) (R : Option StepR) (HRD : Hid (Rd B p (t :: ws) w)) (HB : Hid (B ≤ w.heap.size)) (HF : Hid (findF stepF t = none)) (HR : R = none) : Calls Tryz.prog 36 #[.pointer (some ⟨p, 0, none⟩)] w (StepC R p w) := by
  go_enter Tryz.func36, Tryz.ntmps36
  go_wp2_with (fail)
  refine (steps_any _).mono ?_
  rintro e1 w1 ⟨b, rfl, hbs, hb1, hf1⟩
  have HP1 : Hid (Pre w B p w.heap.size 33 stepZero (t :: ws) w1) := Lib.hid ((⟨HRD.out.same fun j hj => Lib.alloc_old w _ j (Nat.lt_of_lt_of_le hj HB.out), heap_alloc_new w _, Kept.of_below (Below.alloc (Below.refl _ _) (Nat.le_refl _) _), HB.out, Nat.le_refl _⟩ : Pre w B p w.heap.size 33 stepZero (t :: ws) (w.alloc (.cells stepZero 33))).later hb1)
  have HF1 := Lib.hid hf1
  have HBS := Lib.hid (show w.heap.size < b by have := hbs; simp at this; omega)
  clear hbs hb1 hf1
  have HNX := Lib.hid (next_some B p t ws w1 HP1.out.rd)
  go_wp2_with (fail)
  refine HNX.out.mono ?_
  rintro e2 w2 ⟨rfl, hk2, _, hr2⟩
  have HP2 := Lib.hid (HP1.out.took hk2 hr2)
  have HF2 : Hid (FormsAt w2 b stepF) := Lib.hid fun i hi => by
    obtain ⟨g1, g2⟩ := HF1.out i hi
    have hbp : ¬ b = p := by have := HP1.out.pk; have := HBS.out; omega
    exact ⟨hk2.cell hbp g1, hk2.cell hbp g2⟩
  clear hk2 hr2 HNX
  have HFI := Lib.hid (find_nones HF2.out HF.out)
  go_wp2_with (fail)
  refine HFI.out.mono ?_
  rintro e3 w3 ⟨rfl, hb3⟩
  have HB3 := Lib.hid (HP2.out.kept.trans (Kept.of_below hb3))
  clear hb3
  go_wp2_with (fail)
  exact ⟨rfl, StepC.thrown rfl HB3.out⟩
theorem step_any (B p : Nat) (ws0 : List Bs) (w : World) (HRD : Rd B p ws0 w) (HB : B ≤ w.heap.size) (HGP : GlobP p w) (HWL : ∀ t, t ∈ ws0 → t.length ≤ 30000000) (HKL : ws0.length ≤ 1000000) : Calls Tryz.prog 36 #[.pointer (some ⟨p, 0, none⟩)] w (StepC (stepP ws0) p w) := by
  match ws0 with
  | [] => exact step_nil B p w _ (Lib.hid HRD) (Lib.hid HB) rfl
  | t :: ws =>
    cases hf : findF stepF t with
    | none => exact step_bad B p w t ws _ (Lib.hid HRD) (Lib.hid HB) (Lib.hid hf) (by simp only [stepP, hf]; rfl)
    | some i =>
      refine step_main B p _ t ws w (Lib.hid HRD) (Lib.hid HB) (Lib.hid HGP) i (stepF.getD i ([], [])).1 (stepF.getD i ([], [])).2 (Lib.hid rfl) (Lib.hid hf) (Lib.hid fun t ht => HWL t (by simp [ht])) (Lib.hid (by rw [List.length_cons] at HKL; omega)) (Lib.hid ?_)
      unfold RunsS
      simp only [stepP, hf, Option.bind_some]
      rfl
end Go.Proofs.YtmcooenafgihkaaGreatDoor
