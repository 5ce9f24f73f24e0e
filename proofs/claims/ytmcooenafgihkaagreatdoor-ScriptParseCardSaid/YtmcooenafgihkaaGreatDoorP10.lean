/- Helper lemmas: a step as a line, by the program. No condition. -/
import Derived.Test.YtmcooenafgihkaaGreatDoorP9
import Derived.Test.YtmcooenafgihkaaGreatDoorS4
set_option linter.unusedSimpArgs false
set_option linter.unusedVariables false
namespace Go.Proofs.YtmcooenafgihkaaGreatDoor
open Go.RowKit

theorem joined_any (l : List Bs) (g c : Nat) (w : World) (hc : ∀ i, i < l.length → w.cell? ⟨g, 0 + i, none⟩ = some (str (l.getD i []))) (hg : g < w.heap.size) (hl : l.length ≤ 1000000) (hlc : l.length ≤ c) (hw : ∀ t ∈ l, Wd t) : Calls Tryz.prog 51 #[.slice (some ⟨g, 0, none⟩) l.length c, .string ⟨#[32]⟩] w fun e w' => e = .returned (str (joinW l)) ∧ Below w.heap.size w w' := by
  have hm : (l.map fun t => (⟨t.toArray⟩ : ByteArray)).map (·.data.toList) = l := by rw [List.map_map]; simp [Function.comp_def]
  have h := Tryz.strings_Join g 0 c (l.map fun t => (⟨t.toArray⟩ : ByteArray)) ⟨#[32]⟩ w (fun j x hx => by
    rw [List.getElem?_map] at hx
    obtain ⟨t, ht, rfl⟩ := Option.map_eq_some_iff.1 hx
    obtain ⟨hj, e⟩ := List.getElem?_eq_some_iff.1 ht
    have := hc j hj
    rw [List.getD_eq_getElem?_getD, ht] at this
    exact this) hg (by rw [List.length_map]; omega) (by rw [List.length_map]; exact hlc) (by
      rw [hm, show ((⟨#[32]⟩ : ByteArray).data.toList) = [32] from rfl, join_eq]
      have := joinW_len 100000000 l fun t ht => (hw t ht).len
      have h2 : l.length * (100000000 + 1) ≤ 1000000 * 100000001 := Nat.mul_le_mul_right _ hl
      omega)
  rw [hm, List.length_map, show ((⟨#[32]⟩ : ByteArray).data.toList) = [32] from rfl, join_eq] at h
  exact h
theorem called_none (s : StepR) (hf : s.Fine) (hm : s.Small) (h : calledL s = none) (w : World) (hg : Glob w) : Calls Tryz.prog 50 #[.agg #[.int .i64 s.ck, .string s.path, .string s.cto, .int .i64 s.off, .int .i64 s.cn, .string s.data, f64 s.time]] w fun e w' => e = .returned (.tuple #[.slice none 0 0, .bool false]) ∧ Below w.heap.size w w' := by
  refine (called_any s w hf hm.path hm.cto hm.data hg).mono ?_
  rw [h]
  rintro e w' (⟨_, h1, h2⟩ | ⟨_, _, _, h1, _⟩)
  · exact ⟨h1, h2⟩
  · cases h1
/-- The call's words were told. -/
def CalledS (l : List Bs) (w : World) (e : Ending) (w' : World) : Prop := ∃ g c, e = .returned (.tuple #[.slice (some ⟨g, 0, none⟩) l.length c, .bool true]) ∧ Below w.heap.size w w' ∧ l.length ≤ 10 ∧ ∀ i, i < l.length → w'.cell? ⟨g, 0 + i, none⟩ = some (str (l.getD i []))
theorem called_some (s : StepR) (hf : s.Fine) (hm : s.Small) (l : List Bs) (h : calledL s = some l) (w : World) (hg : Glob w) : Calls Tryz.prog 50 #[.agg #[.int .i64 s.ck, .string s.path, .string s.cto, .int .i64 s.off, .int .i64 s.cn, .string s.data, f64 s.time]] w (CalledS l w) := by
  refine (called_any s w hf hm.path hm.cto hm.data hg).mono ?_
  rw [h]
  rintro e w' (⟨h1, _⟩ | ⟨l2, g, c, h1, h2, h3, h4, h5⟩)
  · cases h1
  · injection h1 with h1
    subst h1
    exact ⟨g, c, h2, h3, h4, h5⟩
/-- A step as a line: the text, or the error. -/
def lineV : Option (List Bs) → Value
  | none => .tuple #[.string ⟨#[]⟩, .int .i64 205]
  | some l => .tuple #[str (joinW l), .int .i64 0]
def LineP (R : Option (List Bs)) (w : World) (e : Ending) (w' : World) : Prop := e = .returned (lineV R) ∧ Below w.heap.size w w'
theorem LineP.some {R : Option (List Bs)} {w w' : World} {l : List Bs} (h : R = some l) (hb : Below w.heap.size w w') : LineP R w (.returned (.tuple #[str (joinW l), .int .i64 0])) w' := by subst h; exact ⟨rfl, hb⟩
theorem LineP.none {R : Option (List Bs)} {w w' : World} (h : R = Option.none) (hb : Below w.heap.size w w') : LineP R w (.returned (.tuple #[.string ⟨#[]⟩, .int .i64 205])) w' := by subst h; exact ⟨rfl, hb⟩
set_option maxHeartbeats 8000000 in
set_option maxRecDepth 100000 in
theorem stext_bad (k : Int) (hk : k < 1 ∨ 13 < k) (rp nn : Int) (vol dst : ByteArray) (AK : Option Addr) (mk ck : Nat) (ckd off cn : Int) (path cto data : ByteArray) (tm : Nat) (w : World) : Calls Tryz.prog 28 #[.agg #[.int .i64 k, .int .i64 rp, .string vol, .string dst, .int .i64 nn, .slice AK mk ck, .int .i64 ckd, .string path, .string cto, .int .i64 off, .int .i64 cn, .string data, f64 tm]] w (LineP none w) := by
  rcases hk with hk | hk
  all_goals
    go_enter Tryz.func28, Tryz.ntmps28
    go_wp2_with (go_at_call 49; (with_reducible refine (steps_any _).mono ?_); rintro e1 w1 ⟨b, rfl, hbs, hb1, hf1⟩; have hs1 := (hb1.block w.heap.size (by simp)).trans (heap_alloc_new w _); have HB1 := Lib.hid (Below.trans (Below.alloc (Below.refl _ w) (Nat.le_refl _) _) (hb1.mono (by simp))); have c0 := cell_at (i := 0) hs1 rfl; clear hbs hb1 hf1 hs1)
    go_ret2
    exact LineP.none rfl HB1.out
theorem stepLet : ∀ i, i < 13 → ∀ c ∈ argsAt stepF i, c = 114 ∨ c = 118 ∨ c = 116 ∨ c = 110 ∨ c = 107 ∨ c = 99 := by decide +kernel
set_option maxHeartbeats 8000000 in
set_option maxRecDepth 100000 in
theorem stext_main (ki : Nat) (R : Option (List Bs)) (rp nn : Int) (vol dst : ByteArray) (keep : List Int) (AK : Option Addr) (mk ck : Nat) (ckd off cn : Int) (path cto data : ByteArray) (tm : Nat) (w : World) (HI : Hid (ki < 13)) (f : UInt8 → Option (List Bs)) (cw cs : Bs) (HX : Hid (stepF.getD ki ([], []) = (cw, cs))) (wv wt : Bs)
    (HWV : Hid (∀ W, Calls Tryz.prog 26 #[.string vol] W fun e w' => e = .returned (str wv) ∧ Below W.heap.size W w')) (HWT : Hid (∀ W, Calls Tryz.prog 26 #[.string dst] W fun e w' => e = .returned (str wt) ∧ Below W.heap.size W w'))
    (nr nx : Bs) (HNR : Hid (∀ W, Glob W → Calls Tryz.prog 42 #[.int .i64 rp] W fun e w' => e = .returned (str nr) ∧ Below W.heap.size W w')) (HNX : Hid (∀ W, Glob W → Calls Tryz.prog 42 #[.int .i64 nn] W fun e w' => e = .returned (str nx) ∧ Below W.heap.size W w'))
    (HNK : Hid (∀ j, j < mk → ∀ W, Glob W → Calls Tryz.prog 42 #[.int .i64 (keep.getD j 0)] W fun e w' => e = .returned (str (Lib.itoa (keep.getD j 0))) ∧ Below W.heap.size W w')) (HKL : Hid (keep.length = mk)) (HKM : Hid (mk ≤ 100000)) (HKI : Hid (IntsAt w AK keep))
    (C : Option (List Bs)) (HCN : Hid (C = none → ∀ W, Glob W → Calls Tryz.prog 50 #[.agg #[.int .i64 ckd, .string path, .string cto, .int .i64 off, .int .i64 cn, .string data, f64 tm]] W fun e w' => e = .returned (.tuple #[.slice none 0 0, .bool false]) ∧ Below W.heap.size W w')) (HCS : Hid (∀ l, C = some l → ∀ W, Glob W → Calls Tryz.prog 50 #[.agg #[.int .i64 ckd, .string path, .string cto, .int .i64 off, .int .i64 cn, .string data, f64 tm]] W (CalledS l W)))
    (H114 : Hid (f 114 = some [nr])) (H118 : Hid (f 118 = some [wv])) (H116 : Hid (f 116 = some [wt])) (H110 : Hid (f 110 = some [nx])) (H107 : Hid (f 107 = some (keep.map Lib.itoa))) (H99 : Hid (f 99 = C)) (HR : Hid (R = (flds f cs).map fun l => cw :: l)) (HRW : Hid (∀ l, R = some l → (l.length ≤ 1000000 ∧ ¬ l = []) ∧ ∀ t ∈ l, Wd t)) (HG : Hid (Glob w)) :
    Calls Tryz.prog 28 #[.agg #[.int .i64 ((ki : Int) + 1), .int .i64 rp, .string vol, .string dst, .int .i64 nn, .slice AK mk ck, .int .i64 ckd, .string path, .string cto, .int .i64 off, .int .i64 cn, .string data, f64 tm]] w (LineP R w) := by
  have hk0 : wrap64 ((ki : Int) + 1 - 1) = (ki : Int) := by have := HI.out; rw [wrap64_eq]; omega
  have hiw : IntKind.i64.wrap (ki : Int) = (ki : Int) := by have := HI.out; rw [IntWalk.i64_left, wrap64_eq]; omega
  have hwk : wrap64 (ki : Int) = (ki : Int) := by have := HI.out; rw [wrap64_eq]; omega
  have hk1 : ¬ (ki : Int) + 1 < 1 := by omega
  have hk2 : ¬ 13 < (ki : Int) + 1 := by have := HI.out; omega
  have hd1 : decide ((ki : Int) + 1 < 1) = false := decide_eq_false hk1
  have hd2 : decide (13 < (ki : Int) + 1) = false := decide_eq_false hk2
  have hk3 : ¬ (ki : Int) < 0 := by omega
  have hk4 : (ki : Int) < 13 := by have := HI.out; omega
  obtain ⟨args, hargs⟩ : ∃ args : ByteArray, args = ⟨cs.toArray⟩ := ⟨_, rfl⟩
  have HARGS := Lib.hid hargs
  have HARGV := Lib.hid (show str cs = .string args by rw [hargs])
  clear hargs
  have HCS0 := HCS
  go_enter Tryz.func28, Tryz.ntmps28
  go_wp2_with (go_at_call 49; (with_reducible refine (steps_any _).mono ?_); rintro e1 w1 ⟨b, rfl, hbs, hb1, hf1⟩; have hs1 := (hb1.block w.heap.size (by simp)).trans (heap_alloc_new w _); obtain ⟨hx1, hx2⟩ := hf1 ki HI.out; rw [HX.out] at hx1 hx2; replace hx1 : w1.cell? ⟨b, ki * 2, none⟩ = some (str cw) := hx1; replace hx2 : w1.cell? ⟨b, ki * 2 + 1, none⟩ = some (str cs) := hx2; rw [HARGV.out] at hx2; have HB1 := Lib.hid (Below.trans (Below.alloc (Below.refl _ w) (Nat.le_refl _) _) (hb1.mono (by simp))); have HS1 := Lib.hid hs1; have c0 := cell_at (i := 0) hs1 rfl; have l0 := leB_of_cell c0; have l1 := leB_of_cell hx1; clear hbs hb1 hf1 hs1)
  have HTXT0 : Hid (Txt w w.heap.size (w1.heap.size + 1) #[.int .i64 ((ki : Int) + 1), .int .i64 rp, .string vol, .string dst, .int .i64 nn, .slice AK mk ck, .int .i64 ckd, .string path, .string cto, .int .i64 off, .int .i64 cn, .string data, f64 tm] 33 args 0 (.slice (some ⟨w1.heap.size, 0, none⟩) 1 1) [cw] ((w1.alloc (.cells #[str cw] 9)).iter args 0)) := Lib.hid (by
    have hs3 := HS1.out
    have hlt := (Array.getElem?_eq_some_iff.1 hs3).1
    refine ⟨?_, ?_, ?_, ?_, by have := HB1.out.size; omega, by decide⟩
    · show ((w1.alloc _).alloc _).heap[w.heap.size]? = _
      rw [Lib.alloc_old _ _ _ (by simp; omega), Lib.alloc_old _ _ _ hlt]; exact hs3
    · have := World.iter_heap (w1.alloc (.cells #[str cw] 9)) args 0
      simpa using this
    · have h := World.ownsRow_lit (base := w.heap.size) (e := 9) (size := 1) w1 #[str cw] 1 (by have := HB1.out.size; omega) (by decide) (by rfl)
      exact h.alloc _
    · exact Below.alloc (Below.alloc HB1.out (by have := HB1.out.size; omega) _) (by have := HB1.out.size; simp; omega) _)
  have hsz : args.size = cs.length := by rw [HARGS.out]; rfl
  obtain ⟨n, hn⟩ : ∃ n, cs.length = n := ⟨_, rfl⟩
  have HSZ := Lib.hid (hsz.trans hn)
  have HCL := Lib.hid hn
  have HGO0 : Hid (Goes R f cs 0 [cw]) := Lib.hid (by unfold Goes; rw [HR.out]; rfl)
  have HLET : Hid (∀ c ∈ cs, c = 114 ∨ c = 118 ∨ c = 116 ∨ c = 110 ∨ c = 107 ∨ c = 99) := Lib.hid (by
    have := stepLet ki HI.out
    unfold argsAt at this
    rw [HX.out] at this; exact this)
  have HN3 := Lib.hid (show n ≤ 3 by have := (stepWd ki HI.out).2; rw [HX.out] at this; simp only at this; omega)
  clear hsz hn
  go_wp2
  go_loopw [5] (fun v5 wr => ∃ (i : Nat) (acc : List Bs) (A : Option Addr) (m c : Nat), i ≤ n ∧ v5 = .slice A m c ∧ Hid (Txt w w.heap.size (w1.heap.size + 1) #[.int .i64 ((ki : Int) + 1), .int .i64 rp, .string vol, .string dst, .int .i64 nn, .slice AK mk ck, .int .i64 ckd, .string path, .string cto, .int .i64 off, .int .i64 cn, .string data, f64 tm] 33 args i (.slice A m c) acc wr) ∧ Hid (acc.length ≤ 1 + i * 100010) ∧ Hid (Goes R f cs i acc)) (fun _ wr => n - wr.iterPos (w1.heap.size + 1))
  case atStart => exact ⟨0, [cw], _, _, _, Nat.zero_le _, rfl, HTXT0, Lib.hid (by simp), HGO0⟩
  case round =>
    obtain ⟨i, acc, A, m, c, hi, rfl, HTXT, HACL, HGO⟩ := hrel
    by_cases hin : i < n
    · obtain ⟨ch, hch⟩ : ∃ ch, cs[i]? = some ch := ⟨_, List.getElem?_eq_getElem (by rw [HCL.out]; exact hin)⟩
      have HACC := Lib.hid (show acc.length ≤ 10000000 by have := HACL.out; have := HN3.out; omega)
      have hcl := HLET.out ch (List.mem_of_getElem? hch)
      have hca : args.data[i]? = some ch := by rw [HARGS.out]; simpa using hch
      have HC := Lib.hid hch
      have HCA := Lib.hid hca
      clear hch hca
      rcases hcl with rfl | rfl | rfl | rfl | rfl | rfl
      · have HG2 := Lib.hid (HGO.out.step HC.out H114.out)
        obtain ⟨w2, hnx, hn2⟩ := HTXT.out.next (c := 114) (HCA.out) (by decide)
        have HTX := Lib.hid hn2
        have cf := hn2.cell (j := 1) (u := .int .i64 rp) rfl
        clear hn2
        go_wp2_with ((first | (go_at_call 42; (with_reducible refine (HNR.out _ (HG.out.later HTX.out.below)).mono ?_); rintro e4 w4 ⟨rfl, hb4⟩; have HT4 := Lib.hid (HTX.out.later hb4); clear hb4; obtain ⟨A2, m2, c2, w9, happ, HN⟩ := HT4.out.push _ HACC.out; replace HN := Lib.hid HN) | (at_builtin; refine app_step 35 _ _ rfl rfl rfl rfl rfl happ ?_)))
        go_roundw
        case rel => exact ⟨i + 1, acc ++ [nr], A2, m2, c2, hin, rfl, HN, Lib.hid (by have := HACL.out; rw [List.length_append]; simp; omega), HG2⟩
        case measure =>
          simp only [World.iterPos, HN.out.it, HTXT.out.it]
          omega
      · have HG2 := Lib.hid (HGO.out.step HC.out H118.out)
        obtain ⟨w2, hnx, hn2⟩ := HTXT.out.next (c := 118) (HCA.out) (by decide)
        have HTX := Lib.hid hn2
        have cf := hn2.cell (j := 2) (u := .string vol) rfl
        clear hn2
        go_wp2_with ((first | (go_at_call 26; (with_reducible refine (HWV.out _).mono ?_); rintro e4 w4 ⟨rfl, hb4⟩; have HT4 := Lib.hid (HTX.out.later hb4); clear hb4; obtain ⟨A2, m2, c2, w9, happ, HN⟩ := HT4.out.push _ HACC.out; replace HN := Lib.hid HN) | (at_builtin; refine app_step 35 _ _ rfl rfl rfl rfl rfl happ ?_)))
        go_roundw
        case rel => exact ⟨i + 1, acc ++ [wv], A2, m2, c2, hin, rfl, HN, Lib.hid (by have := HACL.out; rw [List.length_append]; simp; omega), HG2⟩
        case measure =>
          simp only [World.iterPos, HN.out.it, HTXT.out.it]
          omega
      · have HG2 := Lib.hid (HGO.out.step HC.out H116.out)
        obtain ⟨w2, hnx, hn2⟩ := HTXT.out.next (c := 116) (HCA.out) (by decide)
        have HTX := Lib.hid hn2
        have cf := hn2.cell (j := 3) (u := .string dst) rfl
        clear hn2
        go_wp2_with ((first | (go_at_call 26; (with_reducible refine (HWT.out _).mono ?_); rintro e4 w4 ⟨rfl, hb4⟩; have HT4 := Lib.hid (HTX.out.later hb4); clear hb4; obtain ⟨A2, m2, c2, w9, happ, HN⟩ := HT4.out.push _ HACC.out; replace HN := Lib.hid HN) | (at_builtin; refine app_step 35 _ _ rfl rfl rfl rfl rfl happ ?_)))
        go_roundw
        case rel => exact ⟨i + 1, acc ++ [wt], A2, m2, c2, hin, rfl, HN, Lib.hid (by have := HACL.out; rw [List.length_append]; simp; omega), HG2⟩
        case measure =>
          simp only [World.iterPos, HN.out.it, HTXT.out.it]
          omega
      · have HG2 := Lib.hid (HGO.out.step HC.out H110.out)
        obtain ⟨w2, hnx, hn2⟩ := HTXT.out.next (c := 110) (HCA.out) (by decide)
        have HTX := Lib.hid hn2
        have cf := hn2.cell (j := 4) (u := .int .i64 nn) rfl
        clear hn2
        go_wp2_with ((first | (go_at_call 42; (with_reducible refine (HNX.out _ (HG.out.later HTX.out.below)).mono ?_); rintro e4 w4 ⟨rfl, hb4⟩; have HT4 := Lib.hid (HTX.out.later hb4); clear hb4; obtain ⟨A2, m2, c2, w9, happ, HN⟩ := HT4.out.push _ HACC.out; replace HN := Lib.hid HN) | (at_builtin; refine app_step 35 _ _ rfl rfl rfl rfl rfl happ ?_)))
        go_roundw
        case rel => exact ⟨i + 1, acc ++ [nx], A2, m2, c2, hin, rfl, HN, Lib.hid (by have := HACL.out; rw [List.length_append]; simp; omega), HG2⟩
        case measure =>
          simp only [World.iterPos, HN.out.it, HTXT.out.it]
          omega
      · have HG2 := Lib.hid (HGO.out.step HC.out H107.out)
        obtain ⟨w2, hnx, hn2⟩ := HTXT.out.next (c := 107) (HCA.out) (by decide)
        have HTX := Lib.hid hn2
        have cf := hn2.cell (j := 5) (u := .slice AK mk ck) rfl
        clear hn2
        go_wp2
        go_loopw [5, 91] (fun v5 v91 wr => ∃ (j : Nat) (acc2 : List Bs) (A2 : Option Addr) (m2 c2 : Nat), j ≤ mk ∧ v91 = .int .i64 (j : Int) ∧ v5 = .slice A2 m2 c2 ∧ Hid (Txt w w.heap.size (w1.heap.size + 1) #[.int .i64 ((ki : Int) + 1), .int .i64 rp, .string vol, .string dst, .int .i64 nn, .slice AK mk ck, .int .i64 ckd, .string path, .string cto, .int .i64 off, .int .i64 cn, .string data, f64 tm] 33 args (i + 1) (.slice A2 m2 c2) acc2 wr) ∧ Hid (acc2 = acc ++ (keep.take j).map Lib.itoa)) (fun _ v91 _ => ((mk : Int) - intOf v91).toNat)
        case atStart => exact ⟨0, acc, A, m, c, Nat.zero_le _, rfl, rfl, HTX, Lib.hid (by simp)⟩
        case round =>
          obtain ⟨j, acc2, A2, m2, c2, hj, rfl, rfl, HTX2, HA2⟩ := hrel
          by_cases hjn : j < mk
          · obtain ⟨kb, ko, hAK, hck⟩ := HKI.out j (by rw [HKL.out]; exact hjn)
            have hckw := (HTX2.out.below.cell (p := ⟨kb, ko + j, none⟩) (World.block_lt_of_cell? w _ hck)).trans hck
            have HNJ := Lib.hid (HNK.out j hjn)
            have HTK := Lib.hid (show keep.take (j + 1) = keep.take j ++ [keep.getD j 0] by
              have hjl : j < keep.length := by rw [HKL.out]; exact hjn
              rw [List.take_succ_eq_append_getElem hjl, List.getD_eq_getElem?_getD, List.getElem?_eq_getElem hjl]; rfl)
            generalize keep.getD j 0 = x at *
            have HACC2 := Lib.hid (show acc2.length ≤ 10000000 by
              rw [HA2.out, List.length_append, List.length_map, List.length_take]
              have := HACL.out; have := HN3.out; have := HKM.out
              omega)
            have HX9 := Lib.hid hAK
            have hlt : (j : Int) < (mk : Int) := by omega
            have hge : (0 : Int) ≤ (j : Int) := by omega
            have hnl : ¬ (j : Int) < 0 := by omega
            have hwr : wrap64 ((j : Int) + 1) = ((j + 1 : Nat) : Int) := by have := HKM.out; rw [wrap64_eq]; omega
            clear hck
            subst hAK
            go_wp2_with (first | (go_at_call 42; (with_reducible refine (HNJ.out _ (HG.out.later HTX2.out.below)).mono ?_); rintro e4 w4 ⟨rfl, hb4⟩; have HT4 := Lib.hid (HTX2.out.later hb4); clear hb4; obtain ⟨A3, m3, c3, w9, happ, HN⟩ := HT4.out.push _ HACC2.out; replace HN := Lib.hid HN) | (at_builtin; refine app_step 35 _ _ rfl rfl rfl rfl rfl happ ?_))
            go_roundw
            case rel => exact ⟨j + 1, acc2 ++ [Lib.itoa x], A3, m3, c3, hjn, (by rw [hwr]), rfl, HN, Lib.hid (by rw [HA2.out, HTK.out]; simp)⟩
            case measure => rw [intOf_lit, intOf_lit, hwr]; omega
          · have hnlt : ¬ (j : Int) < (mk : Int) := by omega
            have HE := Lib.hid (show acc2 = acc ++ keep.map Lib.itoa by
              rw [HA2.out, List.take_of_length_le (by rw [HKL.out]; omega)])
            go_wp2
            go_roundw
            case rel => exact ⟨i + 1, acc2, A2, m2, c2, hin, rfl, HTX2, Lib.hid (by rw [HE.out, List.length_append, List.length_map, HKL.out]; have := HACL.out; have := HKM.out; omega), Lib.hid (by rw [HE.out]; exact HG2.out)⟩
            case measure =>
              simp only [World.iterPos, HTX2.out.it, HTXT.out.it]
              omega
      · obtain ⟨w2, hnx, hn2⟩ := HTXT.out.next (c := 99) (HCA.out) (by decide)
        have HTX := Lib.hid hn2
        have cf6 := hn2.cell (j := 6) (u := .int .i64 ckd) rfl
        have cf7 := hn2.cell (j := 7) (u := .string path) rfl
        have cf8 := hn2.cell (j := 8) (u := .string cto) rfl
        have cf9 := hn2.cell (j := 9) (u := .int .i64 off) rfl
        have cf10 := hn2.cell (j := 10) (u := .int .i64 cn) rfl
        have cf11 := hn2.cell (j := 11) (u := .string data) rfl
        have cf12 := hn2.cell (j := 12) (u := f64 tm) rfl
        clear hn2
        cases C with
        | none =>
          have HRN := Lib.hid (HGO.out.none HC.out H99.out)
          have HCN2 := Lib.hid (HCN.out rfl)
          go_wp2_with (go_at_call 50; (with_reducible refine (HCN2.out _ (HG.out.later HTX.out.below)).mono ?_); rintro e4 w4 ⟨rfl, hb4⟩; have HB4 := Lib.hid hb4; clear hb4)
          go_ret2
          exact LineP.none HRN.out (below_tr HTX.out.below HB4.out)
        | some l =>
          have HG2 := Lib.hid (HGO.out.step HC.out H99.out)
          have HCN2 := Lib.hid (HCS.out l rfl)
          obtain ⟨ln, hln⟩ : ∃ ln, l.length = ln := ⟨_, rfl⟩
          have HLN := Lib.hid hln
          have HCN3 : Hid (∀ W, Glob W → Calls Tryz.prog 50 #[.agg #[.int .i64 ckd, .string path, .string cto, .int .i64 off, .int .i64 cn, .string data, f64 tm]] W fun e w' => ∃ g c, e = .returned (.tuple #[.slice (some ⟨g, 0, none⟩) ln c, .bool true]) ∧ Hid (Below W.heap.size W w') ∧ Hid (ln ≤ 10) ∧ Hid (∀ i, i < l.length → w'.cell? ⟨g, 0 + i, none⟩ = some (str (l.getD i [])))) := Lib.hid fun W h => (HCN2.out W h).mono (by
            rintro e w' ⟨g, c, h1, h2, h3, h4⟩
            rw [hln] at h1 h3
            exact ⟨g, c, h1, Lib.hid h2, Lib.hid h3, Lib.hid h4⟩)
          clear hln
          go_wp2_with (first | (go_at_call 50; (with_reducible refine (HCN3.out _ (HG.out.later HTX.out.below)).mono ?_); rintro e4 w4 ⟨g4, c4, rfl, HB4, HL4, HC4⟩; have HT4 := Lib.hid (HTX.out.later HB4.out); obtain ⟨A2, m2, c2, w9, happ, HN⟩ := HT4.out.pushAll l g4 ln c4 (by have := HACL.out; have := HN3.out; have := HL4.out; have := HLN.out; omega) HLN.out.symm HC4.out; replace HN := Lib.hid HN) | (at_builtin; refine app_step 35 _ _ rfl rfl rfl rfl rfl happ ?_))
          go_roundw
          case rel => exact ⟨i + 1, acc ++ l, A2, m2, c2, hin, rfl, HN, Lib.hid (by have := HACL.out; have := HL4.out; have := HLN.out; rw [List.length_append]; omega), HG2⟩
          case measure =>
            simp only [World.iterPos, HN.out.it, HTXT.out.it]
            omega
    · have HRE := Lib.hid (HGO.out.done (by rw [HCL.out]; exact hin))
      have hnx := HTXT.out.ended (by rw [HSZ.out]; exact hin)
      obtain ⟨⟨hl1, hl2⟩, hl3⟩ := HRW.out acc HRE.out
      obtain ⟨g, c9, he, hc1, _, hc2, hc3⟩ := HTXT.out.own.cells (fun e => hl2 (List.length_eq_zero_iff.1 e))
      have HJ := Lib.hid (joined_any acc g c9 wr hc3 hc2 hl1 hc1 hl3)
      rw [← he] at HJ
      clear hl1 hl2 hl3 he hc1 hc2 hc3
      go_wp2_with (go_at_call 51; (with_reducible refine HJ.out.mono ?_); rintro e4 w4 ⟨rfl, hb4⟩; have HB4 := Lib.hid hb4; clear hb4)
      go_ret2
      exact LineP.some HRE.out (below_tr HTXT.out.below HB4.out)
theorem script_text (s : StepR) (AK : Option Addr) (mk ck : Nat) (w : World) (hf : s.Fine) (hm : s.Small) (hk : s.keep.length = mk) (hk2 : mk ≤ 100000) (hK : IntsAt w AK s.keep) (hg : Glob w) : Calls Tryz.prog 28 #[.agg #[.int .i64 s.kind, .int .i64 s.rep, .string s.vol, .string s.dst, .int .i64 s.n, .slice AK mk ck, .int .i64 s.ck, .string s.path, .string s.cto, .int .i64 s.off, .int .i64 s.cn, .string s.data, f64 s.time]] w (LineP (textW s) w) := by
  cases hfm : formAt stepF s.kind with
  | none =>
    have e : textW s = none := by unfold textW; rw [hfm]
    rw [e]
    refine stext_bad s.kind ?_ _ _ _ _ _ _ _ _ _ _ _ _ _ _ w
    unfold formAt at hfm
    split at hfm
    · left; assumption
    · right
      rw [List.getElem?_eq_none_iff] at hfm
      have : stepF.length = 13 := rfl
      omega
  | some x =>
    obtain ⟨i, hki, hi, hx⟩ := formAt_some hfm
    obtain ⟨cw, cs⟩ := x
    rw [hki]
    refine stext_main i (textW s) _ _ _ _ s.keep AK mk ck _ _ _ _ _ _ _ w (Lib.hid hi) (fldS s) cw cs (Lib.hid hx) _ _ (Lib.hid fun W => told_of_ret (word_any _ W hm.vol)) (Lib.hid fun W => told_of_ret (word_any _ W hm.dst)) _ _ (Lib.hid fun W h => itoa_any _ W hf.rep h) (Lib.hid fun W h => itoa_any _ W hf.n h)
      (Lib.hid fun j hj W h => itoa_any _ W (hf.keep _ (by
        rw [List.getD_eq_getElem?_getD, List.getElem?_eq_getElem (by omega)]
        exact List.getElem_mem _)) h) (Lib.hid hk) (Lib.hid hk2) (Lib.hid hK) (calledL s) (Lib.hid fun h W hW => called_none s hf hm h W hW) (Lib.hid fun l h W hW => called_some s hf hm l h W hW)
      (Lib.hid (by simp [fldS])) (Lib.hid (by simp [fldS])) (Lib.hid (by simp [fldS])) (Lib.hid (by simp [fldS])) (Lib.hid (by simp [fldS])) (Lib.hid (by simp [fldS])) (Lib.hid (by unfold textW; rw [hfm])) (Lib.hid fun l hl => by
        obtain ⟨h1, h2, h3⟩ := text_wd hf hm hl
        exact ⟨⟨by omega, h2⟩, h3⟩) (Lib.hid hg)
end Go.Proofs.YtmcooenafgihkaaGreatDoor
