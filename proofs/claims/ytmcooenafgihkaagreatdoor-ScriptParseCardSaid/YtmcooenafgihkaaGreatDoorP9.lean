/- Helper lemmas: a call's words, by the program. No condition. -/
import Derived.Test.YtmcooenafgihkaaGreatDoorP8
set_option linter.unusedSimpArgs false
set_option linter.unusedVariables false
namespace Go.Proofs.YtmcooenafgihkaaGreatDoor
open Go.RowKit

/-- Words that lie in a slice of their own. -/
theorem OwnS.cells {w : World} {B : Nat} {v : Value} {l : List Bs} (h : OwnS w B v l) (hl : ¬ l.length = 0) : ∃ g c, v = .slice (some ⟨g, 0, none⟩) l.length c ∧ l.length ≤ c ∧ B ≤ g ∧ g < w.heap.size ∧ ∀ i, i < l.length → w.cell? ⟨g, 0 + i, none⟩ = some (str (l.getD i [])) := by
  have h' := h
  unfold OwnS at h
  rw [strs_len] at h
  obtain ⟨_, ⟨_, h1⟩ | ⟨g, cap, cur, rfl, hb, h2, h3, h4, h5, h6⟩⟩ := h
  · exact absurd h1 hl
  · refine ⟨g, cap, rfl, h3, hb, (Array.getElem?_eq_some_iff.1 h2).1, fun i hi => ?_⟩
    have hu : (strs l)[i]? = some (str (l.getD i [])) := by
      unfold strs
      rw [List.getElem?_map, List.getElem?_eq_getElem hi, List.getD_eq_getElem?_getD, List.getElem?_eq_getElem hi]
      rfl
    have := World.ownsRow.cells h' (g := g) rfl i _ hu
    rw [addr_add] at this
    exact this
/-- A call's words, and whether it can be said. -/
def CalledP (R : Option (List Bs)) (w : World) (e : Ending) (w' : World) : Prop := (R = none ∧ e = .returned (.tuple #[.slice none 0 0, .bool false]) ∧ Below w.heap.size w w') ∨
  (∃ l g c, R = some l ∧ e = .returned (.tuple #[.slice (some ⟨g, 0, none⟩) l.length c, .bool true]) ∧ Below w.heap.size w w' ∧ l.length ≤ 10 ∧ ∀ i, i < l.length → w'.cell? ⟨g, 0 + i, none⟩ = some (str (l.getD i [])))
theorem called_end {R : Option (List Bs)} {W w : World} {v : Value} {acc : List Bs} (h : R = some acc) (ho : OwnS w W.heap.size v acc) (hb : Below W.heap.size W w) (hl : 1 ≤ acc.length) (hl2 : acc.length ≤ 10) : CalledP R W (.returned (.tuple #[v, .bool true])) w := by
  obtain ⟨g, c, rfl, _, _, _, h1⟩ := ho.cells (by omega)
  exact Or.inr ⟨acc, g, c, h, rfl, hb, hl2, h1⟩
set_option maxHeartbeats 8000000 in
set_option maxRecDepth 100000 in
theorem called_bad (k : Int) (hk : k < 1 ∨ 19 < k) (off cn : Int) (path cto data : ByteArray) (tm : Nat) (w : World) : Calls Tryz.prog 50 #[.agg #[.int .i64 k, .string path, .string cto, .int .i64 off, .int .i64 cn, .string data, f64 tm]] w (CalledP none w) := by
  rcases hk with hk | hk
  all_goals
    go_enter Tryz.func50, Tryz.ntmps50
    go_wp2_with (go_at_call 71; (with_reducible refine (calls_any _).mono ?_); rintro e1 w1 ⟨b, rfl, hbs, hb1, hf1⟩; have hs1 := (hb1.block w.heap.size (by simp)).trans (heap_alloc_new w _); have HB1 := Lib.hid (Below.trans (Below.alloc (Below.refl _ w) (Nat.le_refl _) _) (hb1.mono (by simp))); have c0 := cell_at (i := 0) hs1 rfl; clear hbs hb1 hf1 hs1)
    go_ret2
    exact Or.inl ⟨rfl, rfl, HB1.out⟩
set_option maxHeartbeats 8000000 in
set_option maxRecDepth 100000 in
theorem called_main (ki : Nat) (R : Option (List Bs)) (off cn : Int) (path cto data : ByteArray) (tm : Nat) (w : World) (HI : Hid (ki < 19)) (f : UInt8 → Option (List Bs)) (cw cs : Bs) (HX : Hid (callF.getD ki ([], []) = (cw, cs))) (wp wt wd : Bs)
    (HWP : Hid (∀ W, Calls Tryz.prog 26 #[.string path] W fun e w' => e = .returned (str wp) ∧ Below W.heap.size W w')) (HWT : Hid (∀ W, Calls Tryz.prog 26 #[.string cto] W fun e w' => e = .returned (str wt) ∧ Below W.heap.size W w'))
    (HWD : Hid (∀ W, Calls Tryz.prog 26 #[.string data] W fun e w' => e = .returned (str wd) ∧ Below W.heap.size W w')) (no nn : Bs) (HNO : Hid (∀ W, Glob W → Calls Tryz.prog 42 #[.int .i64 off] W fun e w' => e = .returned (str no) ∧ Below W.heap.size W w')) (HNN : Hid (∀ W, Glob W → Calls Tryz.prog 42 #[.int .i64 cn] W fun e w' => e = .returned (str nn) ∧ Below W.heap.size W w'))
    (T : Option Bs) (HTM : Hid (∀ W, Glob W → Calls Tryz.prog 24 #[f64 tm] W fun e w' => e = .returned (TimeV T) ∧ Below W.heap.size W w')) (H116 : Hid (f 116 = some [wt])) (H111 : Hid (f 111 = some [no])) (H110 : Hid (f 110 = some [nn])) (H100 : Hid (f 100 = some [wd])) (H115 : Hid (f 115 = T.map fun t => [t])) (HR : Hid (R = (flds f cs).map fun l => cw :: wp :: l)) (HG : Hid (Glob w)) :
    Calls Tryz.prog 50 #[.agg #[.int .i64 ((ki : Int) + 1), .string path, .string cto, .int .i64 off, .int .i64 cn, .string data, f64 tm]] w (CalledP R w) := by
  have hk0 : wrap64 ((ki : Int) + 1 - 1) = (ki : Int) := by have := HI.out; rw [wrap64_eq]; omega
  have hiw : IntKind.i64.wrap (ki : Int) = (ki : Int) := by have := HI.out; rw [IntWalk.i64_left, wrap64_eq]; omega
  have hk1 : ¬ (ki : Int) + 1 < 1 := by omega
  have hk2 : ¬ 19 < (ki : Int) + 1 := by have := HI.out; omega
  have hd1 : decide ((ki : Int) + 1 < 1) = false := decide_eq_false hk1
  have hd2 : decide (19 < (ki : Int) + 1) = false := decide_eq_false hk2
  have hk3 : ¬ (ki : Int) < 0 := by omega
  have hk4 : (ki : Int) < 19 := by have := HI.out; omega
  go_enter Tryz.func50, Tryz.ntmps50
  go_wp2_with (go_at_call 71; (with_reducible refine (calls_any _).mono ?_); rintro e1 w1 ⟨b, rfl, hbs, hb1, hf1⟩; have hs1 := (hb1.block w.heap.size (by simp)).trans (heap_alloc_new w _); obtain ⟨hx1, hx2⟩ := hf1 ki HI.out; rw [HX.out] at hx1 hx2; replace hx1 : w1.cell? ⟨b, ki * 2, none⟩ = some (str cw) := hx1; replace hx2 : w1.cell? ⟨b, ki * 2 + 1, none⟩ = some (str cs) := hx2; have HB1 := Lib.hid (Below.trans (Below.alloc (Below.refl _ w) (Nat.le_refl _) _) (hb1.mono (by simp))); have HS1 := Lib.hid hs1; have c0 := cell_at (i := 0) hs1 rfl; have c1 := cell_at (i := 1) hs1 rfl; have l0 := leB_of_cell c0; have l1 := leB_of_cell hx1; clear hbs hb1 hf1 hs1)
  obtain ⟨args, hargs⟩ : ∃ args : ByteArray, args = ⟨cs.toArray⟩ := ⟨_, rfl⟩
  have HARGS := Lib.hid hargs
  replace hx2 : w1.cell? ⟨b, ki * 2 + 1, none⟩ = some (.string args) := hargs ▸ hx2
  clear hargs
  refine wp_region_mix [(0, true), (1, true), (2, true), (3, true), (4, true), (5, true), (6, true), (7, true), (8, true), (9, false), (10, false), (11, true)] (by kernel_rfl) (by kernel_rfl) rfl (by kernel_rfl) (by intro _ _ d _ _ h; cases d <;> exact h) ?_; intro j1; (repeat (first | (refine wpMix_skipK rfl rfl ?_; intro K hK; go_simp; refine hK _ ?_; clear hK K) | (refine wpMix_light rfl rfl ?_; intro K hK; go_simp; refine hK _ ?_; clear hK K) | (refine wpMix_heavy rfl rfl ?_; intro K hK; go_wp2_with ((go_at_call 26; (with_reducible refine (HWP.out _).mono ?_); rintro e3 w3 ⟨rfl, hb3⟩; have hb13 : Below w1.heap.size w1 w3 := below_tr (w_ext_below _ _) hb3; have hz13 : w1.heap.size ≤ w3.heap.size := hb13.size; have HB3 := Lib.hid hb13; clear hb3)); refine ⟨w_ext_of_below (by (repeat' (first | (with_reducible exact Below.refl _ _) | (with_reducible assumption) | (with_reducible exact below_app _ _ _ _) | (with_reducible refine below_pre ?_; (simp only [List.append_assoc, List.prefix_append, List.prefix_refl, List.prefix_append_right_inj])) | (with_reducible refine Below.alloc ?_ ?_ _) | (with_reducible refine below_ext ?_ ?_ _) | (with_reducible refine Below.drew ?_) | (with_reducible refine below_drewN ?_ _) | (with_reducible refine Below.setCell ?_ ?_ _) | go_size | (simp only [w_size_ext, List.length_append, World.alloc_size]; omega) | (simp; done) | (simp; omega)))), ?_⟩))); refine wpMix_nil ?_
  have d0 := (HB3.out.cell (p := ⟨w.heap.size, 0, none⟩) (World.block_lt_of_cell? w1 _ c0)).trans c0
  have d2 := (HB3.out.cell (p := ⟨b, ki * 2 + 1, none⟩) (World.block_lt_of_cell? w1 _ hx2)).trans hx2
  have m0 := leB_of_cell d0
  have m1 := leB_of_cell d2
  have HTXT0 : Hid (Txt w w.heap.size (w3.heap.size + 1) #[.int .i64 ((ki : Int) + 1), .string path, .string cto, .int .i64 off, .int .i64 cn, .string data, f64 tm] 31 args 0 (.slice (some ⟨w3.heap.size, 0, none⟩) 2 2) [cw, wp] ((w3.alloc (.cells #[str cw, str wp] 9)).iter args 0)) := Lib.hid (by
    have hs3 := (HB3.out.block w.heap.size (Array.getElem?_eq_some_iff.1 HS1.out).1).trans HS1.out
    have hlt := (Array.getElem?_eq_some_iff.1 hs3).1
    refine ⟨?_, ?_, ?_, ?_, by have := HB1.out.size; omega, by decide⟩
    · show ((w3.alloc _).alloc _).heap[w.heap.size]? = _
      rw [Lib.alloc_old _ _ _ (by simp; omega), Lib.alloc_old _ _ _ hlt]; exact hs3
    · have := World.iter_heap (w3.alloc (.cells #[str cw, str wp] 9)) args 0
      simpa using this
    · have h := World.ownsRow_lit (base := w.heap.size) (e := 9) (size := 1) w3 #[str cw, str wp] 2 (by have := HB1.out.size; omega) (by decide) (by rfl)
      exact h.alloc _
    · exact Below.alloc (Below.alloc (Below.trans HB1.out (HB3.out.mono HB1.out.size)) (by have := HB1.out.size; omega) _) (by have := HB1.out.size; simp; omega) _)
  have hsz : args.size = cs.length := by rw [HARGS.out]; rfl
  obtain ⟨n, hn⟩ : ∃ n, cs.length = n := ⟨_, rfl⟩
  have HSZ := Lib.hid (hsz.trans hn)
  have HCS := Lib.hid hn
  have HGO0 : Hid (Goes R f cs 0 [cw, wp]) := Lib.hid (by unfold Goes; rw [HR.out]; rfl)
  have HLET : Hid (∀ c ∈ cs, isC c = true) := Lib.hid (by
    have := callArgs ki HI.out
    unfold argsAt at this
    rw [HX.out] at this; exact this)
  clear hsz hn
  go_wp2
  go_loopw [5] (fun v5 wr => ∃ (i : Nat) (acc : List Bs) (A : Option Addr) (m c : Nat), i ≤ n ∧ v5 = .slice A m c ∧ Hid (Txt w w.heap.size (w3.heap.size + 1) #[.int .i64 ((ki : Int) + 1), .string path, .string cto, .int .i64 off, .int .i64 cn, .string data, f64 tm] 31 args i (.slice A m c) acc wr) ∧ Hid (acc.length = i + 2) ∧ Hid (Goes R f cs i acc)) (fun _ wr => n - wr.iterPos (w3.heap.size + 1))
  case atStart => exact ⟨0, [cw, wp], _, _, _, Nat.zero_le _, rfl, HTXT0, Lib.hid rfl, HGO0⟩
  case round =>
    obtain ⟨i, acc, A, m, c, hi, rfl, HTXT, HACL, HGO⟩ := hrel
    by_cases hin : i < n
    · obtain ⟨ch, hch⟩ : ∃ ch, cs[i]? = some ch := ⟨_, List.getElem?_eq_getElem (by rw [HCS.out]; exact hin)⟩
      have HACC := Lib.hid (show acc.length ≤ 10000000 by have := HACL.out; have := HCS.out; have hl : cs.length ≤ 100 := by
                                                            have h3 : ∀ j, j < 19 → (callF.getD j ([], [])).2.length ≤ 100 := by decide +kernel
                                                            have h4 := h3 ki HI.out
                                                            rw [HX.out] at h4; exact h4
                                                          omega)
      have hcl := (isC_iff ch).1 (HLET.out ch (List.mem_of_getElem? hch))
      have hca : args.data[i]? = some ch := by rw [HARGS.out]; simpa using hch
      have HC := Lib.hid hch
      have HCA := Lib.hid hca
      clear hch hca
      rcases hcl with rfl | rfl | rfl | rfl | rfl
      · have HG2 := Lib.hid (HGO.out.step HC.out H116.out)
        obtain ⟨w2, hnx, hn2⟩ := HTXT.out.next (c := 116) (HCA.out) (by decide)
        have HTX := Lib.hid hn2
        have cf := hn2.cell (j := 2) (u := .string cto) rfl
        clear hn2
        go_wp2_with ((first | (go_at_call 26; (with_reducible refine (HWT.out _).mono ?_); rintro e4 w4 ⟨rfl, hb4⟩; have HT4 := Lib.hid (HTX.out.later hb4); clear hb4; obtain ⟨A2, m2, c2, w9, happ, HN⟩ := HT4.out.push _ HACC.out; replace HN := Lib.hid HN) | (at_builtin; refine app_step 35 _ _ rfl rfl rfl rfl rfl happ ?_)))
        go_roundw
        case rel => exact ⟨i + 1, acc ++ [wt], A2, m2, c2, hin, rfl, HN, Lib.hid (by rw [List.length_append, HACL.out]; simp), HG2⟩
        case measure =>
          simp only [World.iterPos, HN.out.it, HTXT.out.it]
          omega
      · have HG2 := Lib.hid (HGO.out.step HC.out H111.out)
        obtain ⟨w2, hnx, hn2⟩ := HTXT.out.next (c := 111) (HCA.out) (by decide)
        have HTX := Lib.hid hn2
        have cf := hn2.cell (j := 3) (u := .int .i64 off) rfl
        clear hn2
        go_wp2_with ((first | (go_at_call 42; (with_reducible refine (HNO.out _ (HG.out.later HTX.out.below)).mono ?_); rintro e4 w4 ⟨rfl, hb4⟩; have HT4 := Lib.hid (HTX.out.later hb4); clear hb4; obtain ⟨A2, m2, c2, w9, happ, HN⟩ := HT4.out.push _ HACC.out; replace HN := Lib.hid HN) | (at_builtin; refine app_step 35 _ _ rfl rfl rfl rfl rfl happ ?_)))
        go_roundw
        case rel => exact ⟨i + 1, acc ++ [no], A2, m2, c2, hin, rfl, HN, Lib.hid (by rw [List.length_append, HACL.out]; simp), HG2⟩
        case measure =>
          simp only [World.iterPos, HN.out.it, HTXT.out.it]
          omega
      · have HG2 := Lib.hid (HGO.out.step HC.out H110.out)
        obtain ⟨w2, hnx, hn2⟩ := HTXT.out.next (c := 110) (HCA.out) (by decide)
        have HTX := Lib.hid hn2
        have cf := hn2.cell (j := 4) (u := .int .i64 cn) rfl
        clear hn2
        go_wp2_with ((first | (go_at_call 42; (with_reducible refine (HNN.out _ (HG.out.later HTX.out.below)).mono ?_); rintro e4 w4 ⟨rfl, hb4⟩; have HT4 := Lib.hid (HTX.out.later hb4); clear hb4; obtain ⟨A2, m2, c2, w9, happ, HN⟩ := HT4.out.push _ HACC.out; replace HN := Lib.hid HN) | (at_builtin; refine app_step 35 _ _ rfl rfl rfl rfl rfl happ ?_)))
        go_roundw
        case rel => exact ⟨i + 1, acc ++ [nn], A2, m2, c2, hin, rfl, HN, Lib.hid (by rw [List.length_append, HACL.out]; simp), HG2⟩
        case measure =>
          simp only [World.iterPos, HN.out.it, HTXT.out.it]
          omega
      · have HG2 := Lib.hid (HGO.out.step HC.out H100.out)
        obtain ⟨w2, hnx, hn2⟩ := HTXT.out.next (c := 100) (HCA.out) (by decide)
        have HTX := Lib.hid hn2
        have cf := hn2.cell (j := 5) (u := .string data) rfl
        clear hn2
        go_wp2_with ((first | (go_at_call 26; (with_reducible refine (HWD.out _).mono ?_); rintro e4 w4 ⟨rfl, hb4⟩; have HT4 := Lib.hid (HTX.out.later hb4); clear hb4; obtain ⟨A2, m2, c2, w9, happ, HN⟩ := HT4.out.push _ HACC.out; replace HN := Lib.hid HN) | (at_builtin; refine app_step 35 _ _ rfl rfl rfl rfl rfl happ ?_)))
        go_roundw
        case rel => exact ⟨i + 1, acc ++ [wd], A2, m2, c2, hin, rfl, HN, Lib.hid (by rw [List.length_append, HACL.out]; simp), HG2⟩
        case measure =>
          simp only [World.iterPos, HN.out.it, HTXT.out.it]
          omega
      · obtain ⟨w2, hnx, hn2⟩ := HTXT.out.next (c := 115) (HCA.out) (by decide)
        have HTX := Lib.hid hn2
        have cf := hn2.cell (j := 6) (u := f64 tm) rfl
        clear hn2
        cases T with
        | none =>
          have HRN := Lib.hid (HGO.out.none HC.out H115.out)
          replace HTM : Hid (∀ W, Glob W → Calls Tryz.prog 24 #[f64 tm] W fun e w' => e = .returned (.tuple #[.string ⟨#[]⟩, .bool false]) ∧ Below W.heap.size W w') := HTM
          go_wp2_with (go_at_call 24; (with_reducible refine (HTM.out _ (HG.out.later HTX.out.below)).mono ?_); rintro e4 w4 ⟨rfl, hb4⟩; have HB4 := Lib.hid hb4; clear hb4)
          go_ret2
          exact Or.inl ⟨HRN.out, rfl, below_tr HTX.out.below HB4.out⟩
        | some t =>
          have HG2 := Lib.hid (HGO.out.step HC.out H115.out)
          replace HTM : Hid (∀ W, Glob W → Calls Tryz.prog 24 #[f64 tm] W fun e w' => e = .returned (.tuple #[str t, .bool true]) ∧ Below W.heap.size W w') := HTM
          go_wp2_with (first | (go_at_call 24; (with_reducible refine (HTM.out _ (HG.out.later HTX.out.below)).mono ?_); rintro e4 w4 ⟨rfl, hb4⟩; have HT4 := Lib.hid (HTX.out.later hb4); clear hb4; obtain ⟨A2, m2, c2, w9, happ, HN⟩ := HT4.out.push t HACC.out; replace HN := Lib.hid HN) | (at_builtin; refine app_step 35 _ _ rfl rfl rfl rfl rfl happ ?_))
          go_roundw
          case rel => exact ⟨i + 1, acc ++ [t], A2, m2, c2, hin, rfl, HN, Lib.hid (by rw [List.length_append, HACL.out]; simp), HG2⟩
          case measure =>
            simp only [World.iterPos, HN.out.it, HTXT.out.it]
            omega
    · have HRE := Lib.hid (HGO.out.done (by rw [HCS.out]; exact hin))
      have hnx := HTXT.out.ended (by rw [HSZ.out]; exact hin)
      go_wp2
      go_ret2
      exact called_end HRE.out HTXT.out.own HTXT.out.below (by rw [HACL.out]; omega) (by rw [HACL.out]; have h3 : ∀ j, j < 19 → (callF.getD j ([], [])).2.length ≤ 8 := (by decide +kernel); have h4 := h3 ki HI.out; rw [HX.out] at h4; have := HCS.out; simp only at h4; omega)
theorem called_any (s : StepR) (w : World) (hf : s.Fine) (h1 : s.path.size ≤ 30000000) (h2 : s.cto.size ≤ 30000000) (h3 : s.data.size ≤ 30000000) (hg : Glob w) : Calls Tryz.prog 50 #[.agg #[.int .i64 s.ck, .string s.path, .string s.cto, .int .i64 s.off, .int .i64 s.cn, .string s.data, f64 s.time]] w (CalledP (calledL s) w) := by
  cases hfm : formAt callF s.ck with
  | none =>
    have e : calledL s = none := by unfold calledL; rw [hfm]
    rw [e]
    refine called_bad s.ck ?_ _ _ _ _ _ _ w
    unfold formAt at hfm
    split at hfm
    · left; assumption
    · right
      rw [List.getElem?_eq_none_iff] at hfm
      have : callF.length = 19 := rfl
      omega
  | some x =>
    obtain ⟨i, hk, hi, hx⟩ := formAt_some hfm
    obtain ⟨cw, cs⟩ := x
    rw [hk]
    refine called_main i (calledL s) _ _ _ _ _ _ w (Lib.hid hi) (fldC s) cw cs (Lib.hid hx) _ _ _ (Lib.hid fun W => told_of_ret (word_any _ W h1)) (Lib.hid fun W => told_of_ret (word_any _ W h2)) (Lib.hid fun W => told_of_ret (word_any _ W h3)) _ _ (Lib.hid fun W h => itoa_any _ W hf.off h) (Lib.hid fun W h => itoa_any _ W hf.cn h)
      _ (Lib.hid fun W h => time_any _ hf.time W h) (Lib.hid (by simp [fldC])) (Lib.hid (by simp [fldC])) (Lib.hid (by simp [fldC])) (Lib.hid (by simp [fldC])) (Lib.hid (by simp [fldC])) (Lib.hid (by unfold calledL; rw [hfm])) (Lib.hid hg)
end Go.Proofs.YtmcooenafgihkaaGreatDoor
