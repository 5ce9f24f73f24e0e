/- Helper lemmas: names.Split at every text. No condition. -/
import Derived.Test.YtaingleopdnkiaaDoorA4
import Derived.Test.YtaingleopdnkiaaDoorB1
import Derived.Lib.SplitLaws
set_option linter.unusedSimpArgs false
set_option linter.unusedVariables false
namespace Go.Proofs.YtaingleopdnkiaaDoor
open Go.RowKit

/-- The pieces between slashes. -/
def cutL (s : ByteArray) : List ByteArray := Lib.splitB ⟨#[47]⟩ 0 (Lib.countB s ⟨#[47]⟩) s
/-- The first of these that is no name. -/
def badE : List ByteArray → Int
  | [] => 0
  | x :: l => if goodE x = 0 then badE l else goodE x
/-- What a path is split into. -/
def splitR (s : ByteArray) : List ByteArray × Int :=
  if (s.size : Int) > 120 then ([], 36) else if s.toList = ([] : List UInt8) then ([], 22) else if ¬ ((s.data[0]?.getD 0).toNat : Int) = 47 then ([], 22) else if s.toList = ([47] : List UInt8) then ([], 0) else
  if ((cutL (s.extract 1 s.size)).length : Int) > 8 then ([], 36) else if badE (cutL (s.extract 1 s.size)) = 0 then (cutL (s.extract 1 s.size), 0) else ([], badE (cutL (s.extract 1 s.size)))
theorem cut_len (s : ByteArray) : (cutL s).length = Lib.countB s ⟨#[47]⟩ + 1 := Lib.splitB_all _ (by decide) 0 _ s rfl
/-- Texts that were laid anew. -/
def CutP (l : List ByteArray) (w : World) : Ending → World → Prop := fun e w' => ∃ (b : Nat), e = .returned (.slice (some ⟨b, 0, none⟩) l.length l.length) ∧ Hid (Below w.heap.size w w') ∧ Hid (StrsAt w' (some ⟨b, 0, none⟩) l)
theorem cut_any (s : ByteArray) (m : Int) (w : World) (hs : s.size < 4294967281) (hm : w.cell? ⟨0, 0, none⟩ = some (.int .i64 m)) : Calls Tryd.prog 31 #[.string s, .string ⟨#[47]⟩] w (CutP (cutL s) w) := by
  refine (Tryd.strings_Split s ⟨#[47]⟩ m w hs hm (by decide)).mono ?_
  rintro e w' ⟨rfl, rfl⟩
  refine ⟨w.heap.size, by rw [cut_len], Lib.hid (Below.alloc (Below.refl _ _) (Nat.le_refl _) _), Lib.hid fun i hi => ⟨w.heap.size, 0, rfl, ?_⟩⟩
  have hi' : i < (Lib.splitB ⟨#[47]⟩ 0 (Lib.countB s ⟨#[47]⟩) s).length := hi
  simp [go_sem, cutL, hi']
/-- What a slice of names and an error are. -/
def TellP (r : List ByteArray × Int) (w : World) : Ending → World → Prop := fun e w' => ∃ (A : Option Addr) (j : Junk), e = .returned (.tuple #[.slice A r.1.length r.1.length, .int .i64 r.2]) ∧ w' = wext w j ∧ Hid (StrsAt w' A r.1) ∧ Hid (A = none → r.1.length = 0)
theorem TellP.none {w w' : World} {v : Value} (r : List ByteArray × Int) (x : Int) (hr : r = ([], x)) (he : v = .tuple #[.slice none 0 0, .int .i64 x]) (hb : Below w.heap.size w w') : TellP r w (.returned v) w' := by
  obtain ⟨j, hj⟩ := w_grown hb
  subst hr; subst he
  exact ⟨Option.none, j, rfl, hj, Lib.hid fun i hi => by simp at hi, Lib.hid fun _ => rfl⟩
theorem below_two {w w1 : World} (h : Below w.heap.size w w1) (j : Junk) : Below w.heap.size w (wext w1 j) := by
  obtain ⟨j1, rfl⟩ := w_grown h
  rw [w_ext_ext]
  exact w_ext_below _ _
theorem badE_step (l : List ByteArray) (i : Nat) (hi : i < l.length) : badE (l.drop i) = if goodE (l.getD i ByteArray.empty) = 0 then badE (l.drop (i + 1)) else goodE (l.getD i ByteArray.empty) := by
  rw [List.drop_eq_getElem_cons hi, badE, List.getD_eq_getElem?_getD, List.getElem?_eq_getElem hi]
  rfl
theorem first_eq (s : ByteArray) (h : 0 < s.size) : s.data[0]?.getD 0 = s[0]'h := by
  have h' : 0 < s.data.size := h
  rw [Array.getElem?_eq_getElem h']
  rfl

set_option maxHeartbeats 2000000 in
set_option maxRecDepth 100000 in
theorem split_any (s : ByteArray) (m : Int) (w : World) (hm : w.cell? ⟨0, 0, none⟩ = some (.int .i64 m)) : Calls Tryd.prog 19 #[.string s] w (TellP (splitR s) w) := by
  obtain ⟨r, hr⟩ : ∃ r, splitR s = r := ⟨_, rfl⟩
  rw [hr]
  by_cases h120 : 120 < (s.size : Int)
  · rw [splitR, if_pos h120] at hr
    go_enter Tryd.func19, Tryd.ntmps19
    go_wp2
    go_ret2
    exact TellP.none r 36 hr.symm rfl (Below.refl _ _)
  rcases Nat.eq_zero_or_pos s.size with hz | hpos
  · obtain rfl : s = ⟨#[]⟩ := ByteArray.ext (Array.eq_empty_of_size_eq_zero hz)
    have hr' := Lib.hid (show r = ([], 22) from hr.symm.trans (by decide +kernel))
    clear hr hm
    go_enter Tryd.func19, Tryd.ntmps19
    go_wp2
    go_ret2
    exact TellP.none r 22 hr'.out rfl (Below.refl _ _)
  have hne : ¬ s.toList = [] := fun e => by
    have h1 : s.data.toList = [] := by rw [← ByteArray.toList_eq]; exact e
    have h2 := congrArg List.length h1
    rw [Array.length_toList, List.length_nil] at h2
    exact absurd h2 (Nat.ne_of_gt hpos)
  rw [splitR, if_neg h120, if_neg hne, first_eq s hpos] at hr
  have hemp : s.toList.isEmpty = false := by simpa using hne
  by_cases h47 : ((s[0]'hpos).toNat : Int) = 47
  case neg =>
    rw [if_pos h47] at hr
    go_enter Tryd.func19, Tryd.ntmps19
    go_wp2
    go_ret2
    exact TellP.none r 22 hr.symm rfl (Below.refl _ _)
  rw [if_neg (fun h => h h47)] at hr
  by_cases hroot : s.toList = [47]
  · rw [if_pos hroot] at hr
    have hbeq : (s.toList == [47]) = true := by simpa using hroot
    go_enter Tryd.func19, Tryd.ntmps19
    go_wp2
    go_ret2
    exact TellP.none r 0 hr.symm rfl (Below.refl _ _)
  rw [if_neg hroot] at hr
  have hbeq : (s.toList == [47]) = false := by simpa using hroot
  have HC := Lib.hid (cut_any (s.extract 1 s.size) m w (by rw [ByteArray.size_extract]; omega) hm)
  have hlen := cut_len (s.extract 1 s.size)
  generalize cutL (s.extract 1 s.size) = l at *
  obtain ⟨n, hn⟩ : ∃ n, l.length = n := ⟨_, rfl⟩
  have HN := Lib.hid hn
  rw [hn] at hr
  have HR := Lib.hid hr
  clear hr hn hlen
  go_enter Tryd.func19, Tryd.ntmps19
  go_wp2_with (go_at_call 31; (with_reducible refine HC.out.mono ?_); rintro e1 w1 ⟨b, rfl, HW, HB⟩; rw [HN.out])
  · go_ret2
    exact TellP.none r 36 (by rw [← HR.out, if_pos (show (n : Int) > 8 by omega)]) rfl HW.out
  have hR8 := Lib.hid (show (if badE l = 0 then (l, 0) else ([], badE l)) = r by rw [← HR.out, if_neg (show ¬ ((n : Int) > 8) by omega)])
  clear HR HC hm
  go_loopw [28] (fun v28 wr => ∃ (i : Nat) (j : Junk), i ≤ n ∧ v28 = .int .i64 (i : Int) ∧ wr = wext w1 j ∧ Hid (badE l = badE (l.drop i))) (fun i _ => ((n : Int) - intOf i).toNat)
  case atStart => exact ⟨0, ⟨[], _⟩, Nat.zero_le _, rfl, wext_same _, Lib.hid rfl⟩
  case round =>
    obtain ⟨i, j, hi, rfl, rfl, HE⟩ := hrel
    by_cases h0 : i = n
    · subst h0
      have hb0 : badE l = 0 := by rw [HE.out, ← HN.out, List.drop_length]; rfl
      have hr := Lib.hid (show r = (l, 0) by rw [← hR8.out, if_pos hb0])
      clear hb0
      go_wp2
      go_ret2
      refine ⟨some ⟨b, 0, Option.none⟩, ?_⟩
      rw [hr.out, HN.out]
      obtain ⟨j2, hj2⟩ := w_grown (below_two HW.out j)
      exact ⟨j2, rfl, hj2, Lib.hid (HB.out.later (w_ext_below _ _)), Lib.hid fun h => by cases h⟩
    · have hlt : (i : Int) < (n : Int) := by omega
      have hli : i < l.length := by rw [HN.out]; omega
      obtain ⟨b', o', eA, hc⟩ := HB.out i hli
      obtain ⟨rfl, rfl⟩ : b' = b ∧ o' = 0 := by injection eA with eA; injection eA with e1 e2; exact ⟨e1.symm, e2.symm⟩
      clear eA
      rw [Nat.zero_add] at hc
      have HS := Lib.hid (badE_step l i hli)
      clear hli
      have hlb := leB_of_cell hc
      have hge : (0 : Int) ≤ (i : Int) := by omega
      have hnl : ¬ (i : Int) < 0 := by omega
      have hwr : wrap64 ((i : Int) + 1) = ((i + 1 : Nat) : Int) := by rw [wrap64_eq]; omega
      generalize l.getD i ByteArray.empty = q at *
      obtain ⟨g, hg⟩ : ∃ g, goodE q = g := ⟨_, rfl⟩
      have HG := Lib.hid hg
      clear hg
      by_cases hq : g = 0
      · subst hq
        have HE2 : Hid (badE l = badE (l.drop (i + 1))) := Lib.hid (by rw [HE.out, HS.out, if_pos HG.out])
        go_wp2_with (go_at_call 16; (with_reducible refine (good_any q _).mono ?_); rintro e1 w2 ⟨rfl, j1, rfl⟩; rw [HG.out])
        go_roundw
        case rel => exact ⟨i + 1, _, by omega, by first | rfl | rw [hwr], by first | rfl | exact w_ext_ext _ _ _, HE2⟩
        case measure => first | (simp [intOf]; omega) | (rw [intOf_lit, intOf_lit, hwr]; exact meas_step _ _ hlt)
      · have hbg : badE l = g := by rw [HE.out, HS.out, HG.out, if_neg hq]
        have hr := Lib.hid (show r = ([], g) by rw [← hR8.out, hbg, if_neg hq])
        clear hbg
        go_wp2_with (go_at_call 16; (with_reducible refine (good_any q _).mono ?_); rintro e1 w2 ⟨rfl, j1, rfl⟩; rw [HG.out])
        go_ret2
        exact TellP.none r g hr.out rfl (by first | exact below_two HW.out _ | (rw [w_ext_ext]; exact below_two HW.out _))
end Go.Proofs.YtaingleopdnkiaaDoor
