/- Helper lemmas: names.Join at every list of names. No condition. -/
import Derived.Test.YtaingleopdnkiaaDoorE1
set_option linter.unusedSimpArgs false
set_option linter.unusedVariables false
namespace Go.Proofs.YtaingleopdnkiaaDoor
open Go.RowKit

/-- Bytes as a text. -/
def bsL (l : List UInt8) : ByteArray := ⟨l.toArray⟩
/-- Each name behind a slash. -/
def pathT (l : List ByteArray) : ByteArray := bsL (Lib.joinTail [47] (l.map (·.data.toList)))
/-- What names are joined to. -/
def joinR (l : List ByteArray) : ByteArray × Int :=
  if (l.length : Int) > 8 then (⟨#[]⟩, 36) else if l = [] then (⟨#[47]⟩, 0) else
  if (splitR (pathT l)).2 = 0 then (if (splitR (pathT l)).1 = l then (pathT l, 0) else (⟨#[]⟩, 22)) else (⟨#[]⟩, (splitR (pathT l)).2)
theorem lens_tot (l : List ByteArray) : Lib.lens (l.map (·.data.toList)) = totL l := by
  unfold Lib.lens totL
  rw [List.map_map]
  congr 1
theorem totL_le (l : List ByteArray) (m : Nat) : totL (l.take m) ≤ totL l := by
  rw [← lens_tot, ← lens_tot, List.map_take]
  exact Lib.lens_take_le _ _
theorem join_size (l : List ByteArray) : (Lib.join (l.map (·.data.toList)) [47]).length ≤ totL l + l.length := by
  rcases l with _ | ⟨x, r⟩
  · simp [Lib.join_nil]
  · rw [List.map_cons, Lib.join_length, ← List.map_cons (f := fun x : ByteArray => x.data.toList), lens_tot]
    simp
    omega
theorem pathT_size (l : List ByteArray) : (pathT l).size = totL l + l.length := by
  show (Lib.joinTail [47] (l.map (·.data.toList))).toArray.size = _
  rw [List.size_toArray, Lib.joinTail_length, lens_tot]
  simp
  omega
theorem slash_join (l : List ByteArray) (h : l ≠ []) : (⟨#[47]⟩ : ByteArray) ++ ⟨(Lib.join (l.map (·.data.toList)) [47]).toArray⟩ = pathT l := by
  rcases l with _ | ⟨x, r⟩
  · exact absurd rfl h
  apply ByteArray.ext
  rw [ByteArray.data_append]
  apply Array.toList_inj.1
  show _ = (Lib.joinTail [47] ((x :: r).map (·.data.toList))).toArray.toList
  rw [Array.toList_append, List.map_cons, Lib.join_cons, Lib.joinTail, Lib.joinTail]
  simp
theorem goodE_err (s : ByteArray) : goodE s = 0 ∨ goodE s = 22 ∨ goodE s = 36 := by
  rw [goodE_eq]
  (repeat' split) <;> simp
theorem badE_err : ∀ l : List ByteArray, badE l = 0 ∨ badE l = 22 ∨ badE l = 36
  | [] => Or.inl rfl
  | x :: l => by
    rw [badE]
    split
    · exact badE_err l
    · exact goodE_err x
theorem split_err (s : ByteArray) : (splitR s).2 = 0 ∨ (splitR s).2 = 22 ∨ (splitR s).2 = 36 := by
  unfold splitR
  (repeat' split) <;> first | (simp; done) | exact badE_err _
set_option maxHeartbeats 2000000 in
set_option maxRecDepth 100000 in
theorem join_many (A : Option Addr) (c n : Nat) (l : List ByteArray) (w : World) (hA : StrsAt w A l) (hn : l.length = n) (h8 : 8 < n) (hc : n ≤ c) (hcm : c ≤ maxLen) (ht : totL l ≤ 5000) : Calls Tryd.prog 26 #[.slice A n c] w (Ret (.tuple #[.string ⟨#[]⟩, .int .i64 36]) w) := by
  obtain ⟨b, o, rfl, _⟩ := hA 0 (by omega)
  have hA9 := hA.take 9
  have hlen : (l.take 9).length = 9 := by rw [List.length_take]; omega
  have HJ := Tryd.strings_Join b o c (l.take 9) ⟨#[47]⟩ w (fun j x hx => by
    have hj : j < (l.take 9).length := by
      rw [List.getElem?_eq_some_iff] at hx
      exact hx.1
    obtain ⟨b', o', e, h⟩ := hA9 j hj
    injection e with e
    injection e with e1 e2
    subst e1; subst e2
    rw [h, List.getD_eq_getElem?_getD, hx]
    rfl) (by
    obtain ⟨b', o', e, h⟩ := hA 0 (by omega)
    injection e with e
    injection e with e1 e2
    subst e1
    exact World.block_lt_of_cell? w _ h) (by omega) (by omega) (by
    have h1 := join_size (l.take 9)
    have h2 := totL_le l 9
    show (Lib.join ((l.take 9).map (·.data.toList)) [47]).length ≤ _
    omega)
  have hsz := join_size (l.take 9)
  have htk := totL_le l 9
  rw [hlen] at HJ hsz
  replace HJ := Lib.hid HJ
  obtain ⟨t, ht2⟩ : ∃ t : ByteArray, (⟨(Lib.join ((l.take 9).map (·.data.toList)) [47]).toArray⟩ : ByteArray) = t := ⟨_, rfl⟩
  have HT := Lib.hid ht2
  have hts : t.size ≤ 6000 := by
    rw [← ht2]
    show (Lib.join ((l.take 9).map (·.data.toList)) [47]).toArray.size ≤ _
    rw [List.size_toArray]
    omega
  have hadd : ¬ 9223372036854775807 < 1 + t.size := by omega
  have h9 : (8 : Int) < (n : Int) := by omega
  have h9c : ¬ (c : Int) < 9 := by omega
  have h9d : (9 : Int) ≤ (c : Int) := by omega
  have hmin : min (n : Int) 9 = 9 := by omega
  simp only [maxLen] at hcm
  clear hA hA9 hlen hsz htk ht ht2
  go_enter Tryd.func26, Tryd.ntmps26
  go_wp2_with (go_at_call 32; (with_reducible refine HJ.out.mono ?_); rintro e1 w1 ⟨rfl, HB⟩; rw [show (⟨(Lib.join ((l.take 9).map (·.data.toList)) (ByteArray.data ⟨#[47]⟩).toList).toArray⟩ : ByteArray) = t from HT.out]; replace HB := Lib.hid HB)
  go_ret2
  exact Ret.mk rfl HB.out
set_option maxHeartbeats 2000000 in
set_option maxRecDepth 100000 in
theorem join_none (A : Option Addr) (c : Nat) (m : Int) (w : World) (hm : w.cell? ⟨0, 0, none⟩ = some (.int .i64 m)) (hcm : c ≤ maxLen) : Calls Tryd.prog 26 #[.slice A 0 c] w (Ret (.tuple #[.string ⟨#[47]⟩, .int .i64 0]) w) := by
  have HJ := Lib.hid (Tryd.strings_Join_none A c ⟨#[47]⟩ w)
  have HS := Lib.hid (show Calls Tryd.prog 19 #[.string ⟨#[47]⟩] w (TellP ([], 0) w) from by
    have h := split_any ⟨#[47]⟩ m w hm
    rw [show splitR ⟨#[47]⟩ = ([], 0) from by decide +kernel] at h
    exact h)
  have H24 := Lib.hid (fun (A1 A2 : Option Addr) (c1 c2 : Nat) (w' : World) => eq_m A1 A2 c1 c2 0 [] [] w' (fun i hi => by simp at hi) (fun i hi => by simp at hi) rfl rfl (by decide))
  have hmin : min (0 : Int) 9 = 0 := by decide
  simp only [maxLen] at hcm
  have hcc : (0 : Int) ≤ (c : Int) := by omega
  clear hm
  rcases A with _ | ⟨b, o, sp⟩
  all_goals
    go_enter Tryd.func26, Tryd.ntmps26
    go_wp2_with (first
      | (go_at_call 32; (with_reducible refine HJ.out.mono ?_); rintro e1 w1 ⟨rfl, rfl⟩)
      | (go_at_call 19; rw [show ((⟨#[47]⟩ : ByteArray) ++ (⟨#[]⟩ : ByteArray)) = ⟨#[47]⟩ from rfl]; (with_reducible refine HS.out.mono ?_); rintro e1 w2 ⟨A1, j1, rfl, rfl, _, _⟩)
      | (go_at_call 24; (with_reducible refine (H24.out _ _ _ _ _).mono ?_); rintro e1 w3 ⟨rfl, j3, rfl⟩))
    go_ret2
    exact Ret.mk rfl (by (repeat' (first | (with_reducible exact Below.refl _ _) | (with_reducible assumption) | (with_reducible exact below_app _ _ _ _) | (with_reducible refine below_pre ?_; (simp only [List.append_assoc, List.prefix_append, List.prefix_refl, List.prefix_append_right_inj])) | (with_reducible refine Below.alloc ?_ ?_ _) | (with_reducible refine below_ext ?_ ?_ _) | (with_reducible refine Below.drew ?_) | (with_reducible refine below_drewN ?_ _) | (with_reducible refine Below.setCell ?_ ?_ _) | go_size | (simp only [w_size_ext, List.length_append, World.alloc_size]; omega) | (simp; done) | (simp; omega))))
theorem eq_k (A B : Option Addr) (c d n m : Nat) (x y : List ByteArray) (w : World) (hA : StrsAt w A x) (hB : StrsAt w B y) (hx : x.length = n) (hy : y.length = m) (hm : n ≤ 8) : Calls Tryd.prog 24 #[.slice A n c, .slice B m d] w (Ret (.bool (decide (x = y))) w) := by
  subst hx; subst hy
  exact eq_any A B c d x y w hA hB (by simp only [maxLen]; omega)
set_option maxHeartbeats 2000000 in
set_option maxRecDepth 100000 in
theorem join_some (A : Option Addr) (c n : Nat) (l : List ByteArray) (mx : Int) (w : World) (hA : StrsAt w A l) (hn : l.length = n) (h0 : 0 < n) (h8 : n ≤ 8) (hc : n ≤ c) (hcm : c ≤ maxLen) (ht : totL l ≤ 5000) (hm : w.cell? ⟨0, 0, none⟩ = some (.int .i64 mx)) : Calls Tryd.prog 26 #[.slice A n c] w (Ret (.tuple #[.string (joinR l).1, .int .i64 (joinR l).2]) w) := by
  have hne : l ≠ [] := fun e => by rw [e] at hn; simp at hn; omega
  have hj : joinR l = if (splitR (pathT l)).2 = 0 then (if (splitR (pathT l)).1 = l then (pathT l, 0) else (⟨#[]⟩, 22)) else (⟨#[]⟩, (splitR (pathT l)).2) := by
    unfold joinR
    rw [if_neg (by omega), if_neg hne]
  obtain ⟨b, o, rfl, _⟩ := hA 0 (by omega)
  have HJ := Tryd.strings_Join b o c l ⟨#[47]⟩ w (fun j x hx => by
    have hj : j < l.length := by
      rw [List.getElem?_eq_some_iff] at hx
      exact hx.1
    obtain ⟨b', o', e, h⟩ := hA j hj
    injection e with e
    injection e with e1 e2
    subst e1; subst e2
    rw [h, List.getD_eq_getElem?_getD, hx]
    rfl) (by
    obtain ⟨b', o', e, h⟩ := hA 0 (by omega)
    injection e with e
    injection e with e1 e2
    subst e1
    exact World.block_lt_of_cell? w _ h) (by omega) (by omega) (by
    have h1 := join_size l
    show (Lib.join (l.map (·.data.toList)) [47]).length ≤ _
    omega)
  have hsz := join_size l
  have hps := pathT_size l
  have hsj := slash_join l hne
  have her := split_err (pathT l)
  have hsl := split_len (pathT l)
  have HS := Lib.hid (fun w' h => split_any (pathT l) mx w' h)
  rw [hn] at HJ hsz
  replace HJ := Lib.hid HJ
  obtain ⟨t, ht2⟩ : ∃ t : ByteArray, (⟨(Lib.join (l.map (·.data.toList)) [47]).toArray⟩ : ByteArray) = t := ⟨_, rfl⟩
  have HT := Lib.hid ht2
  rw [ht2] at hsj
  have hts : t.size ≤ 6000 := by
    rw [← ht2]
    show (Lib.join (l.map (·.data.toList)) [47]).toArray.size ≤ _
    rw [List.size_toArray]
    omega
  generalize pathT l = p at *
  generalize splitR p = r at *
  obtain ⟨k, x⟩ := r
  simp only at her hj hsl
  have HSJ := Lib.hid hsj
  have hadd : ¬ 9223372036854775807 < 1 + t.size := by omega
  have h9 : ¬ (8 : Int) < (n : Int) := by omega
  have h9c : ¬ (c : Int) < (n : Int) := by omega
  have h9d : (n : Int) ≤ (c : Int) := by omega
  have h9e : (0 : Int) ≤ (n : Int) := by omega
  have hmin : min (n : Int) 9 = (n : Int) := by omega
  have HA := Lib.hid hA
  have HN := Lib.hid hn
  have HM := Lib.hid hm
  have HJR := Lib.hid hj
  simp only [maxLen] at hcm
  clear hA hsz hps ht ht2 hsj hj hn hm hne
  by_cases hx : x = 0
  · subst hx
    by_cases hk : k = l
    · have HQ := Lib.hid (fun (A1 : Option Addr) (c1 : Nat) (w' : World) h1 h2 => eq_k A1 (some ⟨b, o, none⟩) c1 c k.length n k l w' h1 h2 rfl HN.out hsl)
      rw [decide_eq_true hk] at HQ
      have HF := Lib.hid (show joinR l = (p, 0) by rw [HJR.out, if_pos rfl, if_pos hk])
      clear hk
      go_enter Tryd.func26, Tryd.ntmps26
      go_wp2_with (first
        | (go_at_call 32; (with_reducible refine HJ.out.mono ?_); rintro e1 w1 ⟨rfl, HB⟩; rw [show (⟨(Lib.join (l.map (·.data.toList)) (ByteArray.data ⟨#[47]⟩).toList).toArray⟩ : ByteArray) = t from HT.out]; have HB1 := Lib.hid HB; have HM1 := Lib.hid (cell_kept HB HM.out); clear HB)
        | (go_at_call 19; rw [HSJ.out]; (with_reducible refine (HS.out _ HM1.out).mono ?_); rintro e1 w2 ⟨A1, j1, rfl, hw2, HK, _⟩; have HB2 := Lib.hid (below_tr HB1.out (show Below w1.heap.size w1 w2 by rw [hw2]; exact w_ext_below _ _)); clear hw2)
        | (go_at_call 24; (with_reducible refine (HQ.out _ _ _ HK.out (HA.out.later HB2.out)).mono ?_); rintro e1 w3 ⟨rfl, j3, rfl⟩))
      go_ret2
      exact Ret.mk (by rw [HF.out]; rfl) (below_two HB2.out _)
    · have HQ := Lib.hid (fun (A1 : Option Addr) (c1 : Nat) (w' : World) h1 h2 => eq_k A1 (some ⟨b, o, none⟩) c1 c k.length n k l w' h1 h2 rfl HN.out hsl)
      rw [decide_eq_false hk] at HQ
      have HF := Lib.hid (show joinR l = (⟨#[]⟩, 22) by rw [HJR.out, if_pos rfl, if_neg hk])
      clear hk
      go_enter Tryd.func26, Tryd.ntmps26
      go_wp2_with (first
        | (go_at_call 32; (with_reducible refine HJ.out.mono ?_); rintro e1 w1 ⟨rfl, HB⟩; rw [show (⟨(Lib.join (l.map (·.data.toList)) (ByteArray.data ⟨#[47]⟩).toList).toArray⟩ : ByteArray) = t from HT.out]; have HB1 := Lib.hid HB; have HM1 := Lib.hid (cell_kept HB HM.out); clear HB)
        | (go_at_call 19; rw [HSJ.out]; (with_reducible refine (HS.out _ HM1.out).mono ?_); rintro e1 w2 ⟨A1, j1, rfl, hw2, HK, _⟩; have HB2 := Lib.hid (below_tr HB1.out (show Below w1.heap.size w1 w2 by rw [hw2]; exact w_ext_below _ _)); clear hw2)
        | (go_at_call 24; (with_reducible refine (HQ.out _ _ _ HK.out (HA.out.later HB2.out)).mono ?_); rintro e1 w3 ⟨rfl, j3, rfl⟩))
      go_ret2
      exact Ret.mk (by rw [HF.out]; rfl) (below_two HB2.out _)
  · have HF := Lib.hid (show joinR l = (⟨#[]⟩, x) by rw [HJR.out, if_neg hx])
    have hx2 : max x 22 = x := by omega
    have hx3 : (x != 0) = true := by simpa using hx
    go_enter Tryd.func26, Tryd.ntmps26
    go_wp2_with (first
      | (go_at_call 32; (with_reducible refine HJ.out.mono ?_); rintro e1 w1 ⟨rfl, HB⟩; rw [show (⟨(Lib.join (l.map (·.data.toList)) (ByteArray.data ⟨#[47]⟩).toList).toArray⟩ : ByteArray) = t from HT.out]; have HB1 := Lib.hid HB; have HM1 := Lib.hid (cell_kept HB HM.out); clear HB)
      | (go_at_call 19; rw [HSJ.out]; (with_reducible refine (HS.out _ HM1.out).mono ?_); rintro e1 w2 ⟨A1, j1, rfl, hw2, HK, _⟩; have HB2 := Lib.hid (below_tr HB1.out (show Below w1.heap.size w1 w2 by rw [hw2]; exact w_ext_below _ _)); clear hw2))
    go_ret2
    exact Ret.mk (by rw [HF.out]; rfl) HB2.out
theorem join_any (A : Option Addr) (c : Nat) (l : List ByteArray) (mx : Int) (w : World) (hA : StrsAt w A l) (hc : l.length ≤ c) (hcm : c ≤ maxLen) (ht : totL l ≤ 5000) (hm : w.cell? ⟨0, 0, none⟩ = some (.int .i64 mx)) : Calls Tryd.prog 26 #[.slice A l.length c] w (Ret (.tuple #[.string (joinR l).1, .int .i64 (joinR l).2]) w) := by
  by_cases h8 : 8 < l.length
  · have e : joinR l = (⟨#[]⟩, 36) := by unfold joinR; rw [if_pos (by omega)]
    rw [e]
    exact join_many A c _ l w hA rfl h8 hc hcm ht
  by_cases h0 : 0 < l.length
  · exact join_some A c _ l mx w hA rfl h0 (by omega) hc hcm ht hm
  · obtain rfl : l = [] := List.eq_nil_of_length_eq_zero (by omega)
    have e : joinR [] = (⟨#[47]⟩, 0) := by unfold joinR; rw [if_neg (by simp), if_pos rfl]
    rw [e]
    exact join_none A c mx w hm hcm
end Go.Proofs.YtaingleopdnkiaaDoor
