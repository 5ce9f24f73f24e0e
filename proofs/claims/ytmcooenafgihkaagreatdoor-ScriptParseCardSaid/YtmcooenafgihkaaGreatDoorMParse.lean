/- The steps and lines of any text are as the document says, for all texts. -/
import Derived.Test.YtmcooenafgihkaaGreatDoorS9
import Derived.Test.YtmcooenafgihkaaGreatDoorS6
import Derived.Test.YtmcooenafgihkaaGreatDoorQ13
import Derived.Test.YtmcooenafgihkaaGreatDoorP18
import Derived.Test.YtmcooenafgihkaaGreatDoorT1
import Derived.Test.YtmcooenafgihkaaGreatDoorP19
import Derived.Test.YtmcooenafgihkaaGreatDoorP16
import Derived.Test.YtmcooenafgihkaaGreatDoorT2
import Derived.Test.YtmcooenafgihkaaGreatDoorQ23
import Derived.Test.YtmcooenafgihkaaGreatDoorQ24
import Derived.Test.YtmcooenafgihkaaGreatDoorQ26
import Derived.OwnWalk
import Derived.Test.YtmcooenafgihkaaGreatDoorL1
set_option linter.unusedSimpArgs false
set_option linter.unusedVariables false
namespace Go.Proofs.YtmcooenafgihkaaGreatDoor
section

/-- Whether a line says something. -/
def goodL (p : Bs) : Bool := match p with
  | [] => false
  | c :: _ => !(c == 35)
/-- The lines that say something, each with its number. -/
def keepL (k : Nat) : List Bs → List (Bs × Nat)
  | [] => []
  | p :: r => if goodL p = true then (p, k) :: keepL (k + 1) r else keepL (k + 1) r
theorem keep_snoc : ∀ (k : Nat) (acc : List Bs) (p : Bs), keepL k (acc ++ [p]) = keepL k acc ++ (if goodL p = true then [(p, k + acc.length)] else [])
  | k, [], p => by simp [keepL]
  | k, q :: acc, p => by
    rw [List.cons_append]
    simp only [keepL]
    rw [keep_snoc (k + 1) acc p]
    have e : k + 1 + acc.length = k + (q :: acc).length := by simp; omega
    rw [e]
    by_cases h : goodL q = true
    · rw [if_pos h, if_pos h]; rfl
    · rw [if_neg h, if_neg h]
theorem keep_len : ∀ (k : Nat) (l : List Bs), (keepL k l).length ≤ l.length
  | _, [] => Nat.le_refl _
  | k, p :: r => by
    have := keep_len (k + 1) r
    unfold keepL
    split
    · simp; omega
    · simp; omega
theorem keep_mem : ∀ (k : Nat) (l : List Bs) (x : Bs × Nat), x ∈ keepL k l → x.1 ∈ l ∧ k ≤ x.2 ∧ x.2 < k + l.length
  | _, [], _, h => by cases h
  | k, p :: r, x, h => by
    unfold keepL at h
    by_cases hg : goodL p = true
    · rw [if_pos hg] at h
      rcases List.mem_cons.1 h with rfl | h
      · exact ⟨by simp, Nat.le_refl _, by simp⟩
      · obtain ⟨h1, h2, h3⟩ := keep_mem (k + 1) r x h
        exact ⟨by simp [h1], by omega, by simp; omega⟩
    · rw [if_neg hg] at h
      obtain ⟨h1, h2, h3⟩ := keep_mem (k + 1) r x h
      exact ⟨by simp [h1], by omega, by simp; omega⟩
/-- The lines of a text. -/
def linesR (L : Bs) : List (Bs × Nat) := keepL 1 (cutC 10 L)
theorem lines_len (L : Bs) : (linesR L).length ≤ L.length + 1 := Nat.le_trans (keep_len _ _) (cutC_many 10 L)
theorem lines_mem {L : Bs} {x : Bs × Nat} (h : x ∈ linesR L) : x.1.length ≤ L.length ∧ x.2 ≤ L.length + 1 := by
  obtain ⟨h1, h2, h3⟩ := keep_mem _ _ _ h
  have := cutC_many 10 L
  exact ⟨cutC_len 10 L _ h1, by omega⟩
/-- The steps of lines, or the number of the first one that is wrong. -/
def parseL : List (Bs × Nat) → List StepR ⊕ Nat
  | [] => .inl []
  | x :: r => match lineL x.1 with
    | none => .inr x.2
    | some s => match parseL r with
      | .inl xs => .inl (s :: xs)
      | .inr m => .inr m
/-- Steps so far, and lines to come. -/
def ParS (ls : List (Bs × Nat)) (i : Nat) (acc : List StepR) : Prop := parseL ls = match parseL (ls.drop i) with
  | .inl xs => .inl (acc ++ xs)
  | .inr m => .inr m
section
variable {ls : List (Bs × Nat)} {i : Nat} {acc : List StepR} {x : Bs × Nat}
theorem ParS.start (ls : List (Bs × Nat)) : ParS ls 0 [] := by
  unfold ParS
  rw [List.drop_zero]
  cases parseL ls <;> rfl
theorem ParS.fail (h : ParS ls i acc) (hx : ls[i]? = some x) (hl : lineL x.1 = none) : parseL ls = .inr x.2 := by
  unfold ParS at h
  rw [h, drop_hit hx]
  simp [parseL, hl]
theorem ParS.step (h : ParS ls i acc) (hx : ls[i]? = some x) {s : StepR} (hl : lineL x.1 = some s) : ParS ls (i + 1) (acc ++ [s]) := by
  unfold ParS at h ⊢
  rw [h, drop_hit hx]
  simp only [parseL, hl]
  cases parseL (ls.drop (i + 1)) with
  | inl xs => simp
  | inr m => rfl
theorem ParS.done (h : ParS ls i acc) (hi : ¬ i < ls.length) : parseL ls = .inl acc := by
  unfold ParS at h
  rw [h, List.drop_eq_nil_of_le (by omega)]
  simp [parseL]
end
theorem parse_ok : ∀ (ls : List (Bs × Nat)) (xs : List StepR), parseL ls = .inl xs → xs.length = ls.length ∧ ∀ x ∈ xs, x.Ok ∧ x.keep.length ≤ 201
  | [], xs, h => by
    simp only [parseL] at h
    injection h with h
    subst h
    exact ⟨rfl, fun x hx => by cases hx⟩
  | l :: ls, xs, h => by
    simp only [parseL] at h
    cases hl : lineL l.1 with
    | none => rw [hl] at h; cases h
    | some s =>
      rw [hl] at h
      cases hp : parseL ls with
      | inr m => rw [hp] at h; cases h
      | inl ys =>
        rw [hp] at h
        injection h with h
        subst h
        obtain ⟨h1, h2⟩ := parse_ok ls ys hp
        obtain ⟨h3, h4, _⟩ := line_ok hl
        refine ⟨by simp [h1], fun x hx => ?_⟩
        rcases List.mem_cons.1 hx with rfl | hx
        · exact ⟨h3, h4⟩
        · exact h2 x hx
/-- The first step that can't be said. -/
def badF (l : List StepR) : Option Nat := l.findIdx? fun s => (textW s).isNone
/-- A step as a line with its end. -/
def sayL (s : StepR) : Bs := joinW ((textW s).getD []) ++ [10]
/-- All steps so far are said. -/
def SaidS (l : List StepR) (i : Nat) (out : Bs) : Prop := out = (l.take i).flatMap sayL ∧ ∀ k, k < i → ∀ s, l[k]? = some s → ¬ textW s = none
section
variable {l : List StepR} {i : Nat} {out : Bs} {s : StepR}
theorem SaidS.start (l : List StepR) : SaidS l 0 [] := ⟨by simp, fun k hk => by omega⟩
theorem SaidS.fail (h : SaidS l i out) (hs : l[i]? = some s) (ht : textW s = none) : badF l = some i := by
  obtain ⟨hi, he⟩ := List.getElem?_eq_some_iff.1 hs
  unfold badF
  rw [List.findIdx?_eq_some_iff_getElem]
  refine ⟨hi, by rw [he, ht]; rfl, fun k hk => ?_⟩
  have := h.2 k hk _ (List.getElem?_eq_getElem (Nat.lt_trans hk hi))
  cases hc : textW l[k] with
  | none => exact absurd hc this
  | some _ => exact Bool.false_ne_true
theorem SaidS.step (h : SaidS l i out) (hs : l[i]? = some s) {ws : List Bs} (ht : textW s = some ws) : SaidS l (i + 1) (out ++ joinW ws ++ [10]) := by
  obtain ⟨hi, he⟩ := List.getElem?_eq_some_iff.1 hs
  refine ⟨?_, fun k hk s2 hs2 => ?_⟩
  · have e : l.take (i + 1) = l.take i ++ [s] := by rw [List.take_succ_eq_append_getElem hi, he]
    rw [e, List.flatMap_append, ← h.1]
    simp [sayL, ht]
  · rcases Nat.lt_or_ge k i with hk2 | hk2
    · exact h.2 k hk2 s2 hs2
    · obtain rfl : k = i := by omega
      rw [hs] at hs2
      injection hs2 with e
      subst e
      rw [ht]
      exact fun e => by cases e
theorem SaidS.done (h : SaidS l i out) (hi : l.length ≤ i) : badF l = none ∧ out = l.flatMap sayL := by
  refine ⟨?_, by rw [h.1, List.take_of_length_le hi]⟩
  unfold badF
  rw [List.findIdx?_eq_none_iff]
  intro x hx
  obtain ⟨k, hk, rfl⟩ := List.getElem_of_mem hx
  have := h.2 k (by omega) _ (List.getElem?_eq_getElem hk)
  cases hc : textW l[k] with
  | none => exact absurd hc this
  | some _ => rfl
end
end
section
open Go.RowKit

/-- Lines and their numbers come back, in rows of one's own. -/
def LinesC (l : List (Bs × Nat)) (w : World) (e : Ending) (w' : World) : Prop := ∃ (A : Option Addr) (m c : Nat) (A2 : Option Addr) (m2 c2 : Nat), e = .returned (.tuple #[.slice A m c, .slice A2 m2 c2]) ∧ Below w.heap.size w w' ∧ OwnS w' w.heap.size (.slice A m c) (l.map Prod.fst) ∧ OwnI w' w.heap.size (.slice A2 m2 c2) (l.map fun x => (x.2 : Int))
theorem LinesC.mk {l : List (Bs × Nat)} {w w' : World} {A : Option Addr} {m c : Nat} {A2 : Option Addr} {m2 c2 : Nat} (hb : Below w.heap.size w w') (h1 : OwnS w' w.heap.size (.slice A m c) (l.map Prod.fst)) (h2 : OwnI w' w.heap.size (.slice A2 m2 c2) (l.map fun x => (x.2 : Int))) : LinesC l w (.returned (.tuple #[.slice A m c, .slice A2 m2 c2])) w' := ⟨A, m, c, A2, m2, c2, rfl, hb, h1, h2⟩
theorem own_other {W w2 : World} {B e k n : Nat} {v : Value} {xs : List Value} {e2 k2 n2 : Nat} {v2 : Value} {xs2 : List Value} (h : W.ownsRow B e k v n xs) (h2 : W.ownsRow B e2 k2 v2 n2 xs2) (hne : ¬ e = e2) (hr : ∀ j, j < W.heap.size → ¬ v.ownBlock = some j → w2.heap[j]? = W.heap[j]?) : w2.ownsRow B e2 k2 v2 n2 xs2 :=
  own_upd h2 fun g hg => by
    obtain ⟨_, ⟨rfl, _⟩ | ⟨g2, cap, cur, rfl, _, hb, _⟩⟩ := h2
    · simp [Value.ownBlock] at hg
    · have : g2 = g := by simpa [Value.ownBlock] using hg
      subst this
      exact hr g2 (Array.getElem?_eq_some_iff.1 hb).1 (own_ne h hb fun _ _ e => by injection e with _ e3; exact hne e3.symm)
/-- Two rows of one's own: a line and its number behind them. -/
theorem push_line (B : Nat) (W : World) (v v2 : Value) (l : List (Bs × Nat)) (p : Bs) (k : Nat) (h1 : OwnS W B v (l.map Prod.fst)) (h2 : OwnI W B v2 (l.map fun x => (x.2 : Int))) (hB : B ≤ W.heap.size) (hl : l.length ≤ 1000000) : ∃ (A : Option Addr) (m c : Nat) (w2 : World) (A2 : Option Addr) (m2 c2 : Nat) (w3 : World),
    (Builtin.append_ #[35, 35] 35 #[v, .slice (some ⟨W.heap.size, 0, none⟩) 1 1]).run Tryz.prog (W.alloc (.cells #[str p] 9)) = .ok (.slice A m c) w2 ∧
    (Builtin.append_ #[28, 28] 28 #[v2, .slice (some ⟨w2.heap.size, 0, none⟩) 1 1]).run Tryz.prog (w2.alloc (.cells #[.int .i64 (k : Int)] 3)) = .ok (.slice A2 m2 c2) w3 ∧
    OwnS w3 B (.slice A m c) ((l ++ [(p, k)]).map Prod.fst) ∧ OwnI w3 B (.slice A2 m2 c2) ((l ++ [(p, k)]).map fun x => (x.2 : Int)) ∧ Below B W w3 := by
  obtain ⟨va, w2, ha, ho, hb, hr⟩ := app_str B W v (l.map Prod.fst) p h1 hB (by simp; omega)
  obtain ⟨A, m, c, rfl⟩ := own_sl ho
  have h2' : OwnI w2 B v2 (l.map fun x => (x.2 : Int)) := own_other h1 h2 (by decide) hr
  obtain ⟨A2, m2, c2, w3, ha2, ho2, hb2, hr2⟩ := app_int B w2 v2 (l.map fun x => (x.2 : Int)) (k : Int) h2' (Nat.le_trans hB hb.size) (by simp; omega)
  have h1' : OwnS w3 B (.slice A m c) (l.map Prod.fst ++ [p]) := own_other h2' ho (by decide) hr2
  refine ⟨A, m, c, w2, A2, m2, c2, w3, ha, ha2, ?_, ?_, hb.trans hb2⟩
  · rw [List.map_append]; exact h1'
  · rw [List.map_append]; exact ho2
theorem good_cons (c : UInt8) (r : Bs) : goodL (c :: r) = !(c == 35) := rfl
theorem keep_miss {acc : List Bs} {p : Bs} (h : goodL p = false) : keepL 1 (acc ++ [p]) = keepL 1 acc := by
  rw [keep_snoc, if_neg (by rw [h]; decide), List.append_nil]
theorem keep_hit {acc : List Bs} {p : Bs} (h : goodL p = true) : keepL 1 (acc ++ [p]) = keepL 1 acc ++ [(p, 1 + acc.length)] := by
  rw [keep_snoc, if_pos h]
theorem byte_35 {c : UInt8} (h : ¬ c = 35) : ((c.toNat : Int) != 35) = true := by
  rw [bne_iff_ne]
  intro e
  exact h (UInt8.toNat_inj.1 (by show c.toNat = 35; omega))
theorem head_at (c : UInt8) (r : Bs) : ∀ h : 0 < (⟨(c :: r).toArray⟩ : ByteArray).size, (⟨(c :: r).toArray⟩ : ByteArray)[0]'h = c := fun h => rfl
set_option maxHeartbeats 8000000 in
set_option maxRecDepth 100000 in
theorem lines_any (s : ByteArray) (w : World) (hs : s.size ≤ 30000) (hg : GlobM w) : Calls Tryz.prog 13 #[.string s] w (LinesC (linesR s.data.toList) w) := by
  obtain ⟨ps, hps⟩ : ∃ ps, cutC 10 s.data.toList = ps := ⟨_, rfl⟩
  have HLR := Lib.hid (show linesR s.data.toList = keepL 1 ps by rw [← hps]; rfl)
  have HPN := Lib.hid (show ps.length ≤ 30001 by rw [← hps]; exact Nat.le_trans (cutC_many 10 _) (by rw [Array.length_toList]; exact Nat.succ_le_succ hs))
  have HCT := Lib.hid (cut_any 10 s w (by omega) hg)
  rw [hps] at HCT
  obtain ⟨n, hn⟩ : ∃ n, ps.length = n := ⟨_, rfl⟩
  have HN := Lib.hid hn
  unfold CutP at HCT
  rw [hn] at HCT HPN
  clear hs hg hps hn
  go_enter Tryz.func13, Tryz.ntmps13
  go_wp2_with (fail)
  refine HCT.out.mono ?_
  rintro e1 w1 ⟨rfl, hb1, hc1⟩
  have HC1 := Lib.hid hc1
  have HB1 := Lib.hid hb1
  obtain ⟨g, hg⟩ : ∃ g, w.heap.size = g := ⟨_, rfl⟩
  rw [hg] at HC1 ⊢
  clear hb1 hc1
  go_wp2
  go_loopw [4, 5, 11] (fun v4 v5 v11 wr => ∃ (i : Nat) (A : Option Addr) (m c : Nat) (A2 : Option Addr) (m2 c2 : Nat), i ≤ n ∧ v11 = .int .i64 (i : Int) ∧ v4 = .slice A m c ∧ v5 = .slice A2 m2 c2 ∧ Hid (OwnS wr w1.heap.size (.slice A m c) ((keepL 1 (ps.take i)).map Prod.fst)) ∧ Hid (OwnI wr w1.heap.size (.slice A2 m2 c2) ((keepL 1 (ps.take i)).map fun x => (x.2 : Int))) ∧ Hid (Below w1.heap.size w1 wr)) (fun _ _ v11 _ => ((n : Int) - intOf v11).toNat)
  case atStart => exact ⟨0, none, 0, 0, none, 0, 0, Nat.zero_le _, rfl, rfl, rfl, Lib.hid ⟨rfl, Or.inl ⟨rfl, rfl⟩⟩, Lib.hid ⟨rfl, Or.inl ⟨rfl, rfl⟩⟩, Lib.hid (Below.refl _ _)⟩
  case round =>
    obtain ⟨i, A, m, c, A2, m2, c2, hi, rfl, rfl, rfl, HO, HI, HB⟩ := hrel
    by_cases hin : i < n
    · have hlt : (i : Int) < (n : Int) := by omega
      have hge : (0 : Int) ≤ (i : Int) := by omega
      have hnl : ¬ (i : Int) < 0 := by omega
      have hwr : wrap64 ((i : Int) + 1) = (i : Int) + 1 := by have := HPN.out; rw [wrap64_eq]; omega
      have hp0 : w1.cell? ⟨g, 0 + i, none⟩ = some (str (ps.getD i [])) := HC1.out i hin
      have hp1 : w1.cell? ⟨g, i, none⟩ = some (str (ps.getD i [])) := by rw [Nat.zero_add] at hp0; exact hp0
      have hp := (HB.out.cell (p := ⟨g, i, none⟩) (World.block_lt_of_cell? w1 _ hp1)).trans hp1
      have HTK := Lib.hid (show ps.take (i + 1) = ps.take i ++ [ps.getD i []] by rw [List.take_succ_eq_append_getElem (by rw [HN.out]; exact hin), List.getD_eq_getElem?_getD, List.getElem?_eq_getElem (by rw [HN.out]; exact hin)]; rfl)
      have HTL := Lib.hid (show (ps.take i).length = i by rw [List.length_take, HN.out]; omega)
      have HKN := Lib.hid (show (keepL 1 (ps.take i)).length ≤ 1000000 by have h1 := keep_len 1 (ps.take i); have := HTL.out; have := HPN.out; omega)
      obtain ⟨p, hpp⟩ : ∃ p, ps.getD i [] = p := ⟨_, rfl⟩
      rw [hpp] at hp HTK
      have lp := leB_of_cell hp
      clear hp0 hp1 hpp
      cases p with
      | nil =>
        have HK := Lib.hid (show keepL 1 (ps.take (i + 1)) = keepL 1 (ps.take i) by rw [HTK.out]; exact keep_miss rfl)
        go_wp2
        go_roundw
        case rel => exact ⟨i + 1, A, m, c, A2, m2, c2, hin, by first | exact cast1R _ | (rw [hwr]; exact cast1R _), rfl, rfl, Lib.hid (by rw [HK.out]; exact HO.out), Lib.hid (by rw [HK.out]; exact HI.out), HB⟩
        case measure => first | (rw [intOf_lit, intOf_lit, hwr]; omega) | (rw [intOf_lit, intOf_lit]; omega)
      | cons d r =>
        obtain ⟨x, hx⟩ : ∃ x : ByteArray, (⟨(d :: r).toArray⟩ : ByteArray) = x := ⟨_, rfl⟩
        have hidx : ∀ h : 0 < x.size, x[0]'h = d := by
          subst hx
          exact head_at d r
        have hxs : 0 < x.size := by rw [← hx]; exact Nat.succ_pos _
        have hxi : (0 : Int) < (x.size : Int) := by omega
        have hxe : x.toList.isEmpty = false := nonempty_of_size hxs
        have hxn : (x.toList == []) = false := by cases hh : x.toList with
          | nil => rw [hh] at hxe; cases hxe
          | cons _ _ => rfl
        by_cases hd : d = 35
        · have HK := Lib.hid (show keepL 1 (ps.take (i + 1)) = keepL 1 (ps.take i) by rw [HTK.out]; exact keep_miss (by rw [good_cons, hd]; rfl))
          subst hd
          have hp2 : wr.cell? ⟨g, i, none⟩ = some (.string x) := by rw [← hx]; exact hp
          clear hp hx
          go_wp2
          go_roundw
          case rel => exact ⟨i + 1, A, m, c, A2, m2, c2, hin, by first | exact cast1R _ | (rw [hwr]; exact cast1R _), rfl, rfl, Lib.hid (by rw [HK.out]; exact HO.out), Lib.hid (by rw [HK.out]; exact HI.out), HB⟩
          case measure => first | (rw [intOf_lit, intOf_lit, hwr]; omega) | (rw [intOf_lit, intOf_lit]; omega)
        · have HK := Lib.hid (show keepL 1 (ps.take (i + 1)) = keepL 1 (ps.take i) ++ [(d :: r, i + 1)] by
            rw [HTK.out, keep_hit (by rw [good_cons]; simpa using hd), HTL.out, Nat.add_comm])
          have hd2 := byte_35 hd
          obtain ⟨A3, m3, c3, w2, A4, m4, c4, w3, ha, ha2, ho, hoi, hb3⟩ := push_line w1.heap.size wr (.slice A m c) (.slice A2 m2 c2) (keepL 1 (ps.take i)) (d :: r) (i + 1) HO.out HI.out HB.out.size HKN.out
          have HO3 := Lib.hid ho
          have HI3 := Lib.hid hoi
          have HB3 := Lib.hid (HB.out.trans hb3)
          have hp2 : wr.cell? ⟨g, i, none⟩ = some (.string x) := by rw [← hx]; exact hp
          have ha' : (Builtin.append_ #[35, 35] 35 #[.slice A m c, .slice (some ⟨wr.heap.size, 0, none⟩) 1 1]).run Tryz.prog (wr.alloc (.cells #[.string x] 9)) = .ok (.slice A3 m3 c3) w2 := by rw [← hx]; exact ha
          have ha2' : (Builtin.append_ #[28, 28] 28 #[.slice A2 m2 c2, .slice (some ⟨w2.heap.size, 0, none⟩) 1 1]).run Tryz.prog (w2.alloc (.cells #[.int .i64 ((i : Int) + 1)] 3)) = .ok (.slice A4 m4 c4) w3 := by rw [Int.natCast_add] at ha2; exact ha2
          clear hp hx hd ha ha2 ho hoi hb3
          go_wp2_with (first | (at_builtin; refine app_step 35 _ _ rfl rfl rfl rfl rfl ha' ?_) | (at_builtin; refine app_step 28 _ _ rfl rfl rfl rfl rfl ha2' ?_))
          go_roundw
          case rel => exact ⟨i + 1, A3, m3, c3, A4, m4, c4, hin, by first | exact cast1R _ | (rw [hwr]; exact cast1R _), rfl, rfl, Lib.hid (by rw [HK.out]; exact HO3.out), Lib.hid (by rw [HK.out]; exact HI3.out), HB3⟩
          case measure => first | (rw [intOf_lit, intOf_lit, hwr]; omega) | (rw [intOf_lit, intOf_lit]; omega)
    · have hnlt : ¬ (i : Int) < (n : Int) := by omega
      have HE := Lib.hid (show keepL 1 (ps.take i) = linesR s.data.toList by rw [HLR.out, List.take_of_length_le (by rw [HN.out]; omega)])
      rw [HE.out] at HO HI
      have HS1 := Lib.hid (show w.heap.size ≤ w1.heap.size from HB1.out.size)
      go_wp2
      go_ret2
      exact LinesC.mk (below_tr HB1.out HB.out) (own_mono HO.out HS1.out) (own_mono HI.out HS1.out)
set_option maxHeartbeats 8000000 in
set_option maxRecDepth 100000 in
theorem rlines_any (s : ByteArray) (w : World) (hs : s.size ≤ 30000) : Calls Tryz.prog 14 #[.string s] w (LinesC (linesR s.data.toList) w) := by
  obtain ⟨n, hn⟩ : ∃ n, s.size = n := ⟨_, rfl⟩
  have HN := Lib.hid (show s.data.toList.length = n by rw [Array.length_toList]; exact hn)
  have HNB := Lib.hid (show n ≤ 30000 by omega)
  have hwn : wrap64 ((n : Int) + 1) = (n : Int) + 1 := by rw [wrap64_eq]; omega
  clear hs
  go_enter Tryz.func14, Tryz.ntmps14
  go_wp2
  go_loopw [4, 5, 6, 7, 12] (fun v4 v5 v6 v7 v12 wr => ∃ (i : Nat) (acc : List Bs) (cur : Bs) (A : Option Addr) (m c : Nat) (A2 : Option Addr) (m2 c2 : Nat) (q : ByteArray), i ≤ n + 1 ∧ v12 = .int .i64 (i : Int) ∧ v6 = .string q ∧ v7 = .int .i64 ((acc.length + 1 : Nat) : Int) ∧ v4 = .slice A m c ∧ v5 = .slice A2 m2 c2 ∧ Hid (q = ⟨cur.toArray⟩) ∧ Hid (if i ≤ n then CutS 10 s.data.toList i acc cur else cutC 10 s.data.toList = acc) ∧ Hid (acc.length ≤ i) ∧ Hid (cur.length ≤ i) ∧ Hid (OwnS wr w.heap.size (.slice A m c) ((keepL 1 acc).map Prod.fst)) ∧ Hid (OwnI wr w.heap.size (.slice A2 m2 c2) ((keepL 1 acc).map fun x => (x.2 : Int))) ∧ Hid (Below w.heap.size w wr)) (fun _ _ _ _ v12 _ => ((n : Int) + 1 - intOf v12).toNat)
  case atStart => exact ⟨0, [], [], none, 0, 0, none, 0, 0, ⟨#[]⟩, Nat.zero_le _, rfl, rfl, rfl, rfl, rfl, Lib.hid rfl, Lib.hid (by rw [if_pos (Nat.zero_le _)]; exact CutS.start _ _), Lib.hid (Nat.le_refl _), Lib.hid (Nat.le_refl _), Lib.hid ⟨rfl, Or.inl ⟨rfl, rfl⟩⟩, Lib.hid ⟨rfl, Or.inl ⟨rfl, rfl⟩⟩, Lib.hid (Below.refl _ _)⟩
  case round =>
    obtain ⟨i, acc, cur, A, m, c, A2, m2, c2, q, hi, rfl, rfl, rfl, rfl, rfl, HQ, HC, HAC, HCU, HO, HI, HB⟩ := hrel
    by_cases hin : i ≤ n
    · rw [if_pos hin] at HC
      have hlt : (i : Int) < (n : Int) + 1 := by omega
      have hge : (0 : Int) ≤ (i : Int) := by omega
      have hnl : ¬ (i : Int) < 0 := by omega
      have hwr : wrap64 ((i : Int) + 1) = (i : Int) + 1 := by have := HNB.out; rw [wrap64_eq]; omega
      have hwa : wrap64 (((acc.length + 1 : Nat) : Int) + 1) = ((acc.length + 1 + 1 : Nat) : Int) := by have := HNB.out; have := HAC.out; rw [wrap64_eq]; omega
      obtain ⟨ln, hln⟩ : ∃ ln : Nat, acc.length + 1 = ln := ⟨_, rfl⟩
      have HLN := Lib.hid hln
      have HKN := Lib.hid (show (keepL 1 acc).length ≤ 1000000 by have h1 := keep_len 1 acc; have := HAC.out; have := HNB.out; omega)
      rw [hln] at hwa ⊢
      -- is the line's end here?
      have hcase : (∃ d, s.data.toList[i]? = some d ∧ ¬ d = 10 ∧ i < n) ∨ ((i < n ∧ s.data.toList[i]? = some 10) ∨ i = n) := by
        by_cases h1 : i < n
        · by_cases h2 : s.data.toList[i]? = some 10
          · exact Or.inr (Or.inl ⟨h1, h2⟩)
          · exact Or.inl ⟨s.data.toList[i]'(by rw [HN.out]; exact h1), List.getElem?_eq_getElem _, fun e => h2 (by rw [List.getElem?_eq_getElem (by rw [HN.out]; exact h1), e]), h1⟩
        · exact Or.inr (Or.inr (by omega))
      rcases hcase with ⟨d, hd, hd10, hlt1⟩ | hend
      · have hl2 : (i : Int) < (n : Int) := by omega
        have hle : (i : Int) + 1 ≤ (n : Int) := by omega
        have hle2 : (i : Int) ≤ (i : Int) + 1 := by omega
        have ht1 : ((i : Int) + 1).toNat = i + 1 := by omega
        have hd0 : s.data.toList.getD i 0 = d := by rw [List.getD_eq_getElem?_getD, hd]; rfl
        have hidx : ∀ h : i < s.size, s[i]'h = d := fun h => (byte_at2 s i h).trans hd0
        have hex1 := extract_one s i (by omega) d hd0
        have hb1 : ((d.toNat : Int) != 10) = true := by
          rw [bne_iff_ne]
          intro e
          exact hd10 (UInt8.toNat_inj.1 (by show d.toNat = 10; omega))
        have HAL := Lib.hid (show q.size ≤ 30001 by rw [HQ.out, cur_size]; have := HCU.out; have := HNB.out; omega)
        have hz1 : (9223372036854775807 < q.size + 1) = False := eq_false (by have := HAL.out; omega)
        have hz2 : (9223372036854775807 < q.size + (⟨#[d]⟩ : ByteArray).size) = False := eq_false (by have := HAL.out; have : (⟨#[d]⟩ : ByteArray).size = 1 := rfl; omega)
        have HC2 := Lib.hid (HC.out.miss hd hd10)
        clear hd hd0 hd10
        go_wp2
        go_roundw
        case rel => exact ⟨i + 1, acc, cur ++ [d], A, m, c, A2, m2, c2, _, by omega, by first | exact cast1R _ | (rw [hwr]; exact cast1R _), rfl, by rw [HLN.out], rfl, rfl, Lib.hid (by rw [HQ.out]; exact cur_app _ _), Lib.hid (by rw [if_pos (show i + 1 ≤ n from hlt1)]; exact HC2.out), Lib.hid (Nat.le_succ_of_le HAC.out), Lib.hid (by rw [List.length_append, List.length_singleton]; exact Nat.succ_le_succ HCU.out), HO, HI, HB⟩
        case measure => first | (rw [intOf_lit, intOf_lit, hwr]; omega) | (rw [intOf_lit, intOf_lit]; omega)
      · have HC2 := Lib.hid (show (if i + 1 ≤ n then CutS 10 s.data.toList (i + 1) (acc ++ [cur]) [] else cutC 10 s.data.toList = acc ++ [cur]) by
          rcases hend with ⟨h1, h2⟩ | h1
          · rw [if_pos (show i + 1 ≤ n from h1)]
            exact HC.out.hit h2
          · rw [if_neg (by omega)]
            exact HC.out.done (by rw [HN.out]; omega))
        have HA2 := Lib.hid (show (acc ++ [cur]).length ≤ i + 1 by have := HAC.out; simp; omega)
        have HLN2 := Lib.hid (show (acc ++ [cur]).length + 1 = ln + 1 by have := HLN.out; simp; omega)
        rcases hend with ⟨h1, h2⟩ | h1
        · have hl2 : (i : Int) < (n : Int) := by omega
          have hd0 : s.data.toList.getD i 0 = 10 := by rw [List.getD_eq_getElem?_getD, h2]; rfl
          have hidx : ∀ h : i < s.size, s[i]'h = 10 := fun h => (byte_at2 s i h).trans hd0
          clear hd0
          cases hcu : cur with
          | nil =>
            have HK := Lib.hid (show keepL 1 (acc ++ [cur]) = keepL 1 acc by rw [hcu]; exact keep_miss rfl)
            have hq0 : q = ⟨#[]⟩ := by rw [HQ.out, hcu]
            subst hq0
            rw [hcu] at HC2 HA2 HLN2 HK
            clear hcu HQ HC HCU
            go_wp2
            go_roundw
            case rel => exact ⟨i + 1, acc ++ [[]], [], A, m, c, A2, m2, c2, _, by omega, by first | exact cast1R _ | (rw [hwr]; exact cast1R _), rfl, by rw [HLN2.out]; first | rfl | (rw [hwa]), rfl, rfl, Lib.hid rfl, HC2, HA2, Lib.hid (Nat.zero_le _), Lib.hid (by rw [HK.out]; exact HO.out), Lib.hid (by rw [HK.out]; exact HI.out), HB⟩
            case measure => first | (rw [intOf_lit, intOf_lit, hwr]; omega) | (rw [intOf_lit, intOf_lit]; omega)
          | cons d r =>
            have hx : (⟨(d :: r).toArray⟩ : ByteArray) = q := by rw [HQ.out, hcu]
            rw [hcu] at HC2 HA2 HLN2
            have hidx2 : ∀ h : 0 < q.size, q[0]'h = d := by
              subst hx
              exact head_at d r
            have hxs : 0 < q.size := by rw [← hx]; exact Nat.succ_pos _
            have hxi : (0 : Int) < (q.size : Int) := by omega
            have hxe : q.toList.isEmpty = false := nonempty_of_size hxs
            have hxn : (q.toList == []) = false := by cases hh : q.toList with
              | nil => rw [hh] at hxe; cases hxe
              | cons _ _ => rfl
            by_cases hd : d = 35
            · have HK := Lib.hid (show keepL 1 (acc ++ [d :: r]) = keepL 1 acc from keep_miss (by rw [good_cons, hd]; rfl))
              subst hd
              clear hx hcu HQ HC HCU
              go_wp2
              go_roundw
              case rel => exact ⟨i + 1, acc ++ [35 :: r], [], A, m, c, A2, m2, c2, _, by omega, by first | exact cast1R _ | (rw [hwr]; exact cast1R _), rfl, by rw [HLN2.out]; first | rfl | (rw [hwa]), rfl, rfl, Lib.hid rfl, HC2, HA2, Lib.hid (Nat.zero_le _), Lib.hid (by rw [HK.out]; exact HO.out), Lib.hid (by rw [HK.out]; exact HI.out), HB⟩
              case measure => first | (rw [intOf_lit, intOf_lit, hwr]; omega) | (rw [intOf_lit, intOf_lit]; omega)
            · have HK := Lib.hid (show keepL 1 (acc ++ [d :: r]) = keepL 1 acc ++ [(d :: r, ln)] by
                rw [keep_hit (by rw [good_cons]; simpa using hd), Nat.add_comm, HLN.out])
              have hd2 := byte_35 hd
              obtain ⟨A3, m3, c3, w2, A4, m4, c4, w3, ha, ha2, ho, hoi, hb3⟩ := push_line w.heap.size wr (.slice A m c) (.slice A2 m2 c2) (keepL 1 acc) (d :: r) ln HO.out HI.out HB.out.size HKN.out
              have HO3 := Lib.hid ho
              have HI3 := Lib.hid hoi
              have HB3 := Lib.hid (HB.out.trans hb3)
              have ha' : (Builtin.append_ #[35, 35] 35 #[.slice A m c, .slice (some ⟨wr.heap.size, 0, none⟩) 1 1]).run Tryz.prog (wr.alloc (.cells #[.string q] 9)) = .ok (.slice A3 m3 c3) w2 := by rw [← hx]; exact ha
              clear hx hd ha ho hoi hb3 hcu HQ HC HCU
              go_wp2_with (first | (at_builtin; refine app_step 35 _ _ rfl rfl rfl rfl rfl ha' ?_) | (at_builtin; refine app_step 28 _ _ rfl rfl rfl rfl rfl ha2 ?_))
              go_roundw
              case rel => exact ⟨.slice A3 m3 c3, .slice A4 m4 c4, .string ⟨#[]⟩, .int .i64 ((ln : Int) + 1), .int .i64 (i : Int), .int .i64 ((i : Int) + 1), ⟨i + 1, by omega, cast1R i, acc ++ [d :: r], [], A3, m3, c3, A4, m4, c4, ⟨#[]⟩, rfl, by rw [show (acc ++ [d :: r]).length = ln from Nat.succ.inj HLN2.out], rfl, rfl, Lib.hid rfl, HC2, HA2, Lib.hid (Nat.zero_le _), Lib.hid (by rw [HK.out]; exact HO3.out), Lib.hid (by rw [HK.out]; exact HI3.out)⟩, rfl, rfl, rfl, rfl, rfl, rfl⟩
              case measure => first | (rw [intOf_lit, intOf_lit, hwr]; omega) | (rw [intOf_lit, intOf_lit]; omega)
        · have hl2 : ¬ (i : Int) < (n : Int) := by omega
          clear h1
          cases hcu : cur with
          | nil =>
            have HK := Lib.hid (show keepL 1 (acc ++ [cur]) = keepL 1 acc by rw [hcu]; exact keep_miss rfl)
            have hq0 : q = ⟨#[]⟩ := by rw [HQ.out, hcu]
            subst hq0
            rw [hcu] at HC2 HA2 HLN2 HK
            clear hcu HQ HC HCU
            go_wp2
            go_roundw
            case rel => exact ⟨i + 1, acc ++ [[]], [], A, m, c, A2, m2, c2, _, by omega, by first | exact cast1R _ | (rw [hwr]; exact cast1R _), rfl, by rw [HLN2.out]; first | rfl | (rw [hwa]), rfl, rfl, Lib.hid rfl, HC2, HA2, Lib.hid (Nat.zero_le _), Lib.hid (by rw [HK.out]; exact HO.out), Lib.hid (by rw [HK.out]; exact HI.out), HB⟩
            case measure => first | (rw [intOf_lit, intOf_lit, hwr]; omega) | (rw [intOf_lit, intOf_lit]; omega)
          | cons d r =>
            have hx : (⟨(d :: r).toArray⟩ : ByteArray) = q := by rw [HQ.out, hcu]
            rw [hcu] at HC2 HA2 HLN2
            have hidx2 : ∀ h : 0 < q.size, q[0]'h = d := by
              subst hx
              exact head_at d r
            have hxs : 0 < q.size := by rw [← hx]; exact Nat.succ_pos _
            have hxi : (0 : Int) < (q.size : Int) := by omega
            have hxe : q.toList.isEmpty = false := nonempty_of_size hxs
            have hxn : (q.toList == []) = false := by cases hh : q.toList with
              | nil => rw [hh] at hxe; cases hxe
              | cons _ _ => rfl
            by_cases hd : d = 35
            · have HK := Lib.hid (show keepL 1 (acc ++ [d :: r]) = keepL 1 acc from keep_miss (by rw [good_cons, hd]; rfl))
              subst hd
              clear hx hcu HQ HC HCU
              go_wp2
              go_roundw
              case rel => exact ⟨i + 1, acc ++ [35 :: r], [], A, m, c, A2, m2, c2, _, by omega, by first | exact cast1R _ | (rw [hwr]; exact cast1R _), rfl, by rw [HLN2.out]; first | rfl | (rw [hwa]), rfl, rfl, Lib.hid rfl, HC2, HA2, Lib.hid (Nat.zero_le _), Lib.hid (by rw [HK.out]; exact HO.out), Lib.hid (by rw [HK.out]; exact HI.out), HB⟩
              case measure => first | (rw [intOf_lit, intOf_lit, hwr]; omega) | (rw [intOf_lit, intOf_lit]; omega)
            · have HK := Lib.hid (show keepL 1 (acc ++ [d :: r]) = keepL 1 acc ++ [(d :: r, ln)] by
                rw [keep_hit (by rw [good_cons]; simpa using hd), Nat.add_comm, HLN.out])
              have hd2 := byte_35 hd
              obtain ⟨A3, m3, c3, w2, A4, m4, c4, w3, ha, ha2, ho, hoi, hb3⟩ := push_line w.heap.size wr (.slice A m c) (.slice A2 m2 c2) (keepL 1 acc) (d :: r) ln HO.out HI.out HB.out.size HKN.out
              have HO3 := Lib.hid ho
              have HI3 := Lib.hid hoi
              have HB3 := Lib.hid (HB.out.trans hb3)
              have ha' : (Builtin.append_ #[35, 35] 35 #[.slice A m c, .slice (some ⟨wr.heap.size, 0, none⟩) 1 1]).run Tryz.prog (wr.alloc (.cells #[.string q] 9)) = .ok (.slice A3 m3 c3) w2 := by rw [← hx]; exact ha
              clear hx hd ha ho hoi hb3 hcu HQ HC HCU
              go_wp2_with (first | (at_builtin; refine app_step 35 _ _ rfl rfl rfl rfl rfl ha' ?_) | (at_builtin; refine app_step 28 _ _ rfl rfl rfl rfl rfl ha2 ?_))
              go_roundw
              case rel => exact ⟨.slice A3 m3 c3, .slice A4 m4 c4, .string ⟨#[]⟩, .int .i64 ((ln : Int) + 1), .int .i64 (i : Int), .int .i64 ((i : Int) + 1), ⟨i + 1, by omega, cast1R i, acc ++ [d :: r], [], A3, m3, c3, A4, m4, c4, ⟨#[]⟩, rfl, by rw [show (acc ++ [d :: r]).length = ln from Nat.succ.inj HLN2.out], rfl, rfl, Lib.hid rfl, HC2, HA2, Lib.hid (Nat.zero_le _), Lib.hid (by rw [HK.out]; exact HO3.out), Lib.hid (by rw [HK.out]; exact HI3.out)⟩, rfl, rfl, rfl, rfl, rfl, rfl⟩
              case measure => first | (rw [intOf_lit, intOf_lit, hwr]; omega) | (rw [intOf_lit, intOf_lit]; omega)
    · have hnlt : ¬ (i : Int) < (n : Int) + 1 := by omega
      rw [if_neg hin] at HC
      have HE := Lib.hid (show keepL 1 acc = linesR s.data.toList by unfold linesR; rw [HC.out])
      rw [HE.out] at HO HI
      go_wp2
      go_ret2
      exact LinesC.mk HB.out HO.out HI.out
end
section
open Go.RowKit

/-- Steps' cells, one behind the other. -/
def rowCells : List (StepR × Value) → List Value
  | [] => []
  | p :: r => (stepCells p.1 p.2).toList ++ rowCells r
theorem row_len : ∀ ps, (rowCells ps).length = ps.length * 13
  | [] => rfl
  | p :: r => by
    have := row_len r
    simp only [rowCells, List.length_append, List.length_cons, this]
    simp; omega
theorem row_app : ∀ a b, rowCells (a ++ b) = rowCells a ++ rowCells b
  | [], _ => rfl
  | p :: r, b => by
    have := row_app r b
    simp only [List.cons_append, rowCells, this, List.append_assoc]
theorem row_at : ∀ (ps : List (StepR × Value)) (i : Nat) (p : StepR × Value) (k : Nat), ps[i]? = some p → k < 13 → (rowCells ps)[i * 13 + k]? = (stepCells p.1 p.2)[k]?
  | [], i, p, k, h, _ => by simp at h
  | q :: r, 0, p, k, h, hk => by
    have e : q = p := by simpa using h
    subst e
    simp only [rowCells]
    rw [List.getElem?_append_left (by simp; omega)]
    simp
  | q :: r, i + 1, p, k, h, hk => by
    have h2 : r[i]? = some p := by simpa using h
    have := row_at r i p k h2 hk
    simp only [rowCells]
    rw [List.getElem?_append_right (by simp; omega)]
    have e : (i + 1) * 13 + k - (stepCells q.1 q.2).toList.length = i * 13 + k := by simp; omega
    rw [e]; exact this
/-- A row of steps of one's own, each with numbers of its own. -/
def OwnP (w : World) (B : Nat) (v : Value) (xs : List StepR) : Prop := ∃ ps : List (StepR × Value), ps.map Prod.fst = xs ∧ w.ownsRow B 33 13 v ps.length (rowCells ps) ∧ ∀ p ∈ ps, OwnI w B p.2 p.1.keep
theorem OwnP.nil (w : World) (B : Nat) : OwnP w B (.slice none 0 0) [] := ⟨[], rfl, ⟨rfl, Or.inl ⟨rfl, rfl⟩⟩, fun p hp => by cases hp⟩
theorem OwnP.later {w w' : World} {B : Nat} {v : Value} {xs : List StepR} (h : OwnP w B v xs) (hb : Below w.heap.size w w') : OwnP w' B v xs := by
  obtain ⟨ps, h1, h2, h3⟩ := h
  exact ⟨ps, h1, own_below h2 hb, fun p hp => own_below (h3 p hp) hb⟩
theorem OwnP.slice {w : World} {B : Nat} {v : Value} {xs : List StepR} (h : OwnP w B v xs) : ∃ A m c, v = .slice A m c := by
  obtain ⟨ps, h1, h2, h3⟩ := h
  exact own_sl h2
theorem own_otherP {W w2 : World} {B k n : Nat} {v : Value} {xs : List Value} {v2 : Value} {l : List Int} (h : W.ownsRow B 33 k v n xs) (h2 : OwnI W B v2 l) (hr : ∀ j, j < W.heap.size → ¬ v.ownBlock = some j → w2.heap[j]? = W.heap[j]?) : OwnI w2 B v2 l :=
  own_upd h2 fun g hg => by
    have h2' := h2
    obtain ⟨_, ⟨rfl, _⟩ | ⟨g2, cap, cur, rfl, _, hb, _⟩⟩ := h2'
    · simp [Value.ownBlock] at hg
    · have : g2 = g := by simpa [Value.ownBlock] using hg
      subst this
      exact hr g2 (Array.getElem?_eq_some_iff.1 hb).1 (own_ne h hb fun _ _ e => by injection e with _ e3; exact absurd e3 (by decide))
/-- One step more behind a row of one's own. -/
theorem app_stp (B : Nat) (W : World) (v u : Value) (xs : List StepR) (s : StepR) (HO : OwnP W B v xs) (HU : OwnI W B u s.keep) (hB : B ≤ W.heap.size) (hl : xs.length ≤ 1000000) :
    ∃ (A : Option Addr) (m c : Nat) (w2 : World), (Builtin.append_ #[23, 23] 23 #[v, .slice (some ⟨W.heap.size, 0, none⟩) 1 1]).run Tryz.prog (W.alloc (.cells (stepCells s u) 33)) = .ok (.slice A m c) w2 ∧ OwnP w2 B (.slice A m c) (xs ++ [s]) ∧ Below B W w2 := by
  obtain ⟨ps, h1, h2, h3⟩ := HO
  obtain ⟨i0, hi, hz0, hz1, hz2⟩ := info_parts (show (Tryz.prog.info? 33).map (fun i => (i.zero, i.size, i.bytes)) = some (some (.agg stepZero), 13, 160) by kernel_rfl)
  obtain ⟨UA, Um, Uc, hu⟩ := own_sl HU
  have hpl : ps.length = xs.length := by rw [← h1, List.length_map]
  obtain ⟨v2, w2, hr, hown, hg, _, _⟩ := run_append_own_at (P := Tryz.prog) (W.alloc (.cells (stepCells s u) 33)) B 23 23 33 i0 (.agg stepZero) 13 160 Tryz.underlying23 hi hz0 hz1 hz2 rfl (by decide) v ps.length (rowCells ps) (h2.alloc _) ⟨W.heap.size, 0, none⟩ 1 1 (stepCells s u).toList rfl
    (World.news_of_block (cs := stepCells s u) (t := 33) (fr := (0, 0)) (heap_alloc_new W _)) (by subst hu; simp [Value.oneCell']) (by simp only [maxLen]; omega) (by omega) (by simp; omega)
  have own_b : ∀ k, v.ownBlock = some k → B ≤ k := fun k hk => (h2.lt k hk).1
  obtain ⟨A, m, c, rfl⟩ := own_sl hown
  have hrest : ∀ k, k < W.heap.size → ¬ v.ownBlock = some k → w2.heap[k]? = W.heap[k]? := fun k hk hne => by
    rw [hg.block k (by simp; omega) (fun e => hne e.symm)]
    exact Lib.alloc_old W _ k hk
  refine ⟨A, m, c, w2, hr, ⟨ps ++ [(s, u)], by simp [h1], ?_, fun p hp => ?_⟩, ((Below.refl B W).alloc hB _).grown hg (by simp; omega) own_b⟩
  · rw [List.length_append, List.length_singleton, row_app]
    have e : rowCells [(s, u)] = (stepCells s u).toList := by simp [rowCells]
    rw [e]; exact hown
  · have hO : OwnI W B p.2 p.1.keep := by
      rcases List.mem_append.1 hp with hp | hp
      · exact h3 p hp
      · rw [List.mem_singleton] at hp
        subst hp
        exact HU
    exact own_otherP h2 hO hrest
/-- What lies in such a row. -/
theorem OwnP.sts {w : World} {B : Nat} {A : Option Addr} {m c : Nat} {xs : List StepR} (h : OwnP w B (.slice A m c) xs) : m = xs.length ∧ StsAt w A xs := by
  obtain ⟨ps, h1, h2, h3⟩ := h
  have hpl : ps.length = xs.length := by rw [← h1, List.length_map]
  have h2' := h2
  obtain ⟨_, ⟨e, e0⟩ | ⟨g, cap, cur, e, hb, hh, h4, h5, h6⟩⟩ := h2
  · injection e with e1 e2 e3
    have hx : xs = [] := List.eq_nil_of_length_eq_zero (by omega)
    subst hx
    exact ⟨by simpa using e2, fun i hi => by simp at hi⟩
  · injection e with e1 e2 e3
    subst e1
    refine ⟨by omega, fun i hi => ?_⟩
    have hi2 : i < ps.length := by omega
    obtain ⟨p, hp⟩ : ∃ p, ps[i]? = some p := ⟨_, List.getElem?_eq_getElem hi2⟩
    have hx : xs.getD i zeroR = p.1 := by
      rw [List.getD_eq_getElem?_getD, ← h1, List.getElem?_map, hp]; rfl
    rw [hx]
    have hO := h3 p (List.mem_of_getElem? hp)
    obtain ⟨K, mk, ck, hv⟩ := own_sl hO
    rw [hv] at hO
    obtain ⟨k1, k2⟩ := ints_at hO
    refine ⟨g, 0, rfl, K, mk, ck, k1, k2, fun k hk => ?_⟩
    obtain ⟨u, hu⟩ : ∃ u, (stepCells p.1 p.2)[k]? = some u := ⟨_, Array.getElem?_eq_getElem (by simpa using hk)⟩
    have h7 := World.ownsRow.cells h2' (g := g) rfl (i * 13 + k) u ((row_at ps i p k hp hk).trans hu)
    rw [addr_add] at h7
    rw [show 0 + i * 13 + k = 0 + (i * 13 + k) by omega]
    rw [h7, ← hu, hv]
end
section
open Go.RowKit

theorem stp_at {w : World} {A : Option Addr} {l : List StepR} (h : StsAt w A l) {i : Nat} (hi : i < l.length) : ∃ (b o : Nat) (K : Option Addr) (m c : Nat), A = some ⟨b, o, none⟩ ∧ IntsAt w K (l.getD i zeroR).keep ∧ (l.getD i zeroR).keep.length = m ∧ ∀ k, k < 13 → w.cell? ⟨b, o + i * 13 + k, none⟩ = (cellsOf (l.getD i zeroR) K m c)[k]? := by
  obtain ⟨b, o, e, K, m, c, h1, h2, h3⟩ := h i hi
  exact ⟨b, o, K, m, c, e, h1, h2, h3⟩
set_option maxHeartbeats 8000000 in
set_option maxRecDepth 100000 in
theorem eqf_any (A A2 : Option Addr) (c c2 : Nat) (l : List StepR) (w : World) (HA : Hid (StsAt w A l)) (HA2 : Hid (StsAt w A2 l)) (HN : Hid (l.length ≤ 100000)) (HF : Hid (∀ i, i < l.length → (l.getD i zeroR).time < 18446744073709551616 ∧ (l.getD i zeroR).keep.length ≤ 201)) : Calls Tryz.prog 11 #[.slice A l.length c, .slice A2 l.length c2, .func (.func 12) #[] #[]] w (fun e w' => e = .returned (.bool true) ∧ Below w.heap.size w w') := by
  obtain ⟨n, hn⟩ : ∃ n, l.length = n := ⟨_, rfl⟩
  have HNL := Lib.hid hn
  have hnb : n ≤ 100000 := by have := HN.out; omega
  rw [hn]
  clear hn
  go_enter Tryz.func11, Tryz.ntmps11
  go_wp2
  go_loopw [17] (fun v17 wr => ∃ (i : Nat), i ≤ n ∧ v17 = .int .i64 (i : Int) ∧ Hid (Below w.heap.size w wr)) (fun v17 _ => ((n : Int) - intOf v17).toNat)
  case atStart => exact ⟨0, Nat.zero_le _, rfl, Lib.hid (Below.refl _ _)⟩
  case round =>
    obtain ⟨i, hi, rfl, HB⟩ := hrel
    by_cases hin : i < n
    · have hlt : (i : Int) < (n : Int) := by omega
      have hge : (0 : Int) ≤ (i : Int) := by omega
      have hnl : ¬ (i : Int) < 0 := by omega
      have hwr : wrap64 ((i : Int) + 1) = (i : Int) + 1 := by rw [wrap64_eq]; omega
      have hil : i < l.length := by rw [HNL.out]; exact hin
      obtain ⟨b, o, K, mk, ck, eA, hki, hk, hcell⟩ := stp_at (HA.out.later HB.out) hil
      obtain ⟨b2, o2, K2, mk2, ck2, eA2, hki2, hk2, hcell2⟩ := stp_at (HA2.out.later HB.out) hil
      subst eA; subst eA2
      have HFI := Lib.hid (HF.out i hil)
      obtain rfl : mk = mk2 := hk.symm.trans hk2
      obtain ⟨s, hs⟩ : ∃ s, l.getD i zeroR = s := ⟨_, rfl⟩
      rw [hs] at HFI hki hk hcell hki2 hcell2
      have HK := Lib.hid hk
      have q0 : wr.cell? ⟨b, o + i * 13, none⟩ = some (.int .i64 s.kind) := hcell 0 (by decide)
      have q1 : wr.cell? ⟨b, o + i * 13 + 1, none⟩ = some (.int .i64 s.rep) := hcell 1 (by decide)
      have q2 : wr.cell? ⟨b, o + i * 13 + 2, none⟩ = some (.string s.vol) := hcell 2 (by decide)
      have q3 : wr.cell? ⟨b, o + i * 13 + 3, none⟩ = some (.string s.dst) := hcell 3 (by decide)
      have q4 : wr.cell? ⟨b, o + i * 13 + 4, none⟩ = some (.int .i64 s.n) := hcell 4 (by decide)
      have q5 : wr.cell? ⟨b, o + i * 13 + 5, none⟩ = some (.slice K mk ck) := hcell 5 (by decide)
      have q6 : wr.cell? ⟨b, o + i * 13 + 6, none⟩ = some (.int .i64 s.ck) := hcell 6 (by decide)
      have q7 : wr.cell? ⟨b, o + i * 13 + 7, none⟩ = some (.string s.path) := hcell 7 (by decide)
      have qx7 : wr.cell? ⟨b, o + i * 13 + 6 + 1, none⟩ = some (.string s.path) := q7
      have q8 : wr.cell? ⟨b, o + i * 13 + 8, none⟩ = some (.string s.cto) := hcell 8 (by decide)
      have qx8 : wr.cell? ⟨b, o + i * 13 + 6 + 2, none⟩ = some (.string s.cto) := q8
      have q9 : wr.cell? ⟨b, o + i * 13 + 9, none⟩ = some (.int .i64 s.off) := hcell 9 (by decide)
      have qx9 : wr.cell? ⟨b, o + i * 13 + 6 + 3, none⟩ = some (.int .i64 s.off) := q9
      have q10 : wr.cell? ⟨b, o + i * 13 + 10, none⟩ = some (.int .i64 s.cn) := hcell 10 (by decide)
      have qx10 : wr.cell? ⟨b, o + i * 13 + 6 + 4, none⟩ = some (.int .i64 s.cn) := q10
      have q11 : wr.cell? ⟨b, o + i * 13 + 11, none⟩ = some (.string s.data) := hcell 11 (by decide)
      have qx11 : wr.cell? ⟨b, o + i * 13 + 6 + 5, none⟩ = some (.string s.data) := q11
      have q12 : wr.cell? ⟨b, o + i * 13 + 12, none⟩ = some (f64 s.time) := hcell 12 (by decide)
      have qx12 : wr.cell? ⟨b, o + i * 13 + 6 + 6, none⟩ = some (f64 s.time) := q12
      have lb := leB_of_cell q0
      obtain ⟨w2, hst2, hs2⟩ := row_store (w := wr.alloc (.cells stepZero 33)) (ty := 33) (cs := #[.int .i64 s.kind, .int .i64 s.rep, .string s.vol, .string s.dst, .int .i64 s.n, .slice K mk ck, .int .i64 s.ck, .string s.path, .string s.cto, .int .i64 s.off, .int .i64 s.cn, .string s.data, f64 s.time]) (heap_alloc_new wr _) (by kernel_rfl) rfl (by simp [Value.oneCell'])
      have hb2 : Below wr.heap.size wr w2 := ⟨hs2.os, hs2.tape, hs2.output, by rw [hs2.size]; simp, fun j hj => (hs2.rest j (by omega)).trans (Lib.alloc_old wr _ j hj)⟩
      have hx2 := hs2.at'
      have hcell3 : ∀ k, k < 13 → w2.cell? ⟨b2, o2 + i * 13 + k, none⟩ = (cellsOf s K2 mk ck2)[k]? := fun k hk => by
        obtain ⟨u, hu⟩ : ∃ u, (cellsOf s K2 mk ck2)[k]? = some u := ⟨_, Array.getElem?_eq_getElem (by simpa using hk)⟩
        have h := hcell2 k hk
        rw [hu] at h ⊢
        exact (hb2.cell (World.block_lt_of_cell? wr _ h)).trans h
      have r0 : w2.cell? ⟨b2, o2 + i * 13, none⟩ = some (.int .i64 s.kind) := hcell3 0 (by decide)
      have r1 : w2.cell? ⟨b2, o2 + i * 13 + 1, none⟩ = some (.int .i64 s.rep) := hcell3 1 (by decide)
      have r2 : w2.cell? ⟨b2, o2 + i * 13 + 2, none⟩ = some (.string s.vol) := hcell3 2 (by decide)
      have r3 : w2.cell? ⟨b2, o2 + i * 13 + 3, none⟩ = some (.string s.dst) := hcell3 3 (by decide)
      have r4 : w2.cell? ⟨b2, o2 + i * 13 + 4, none⟩ = some (.int .i64 s.n) := hcell3 4 (by decide)
      have r5 : w2.cell? ⟨b2, o2 + i * 13 + 5, none⟩ = some (.slice K2 mk ck2) := hcell3 5 (by decide)
      have r6 : w2.cell? ⟨b2, o2 + i * 13 + 6, none⟩ = some (.int .i64 s.ck) := hcell3 6 (by decide)
      have r7 : w2.cell? ⟨b2, o2 + i * 13 + 7, none⟩ = some (.string s.path) := hcell3 7 (by decide)
      have rx7 : w2.cell? ⟨b2, o2 + i * 13 + 6 + 1, none⟩ = some (.string s.path) := r7
      have r8 : w2.cell? ⟨b2, o2 + i * 13 + 8, none⟩ = some (.string s.cto) := hcell3 8 (by decide)
      have rx8 : w2.cell? ⟨b2, o2 + i * 13 + 6 + 2, none⟩ = some (.string s.cto) := r8
      have r9 : w2.cell? ⟨b2, o2 + i * 13 + 9, none⟩ = some (.int .i64 s.off) := hcell3 9 (by decide)
      have rx9 : w2.cell? ⟨b2, o2 + i * 13 + 6 + 3, none⟩ = some (.int .i64 s.off) := r9
      have r10 : w2.cell? ⟨b2, o2 + i * 13 + 10, none⟩ = some (.int .i64 s.cn) := hcell3 10 (by decide)
      have rx10 : w2.cell? ⟨b2, o2 + i * 13 + 6 + 4, none⟩ = some (.int .i64 s.cn) := r10
      have r11 : w2.cell? ⟨b2, o2 + i * 13 + 11, none⟩ = some (.string s.data) := hcell3 11 (by decide)
      have rx11 : w2.cell? ⟨b2, o2 + i * 13 + 6 + 5, none⟩ = some (.string s.data) := r11
      have r12 : w2.cell? ⟨b2, o2 + i * 13 + 12, none⟩ = some (f64 s.time) := hcell3 12 (by decide)
      have rx12 : w2.cell? ⟨b2, o2 + i * 13 + 6 + 6, none⟩ = some (f64 s.time) := r12
      have lr := leB_of_cell r0
      obtain ⟨w4, hst4, hs4⟩ := row_store (w := w2.alloc (.cells stepZero 33)) (ty := 33) (cs := #[.int .i64 s.kind, .int .i64 s.rep, .string s.vol, .string s.dst, .int .i64 s.n, .slice K2 mk ck2, .int .i64 s.ck, .string s.path, .string s.cto, .int .i64 s.off, .int .i64 s.cn, .string s.data, f64 s.time]) (heap_alloc_new w2 _) (by kernel_rfl) rfl (by simp [Value.oneCell'])
      have hb4 : Below w2.heap.size w2 w4 := ⟨hs4.os, hs4.tape, hs4.output, by rw [hs4.size]; simp, fun j hj => (hs4.rest j (by omega)).trans (Lib.alloc_old w2 _ j hj)⟩
      have hx4 := (hb4.block wr.heap.size (Array.getElem?_eq_some_iff.1 hx2).1).trans hx2
      have hld2 := (row_load (ty := 33) hx4 Tryz.underlying33 (by kernel_rfl)).2
      have hld4 := (row_load (ty := 33) hs4.at' Tryz.underlying33 (by kernel_rfl)).2
      have hb24 := below_tr hb2 hb4
      have HB4 := Lib.hid (HB.out.trans (hb24.mono HB.out.size))
      have HSM := Lib.hid (same_main s K K2 mk ck ck2 w4 (Lib.hid HFI.out.1) HK (Lib.hid (by have := HFI.out.2; have := HK.out; omega)) (Lib.hid (hki.later hb24)) (Lib.hid (hki2.later hb24)))
      clear hcell hcell2 hcell3 hki hki2 hk hk2 hs hil hs2 hs4 hb2 hb4 hb24 hx2 hx4
      go_wp2_with (first | (refine store_step 33 _ _ rfl rfl rfl rfl hst2 ?_) | (refine store_step 33 _ _ rfl rfl rfl rfl hst4 ?_) | (refine load_step 33 _ rfl rfl rfl hld2 ?_) | (refine load_step 33 _ rfl rfl rfl hld4 ?_))
      refine HSM.out.mono ?_
      rintro e5 w5 ⟨rfl, hb5⟩
      have HB5 := Lib.hid (HB4.out.trans (hb5.mono HB4.out.size))
      clear hb5 hst2 hst4 hld2 hld4
      go_wp2
      go_roundw
      case rel => exact ⟨i + 1, hin, by first | exact cast_one _ | (rw [hwr]; exact cast_one _), HB5⟩
      case measure => first | (rw [intOf_lit, intOf_lit, hwr]; omega) | (rw [intOf_lit, intOf_lit]; omega)
    · have hnlt : ¬ (i : Int) < (n : Int) := by omega
      go_wp2
      go_ret
      exact ⟨rfl, HB.out⟩
end
section
open Go.RowKit

theorem line_words (l : Bs) (h : ¬ 200 < l.length) : lineL l = lineW (cutC 32 l) := by
  unfold lineL
  rw [if_neg h, stepP_eq, cutC_words]
theorem call_len : ∀ j, j < 19 → (callK ((j + 1 : Nat) : Int)).2.length ≤ 10 := by decide +kernel
theorem call_let : ∀ j, j < 19 → ∀ c ∈ argsAt callF j, LetR c := by decide +kernel
theorem rline_any (s : ByteArray) (w : World) (hs : s.size ≤ 2048) : Calls Tryz.prog 21 #[.string s] w (LineC (lineL s.data.toList) w) := by
  have hz : s.data.toList.length = s.size := by rw [Array.length_toList]; rfl
  by_cases hl : 200 < (s.size : Int)
  · exact rline_long s w _ (Lib.hid (by unfold lineL; rw [if_pos (by omega)])) hl
  rw [line_words _ (by omega)]
  cases hc : cutC 32 s.data.toList with
  | nil => exact absurd hc (cutC_ne 32 _)
  | cons w0 ws =>
    cases hf : findF stepF w0 with
    | none => exact rline_bad s w _ w0 ws hl (Lib.hid hc) (Lib.hid hf) (Lib.hid (lineW_none hf))
    | some i =>
      have hi := findF_lt hf
      have hi13 : i < 13 := hi
      by_cases h0 : i = 0
      · subst h0
        by_cases h2 : 2 < ws.length
        · match ws, h2, hc with
          | r1 :: v1 :: cw :: rest, _, hc =>
            cases hcf : findF callF cw with
            | none => exact rline_call s w _ w0 _ hl (Lib.hid hc) r1 v1 cw rest (Lib.hid rfl) none (Lib.hid hcf) 0 (Lib.hid rfl) ⟨#[]⟩ ⟨#[]⟩ (Lib.hid fun W => rcall_any 0 W) (Lib.hid (by decide)) (Lib.hid (Or.inl ⟨rfl, lineW_callnone hf hcf⟩)) (Lib.hid hf)
            | some j =>
              have hj : j < 19 := findF_lt hcf
              have e2 := callArgs2 j hj
              refine rline_call s w _ w0 _ hl (Lib.hid hc) r1 v1 cw rest (Lib.hid rfl) (some j) (Lib.hid hcf) ((j : Int) + 1) (Lib.hid ?_) ⟨(callK ((j + 1 : Nat) : Int)).2.toArray⟩ ⟨(callK ((j + 1 : Nat) : Int)).1.toArray⟩ (Lib.hid fun W => ?_) (Lib.hid ?_) (Lib.hid (Or.inr ⟨by omega, 114 :: 118 :: 112 :: argsAt callF j, lineW_call hf hcf, ?_, ?_⟩)) (Lib.hid hf)
              · exact seek_end fun i hi => by injection hi with hi; subst hi; omega
              · exact rcall_any ((j + 1 : Nat) : Int) W
              · exact call_len j hj
              · rw [e2]
                exact app_bytes _ [114, 118] _ (112 :: argsAt callF j) rfl rfl
              · intro c hc
                simp only [List.mem_cons] at hc
                rcases hc with rfl | rfl | rfl | hc
                · exact Or.inl rfl
                · decide
                · decide
                · exact call_let j hj c hc
          | [], h2, _ => exact absurd h2 (by simp)
          | [_], h2, _ => exact absurd h2 (by simp)
          | [_, _], h2, _ => exact absurd h2 (by simp)
        · exact rline_short s w _ w0 ws hl (Lib.hid hc) (Lib.hid h2) (Lib.hid hf) (Lib.hid (lineW_short hf h2))
      · by_cases h9 : i = 9
        · subst h9
          exact rline_keep s w _ w0 ws hl (Lib.hid hc) (Lib.hid hf) (Lib.hid (lineW_keep hf))
        · exact rline_else s w _ w0 ws hl (Lib.hid hc) i (Lib.hid ⟨hi13, h0, h9⟩) (Lib.hid hf) (Lib.hid (lineW_else hf h0 h9))
end
section
open Go.RowKit

def parX (R : List StepR ⊕ Nat) : List StepR := match R with
  | .inl xs => xs
  | .inr _ => []
def parN (R : List StepR ⊕ Nat) : Int := match R with
  | .inl _ => 0
  | .inr k => (k : Int)
def parE (R : List StepR ⊕ Nat) : Int := match R with
  | .inl _ => 0
  | .inr _ => 205
/-- Steps come back, or where a line is wrong. -/
def ParseC (R : List StepR ⊕ Nat) (w : World) (e : Ending) (w' : World) : Prop := ∃ (A : Option Addr) (c : Nat), e = .returned (.tuple #[.slice A (parX R).length c, .int .i64 (parN R), .int .i64 (parE R)]) ∧ Below w.heap.size w w' ∧ StsAt w' A (parX R)
theorem ParseC.ok {R : List StepR ⊕ Nat} {w w' : World} {B : Nat} {A : Option Addr} {m c : Nat} {xs : List StepR} (h : R = .inl xs) (hb : Below w.heap.size w w') (ho : OwnP w' B (.slice A m c) xs) : ParseC R w (.returned (.tuple #[.slice A m c, .int .i64 0, .int .i64 0])) w' := by
  subst h
  obtain ⟨h1, h2⟩ := ho.sts
  exact ⟨A, c, by rw [h1]; rfl, hb, h2⟩
theorem ParseC.bad {R : List StepR ⊕ Nat} {w w' : World} {k : Nat} (h : R = .inr k) (hb : Below w.heap.size w w') : ParseC R w (.returned (.tuple #[.slice none 0 0, .int .i64 (k : Int), .int .i64 205])) w' := by
  subst h
  exact ⟨none, 0, rfl, hb, fun i hi => by simp [parX] at hi⟩
theorem strs_own {w : World} {B : Nat} {A : Option Addr} {m c : Nat} {l : List Bs} (h : OwnS w B (.slice A m c) l) : m = l.length ∧ ∀ i, i < l.length → ∃ g : Nat, A = some ⟨g, 0, none⟩ ∧ w.cell? ⟨g, 0 + i, none⟩ = some (str (l.getD i [])) := by
  by_cases hl : l.length = 0
  · have h' := h
    unfold OwnS at h'
    rw [strs_len] at h'
    obtain ⟨_, ⟨e, _⟩ | ⟨g, cap, cur, e, _⟩⟩ := h'
    · injection e with e1 e2 e3
      exact ⟨by omega, fun i hi => by omega⟩
    · injection e with e1 e2 e3
      exact ⟨e2, fun i hi => by omega⟩
  · obtain ⟨g, c', e, _, _, _, h4⟩ := h.cells hl
    injection e with e1 e2 e3
    exact ⟨e2, fun i hi => ⟨g, e1, h4 i hi⟩⟩
set_option maxHeartbeats 8000000 in
set_option maxRecDepth 100000 in
theorem parse_any_long (s : ByteArray) (w : World) (hs : 32768 < (s.size : Int)) : Calls Tryz.prog 9 #[.string s] w (fun e w' => e = .returned (.tuple #[.slice none 0 0, .int .i64 0, .int .i64 203]) ∧ Below w.heap.size w w') := by
  go_enter Tryz.func9, Tryz.ntmps9
  go_wp2
  go_ret3
  exact ⟨rfl, Below.refl _ _⟩
set_option maxHeartbeats 8000000 in
set_option maxRecDepth 100000 in
theorem parse_any (s : ByteArray) (w : World) (hs : s.size ≤ 2048) (hg : GlobM w) : Calls Tryz.prog 9 #[.string s] w (ParseC (parseL (linesR s.data.toList)) w) := by
  obtain ⟨ls, hls⟩ : ∃ ls, linesR s.data.toList = ls := ⟨_, rfl⟩
  have hlb : ¬ 32768 < (s.size : Int) := by omega
  have HLE := Lib.hid (fun x (hx : x ∈ ls) => show x.1.length ≤ 2048 ∧ x.2 ≤ 2049 by
    rw [← hls] at hx
    have h1 := lines_mem hx
    rw [Array.length_toList] at h1
    exact ⟨Nat.le_trans h1.1 hs, Nat.le_trans h1.2 (Nat.succ_le_succ hs)⟩)
  have HNB := Lib.hid (show ls.length ≤ 2049 by rw [← hls]; exact Nat.le_trans (lines_len _) (by rw [Array.length_toList]; exact Nat.succ_le_succ hs))
  have HLI := Lib.hid (lines_any s w (by omega) hg)
  rw [hls] at HLI ⊢
  obtain ⟨n, hn⟩ : ∃ n, ls.length = n := ⟨_, rfl⟩
  have HN := Lib.hid hn
  have HG := Lib.hid hg
  clear hs hls hn hg
  go_enter Tryz.func9, Tryz.ntmps9
  go_wp2_with (fail)
  refine HLI.out.mono ?_
  rintro e1 w1 ⟨A, m, c, A2, m2, c2, rfl, hb1, ho1, hi1⟩
  obtain ⟨hm, hcs⟩ := strs_own ho1
  obtain ⟨hci, hm2⟩ := ints_at hi1
  rw [List.length_map, HN.out] at hm hm2
  replace hm := hm.symm
  subst hm; subst hm2
  have HCS := Lib.hid hcs
  have HCI := Lib.hid hci
  have HB1 := Lib.hid hb1
  clear hb1 ho1 hi1 hcs hci
  go_wp2
  go_loopw [7, 22] (fun v7 v22 wr => ∃ (i : Nat) (acc : List StepR) (A3 : Option Addr) (m3 c3 : Nat), i ≤ n ∧ v22 = .int .i64 (i : Int) ∧ v7 = .slice A3 m3 c3 ∧ Hid (ParS ls i acc) ∧ Hid (acc.length ≤ i) ∧ Hid (OwnP wr w1.heap.size (.slice A3 m3 c3) acc) ∧ Hid (Below w1.heap.size w1 wr)) (fun _ v22 _ => ((n : Int) - intOf v22).toNat)
  case atStart => exact ⟨0, [], none, 0, 0, Nat.zero_le _, rfl, rfl, Lib.hid (ParS.start _), Lib.hid (Nat.le_refl _), Lib.hid (OwnP.nil _ _), Lib.hid (Below.refl _ _)⟩
  case round =>
    obtain ⟨i, acc, A3, m3, c3, hi, rfl, rfl, HP, HAC, HO, HB⟩ := hrel
    by_cases hin : i < n
    · have hlt : (i : Int) < (n : Int) := by omega
      have hge : (0 : Int) ≤ (i : Int) := by omega
      have hnl : ¬ (i : Int) < 0 := by omega
      have hwr : wrap64 ((i : Int) + 1) = (i : Int) + 1 := by have := HNB.out; have := HN.out; rw [wrap64_eq]; omega
      have hil : i < ls.length := by rw [HN.out]; exact hin
      obtain ⟨x, hx⟩ : ∃ x, ls[i]? = some x := ⟨_, List.getElem?_eq_getElem hil⟩
      have HX := Lib.hid hx
      have HXL := Lib.hid (HLE.out x (List.mem_of_getElem? hx))
      obtain ⟨g, eA, hc0⟩ := HCS.out i (by rw [List.length_map]; exact hil)
      obtain ⟨gi, oi, eI, hc1⟩ := HCI.out i (by rw [List.length_map]; exact hil)
      have ex : (ls.map Prod.fst).getD i [] = x.1 := by rw [List.getD_eq_getElem?_getD, List.getElem?_map, hx]; rfl
      have ey : (ls.map fun x => (x.2 : Int)).getD i 0 = (x.2 : Int) := by rw [List.getD_eq_getElem?_getD, List.getElem?_map, hx]; rfl
      rw [ex] at hc0
      rw [ey] at hc1
      obtain ⟨q, hq⟩ : ∃ q : ByteArray, (⟨x.1.toArray⟩ : ByteArray) = q := ⟨_, rfl⟩
      have hqd : q.data.toList = x.1 := by rw [← hq]
      have HQS := Lib.hid (show q.size ≤ 2048 by
        have : q.size = q.data.toList.length := by rw [Array.length_toList]; rfl
        rw [this, hqd]; exact HXL.out.1)
      have hc0' : w1.cell? ⟨g, i, none⟩ = some (.string q) := by rw [Nat.zero_add] at hc0; rw [← hq]; exact hc0
      have hs0 := (HB.out.cell (p := ⟨g, i, none⟩) (World.block_lt_of_cell? w1 _ hc0')).trans hc0'
      have hs1 := (HB.out.cell (p := ⟨gi, oi + i, none⟩) (World.block_lt_of_cell? w1 _ hc1)).trans hc1
      have HS1 := Lib.hid hs1
      have l0 := leB_of_cell hs0
      have HQD := Lib.hid hqd
      clear hc0 hc0' hc1 ex ey hx hil hq hqd hs1
      subst eA; subst eI
      go_wp2_with (fail)
      refine (line_any q wr (HG.out.later (below_tr HB1.out HB.out))).mono ?_
      rw [HQD.out]
      rintro e3 w3 (⟨s3, v3, hs3, rfl, hb3, ho3⟩ | ⟨hs3, rfl, hb3⟩)
      · have HP2 := Lib.hid (HP.out.step HX.out hs3)
        obtain ⟨K, mk, ck, rfl⟩ := own_sl ho3
        obtain ⟨w4, hst4, hs4⟩ := row_store (w := w3.alloc (.cells stepZero 33)) (ty := 33) (cs := stepCells s3 (.slice K mk ck)) (heap_alloc_new w3 _) (by kernel_rfl) rfl (by simp [Value.oneCell'])
        have hb4 : Below w3.heap.size w3 w4 := ⟨hs4.os, hs4.tape, hs4.output, by rw [hs4.size]; simp, fun j hj => (hs4.rest j (by omega)).trans (Lib.alloc_old w3 _ j hj)⟩
        have hb34 := below_tr hb3 hb4
        have hld4 := (row_load (ty := 33) hs4.at' Tryz.underlying33 (by kernel_rfl)).2
        have HB4 := Lib.hid (HB.out.trans (hb34.mono HB.out.size))
        have HU4 : Hid (OwnI w4 w1.heap.size (.slice K mk ck) s3.keep) := Lib.hid (own_mono (own_below ho3 hb4) HB.out.size)
        obtain ⟨A5, m5, c5, w5, happ, ho5, hb5⟩ := app_stp w1.heap.size w4 (.slice A3 m3 c3) (.slice K mk ck) acc s3 (HO.out.later hb34) HU4.out HB4.out.size (by have := HAC.out; have := HNB.out; have := HN.out; omega)
        have HO5 := Lib.hid ho5
        have HB5 := Lib.hid (HB4.out.trans hb5)
        clear hb3 ho3 hs3 hs4 hb4 hb34 ho5 hb5
        go_wp2_with (first | (refine store_step 33 _ _ rfl rfl rfl rfl hst4 ?_) | (refine load_step 33 _ rfl rfl rfl hld4 ?_) | (at_builtin; refine app_step 23 _ _ rfl rfl rfl rfl rfl happ ?_))
        go_roundw
        case rel => exact ⟨i + 1, acc ++ [s3], A5, m5, c5, hin, by first | exact cast1R _ | (rw [hwr]; exact cast1R _), rfl, HP2, Lib.hid (by rw [List.length_append, List.length_singleton]; exact Nat.succ_le_succ HAC.out), HO5, HB5⟩
        case measure => first | (rw [intOf_lit, intOf_lit, hwr]; omega) | (rw [intOf_lit, intOf_lit]; omega)
      · have HE := Lib.hid (HP.out.fail HX.out hs3)
        obtain ⟨w4, hst4, hs4⟩ := row_store (w := w3.alloc (.cells stepZero 33)) (ty := 33) (cs := stepZero) (heap_alloc_new w3 _) (by kernel_rfl) rfl (by simp [Value.oneCell'])
        have hb4 : Below w3.heap.size w3 w4 := ⟨hs4.os, hs4.tape, hs4.output, by rw [hs4.size]; simp, fun j hj => (hs4.rest j (by omega)).trans (Lib.alloc_old w3 _ j hj)⟩
        have hb34 := below_tr hb3 hb4
        have HB4 := Lib.hid (HB.out.trans (hb34.mono HB.out.size))
        have k1 := (hb34.cell (p := ⟨gi, oi + i, none⟩) (World.block_lt_of_cell? wr _ HS1.out)).trans HS1.out
        have l1 := leB_of_cell k1
        clear hb3 hs3 hs4 hb4 hb34
        go_wp2_with (refine store_step 33 _ _ rfl rfl rfl rfl hst4 ?_)
        refine wp_region_mix [(0, true), (1, true), (2, true), (3, true), (4, true), (5, true), (6, true), (7, true)] (by kernel_rfl) (by kernel_rfl) rfl (by kernel_rfl) (by intro _ _ d _ _ h; cases d <;> exact h) ?_; intro j1; (repeat (first | (refine wpMix_skipK rfl rfl ?_; intro K hK; go_simp; refine hK _ ?_; clear hK K) | (refine wpMix_light rfl rfl ?_; intro K hK; go_simp; refine hK _ ?_; clear hK K) | (refine wpMix_heavy rfl rfl ?_; intro K hK; go_wp2_with (fail); refine ⟨w_ext_of_below (by (repeat' (first | (with_reducible exact Below.refl _ _) | (with_reducible assumption) | (with_reducible exact below_app _ _ _ _) | (with_reducible refine below_pre ?_; (simp only [List.append_assoc, List.prefix_append, List.prefix_refl, List.prefix_append_right_inj])) | (with_reducible refine Below.alloc ?_ ?_ _) | (with_reducible refine below_ext ?_ ?_ _) | (with_reducible refine Below.drew ?_) | (with_reducible refine below_drewN ?_ _) | (with_reducible refine Below.setCell ?_ ?_ _) | go_size | (simp only [w_size_ext, List.length_append, World.alloc_size]; omega) | (simp; done) | (simp; omega)))), ?_⟩))); refine wpMix_nil ?_
        go_wp2
        go_ret3
        exact ParseC.bad HE.out (below_tr (below_tr HB1.out HB4.out) (w_ext_below _ _))
    · have hnlt : ¬ (i : Int) < (n : Int) := by omega
      have HE := Lib.hid (HP.out.done (by rw [HN.out]; exact hin))
      go_wp2
      go_ret3
      exact ParseC.ok HE.out (below_tr HB1.out HB.out) HO.out
set_option maxHeartbeats 8000000 in
set_option maxRecDepth 100000 in
theorem rparse_any_long (s : ByteArray) (w : World) (hs : 32768 < (s.size : Int)) : Calls Tryz.prog 10 #[.string s] w (fun e w' => e = .returned (.tuple #[.slice none 0 0, .int .i64 0, .int .i64 203]) ∧ Below w.heap.size w w') := by
  go_enter Tryz.func10, Tryz.ntmps10
  go_wp2
  go_ret3
  exact ⟨rfl, Below.refl _ _⟩
set_option maxHeartbeats 8000000 in
set_option maxRecDepth 100000 in
theorem rparse_any (s : ByteArray) (w : World) (hs : s.size ≤ 2048) : Calls Tryz.prog 10 #[.string s] w (ParseC (parseL (linesR s.data.toList)) w) := by
  obtain ⟨ls, hls⟩ : ∃ ls, linesR s.data.toList = ls := ⟨_, rfl⟩
  have hlb : ¬ 32768 < (s.size : Int) := by omega
  have HLE := Lib.hid (fun x (hx : x ∈ ls) => show x.1.length ≤ 2048 ∧ x.2 ≤ 2049 by
    rw [← hls] at hx
    have h1 := lines_mem hx
    rw [Array.length_toList] at h1
    exact ⟨Nat.le_trans h1.1 hs, Nat.le_trans h1.2 (Nat.succ_le_succ hs)⟩)
  have HNB := Lib.hid (show ls.length ≤ 2049 by rw [← hls]; exact Nat.le_trans (lines_len _) (by rw [Array.length_toList]; exact Nat.succ_le_succ hs))
  have HLI := Lib.hid (rlines_any s w (by omega))
  rw [hls] at HLI ⊢
  obtain ⟨n, hn⟩ : ∃ n, ls.length = n := ⟨_, rfl⟩
  have HN := Lib.hid hn
  skip
  clear hs hls hn
  go_enter Tryz.func10, Tryz.ntmps10
  go_wp2_with (fail)
  refine HLI.out.mono ?_
  rintro e1 w1 ⟨A, m, c, A2, m2, c2, rfl, hb1, ho1, hi1⟩
  obtain ⟨hm, hcs⟩ := strs_own ho1
  obtain ⟨hci, hm2⟩ := ints_at hi1
  rw [List.length_map, HN.out] at hm hm2
  replace hm := hm.symm
  subst hm; subst hm2
  have HCS := Lib.hid hcs
  have HCI := Lib.hid hci
  have HB1 := Lib.hid hb1
  clear hb1 ho1 hi1 hcs hci
  go_wp2
  go_loopw [7, 22] (fun v7 v22 wr => ∃ (i : Nat) (acc : List StepR) (A3 : Option Addr) (m3 c3 : Nat), i ≤ n ∧ v22 = .int .i64 (i : Int) ∧ v7 = .slice A3 m3 c3 ∧ Hid (ParS ls i acc) ∧ Hid (acc.length ≤ i) ∧ Hid (OwnP wr w1.heap.size (.slice A3 m3 c3) acc) ∧ Hid (Below w1.heap.size w1 wr)) (fun _ v22 _ => ((n : Int) - intOf v22).toNat)
  case atStart => exact ⟨0, [], none, 0, 0, Nat.zero_le _, rfl, rfl, Lib.hid (ParS.start _), Lib.hid (Nat.le_refl _), Lib.hid (OwnP.nil _ _), Lib.hid (Below.refl _ _)⟩
  case round =>
    obtain ⟨i, acc, A3, m3, c3, hi, rfl, rfl, HP, HAC, HO, HB⟩ := hrel
    by_cases hin : i < n
    · have hlt : (i : Int) < (n : Int) := by omega
      have hge : (0 : Int) ≤ (i : Int) := by omega
      have hnl : ¬ (i : Int) < 0 := by omega
      have hwr : wrap64 ((i : Int) + 1) = (i : Int) + 1 := by have := HNB.out; have := HN.out; rw [wrap64_eq]; omega
      have hil : i < ls.length := by rw [HN.out]; exact hin
      obtain ⟨x, hx⟩ : ∃ x, ls[i]? = some x := ⟨_, List.getElem?_eq_getElem hil⟩
      have HX := Lib.hid hx
      have HXL := Lib.hid (HLE.out x (List.mem_of_getElem? hx))
      obtain ⟨g, eA, hc0⟩ := HCS.out i (by rw [List.length_map]; exact hil)
      obtain ⟨gi, oi, eI, hc1⟩ := HCI.out i (by rw [List.length_map]; exact hil)
      have ex : (ls.map Prod.fst).getD i [] = x.1 := by rw [List.getD_eq_getElem?_getD, List.getElem?_map, hx]; rfl
      have ey : (ls.map fun x => (x.2 : Int)).getD i 0 = (x.2 : Int) := by rw [List.getD_eq_getElem?_getD, List.getElem?_map, hx]; rfl
      rw [ex] at hc0
      rw [ey] at hc1
      obtain ⟨q, hq⟩ : ∃ q : ByteArray, (⟨x.1.toArray⟩ : ByteArray) = q := ⟨_, rfl⟩
      have hqd : q.data.toList = x.1 := by rw [← hq]
      have HQS := Lib.hid (show q.size ≤ 2048 by
        have : q.size = q.data.toList.length := by rw [Array.length_toList]; rfl
        rw [this, hqd]; exact HXL.out.1)
      have hc0' : w1.cell? ⟨g, i, none⟩ = some (.string q) := by rw [Nat.zero_add] at hc0; rw [← hq]; exact hc0
      have hs0 := (HB.out.cell (p := ⟨g, i, none⟩) (World.block_lt_of_cell? w1 _ hc0')).trans hc0'
      have hs1 := (HB.out.cell (p := ⟨gi, oi + i, none⟩) (World.block_lt_of_cell? w1 _ hc1)).trans hc1
      have HS1 := Lib.hid hs1
      have l0 := leB_of_cell hs0
      have HQD := Lib.hid hqd
      clear hc0 hc0' hc1 ex ey hx hil hq hqd hs1
      subst eA; subst eI
      go_wp2_with (fail)
      refine (rline_any q wr HQS.out).mono ?_
      rw [HQD.out]
      rintro e3 w3 (⟨s3, v3, hs3, rfl, hb3, ho3⟩ | ⟨hs3, rfl, hb3⟩)
      · have HP2 := Lib.hid (HP.out.step HX.out hs3)
        obtain ⟨K, mk, ck, rfl⟩ := own_sl ho3
        obtain ⟨w4, hst4, hs4⟩ := row_store (w := w3.alloc (.cells stepZero 33)) (ty := 33) (cs := stepCells s3 (.slice K mk ck)) (heap_alloc_new w3 _) (by kernel_rfl) rfl (by simp [Value.oneCell'])
        have hb4 : Below w3.heap.size w3 w4 := ⟨hs4.os, hs4.tape, hs4.output, by rw [hs4.size]; simp, fun j hj => (hs4.rest j (by omega)).trans (Lib.alloc_old w3 _ j hj)⟩
        have hb34 := below_tr hb3 hb4
        have hld4 := (row_load (ty := 33) hs4.at' Tryz.underlying33 (by kernel_rfl)).2
        have HB4 := Lib.hid (HB.out.trans (hb34.mono HB.out.size))
        have HU4 : Hid (OwnI w4 w1.heap.size (.slice K mk ck) s3.keep) := Lib.hid (own_mono (own_below ho3 hb4) HB.out.size)
        obtain ⟨A5, m5, c5, w5, happ, ho5, hb5⟩ := app_stp w1.heap.size w4 (.slice A3 m3 c3) (.slice K mk ck) acc s3 (HO.out.later hb34) HU4.out HB4.out.size (by have := HAC.out; have := HNB.out; have := HN.out; omega)
        have HO5 := Lib.hid ho5
        have HB5 := Lib.hid (HB4.out.trans hb5)
        clear hb3 ho3 hs3 hs4 hb4 hb34 ho5 hb5
        go_wp2_with (first | (refine store_step 33 _ _ rfl rfl rfl rfl hst4 ?_) | (refine load_step 33 _ rfl rfl rfl hld4 ?_) | (at_builtin; refine app_step 23 _ _ rfl rfl rfl rfl rfl happ ?_))
        go_roundw
        case rel => exact ⟨i + 1, acc ++ [s3], A5, m5, c5, hin, by first | exact cast1R _ | (rw [hwr]; exact cast1R _), rfl, HP2, Lib.hid (by rw [List.length_append, List.length_singleton]; exact Nat.succ_le_succ HAC.out), HO5, HB5⟩
        case measure => first | (rw [intOf_lit, intOf_lit, hwr]; omega) | (rw [intOf_lit, intOf_lit]; omega)
      · have HE := Lib.hid (HP.out.fail HX.out hs3)
        obtain ⟨w4, hst4, hs4⟩ := row_store (w := w3.alloc (.cells stepZero 33)) (ty := 33) (cs := stepZero) (heap_alloc_new w3 _) (by kernel_rfl) rfl (by simp [Value.oneCell'])
        have hb4 : Below w3.heap.size w3 w4 := ⟨hs4.os, hs4.tape, hs4.output, by rw [hs4.size]; simp, fun j hj => (hs4.rest j (by omega)).trans (Lib.alloc_old w3 _ j hj)⟩
        have hb34 := below_tr hb3 hb4
        have HB4 := Lib.hid (HB.out.trans (hb34.mono HB.out.size))
        have k1 := (hb34.cell (p := ⟨gi, oi + i, none⟩) (World.block_lt_of_cell? wr _ HS1.out)).trans HS1.out
        have l1 := leB_of_cell k1
        clear hb3 hs3 hs4 hb4 hb34
        go_wp2_with (refine store_step 33 _ _ rfl rfl rfl rfl hst4 ?_)
        refine wp_region_mix [(0, true), (1, true), (2, true), (3, true), (4, true), (5, true), (6, true), (7, true)] (by kernel_rfl) (by kernel_rfl) rfl (by kernel_rfl) (by intro _ _ d _ _ h; cases d <;> exact h) ?_; intro j1; (repeat (first | (refine wpMix_skipK rfl rfl ?_; intro K hK; go_simp; refine hK _ ?_; clear hK K) | (refine wpMix_light rfl rfl ?_; intro K hK; go_simp; refine hK _ ?_; clear hK K) | (refine wpMix_heavy rfl rfl ?_; intro K hK; go_wp2_with (fail); refine ⟨w_ext_of_below (by (repeat' (first | (with_reducible exact Below.refl _ _) | (with_reducible assumption) | (with_reducible exact below_app _ _ _ _) | (with_reducible refine below_pre ?_; (simp only [List.append_assoc, List.prefix_append, List.prefix_refl, List.prefix_append_right_inj])) | (with_reducible refine Below.alloc ?_ ?_ _) | (with_reducible refine below_ext ?_ ?_ _) | (with_reducible refine Below.drew ?_) | (with_reducible refine below_drewN ?_ _) | (with_reducible refine Below.setCell ?_ ?_ _) | go_size | (simp only [w_size_ext, List.length_append, World.alloc_size]; omega) | (simp; done) | (simp; omega)))), ?_⟩))); refine wpMix_nil ?_
        go_wp2
        go_ret3
        exact ParseC.bad HE.out (below_tr (below_tr HB1.out HB4.out) (w_ext_below _ _))
    · have hnlt : ¬ (i : Int) < (n : Int) := by omega
      have HE := Lib.hid (HP.out.done (by rw [HN.out]; exact hin))
      go_wp2
      go_ret3
      exact ParseC.ok HE.out (below_tr HB1.out HB.out) HO.out
end
section
open Go.RowKit

theorem eq_strs (B B2 : Nat) (l : List Bs) (A A2 : Option Addr) (m c m2 c2 : Nat) (w : World) (h1 : OwnS w B (.slice A m c) l) (h2 : OwnS w B2 (.slice A2 m2 c2) l) (hl : l.length ≤ 1000000) : Calls Tryz.prog 15 #[.slice A m c, .slice A2 m2 c2] w (fun e w' => e = .returned (.bool true) ∧ Below w.heap.size w w') := by
  obtain ⟨e1, k1⟩ := strs_own h1
  obtain ⟨e2, k2⟩ := strs_own h2
  subst e1; subst e2
  by_cases h0 : l.length = 0
  · have h := Tryz.slices_Equal_string_empty A A2 c l.length c2 w (by omega)
    rw [h0] at h ⊢
    refine h.mono ?_
    rintro e w' ⟨rfl, rfl⟩
    exact ⟨rfl, Below.refl _ _⟩
  · obtain ⟨g, rfl, _⟩ := k1 0 (by omega)
    obtain ⟨g2, rfl, _⟩ := k2 0 (by omega)
    have cs : ∀ (g : Nat), (∀ i, i < l.length → ∃ g1 : Nat, some (⟨g, 0, none⟩ : Addr) = some ⟨g1, 0, none⟩ ∧ w.cell? ⟨g1, 0 + i, none⟩ = some (str (l.getD i []))) → ∀ j, j < (l.map fun t => (⟨t.toArray⟩ : ByteArray)).length → w.cell? ⟨g, 0 + j, none⟩ = some (.string ((l.map fun t => (⟨t.toArray⟩ : ByteArray)).getD j ByteArray.empty)) := fun g k j hj => by
      rw [List.length_map] at hj
      obtain ⟨g1, e, hc⟩ := k j hj
      injection e with e
      injection e with e
      subst e
      rw [hc, List.getD_eq_getElem?_getD, List.getD_eq_getElem?_getD, List.getElem?_map, List.getElem?_eq_getElem hj]
      rfl
    have h := Tryz.slices_Equal_string g 0 l.length c g2 0 l.length c2 (l.map fun t => ⟨t.toArray⟩) (l.map fun t => ⟨t.toArray⟩) w (by rw [List.length_map]; exact Nat.le_refl _) (by rw [List.length_map]; exact Nat.le_refl _) (by omega) (by omega) (cs g k1) (cs g2 k2)
    refine h.mono ?_
    rintro e w' ⟨rfl, q, rfl⟩
    exact ⟨by rw [decide_eq_true rfl], below_drewN (Below.refl _ _) _⟩
theorem eq_ints (B B2 : Nat) (l : List Int) (A A2 : Option Addr) (m c m2 c2 : Nat) (w : World) (h1 : OwnI w B (.slice A m c) l) (h2 : OwnI w B2 (.slice A2 m2 c2) l) (hl : l.length ≤ 1000000) : Calls Tryz.prog 16 #[.slice A m c, .slice A2 m2 c2] w (fun e w' => e = .returned (.bool true) ∧ Below w.heap.size w w') := by
  obtain ⟨k1, e1⟩ := ints_at h1
  obtain ⟨k2, e2⟩ := ints_at h2
  subst e1; subst e2
  by_cases h0 : l.length = 0
  · have h := Tryz.slices_Equal_int_empty A A2 c l.length c2 w (by omega)
    rw [h0] at h ⊢
    refine h.mono ?_
    rintro e w' ⟨rfl, rfl⟩
    exact ⟨rfl, Below.refl _ _⟩
  · obtain ⟨g, o, rfl, _⟩ := k1 0 (by omega)
    obtain ⟨g2, o2, rfl, _⟩ := k2 0 (by omega)
    have h := Tryz.slices_Equal_int g o l.length c g2 o2 l.length c2 l l w (Nat.le_refl _) (Nat.le_refl _) (by omega) (by omega) (fun j hj => by
      obtain ⟨b, p, e, hc⟩ := k1 j hj
      injection e with e
      injection e with e3 e4
      subst e3; subst e4
      exact hc) (fun j hj => by
      obtain ⟨b, p, e, hc⟩ := k2 j hj
      injection e with e
      injection e with e3 e4
      subst e3; subst e4
      exact hc)
    refine h.mono ?_
    rintro e w' ⟨rfl, q, rfl⟩
    exact ⟨by rw [beq_self_eq_true], below_drewN (Below.refl _ _) _⟩
theorem par_ok (ls : List (Bs × Nat)) (hl : ls.length ≤ 3000) : (parX (parseL ls)).length ≤ 100000 ∧ ∀ i, i < (parX (parseL ls)).length → ((parX (parseL ls)).getD i zeroR).time < 18446744073709551616 ∧ ((parX (parseL ls)).getD i zeroR).keep.length ≤ 201 := by
  cases h : parseL ls with
  | inl xs =>
    obtain ⟨h1, h2⟩ := parse_ok ls xs h
    refine ⟨show xs.length ≤ 100000 by omega, fun i hi => ?_⟩
    have hi' : i < xs.length := hi
    have e : (parX (Sum.inl xs : List StepR ⊕ Nat)).getD i zeroR = xs[i] := by
      show xs.getD i zeroR = _
      rw [List.getD_eq_getElem?_getD, List.getElem?_eq_getElem hi']; rfl
    rw [e]
    obtain ⟨h3, h4⟩ := h2 _ (List.getElem_mem hi')
    exact ⟨h3.1.time, h4⟩
  | inr k => exact ⟨Nat.zero_le _, fun i hi => by simp [parX] at hi⟩
set_option maxHeartbeats 8000000 in
set_option maxRecDepth 100000 in
theorem parse_law (s : ByteArray) (w : World) (hg : GlobM w) : Calls Tryz.prog 3 #[.string s] w (fun e w' => e = .returned (.bool true) ∧ Below w.heap.size w w') := by
  have HG := Lib.hid hg
  have HB0 := Lib.hid (Below.refl w.heap.size w)
  clear hg
  by_cases hl1 : 2048 < (s.size : Int)
  · by_cases hl2 : (s.size : Int) ≤ 32768
    · go_enter Tryz.func3, Tryz.ntmps3
      go_wp2_with (go_at_call 8; (with_reducible refine (awake_any _ HG.out).mono ?_); rintro e9 w9 ⟨rfl, hb9⟩; have HB9 := Lib.hid (below_tr HB0.out hb9); clear hb9)
      go_ret
      exact ⟨rfl, HB9.out⟩
    · have HBG := Lib.hid (show 32768 < (s.size : Int) by omega)
      go_enter Tryz.func3, Tryz.ntmps3
      go_wp2_with (fail)
      refine (parse_any_long s w HBG.out).mono ?_
      rintro e1 w1 ⟨rfl, hb1⟩
      have HB1 := Lib.hid hb1
      clear hb1
      go_wp2_with (fail)
      refine (rparse_any_long s w1 HBG.out).mono ?_
      rintro e2 w2 ⟨rfl, hb2⟩
      have HB2 := Lib.hid (below_tr HB1.out hb2)
      clear hb2
      have HEQ : Hid (Calls Tryz.prog 11 #[.slice none 0 0, .slice none 0 0, .func (.func 12) #[] #[]] w2 (fun e w' => e = .returned (.bool true) ∧ Below w2.heap.size w2 w')) := Lib.hid (eqf_any none none 0 0 [] w2 (Lib.hid fun i hi => by simp at hi) (Lib.hid fun i hi => by simp at hi) (Lib.hid (by decide)) (Lib.hid fun i hi => by simp at hi))
      go_wp2_with (fail)
      refine HEQ.out.mono ?_
      rintro e3 w3 ⟨rfl, hb3⟩
      have HB3 := Lib.hid (below_tr HB2.out hb3)
      have HG3 := Lib.hid (HG.out.later HB3.out)
      clear hb3
      go_wp2_with (go_at_call 8; (with_reducible refine (awake_any _ HG3.out).mono ?_); rintro e9 w9 ⟨rfl, hb9⟩; have HB9 := Lib.hid (below_tr HB3.out hb9); clear hb9)
      go_ret
      exact ⟨rfl, HB9.out⟩
  · have HSZ := Lib.hid (show s.size ≤ 2048 by omega)
    obtain ⟨ls, hls⟩ : ∃ ls, linesR s.data.toList = ls := ⟨_, rfl⟩
    have HLN := Lib.hid (show ls.length ≤ 2049 by rw [← hls]; exact Nat.le_trans (lines_len _) (by rw [Array.length_toList]; exact Nat.succ_le_succ HSZ.out))
    have HPO := Lib.hid (par_ok ls (by have := HLN.out; omega))
    have HPA := Lib.hid (parse_any s w HSZ.out HG.out)
    have HPR := Lib.hid (fun W => rparse_any s W HSZ.out)
    have HLA := Lib.hid (fun W (hg : GlobM W) => lines_any s W (by have := HSZ.out; omega) hg)
    have HLR := Lib.hid (fun W => rlines_any s W (by have := HSZ.out; omega))
    rw [hls] at HPA HPR HLA HLR
    generalize parseL ls = R at *
    obtain ⟨xs, hxs⟩ : ∃ xs, parX R = xs := ⟨_, rfl⟩
    obtain ⟨pn, hpn⟩ : ∃ pn, parN R = pn := ⟨_, rfl⟩
    obtain ⟨pe, hpe⟩ : ∃ pe, parE R = pe := ⟨_, rfl⟩
    unfold ParseC at HPA HPR
    rw [hxs, hpn, hpe] at HPA HPR
    rw [hxs] at HPO
    clear hls hxs hpn hpe
    go_enter Tryz.func3, Tryz.ntmps3
    go_wp2_with (fail)
    refine HPA.out.mono ?_
    rintro e1 w1 ⟨A, c, rfl, hb1, hs1⟩
    have HB1 := Lib.hid hb1
    have HS1 := Lib.hid hs1
    clear hb1 hs1
    go_wp2_with (fail)
    refine (HPR.out _).mono ?_
    rintro e2 w2 ⟨A2, c2, rfl, hb2, hs2⟩
    have HB2 := Lib.hid (below_tr HB1.out hb2)
    have HS2 := Lib.hid hs2
    have HS1b := Lib.hid (HS1.out.later hb2)
    clear hb2 hs2
    have HEQ := Lib.hid (eqf_any A A2 c c2 xs w2 HS1b HS2 (Lib.hid HPO.out.1) (Lib.hid HPO.out.2))
    go_wp2_with (fail)
    refine HEQ.out.mono ?_
    rintro e3 w3 ⟨rfl, hb3⟩
    have HB3 := Lib.hid (below_tr HB2.out hb3)
    have HG3 := Lib.hid (HG.out.later HB3.out)
    clear hb3
    go_wp2_with (fail)
    refine (HLA.out _ HG3.out).mono ?_
    rintro e4 w4 ⟨A4, m4, c4, B4, n4, d4, rfl, hb4, ho4, hi4⟩
    have HB4 := Lib.hid (below_tr HB3.out hb4)
    have HO4 := Lib.hid ho4
    have HI4 := Lib.hid hi4
    clear hb4 ho4 hi4
    go_wp2_with (fail)
    refine (HLR.out _).mono ?_
    rintro e5 w5 ⟨A5, m5, c5, B5, n5, d5, rfl, hb5, ho5, hi5⟩
    have HB5 := Lib.hid (below_tr HB4.out hb5)
    have HI4b : Hid (OwnI w5 _ _ _) := Lib.hid (own_below HI4.out hb5)
    have HI5 := Lib.hid hi5
    have HES := Lib.hid (eq_strs _ _ _ A4 A5 m4 c4 m5 c5 w5 (own_below HO4.out hb5) ho5 (by rw [List.length_map]; have := HLN.out; omega))
    clear hb5 ho5 hi5
    go_wp2_with (fail)
    refine HES.out.mono ?_
    rintro e6 w6 ⟨rfl, hb6⟩
    have HB6 := Lib.hid (below_tr HB5.out hb6)
    have HEI := Lib.hid (eq_ints _ _ _ B4 B5 n4 d4 n5 d5 w6 (own_below HI4b.out hb6) (own_below HI5.out hb6) (by rw [List.length_map]; have := HLN.out; omega))
    clear hb6
    go_wp2_with (fail)
    refine HEI.out.mono ?_
    rintro e7 w7 ⟨rfl, hb7⟩
    have HB7 := Lib.hid (below_tr HB6.out hb7)
    have HG7 := Lib.hid (HG.out.later HB7.out)
    clear hb7
    go_wp2_with (go_at_call 8; (with_reducible refine (awake_any _ HG7.out).mono ?_); rintro e9 w9 ⟨rfl, hb9⟩; have HB9 := Lib.hid (below_tr HB7.out hb9); clear hb9)
    go_ret
    exact ⟨rfl, HB9.out⟩
end
section
open Go.ChangeShapes Go.WideShapes Go.ChangeAt Go.RowKit

set_option maxRecDepth 100000 in
theorem scriptParse_lifted (os : Os) (started : os.Started) (H : Type) (enc : TypeId × Value → H) :
    ReturnsInHanded {} Tryz.checked os 3 .any (fun w args => (Rows.scriptParseSpec.pre enc Tryz.prog Tryz.f3 Rows.scriptParseRow.domain false w args ∧ laidMetH Tryz.prog Rows.scriptParseRow.laid w) ∧ sizedMet enc Tryz.prog Tryz.f3 (OpenSpec.ofChange Rows.scriptParseSpec) false w args)
      (Rows.scriptParseSpec.post enc Tryz.prog Tryz.f3 false true false false) := by
  refine handed_shaped (X := fun w _ => laidMetH Tryz.prog Rows.scriptParseRow.laid w) started (by kernel_rfl) Tryz.func3 (fun _ _ _ hh h => h.of_heap hh)
    (ChangeSpec.witness_shaped (enc := enc) (C := Tryz.checked) (os := os) (X := fun w _ => laidMetH Tryz.prog Rows.scriptParseRow.laid w) false (World.laidAll Tryz.prog os Rows.scriptParseRow.laid) #[.string ⟨#[]⟩] 8 (World.laidAll_os _ _ _)
      (World.shaped_of_ZipB (by kernel_rfl) (by kernel_rfl)) (by kernel_rfl) (by kernel_rfl) (by kernel_rfl)
      (by rw [MakeChecks.laidMetH_plain _ _ _ (by kernel_rfl)]; exact laidMet_laidAll _ (by kernel_rfl) (by kernel_rfl))) ?_
  intro W base args ds gs before hsh hval0 hW hL
  have hval : ∀ (j : Nat) t v, Tryz.f3.params[j]? = some t → args[j]? = some v → Value.okWide Tryz.prog W .any base t v := hval0
  have hW' := hW
  obtain ⟨p, q, hA0, hV, rfl, hfz, hnd⟩ := hW
  have hA : DataW.TrodAll enc Tryz.prog W 0 (fun _ => true) true Tryz.f3.params.toList args.toList ds p := hA0
  rw [Tryz.params3] at hA hval
  obtain ⟨v0, vs0, d0, ds0, p0, q0, hargs, rfl, rfl, h0, r0⟩ := trodAll_cons hA
  obtain ⟨rfl, rfl, rfl⟩ := trodAll_nil r0
  obtain rfl : args = #[v0] := by cases args; simp_all
  obtain ⟨rfl, rfl⟩ := trodVars_none hV
  obtain ⟨s0, rfl, rfl, rfl, ws0⟩ := Go.ChangeMaps.open_string Tryz.underlying9 (hval 0 9 _ rfl rfl) h0
  refine (parse_law s0 W (globM_of W hsh hL)).mono fun e W' ⟨he, hb⟩ => ?_
  subst he
  exact ⟨_, rfl, law_post Tryz.laidOut (by kernel_rfl) rfl rfl rfl hW' hb⟩

theorem scriptParse_row_holds : Rows.ScriptParseSaid :=
  OpenClaim.holds_of_wide 3 Tryz.f3 rfl rfl rfl rfl rfl rfl rfl ⟨rfl, rfl, rfl, rfl, rfl⟩ rfl rfl rfl rfl rfl (by kernel_rfl) Tryz.func3 (by kernel_rfl)
    (of_decide_eq_true (by kernel_rfl)) (by unfold Func.isWrapper; first | (rw [if_pos (by decide +kernel)]; kernel_rfl) | (rw [if_neg (by decide +kernel)]; exact ⟨rfl, rfl⟩))
    (fun os started H enc _ => scriptParse_lifted os started H enc)
theorem scriptParse_holds : Rows.ScriptParseCardSaid :=
  Claim7.holds_tied_plain_at .later [] [.data, .data, .data, .data, .sentinel, .sentinel, .pinned] true (true, "701e759cc4c0a408e5093dc706292dc96f588f7eee55d1e2826ea20109e6167f") true scriptParse_row_holds (fun _ h => by cases h) (by kernel_rfl) (fun _ h => by cases h) scriptParse_row_tie rfl ⟨rfl, rfl⟩ (by kernel_rfl) rfl
    (fun f fn hf hfn => by
      obtain rfl : f = 3 := Option.some.inj ((show Tryz.prog.funcNamed "crannog/crannoglaw23.ScriptParse" = some 3 by kernel_rfl).symm.trans hf) |>.symm
      obtain rfl : fn = Tryz.f3 := (Option.some.inj (Tryz.func3.symm.trans hfn)).symm
      exact ⟨by kernel_rfl, fun j t ht => by
        rw [Tryz.params3] at ht
        have hm : t ∈ [9] := by simpa using Array.mem_of_getElem? ht
        have hall : ([9].all fun u => !Tryz.prog.wantsStandIn u) = true := by kernel_rfl
        exact (show Tryz.prog.wantsStandIn t = false by simpa using List.all_eq_true.1 hall t hm)⟩)
    (by kernel_rfl)
end
end Go.Proofs.YtmcooenafgihkaaGreatDoor
