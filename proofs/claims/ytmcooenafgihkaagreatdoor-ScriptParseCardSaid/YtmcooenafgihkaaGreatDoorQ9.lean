/- Helper lemmas: the text of a word, by the reference. No condition. -/
import Derived.Test.YtmcooenafgihkaaGreatDoorQ2
import Derived.Test.YtmcooenafgihkaaGreatDoorS8
import Derived.Test.YtmcooenafgihkaaGreatDoorP7
import Derived.Test.YtmcooenafgihkaaGreatDoorP3
set_option linter.unusedSimpArgs false
set_option linter.unusedVariables false
namespace Go.Proofs.YtmcooenafgihkaaGreatDoor
open Go.RowKit

theorem hexd_hexv (c : UInt8) (x : Nat) (h : hexv c = some x) : c = hexd x ∧ x < 16 := by
  have h0 : ∀ n : Fin 256, (match hexv (UInt8.ofNat n.val) with | some x => decide (UInt8.ofNat n.val = hexd x) && decide (x < 16) | none => true) = true := by decide +kernel
  have h2 := h0 ⟨c.toNat, c.toNat_lt⟩
  simp only [UInt8.ofNat_toNat, h, Bool.and_eq_true, decide_eq_true_eq] at h2
  exact h2
theorem dgt_none (c : UInt8) (h : ∀ j, j < 16 → ¬ c = hexd j) : dgt c = 99 := by
  unfold dgt
  cases hv : hexv c with
  | none => rfl
  | some x =>
    obtain ⟨h1, h2⟩ := hexd_hexv c x hv
    exact absurd h1 (h x h2)
set_option maxHeartbeats 8000000 in
set_option maxRecDepth 100000 in
theorem rdigit_any (c : UInt8) (w : World) : Calls Tryz.prog 80 #[.int .u8 (c.toNat : Int)] w (Tells (.int .i64 (dgt c : Int)) w) := by
  obtain ⟨x, hx⟩ : ∃ x : Int, (c.toNat : Int) = x := ⟨_, rfl⟩
  have HX := Lib.hid hx
  rw [hx]
  clear hx
  go_enter Tryz.func80, Tryz.ntmps80
  go_wp2
  go_loop [4] (fun v4 => ∃ (i : Nat), i ≤ 16 ∧ v4 = .int .i64 (i : Int) ∧ Hid (∀ j, j < i → ¬ c = hexd j)) (fun i => ((16 : Int) - intOf i).toNat)
  case atStart => exact ⟨0, Nat.zero_le _, rfl, Lib.hid fun j hj => by omega⟩
  case round =>
    obtain ⟨i, hi, rfl, HM⟩ := hrel
    by_cases hin : i < 16
    · have hlt : (i : Int) < 16 := by omega
      have hge : (0 : Int) ≤ (i : Int) := by omega
      have hnl : ¬ (i : Int) < 0 := by omega
      have hidx := dig_at i hin
      have HDI := Lib.hid (dgt_hexd i hin)
      obtain ⟨d, hd⟩ : ∃ d, hexd i = d := ⟨_, rfl⟩
      rw [hd] at hidx HDI
      have HD := Lib.hid hd
      clear hd
      by_cases hcd : c = d
      · subst hcd
        have hq : ((c.toNat : Int) == x) = true := by simpa using HX.out
        go_wp2
        go_ret
        exact ⟨by rw [HDI.out]; rfl, rfl⟩
      · have hq : ((d.toNat : Int) == x) = false := by
          have := HX.out
          rw [beq_eq_false_iff_ne]
          intro e
          exact hcd (UInt8.toNat_inj.1 (by omega))
        have HM2 := Lib.hid (show ∀ j, j < i + 1 → ¬ c = hexd j from fun j hj => by
          rcases Nat.lt_or_ge j i with h | h
          · exact HM.out j h
          · obtain rfl : j = i := by omega
            rw [HD.out]; exact hcd)
        go_wp2
        go_round
        case rel => exact ⟨i + 1, hin, (by rfl), HM2⟩
        case measure => rw [intOf_lit, intOf_lit]; omega
    · have hnlt : ¬ (i : Int) < 16 := by omega
      have HN := Lib.hid (dgt_none c (fun j hj => HM.out j (by omega)))
      go_wp2
      go_ret
      exact ⟨by rw [HN.out]; rfl, rfl⟩
/-- The byte before, and the one before that. -/
def isPct (l : List UInt8) (i k : Nat) : Bool := decide (k ≤ i) && l.getD (i - k) 0 == 37
theorem drop_cons (l : List UInt8) (i : Nat) (h : i < l.length) : l.drop i = l.getD i 0 :: l.drop (i + 1) := by
  rw [List.drop_eq_getElem_cons h, List.getD_eq_getElem?_getD, List.getElem?_eq_getElem h]
  rfl
theorem isPct_next (l : List UInt8) (i : Nat) : isPct l (i + 1) 1 = (l.getD i 0 == 37) ∧ isPct l (i + 1) 2 = isPct l i 1 := by
  refine ⟨?_, ?_⟩
  · unfold isPct
    rw [decide_eq_true (by omega), show i + 1 - 1 = i by omega]; rfl
  · unfold isPct
    cases i with
    | zero => rfl
    | succ k =>
      rw [decide_eq_true (show 2 ≤ k + 1 + 1 by omega), decide_eq_true (show 1 ≤ k + 1 by omega), show k + 1 + 1 - 2 = k by omega, show k + 1 - 1 = k by omega]
/-- What has come and what will is all. -/
def TxtI (l : List UInt8) (i : Nat) (acc : List UInt8) : Prop := outF false false l = acc ++ outF (isPct l i 1) (isPct l i 2) (l.drop i)
theorem TxtI.start (l : List UInt8) : TxtI l 0 [] := rfl
theorem TxtI.hex {l : List UInt8} {i : Nat} {acc : List UInt8} (h : TxtI l i acc) {a b : UInt8} (hc : l.getD i 0 = 37) (hi : i + 2 < l.length) (ha : l.getD (i + 1) 0 = a) (hb : l.getD (i + 2) 0 = b) : TxtI l (i + 1) (acc ++ [UInt8.ofNat (16 * dgt a + dgt b)]) := by
  unfold TxtI at h ⊢
  obtain ⟨e1, e2⟩ := isPct_next l i
  rw [h, drop_cons l i (by omega), hc, e1, e2, hc, drop_cons l (i + 1) (by omega), drop_cons l (i + 2) hi, ha, hb]
  conv => lhs; rhs; unfold outF
  rw [if_pos rfl, List.append_assoc]
theorem TxtI.lone {l : List UInt8} {i : Nat} {acc : List UInt8} (h : TxtI l i acc) (hc : l.getD i 0 = 37) (hi : i < l.length) (h2 : ¬ i + 2 < l.length) : TxtI l (i + 1) acc := by
  unfold TxtI at h ⊢
  obtain ⟨e1, e2⟩ := isPct_next l i
  rw [h, drop_cons l i hi, hc, e1, e2, hc]
  have hl : (l.drop (i + 1)).length < 2 := by rw [List.length_drop]; omega
  conv => lhs; rhs; unfold outF
  rw [if_pos rfl]
  match l.drop (i + 1), hl with
  | [], _ => rfl
  | [d], _ => rfl
  | _ :: _ :: _, h => simp at h; omega
theorem TxtI.skip {l : List UInt8} {i : Nat} {acc : List UInt8} (h : TxtI l i acc) {c : UInt8} (hc : l.getD i 0 = c) (hn : ¬ c = 37) (hi : i < l.length) (hp : (isPct l i 1 || isPct l i 2) = true) : TxtI l (i + 1) acc := by
  unfold TxtI at h ⊢
  obtain ⟨e1, e2⟩ := isPct_next l i
  rw [h, drop_cons l i hi, e1, e2, hc]
  conv => lhs; rhs; unfold outF
  rw [if_neg hn, if_pos hp, List.nil_append]
theorem TxtI.put {l : List UInt8} {i : Nat} {acc : List UInt8} (h : TxtI l i acc) {c : UInt8} (hc : l.getD i 0 = c) (hn : ¬ c = 37) (hi : i < l.length) (hp : (isPct l i 1 || isPct l i 2) = false) : TxtI l (i + 1) (acc ++ [c]) := by
  unfold TxtI at h ⊢
  obtain ⟨e1, e2⟩ := isPct_next l i
  rw [h, drop_cons l i hi, e1, e2, hc]
  conv => lhs; rhs; unfold outF
  rw [if_neg hn, if_neg (by rw [hp]; decide), List.append_assoc]
theorem TxtI.done {l : List UInt8} {i : Nat} {acc : List UInt8} (h : TxtI l i acc) (hi : l.length ≤ i) : acc = outF false false l := by
  unfold TxtI at h
  rw [h, List.drop_eq_nil_of_le hi]
  simp [outF]
/-- The text of a word, and whether it is one. -/
def textVQ (R : Option (List UInt8)) (t : List UInt8) : Value := .tuple #[.string ⟨t.toArray⟩, .bool R.isSome]
end Go.Proofs.YtmcooenafgihkaaGreatDoor
