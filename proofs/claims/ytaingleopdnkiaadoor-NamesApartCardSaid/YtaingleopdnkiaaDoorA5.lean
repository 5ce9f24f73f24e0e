/- Helper lemmas: the law on names within others. No condition. -/
import Derived.Test.YtaingleopdnkiaaDoorA4
set_option linter.unusedSimpArgs false
set_option linter.unusedVariables false
namespace Go.Proofs.YtaingleopdnkiaaDoor
open Go.RowKit

/-- As far as the loop has come. -/
def okP (l t : List ByteArray) (i : Nat) : Bool := decide (t.length ≤ l.length) && decide (l.take i = t.take i)
theorem okP_zero (l t : List ByteArray) : okP l t 0 = decide (t.length ≤ l.length) := by simp [okP]
theorem okP_end (l t : List ByteArray) : okP l t t.length = WB l t := by simp [okP, WB]
theorem okP_len {l t : List ByteArray} {i : Nat} (h : okP l t i = true) : t.length ≤ l.length := by
  simp [okP] at h
  exact h.1
theorem okP_false {l t : List ByteArray} {i : Nat} (hi : i < t.length) (h : okP l t i = false) : okP l t (i + 1) = false := by
  cases h2 : okP l t (i + 1) with
  | false => rfl
  | true =>
    simp [okP] at h h2
    obtain ⟨h3, h4⟩ := h2
    refine absurd ?_ (h h3)
    have := congrArg (List.take i) h4
    rw [List.take_take, List.take_take, Nat.min_eq_left (by omega)] at this
    exact this
theorem okP_true {l t : List ByteArray} {i : Nat} (hi : i < t.length) (h : okP l t i = true) : okP l t (i + 1) = decide (l.getD i ByteArray.empty = t.getD i ByteArray.empty) := by
  have hl := okP_len h
  simp only [okP, Bool.and_eq_true, decide_eq_true_eq] at h
  rw [okP, decide_eq_true hl, Bool.true_and]
  rw [List.take_succ_eq_append_getElem (show i < l.length by omega), List.take_succ_eq_append_getElem hi, h.2]
  rw [List.getD_eq_getElem?_getD, List.getElem?_eq_getElem (show i < l.length by omega), List.getD_eq_getElem?_getD, List.getElem?_eq_getElem hi]
  have key : (List.take i t ++ [l[i]] = List.take i t ++ [t[i]]) ↔ l[i] = t[i] := ⟨fun h => (by have := List.append_cancel_left h; injection this), fun h => (by rw [h])⟩
  exact decide_eq_decide.2 key
set_option maxHeartbeats 2000000 in
set_option maxRecDepth 100000 in
theorem within_empty (ad : Addr) (B : Option Addr) (c d : Nat) (w : World) (hc : c ≤ 9223372036854775807) : Calls Tryd.prog 18 #[.slice (some ad) 0 c, .slice B 0 d] w (Ret (.bool true) w) := by
  have h0 : ∀ A, StrsAt w A [] := fun A i hi => by simp at hi
  have HC := fun A c => eq_m A B c d 0 [] [] w (h0 A) (h0 B) rfl rfl (by decide)
  have HC2 := Lib.hid HC
  clear HC h0
  go_enter Tryd.func18, Tryd.ntmps18
  go_wp2_with (go_at_call 24; (with_reducible refine (HC2.out _ _).mono ?_); rintro e1 w1 ⟨rfl, j1, rfl⟩)
  go_ret
  exact Ret.mk (by first | rfl | simp) (by (repeat' (first | (with_reducible exact Below.refl _ _) | (with_reducible assumption) | (with_reducible exact below_app _ _ _ _) | (with_reducible refine below_pre ?_; (simp only [List.append_assoc, List.prefix_append, List.prefix_refl, List.prefix_append_right_inj])) | (with_reducible refine Below.alloc ?_ ?_ _) | (with_reducible refine below_ext ?_ ?_ _) | (with_reducible refine Below.drew ?_) | (with_reducible refine below_drewN ?_ _) | (with_reducible refine Below.setCell ?_ ?_ _) | go_size | (simp only [w_size_ext, List.length_append, World.alloc_size]; omega) | (simp; done) | (simp; omega))))
set_option maxHeartbeats 2000000 in
set_option maxRecDepth 100000 in
theorem within_any (A B : Option Addr) (c d : Nat) (l t : List ByteArray) (w : World) (hA : StrsAt w A l) (hB : StrsAt w B t) (hc : l.length ≤ c) (hcm : c ≤ maxLen) (h0 : A = none → c = 0) : Calls Tryd.prog 18 #[.slice A l.length c, .slice B t.length d] w (Ret (.bool (WB l t)) w) := by
  by_cases h : (t.length : Int) ≤ (l.length : Int)
  · have e : WB l t = decide (l.take t.length = t) := by
      unfold WB
      rw [decide_eq_true (show t.length ≤ l.length by omega), Bool.true_and]
    rw [e]
    rcases A with _ | ⟨b, o, sp⟩
    · have hc0 := h0 rfl
      have hl0 : l = [] := List.eq_nil_of_length_eq_zero (by omega)
      have ht0 : t = [] := List.eq_nil_of_length_eq_zero (by omega)
      subst hl0; subst ht0; subst hc0
      exact within_none B d w
    · by_cases hl0 : 0 < l.length
      · obtain ⟨b', o', eA, _⟩ := hA 0 hl0
        injection eA with eA
        injection eA with e1 e2 e3
        subst e3
        exact within_some b o B c d _ _ l t w hA hB rfl rfl h hc hcm
      · have hl0' : l = [] := List.eq_nil_of_length_eq_zero (by omega)
        have ht0 : t = [] := List.eq_nil_of_length_eq_zero (by omega)
        subst hl0'; subst ht0
        exact within_empty ⟨b, o, sp⟩ B c d w (by simp only [maxLen] at hcm; omega)
  · rw [show WB l t = false by unfold WB; rw [decide_eq_false (by omega)]; rfl]
    exact within_no A B c d _ _ w h
end Go.Proofs.YtaingleopdnkiaaDoor
