/- Helper lemmas: whether names lie at others, or below them. No condition. -/
import Derived.Test.YtaingleopdnkiaaDoorA3
set_option linter.unusedSimpArgs false
set_option linter.unusedVariables false
namespace Go.Proofs.YtaingleopdnkiaaDoor
open Go.RowKit

theorem eq_m (A B : Option Addr) (c d m : Nat) (x y : List ByteArray) (w : World) (hA : StrsAt w A x) (hB : StrsAt w B y) (hx : x.length = m) (hy : y.length = m) (hm : m ≤ maxLen) : Calls Tryd.prog 24 #[.slice A m c, .slice B m d] w (Ret (.bool (decide (x = y))) w) := by
  subst hx
  exact eq_same A B c d x y w hA hB hy.symm hm
/-- Some bool comes back; all that lay before is as it was. -/
def SomeB (w : World) (e : Ending) (w' : World) : Prop := ∃ b, e = .returned (.bool b) ∧ ∃ j, w' = wext w j
theorem SomeB.mk {w w' : World} {v : Value} (bv : Bool) (he : v = .bool bv) (hb : Below w.heap.size w w') : SomeB w (.returned v) w' := ⟨bv, by rw [he], w_grown hb⟩
set_option maxHeartbeats 2000000 in
set_option maxRecDepth 100000 in
theorem short_any (A : Option Addr) (c : Nat) (x : List ByteArray) (w : World) (hA : StrsAt w A x) (hm : x.length ≤ maxLen) : Calls Tryd.prog 17 #[.slice A x.length c] w (SomeB w) := by
  have HA := Lib.hid hA
  obtain ⟨n, hn⟩ : ∃ n, x.length = n := ⟨_, rfl⟩
  rw [hn] at hm ⊢
  have HN := Lib.hid hn
  simp only [maxLen] at hm
  clear hA hn
  go_enter Tryd.func17, Tryd.ntmps17
  go_wp2
  go_loopw [3, 4] (fun v3 v4 wr => ∃ (i N : Nat), i ≤ n ∧ i ≤ 41 ∧ N ≤ 9000 ∧ v4 = .int .i64 (i : Int) ∧ v3 = .int .i64 (N : Int) ∧ wr = w) (fun _ i _ => ((n : Int) - intOf i).toNat)
  case atStart => exact ⟨0, 0, Nat.zero_le _, by omega, by omega, rfl, rfl, by first | rfl | trivial⟩
  case round =>
    obtain ⟨i, N, hi, hi1, hN, rfl, rfl, rfl⟩ := hrel
    by_cases hc : i < n ∧ i ≤ 40 ∧ N ≤ 4096
    · obtain ⟨g1, g2, g3⟩ := hc
      obtain ⟨b, o, eA, hcell⟩ := HA.out i (by rw [HN.out]; exact g1)
      subst eA
      have hlb := leB_of_cell hcell
      generalize x.getD i ByteArray.empty = q at *
      obtain ⟨k, hk⟩ : ∃ k : Nat, min (q.size : Int) 4097 = (k : Int) := ⟨min q.size 4097, by omega⟩
      have hk2 : k ≤ 4097 := by omega
      have hk3 : (if (4097 : Int) < (q.size : Int) then (4097 : Int) else (q.size : Int)) = (k : Int) := by split <;> omega
      have g1' : (i : Int) < (n : Int) := by omega
      have g2' : (i : Int) ≤ 40 := by omega
      have g3' : (N : Int) ≤ 4096 := by omega
      have hge : (0 : Int) ≤ (i : Int) := by omega
      have hnl : ¬ (i : Int) < 0 := by omega
      have hwr : wrap64 ((i : Int) + 1) = ((i + 1 : Nat) : Int) := by rw [wrap64_eq]; omega
      have hwn : wrap64 ((N : Int) + (k : Int)) = ((N + k : Nat) : Int) := by rw [wrap64_eq]; omega
      go_wp2
      go_roundw
      case rel => exact ⟨i + 1, N + k, by omega, by omega, by omega, by first | rfl | rw [hwr], by first | rfl | rw [hwn] | skip, by first | rfl | trivial⟩
      case measure => first | (simp [intOf]; omega) | (rw [intOf_lit, intOf_lit, hwr]; exact meas_step _ _ g1')
    · have hcc : (¬ (i : Int) < (n : Int)) ∨ ((i : Int) < (n : Int) ∧ ¬ (i : Int) ≤ 40) ∨ ((i : Int) < (n : Int) ∧ (i : Int) ≤ 40 ∧ ¬ (N : Int) ≤ 4096) := by omega
      clear hc
      by_cases p1 : (n : Int) ≤ 40
      · rcases hcc with f1 | ⟨f1, f2⟩ | ⟨f1, f2, f3⟩
        all_goals
          go_wp2
          go_ret
          exact SomeB.mk _ rfl (Below.refl _ _)
      · rcases hcc with f1 | ⟨f1, f2⟩ | ⟨f1, f2, f3⟩
        all_goals
          go_wp2
          go_ret
          exact SomeB.mk _ rfl (Below.refl _ _)
/-- Do names lie at others, or below them? -/
def WB (l t : List ByteArray) : Bool := decide (t.length ≤ l.length) && decide (l.take t.length = t)
set_option maxHeartbeats 2000000 in
set_option maxRecDepth 100000 in
theorem within_no (A B : Option Addr) (c d n m : Nat) (w : World) (h : ¬ (m : Int) ≤ (n : Int)) : Calls Tryd.prog 18 #[.slice A n c, .slice B m d] w (Ret (.bool false) w) := by
  have h2 : (n : Int) < (m : Int) := by omega
  go_enter Tryd.func18, Tryd.ntmps18
  go_wp2
  go_ret
  exact Ret.mk rfl (Below.refl _ _)
set_option maxHeartbeats 2000000 in
set_option maxRecDepth 100000 in
theorem within_some (b o : Nat) (B : Option Addr) (c d n m : Nat) (l t : List ByteArray) (w : World) (hA : StrsAt w (some ⟨b, o, none⟩) l) (hB : StrsAt w B t) (hn : l.length = n) (hm : t.length = m) (h : (m : Int) ≤ (n : Int)) (hc : n ≤ c) (hcm : c ≤ maxLen) : Calls Tryd.prog 18 #[.slice (some ⟨b, o, none⟩) n c, .slice B m d] w (Ret (.bool (decide (l.take m = t))) w) := by
  have HA := Lib.hid (hA.take m)
  have HB := Lib.hid hB
  have h1 := Lib.hid (show (l.take m).length = m by rw [List.length_take]; omega)
  have h2 := Lib.hid hm
  have h3 := Lib.hid (show m ≤ maxLen by omega)
  have hge : (0 : Int) ≤ (m : Int) := by omega
  have hcc : (m : Int) ≤ (c : Int) := by omega
  clear hA hB hn hm
  simp only [maxLen] at hcm
  go_enter Tryd.func18, Tryd.ntmps18
  go_wp2_with (go_at_call 24; (with_reducible refine (eq_m _ B c d m (l.take m) t _ HA.out HB.out h1.out h2.out h3.out).mono ?_); rintro e1 w1 ⟨rfl, j1, rfl⟩)
  go_ret
  exact Ret.mk (by first | rfl | simp) (by (repeat' (first | (with_reducible exact Below.refl _ _) | (with_reducible assumption) | (with_reducible exact below_app _ _ _ _) | (with_reducible refine below_pre ?_; (simp only [List.append_assoc, List.prefix_append, List.prefix_refl, List.prefix_append_right_inj])) | (with_reducible refine Below.alloc ?_ ?_ _) | (with_reducible refine below_ext ?_ ?_ _) | (with_reducible refine Below.drew ?_) | (with_reducible refine below_drewN ?_ _) | (with_reducible refine Below.setCell ?_ ?_ _) | go_size | (simp only [w_size_ext, List.length_append, World.alloc_size]; omega) | (simp; done) | (simp; omega))))
set_option maxHeartbeats 2000000 in
set_option maxRecDepth 100000 in
theorem within_none (B : Option Addr) (d : Nat) (w : World) : Calls Tryd.prog 18 #[.slice none 0 0, .slice B 0 d] w (Ret (.bool true) w) := by
  have h0 : StrsAt w none [] := fun i hi => by simp at hi
  have h1 : StrsAt w B [] := fun i hi => by simp at hi
  have HC := fun c => eq_m none B c d 0 [] [] w h0 h1 rfl rfl (by decide)
  have HC2 := Lib.hid HC
  clear HC h0 h1
  go_enter Tryd.func18, Tryd.ntmps18
  go_wp2_with (go_at_call 24; (with_reducible refine (HC2.out _).mono ?_); rintro e1 w1 ⟨rfl, j1, rfl⟩)
  go_ret
  exact Ret.mk (by first | rfl | simp) (by (repeat' (first | (with_reducible exact Below.refl _ _) | (with_reducible assumption) | (with_reducible exact below_app _ _ _ _) | (with_reducible refine below_pre ?_; (simp only [List.append_assoc, List.prefix_append, List.prefix_refl, List.prefix_append_right_inj])) | (with_reducible refine Below.alloc ?_ ?_ _) | (with_reducible refine below_ext ?_ ?_ _) | (with_reducible refine Below.drew ?_) | (with_reducible refine below_drewN ?_ _) | (with_reducible refine Below.setCell ?_ ?_ _) | go_size | (simp only [w_size_ext, List.length_append, World.alloc_size]; omega) | (simp; done) | (simp; omega))))
end Go.Proofs.YtaingleopdnkiaaDoor
