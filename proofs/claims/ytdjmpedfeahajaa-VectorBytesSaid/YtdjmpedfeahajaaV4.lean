/- What the functions Next of vector and of its reference return, for every argument; and the example of the statements. -/
import Derived.Test.YtdjmpedfeahajaaV3
namespace Go.Proofs.Ytdjmpedfeahajaa
open Go.RowKit

def top8 (a b c d e f g h : Int) : Int := max 0 (max a (max b (max c (max d (max e (max f (max g h)))))))
def nextV (a b c d e f g h who : Int) : Value :=
  if who < 0 ∨ 8 ≤ who ∨ goodB a b c d e f g h = false then .tuple #[stamp 0 0, .int .i64 22]
  else if 1099511627776 ≤ top8 a b c d e f g h then .tuple #[stamp 0 0, .int .i64 75]
  else .tuple #[stamp (top8 a b c d e f g h + 1) who, .int .i64 0]
theorem goodB_true {a b c d e f g h : Int} (hg : goodB a b c d e f g h = true) : (0 ≤ a ∧ a ≤ 1099511627776) ∧ (0 ≤ b ∧ b ≤ 1099511627776) ∧ (0 ≤ c ∧ c ≤ 1099511627776) ∧ (0 ≤ d ∧ d ≤ 1099511627776) ∧ (0 ≤ e ∧ e ≤ 1099511627776) ∧ (0 ≤ f ∧ f ≤ 1099511627776) ∧ (0 ≤ g ∧ g ≤ 1099511627776) ∧ (0 ≤ h ∧ h ≤ 1099511627776) := by
  simp [goodB, in40] at hg; omega
set_option maxHeartbeats 2000000 in
set_option maxRecDepth 100000 in
theorem next_bad (a b c d e f g h who : Int) (w : World) (hw : who < 0 ∨ 8 ≤ who) : Calls Try.prog 18 #[vec a b c d e f g h, .int .i64 who] w (Ret (.tuple #[stamp 0 0, .int .i64 22]) w) := by
  by_cases hw0 : who < 0
  all_goals
    go_enter Try.func18, Try.ntmps18
    go_wp2
    refine bodyPost_ret (by simp [results, Try.results18, go_sem]; try rfl) rfl ?_
    exact Ret.mk (by first | rfl | simp) (by (repeat' (first | (with_reducible exact Below.refl _ _) | (with_reducible assumption) | (with_reducible refine Below.alloc ?_ ?_ _) | (with_reducible refine below_ext ?_ ?_ _) | (with_reducible refine Below.drew ?_) | (with_reducible refine below_drewN ?_ _) | (with_reducible refine Below.setCell ?_ ?_ _) | go_size)))
theorem next_not (a b c d e f g h who : Int) (w : World) (h0 : 0 ≤ who) (h8 : who < 8) (hg : goodB a b c d e f g h = false) : Calls Try.prog 18 #[vec a b c d e f g h, .int .i64 who] w (Ret (.tuple #[stamp 0 0, .int .i64 22]) w) := by
  go_enter Try.func18, Try.ntmps18
  go_wp2_with (go_at_call 27; refine (good_any _ _ _ _ _ _ _ _ _).mono ?_; rw [hg]; rintro e1 w1 ⟨rfl, j1, rfl⟩)
  refine bodyPost_ret (by simp [results, Try.results18, go_sem]; try rfl) rfl ?_
  exact Ret.mk (by first | rfl | simp) (by (repeat' (first | (with_reducible exact Below.refl _ _) | (with_reducible assumption) | (with_reducible refine Below.alloc ?_ ?_ _) | (with_reducible refine below_ext ?_ ?_ _) | (with_reducible refine Below.drew ?_) | (with_reducible refine below_drewN ?_ _) | (with_reducible refine Below.setCell ?_ ?_ _) | go_size)))
set_option maxRecDepth 100000 in
set_option maxHeartbeats 2000000 in
theorem next_good (a b c d e f g h who : Int) (w : World) (h0 : 0 ≤ who) (h8 : who < 8) (hg : goodB a b c d e f g h = true) : Calls Try.prog 18 #[vec a b c d e f g h, .int .i64 who] w (Ret (nextV a b c d e f g h who) w) := by
  have hb := goodB_true hg
  obtain ⟨⟨ha0, ha1⟩, ⟨hb0, hb1⟩, ⟨hc0, hc1⟩, ⟨hd0, hd1⟩, ⟨he0, he1⟩, ⟨hf0, hf1⟩, ⟨hg0, hg1⟩, ⟨hh0, hh1⟩⟩ := hb
  have HG : Hid (goodB a b c d e f g h = true) := hg
  have hmx := mxe
  obtain ⟨i0, i1, i2, i3, i4, i5, i6, i7⟩ := idx8 (.int .i64 a) (.int .i64 b) (.int .i64 c) (.int .i64 d) (.int .i64 e) (.int .i64 f) (.int .i64 g) (.int .i64 h)
  go_enter Try.func18, Try.ntmps18
  go_wp2_with (go_at_call 27; refine (good_any _ _ _ _ _ _ _ _ _).mono ?_; rw [HG.out]; rintro e1 w1 ⟨rfl, j1, rfl⟩)
  go_rounds 9
  all_goals refine bodyPost_ret (by simp [results, Try.results18, go_sem]; try rfl) rfl ?_
  all_goals refine Ret.mk ?_ (by (repeat' (first | (with_reducible exact Below.refl _ _) | (with_reducible assumption) | (with_reducible refine Below.alloc ?_ ?_ _) | (with_reducible refine below_ext ?_ ?_ _) | (with_reducible refine Below.drew ?_) | (with_reducible refine below_drewN ?_ _) | (with_reducible refine Below.setCell ?_ ?_ _) | go_size)))
  all_goals have hn : ¬ (who < 0 ∨ 8 ≤ who ∨ goodB a b c d e f g h = false) := by rw [HG.out]; simp; omega
  all_goals simp only [nextV, if_neg hn]
  all_goals split
  all_goals first | rfl | (exfalso; simp only [top8] at *; (try simp only [beq_iff_eq, beq_eq_false_iff_ne, ne_eq] at *); omega)
theorem next_any (a b c d e f g h who : Int) (w : World) : Calls Try.prog 18 #[vec a b c d e f g h, .int .i64 who] w (Ret (nextV a b c d e f g h who) w) := by
  by_cases h0 : 0 ≤ who
  · by_cases h8 : who < 8
    · cases hg : goodB a b c d e f g h
      · rw [show nextV a b c d e f g h who = .tuple #[stamp 0 0, .int .i64 22] from by simp [nextV, hg]]
        exact next_not a b c d e f g h who w h0 h8 hg
      · exact next_good a b c d e f g h who w h0 h8 hg
    · rw [show nextV a b c d e f g h who = .tuple #[stamp 0 0, .int .i64 22] from by simp only [nextV]; rw [if_pos (by omega)]]
      exact next_bad a b c d e f g h who w (by omega)
  · rw [show nextV a b c d e f g h who = .tuple #[stamp 0 0, .int .i64 22] from by simp only [nextV]; rw [if_pos (by omega)]]
    exact next_bad a b c d e f g h who w (by omega)
set_option maxHeartbeats 2000000 in
set_option maxRecDepth 100000 in
theorem rnext_bad (a b c d e f g h who : Int) (w : World) (hw : who < 0 ∨ 8 ≤ who) : Calls Try.prog 19 #[vec a b c d e f g h, .int .i64 who] w (Ret (.tuple #[stamp 0 0, .int .i64 22]) w) := by
  by_cases hw0 : who < 0
  all_goals
    go_enter Try.func19, Try.ntmps19
    go_wp2
    refine bodyPost_ret (by simp [results, Try.results19, go_sem]; try rfl) rfl ?_
    exact Ret.mk (by first | rfl | simp) (by (repeat' (first | (with_reducible exact Below.refl _ _) | (with_reducible assumption) | (with_reducible refine Below.alloc ?_ ?_ _) | (with_reducible refine below_ext ?_ ?_ _) | (with_reducible refine Below.drew ?_) | (with_reducible refine below_drewN ?_ _) | (with_reducible refine Below.setCell ?_ ?_ _) | go_size)))
theorem rnext_not (a b c d e f g h who : Int) (w : World) (h0 : 0 ≤ who) (h8 : who < 8) (hg : goodB a b c d e f g h = false) : Calls Try.prog 19 #[vec a b c d e f g h, .int .i64 who] w (Ret (.tuple #[stamp 0 0, .int .i64 22]) w) := by
  go_enter Try.func19, Try.ntmps19
  go_wp2_with (go_at_call 28; refine (rgood_any _ _ _ _ _ _ _ _ _).mono ?_; rw [hg]; rintro e1 w1 ⟨rfl, j1, rfl⟩)
  refine bodyPost_ret (by simp [results, Try.results19, go_sem]; try rfl) rfl ?_
  exact Ret.mk (by first | rfl | simp) (by (repeat' (first | (with_reducible exact Below.refl _ _) | (with_reducible assumption) | (with_reducible refine Below.alloc ?_ ?_ _) | (with_reducible refine below_ext ?_ ?_ _) | (with_reducible refine Below.drew ?_) | (with_reducible refine below_drewN ?_ _) | (with_reducible refine Below.setCell ?_ ?_ _) | go_size)))
set_option maxRecDepth 100000 in
set_option maxHeartbeats 2000000 in
theorem rnext_good (a b c d e f g h who : Int) (w : World) (h0 : 0 ≤ who) (h8 : who < 8) (hg : goodB a b c d e f g h = true) : Calls Try.prog 19 #[vec a b c d e f g h, .int .i64 who] w (Ret (nextV a b c d e f g h who) w) := by
  have hb := goodB_true hg
  obtain ⟨⟨ha0, ha1⟩, ⟨hb0, hb1⟩, ⟨hc0, hc1⟩, ⟨hd0, hd1⟩, ⟨he0, he1⟩, ⟨hf0, hf1⟩, ⟨hg0, hg1⟩, ⟨hh0, hh1⟩⟩ := hb
  have HG : Hid (goodB a b c d e f g h = true) := hg
  have hmx := mxe
  go_enter Try.func19, Try.ntmps19
  go_wp2_with (go_at_call 28; refine (rgood_any _ _ _ _ _ _ _ _ _).mono ?_; rw [HG.out]; rintro e1 w1 ⟨rfl, j1, rfl⟩)
  go_rounds 9
  all_goals refine bodyPost_ret (by simp [results, Try.results19, go_sem]; try rfl) rfl ?_
  all_goals refine Ret.mk ?_ (by (repeat' (first | (with_reducible exact Below.refl _ _) | (with_reducible assumption) | (with_reducible refine Below.alloc ?_ ?_ _) | (with_reducible refine below_ext ?_ ?_ _) | (with_reducible refine Below.drew ?_) | (with_reducible refine below_drewN ?_ _) | (with_reducible refine Below.setCell ?_ ?_ _) | go_size)))
  all_goals have hn : ¬ (who < 0 ∨ 8 ≤ who ∨ goodB a b c d e f g h = false) := by rw [HG.out]; simp; omega
  all_goals simp only [nextV, if_neg hn]
  all_goals split
  all_goals first | rfl | (exfalso; simp only [top8] at *; (try simp only [beq_iff_eq, beq_eq_false_iff_ne, ne_eq] at *); omega)
theorem rnext_any (a b c d e f g h who : Int) (w : World) : Calls Try.prog 19 #[vec a b c d e f g h, .int .i64 who] w (Ret (nextV a b c d e f g h who) w) := by
  by_cases h0 : 0 ≤ who
  · by_cases h8 : who < 8
    · cases hg : goodB a b c d e f g h
      · rw [show nextV a b c d e f g h who = .tuple #[stamp 0 0, .int .i64 22] from by simp [nextV, hg]]
        exact rnext_not a b c d e f g h who w h0 h8 hg
      · exact rnext_good a b c d e f g h who w h0 h8 hg
    · rw [show nextV a b c d e f g h who = .tuple #[stamp 0 0, .int .i64 22] from by simp only [nextV]; rw [if_pos (by omega)]]
      exact rnext_bad a b c d e f g h who w (by omega)
  · rw [show nextV a b c d e f g h who = .tuple #[stamp 0 0, .int .i64 22] from by simp only [nextV]; rw [if_pos (by omega)]]
    exact rnext_bad a b c d e f g h who w (by omega)

def nextT (a b c d e f g h who : Int) : Int := if who < 0 ∨ 8 ≤ who ∨ goodB a b c d e f g h = false then 0 else if 1099511627776 ≤ top8 a b c d e f g h then 0 else top8 a b c d e f g h + 1
def nextW (a b c d e f g h who : Int) : Int := if who < 0 ∨ 8 ≤ who ∨ goodB a b c d e f g h = false then 0 else if 1099511627776 ≤ top8 a b c d e f g h then 0 else who
def nextE (a b c d e f g h who : Int) : Int := if who < 0 ∨ 8 ≤ who ∨ goodB a b c d e f g h = false then 22 else if 1099511627776 ≤ top8 a b c d e f g h then 75 else 0
theorem nextV_eq (a b c d e f g h who : Int) : nextV a b c d e f g h who = .tuple #[stamp (nextT a b c d e f g h who) (nextW a b c d e f g h who), .int .i64 (nextE a b c d e f g h who)] := by
  simp only [nextV, nextT, nextW, nextE]; split
  · rfl
  · split <;> rfl
theorem next_any2 (a b c d e f g h who : Int) (w : World) : Calls Try.prog 18 #[vec a b c d e f g h, .int .i64 who] w (Ret (.tuple #[stamp (nextT a b c d e f g h who) (nextW a b c d e f g h who), .int .i64 (nextE a b c d e f g h who)]) w) := nextV_eq a b c d e f g h who ▸ next_any a b c d e f g h who w
theorem rnext_any2 (a b c d e f g h who : Int) (w : World) : Calls Try.prog 19 #[vec a b c d e f g h, .int .i64 who] w (Ret (.tuple #[stamp (nextT a b c d e f g h who) (nextW a b c d e f g h who), .int .i64 (nextE a b c d e f g h who)]) w) := nextV_eq a b c d e f g h who ▸ rnext_any a b c d e f g h who w
theorem next_ex1 (w : World) : Calls Try.prog 18 #[vec 3 5 0 0 0 0 0 0, .int .i64 2] w (Ret (.tuple #[stamp 6 2, .int .i64 0]) w) := by
  have h := next_any 3 5 0 0 0 0 0 0 2 w
  rwa [show nextV 3 5 0 0 0 0 0 0 2 = .tuple #[stamp 6 2, .int .i64 0] from by kernel_rfl] at h
theorem next_ex2 (w : World) : Calls Try.prog 18 #[vec 1099511627776 0 0 0 0 0 0 0, .int .i64 0] w (Ret (.tuple #[stamp 0 0, .int .i64 75]) w) := by
  have h := next_any 1099511627776 0 0 0 0 0 0 0 0 w
  rwa [show nextV 1099511627776 0 0 0 0 0 0 0 0 = .tuple #[stamp 0 0, .int .i64 75] from by kernel_rfl] at h
theorem has_ex1 (w : World) : Calls Try.prog 35 #[vec 3 5 0 0 0 0 0 0, stamp 5 1] w (Ret (.bool true) w) := has_any 3 5 0 0 0 0 0 0 5 1 w
theorem has_ex2 (w : World) : Calls Try.prog 35 #[vec 3 5 0 0 0 0 0 0, stamp 4 0] w (Ret (.bool false) w) := has_any 3 5 0 0 0 0 0 0 4 0 w
set_option maxHeartbeats 1000000 in
theorem awake_any (w : World) : Calls Try.prog 20 #[] w (Ret (.bool true) w) := by
  go_enter Try.func20, Try.ntmps20
  go_wp2_with (first | (go_at_call 18; (with_reducible refine (next_ex1 _).mono ?_); rintro e1 w1 ⟨rfl, j1, rfl⟩) | (go_at_call 18; (with_reducible refine (next_ex2 _).mono ?_); rintro e1 w1 ⟨rfl, j1, rfl⟩) | (go_at_call 35; (with_reducible refine (has_ex1 _).mono ?_); rintro e1 w1 ⟨rfl, j1, rfl⟩) | (go_at_call 35; (with_reducible refine (has_ex2 _).mono ?_); rintro e1 w1 ⟨rfl, j1, rfl⟩))
  all_goals go_ret
  all_goals exact Ret.mk (by first | rfl | simp) (by (repeat' (first | (with_reducible exact Below.refl _ _) | (with_reducible assumption) | (with_reducible refine Below.alloc ?_ ?_ _) | (with_reducible refine below_ext ?_ ?_ _) | (with_reducible refine Below.drew ?_) | (with_reducible refine below_drewN ?_ _) | (with_reducible refine Below.setCell ?_ ?_ _) | go_size)))
end Go.Proofs.Ytdjmpedfeahajaa
