/- What the functions Join, Meet and Within of vector and of its reference return, for every argument. -/
import Derived.Test.YtdjmpedfeahajaaV1
namespace Go.Proofs.Ytdjmpedfeahajaa
open Go.RowKit
set_option maxHeartbeats 2000000 in
set_option maxRecDepth 100000 in
theorem join_any (a b c d e f g h a' b' c' d' e' f' g' h' : Int) (w : World) :
    Calls Try.prog 21 #[vec a b c d e f g h, vec a' b' c' d' e' f' g' h'] w (Ret (vec (max a a') (max b b') (max c c') (max d d') (max e e') (max f f') (max g g') (max h h')) w) := by
  obtain ⟨i0, i1, i2, i3, i4, i5, i6, i7⟩ := idx8 (.int .i64 a') (.int .i64 b') (.int .i64 c') (.int .i64 d') (.int .i64 e') (.int .i64 f') (.int .i64 g') (.int .i64 h')
  have hmx := mxe
  go_enter Try.func21, Try.ntmps21
  go_wp2
  go_rounds 9
  go_returns
  exact Ret.mk (by first | rfl | simp) (by (repeat' (first | (with_reducible exact Below.refl _ _) | (with_reducible assumption) | (with_reducible refine Below.alloc ?_ ?_ _) | (with_reducible refine below_ext ?_ ?_ _) | (with_reducible refine Below.drew ?_) | (with_reducible refine below_drewN ?_ _) | (with_reducible refine Below.setCell ?_ ?_ _) | go_size)))
set_option maxHeartbeats 2000000 in
set_option maxRecDepth 100000 in
theorem meet_any (a b c d e f g h a' b' c' d' e' f' g' h' : Int) (w : World) :
    Calls Try.prog 23 #[vec a b c d e f g h, vec a' b' c' d' e' f' g' h'] w (Ret (vec (min a a') (min b b') (min c c') (min d d') (min e e') (min f f') (min g g') (min h h')) w) := by
  obtain ⟨i0, i1, i2, i3, i4, i5, i6, i7⟩ := idx8 (.int .i64 a') (.int .i64 b') (.int .i64 c') (.int .i64 d') (.int .i64 e') (.int .i64 f') (.int .i64 g') (.int .i64 h')
  have hmx := mne
  go_enter Try.func23, Try.ntmps23
  go_wp2
  go_rounds 9
  go_returns
  exact Ret.mk (by first | rfl | simp) (by (repeat' (first | (with_reducible exact Below.refl _ _) | (with_reducible assumption) | (with_reducible refine Below.alloc ?_ ?_ _) | (with_reducible refine below_ext ?_ ?_ _) | (with_reducible refine Below.drew ?_) | (with_reducible refine below_drewN ?_ _) | (with_reducible refine Below.setCell ?_ ?_ _) | go_size)))
def mk8 (f : Int → Int → Int) (k j : Nat) (x y : Int) : Int := if j < k then f x y else x
theorem drewN_setCell : ∀ (w : World) (n : Nat) (a : Addr) (v : Value), (w.drewN n).setCell a v = (w.setCell a v).drewN n := fun _ _ _ _ => rfl
set_option maxHeartbeats 2000000 in
set_option maxRecDepth 100000 in
theorem rjoin_any (a b c d e f g h a' b' c' d' e' f' g' h' : Int) (w : World) :
    Calls Try.prog 22 #[vec a b c d e f g h, vec a' b' c' d' e' f' g' h'] w (Ret (vec (max a a') (max b b') (max c c') (max d d') (max e e') (max f f') (max g g') (max h h')) w) := by
  go_enter Try.func22, Try.ntmps22
  go_wp2
  go_loopw [6] (fun i wr => ∃ k n : Nat, k ≤ 8 ∧ i = .int .i64 k ∧ wr = (((w.alloc (.cells #[.int .i64 (mk8 max k 0 a a'), .int .i64 (mk8 max k 1 b b'), .int .i64 (mk8 max k 2 c c'), .int .i64 (mk8 max k 3 d d'), .int .i64 (mk8 max k 4 e e'), .int .i64 (mk8 max k 5 f f'), .int .i64 (mk8 max k 6 g g'), .int .i64 (mk8 max k 7 h h')] 23)).alloc (.cells #[.int .i64 a', .int .i64 b', .int .i64 c', .int .i64 d', .int .i64 e', .int .i64 f', .int .i64 g', .int .i64 h'] 23)).alloc (.cells #[.int .i64 0, .int .i64 0, .int .i64 0, .int .i64 0, .int .i64 0, .int .i64 0, .int .i64 0, .int .i64 0] 23)).drewN n) (fun i _ => 8 - (intOf i).toNat)
  case atStart => exact ⟨0, 0, by omega, rfl, by simp [mk8]; rfl⟩
  case round =>
    obtain ⟨k, n, hk, rfl, rfl⟩ := hrel
    have hsd := drewN_setCell
    have hk' : k = 0 ∨ k = 1 ∨ k = 2 ∨ k = 3 ∨ k = 4 ∨ k = 5 ∨ k = 6 ∨ k = 7 ∨ k = 8 := by omega
    clear hk
    rcases hk' with rfl | rfl | rfl | rfl | rfl | rfl | rfl | rfl | rfl
    all_goals simp only [mk8, Nat.reduceLT, if_true, if_false, Nat.not_lt_zero, Int.cast_ofNat_Int]
    all_goals
      go_wp2
      try go_quiet (fail)
      go_wp2
    all_goals first
      | (go_returns
         exact Ret.mk (by first | rfl | simp) (by (repeat' (first | (with_reducible exact Below.refl _ _) | (with_reducible assumption) | (with_reducible refine Below.alloc ?_ ?_ _) | (with_reducible refine below_ext ?_ ?_ _) | (with_reducible refine Below.drew ?_) | (with_reducible refine below_drewN ?_ _) | (with_reducible refine Below.setCell ?_ ?_ _) | go_size))))
      | go_roundw
    all_goals first
      | exact ⟨1, n + nq, by omega, rfl, by simp (disch := omega) only [Nat.reduceLT, if_true, if_false, Int.max_eq_right, Int.max_eq_left]⟩ | exact ⟨2, n + nq, by omega, rfl, by simp (disch := omega) only [Nat.reduceLT, if_true, if_false, Int.max_eq_right, Int.max_eq_left]⟩ | exact ⟨3, n + nq, by omega, rfl, by simp (disch := omega) only [Nat.reduceLT, if_true, if_false, Int.max_eq_right, Int.max_eq_left]⟩ | exact ⟨4, n + nq, by omega, rfl, by simp (disch := omega) only [Nat.reduceLT, if_true, if_false, Int.max_eq_right, Int.max_eq_left]⟩ | exact ⟨5, n + nq, by omega, rfl, by simp (disch := omega) only [Nat.reduceLT, if_true, if_false, Int.max_eq_right, Int.max_eq_left]⟩ | exact ⟨6, n + nq, by omega, rfl, by simp (disch := omega) only [Nat.reduceLT, if_true, if_false, Int.max_eq_right, Int.max_eq_left]⟩ | exact ⟨7, n + nq, by omega, rfl, by simp (disch := omega) only [Nat.reduceLT, if_true, if_false, Int.max_eq_right, Int.max_eq_left]⟩ | exact ⟨8, n + nq, by omega, rfl, by simp (disch := omega) only [Nat.reduceLT, if_true, Int.max_eq_right, Int.max_eq_left]⟩ | (simp [intOf]; done)
set_option maxHeartbeats 2000000 in
set_option maxRecDepth 100000 in
theorem rmeet_any (a b c d e f g h a' b' c' d' e' f' g' h' : Int) (w : World) :
    Calls Try.prog 24 #[vec a b c d e f g h, vec a' b' c' d' e' f' g' h'] w (Ret (vec (min a a') (min b b') (min c c') (min d d') (min e e') (min f f') (min g g') (min h h')) w) := by
  go_enter Try.func24, Try.ntmps24
  go_wp2
  go_loopw [6] (fun i wr => ∃ k n : Nat, k ≤ 8 ∧ i = .int .i64 k ∧ wr = (((w.alloc (.cells #[.int .i64 (mk8 min k 0 a a'), .int .i64 (mk8 min k 1 b b'), .int .i64 (mk8 min k 2 c c'), .int .i64 (mk8 min k 3 d d'), .int .i64 (mk8 min k 4 e e'), .int .i64 (mk8 min k 5 f f'), .int .i64 (mk8 min k 6 g g'), .int .i64 (mk8 min k 7 h h')] 23)).alloc (.cells #[.int .i64 a', .int .i64 b', .int .i64 c', .int .i64 d', .int .i64 e', .int .i64 f', .int .i64 g', .int .i64 h'] 23)).alloc (.cells #[.int .i64 0, .int .i64 0, .int .i64 0, .int .i64 0, .int .i64 0, .int .i64 0, .int .i64 0, .int .i64 0] 23)).drewN n) (fun i _ => 8 - (intOf i).toNat)
  case atStart => exact ⟨0, 0, by omega, rfl, by simp [mk8]; rfl⟩
  case round =>
    obtain ⟨k, n, hk, rfl, rfl⟩ := hrel
    have hsd := drewN_setCell
    have hk' : k = 0 ∨ k = 1 ∨ k = 2 ∨ k = 3 ∨ k = 4 ∨ k = 5 ∨ k = 6 ∨ k = 7 ∨ k = 8 := by omega
    clear hk
    rcases hk' with rfl | rfl | rfl | rfl | rfl | rfl | rfl | rfl | rfl
    all_goals simp only [mk8, Nat.reduceLT, if_true, if_false, Nat.not_lt_zero, Int.cast_ofNat_Int]
    all_goals
      go_wp2
      try go_quiet (fail)
      go_wp2
    all_goals first
      | (go_returns
         exact Ret.mk (by first | rfl | simp) (by (repeat' (first | (with_reducible exact Below.refl _ _) | (with_reducible assumption) | (with_reducible refine Below.alloc ?_ ?_ _) | (with_reducible refine below_ext ?_ ?_ _) | (with_reducible refine Below.drew ?_) | (with_reducible refine below_drewN ?_ _) | (with_reducible refine Below.setCell ?_ ?_ _) | go_size))))
      | go_roundw
    all_goals first
      | exact ⟨1, n + nq, by omega, rfl, by simp (disch := omega) only [Nat.reduceLT, if_true, if_false, Int.min_eq_right, Int.min_eq_left]⟩ | exact ⟨2, n + nq, by omega, rfl, by simp (disch := omega) only [Nat.reduceLT, if_true, if_false, Int.min_eq_right, Int.min_eq_left]⟩ | exact ⟨3, n + nq, by omega, rfl, by simp (disch := omega) only [Nat.reduceLT, if_true, if_false, Int.min_eq_right, Int.min_eq_left]⟩ | exact ⟨4, n + nq, by omega, rfl, by simp (disch := omega) only [Nat.reduceLT, if_true, if_false, Int.min_eq_right, Int.min_eq_left]⟩ | exact ⟨5, n + nq, by omega, rfl, by simp (disch := omega) only [Nat.reduceLT, if_true, if_false, Int.min_eq_right, Int.min_eq_left]⟩ | exact ⟨6, n + nq, by omega, rfl, by simp (disch := omega) only [Nat.reduceLT, if_true, if_false, Int.min_eq_right, Int.min_eq_left]⟩ | exact ⟨7, n + nq, by omega, rfl, by simp (disch := omega) only [Nat.reduceLT, if_true, if_false, Int.min_eq_right, Int.min_eq_left]⟩ | exact ⟨8, n + nq, by omega, rfl, by simp (disch := omega) only [Nat.reduceLT, if_true, Int.min_eq_right, Int.min_eq_left]⟩ | (simp [intOf]; done)

def withinB (a b c d e f g h a' b' c' d' e' f' g' h' : Int) : Bool :=
  decide (a ≤ a') && decide (b ≤ b') && decide (c ≤ c') && decide (d ≤ d') && decide (e ≤ e') && decide (f ≤ f') && decide (g ≤ g') && decide (h ≤ h')
theorem mxb (a b : Int) : (max a b == b) = decide (a ≤ b) := by
  by_cases h : a ≤ b
  · simp [h]; omega
  · simp [h]; omega
theorem eq_vec (a b c d e f g h a' b' c' d' e' f' g' h' : Int) (w : World) :
    (Op.equalIn 10000 23 (vec a b c d e f g h) (vec a' b' c' d' e' f' g' h')).run Try.prog w = .ok (a == a' && b == b' && c == c' && d == d' && e == e' && f == f' && g == g' && h == h') w := by
  rw [Op.equalIn.eq_def]
  simp only [go_sem]
  simp [go_sem, List.range', List.forIn_cons, List.forIn_nil]
  repeat' split
  all_goals simp_all
set_option maxHeartbeats 1000000 in
theorem within_any (a b c d e f g h a' b' c' d' e' f' g' h' : Int) (w : World) :
    Calls Try.prog 25 #[vec a b c d e f g h, vec a' b' c' d' e' f' g' h'] w (Ret (.bool (withinB a b c d e f g h a' b' c' d' e' f' g' h')) w) := by
  have hE := eq_vec
  go_enter Try.func25, Try.ntmps25
  go_wp2_with (refine wp_region_ext (by kernel_rfl) (by kernel_rfl) ?_; (repeat (go_big_quiet_step ((go_at_call 21; exact quiet_call (join_any _ _ _ _ _ _ _ _ _ _ _ _ _ _ _ _ _))))); refine wpQuiet_nil ?_; rintro w1 ⟨j1, rfl⟩)
  go_ret
  exact Ret.mk (by simp only [mxb, withinB]; rfl) (by (repeat' (first | (with_reducible exact Below.refl _ _) | (with_reducible assumption) | (with_reducible refine Below.alloc ?_ ?_ _) | (with_reducible refine below_ext ?_ ?_ _) | (with_reducible refine Below.drew ?_) | (with_reducible refine below_drewN ?_ _) | (with_reducible refine Below.setCell ?_ ?_ _) | go_size)))
set_option maxHeartbeats 2000000 in
set_option maxRecDepth 100000 in
theorem rwithin_any (a b c d e f g h a' b' c' d' e' f' g' h' : Int) (w : World) :
    Calls Try.prog 26 #[vec a b c d e f g h, vec a' b' c' d' e' f' g' h'] w (Ret (.bool (withinB a b c d e f g h a' b' c' d' e' f' g' h')) w) := by
  go_enter Try.func26, Try.ntmps26
  go_wp2
  refine wp_loop_rounds 9 ?_
  repeat any_goals (rw [rounds_succ]; go_wp2_with (refine wp_region_ext (by kernel_rfl) (by kernel_rfl) ?_; (repeat (go_big_quiet_step (fail))); refine wpQuiet_nil ?_; rintro w1 ⟨j1, rfl⟩))
  all_goals go_ret
  all_goals exact Ret.mk (by congr 1; simp [withinB]; try omega) (by (repeat' (first | (with_reducible exact Below.refl _ _) | (with_reducible assumption) | (with_reducible refine Below.alloc ?_ ?_ _) | (with_reducible refine below_ext ?_ ?_ _) | (with_reducible refine Below.drew ?_) | (with_reducible refine below_drewN ?_ _) | (with_reducible refine Below.setCell ?_ ?_ _) | go_size)))
end Go.Proofs.Ytdjmpedfeahajaa
