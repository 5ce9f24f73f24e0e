/- What the functions Later, Has and With of vector and of its reference return, for every argument. -/
import Derived.Test.YtdjmpedfeahajaaV2
namespace Go.Proofs.Ytdjmpedfeahajaa
open Go.RowKit
theorem who8 {P : Int → Prop} (i : Int) (h0 : 0 ≤ i) (h8 : i < 8) (p0 : P 0) (p1 : P 1) (p2 : P 2) (p3 : P 3) (p4 : P 4) (p5 : P 5) (p6 : P 6) (p7 : P 7) : P i := by
  have : i = 0 ∨ i = 1 ∨ i = 2 ∨ i = 3 ∨ i = 4 ∨ i = 5 ∨ i = 6 ∨ i = 7 := by omega
  rcases this with rfl | rfl | rfl | rfl | rfl | rfl | rfl | rfl <;> assumption
def hasB (a b c d e f g h t who : Int) : Bool := isB t who && decide (t ≤ get8 who a b c d e f g h)
def set8 (i v : Int) (a b c d e f g h : Int) : Value :=
  vec (if i = 0 then v else a) (if i = 1 then v else b) (if i = 2 then v else c) (if i = 3 then v else d) (if i = 4 then v else e) (if i = 5 then v else f) (if i = 6 then v else g) (if i = 7 then v else h)
def withV (a b c d e f g h t who : Int) : Value := if isB t who = true then set8 who (max (get8 who a b c d e f g h) t) a b c d e f g h else vec a b c d e f g h
def laterV (t who t' who' : Int) : Value := if lessB t who t' who' = true then stamp t' who' else stamp t who
set_option maxHeartbeats 1000000 in
theorem later_any (t who t' who' : Int) (w : World) : Calls Try.prog 33 #[stamp t who, stamp t' who'] w (Ret (laterV t who t' who') w) := by
  cases hl : lessB t who t' who'
  all_goals
    go_enter Try.func33, Try.ntmps33
    go_wp2_with (go_at_call 31; refine (less_any _ _ _ _ _).mono ?_; rw [hl]; rintro e1 w1 ⟨rfl, j1, rfl⟩)
    refine bodyPost_ret (by simp [results, Try.results33, go_sem]; try rfl) rfl ?_
    exact Ret.mk (by simp [laterV, hl]) (by (repeat' (first | (with_reducible exact Below.refl _ _) | (with_reducible assumption) | (with_reducible refine Below.alloc ?_ ?_ _) | (with_reducible refine below_ext ?_ ?_ _) | (with_reducible refine Below.drew ?_) | (with_reducible refine below_drewN ?_ _) | (with_reducible refine Below.setCell ?_ ?_ _) | go_size)))
set_option maxHeartbeats 1000000 in
theorem rlater_any (t who t' who' : Int) (w : World) : Calls Try.prog 34 #[stamp t who, stamp t' who'] w (Ret (laterV t who t' who') w) := by
  cases hl : lessB t who t' who'
  all_goals
    go_enter Try.func34, Try.ntmps34
    go_wp2_with (go_at_call 32; refine (rless_any _ _ _ _ _).mono ?_; rw [hl]; rintro e1 w1 ⟨rfl, j1, rfl⟩)
    refine bodyPost_ret (by simp [results, Try.results34, go_sem]; try rfl) rfl ?_
    exact Ret.mk (by simp [laterV, hl]) (by (repeat' (first | (with_reducible exact Below.refl _ _) | (with_reducible assumption) | (with_reducible refine Below.alloc ?_ ?_ _) | (with_reducible refine below_ext ?_ ?_ _) | (with_reducible refine Below.drew ?_) | (with_reducible refine below_drewN ?_ _) | (with_reducible refine Below.setCell ?_ ?_ _) | go_size)))
set_option maxHeartbeats 2000000 in
set_option maxRecDepth 100000 in
theorem has_any (a b c d e f g h t who : Int) (w : World) : Calls Try.prog 35 #[vec a b c d e f g h, stamp t who] w (Ret (.bool (hasB a b c d e f g h t who)) w) := by
  cases hi : isB t who
  · go_enter Try.func35, Try.ntmps35
    go_wp2_with (refine wp_region_ext (by kernel_rfl) (by kernel_rfl) ?_; (repeat (go_big_quiet_step ((go_at_call 29; exact quiet_call (hi ▸ is_any _ _ _))))); refine wpQuiet_nil ?_; rintro w1 ⟨j1, rfl⟩)
    go_ret
    exact Ret.mk (by congr 1; simp [hasB, hi]) (by (repeat' (first | (with_reducible exact Below.refl _ _) | (with_reducible assumption) | (with_reducible refine Below.alloc ?_ ?_ _) | (with_reducible refine below_ext ?_ ?_ _) | (with_reducible refine Below.drew ?_) | (with_reducible refine below_drewN ?_ _) | (with_reducible refine Below.setCell ?_ ?_ _) | go_size)))
  · obtain ⟨h1, h2, h3, h4⟩ := isB_true hi
    revert hi
    refine who8 (P := fun who => isB t who = true → Calls Try.prog 35 #[vec a b c d e f g h, stamp t who] w (Ret (.bool (hasB a b c d e f g h t who)) w)) who h3 h4 ?_ ?_ ?_ ?_ ?_ ?_ ?_ ?_
    all_goals
      intro hi
      go_enter Try.func35, Try.ntmps35
      go_wp2_with (refine wp_region_ext (by kernel_rfl) (by kernel_rfl) ?_; (repeat (go_big_quiet_step ((go_at_call 29; exact quiet_call (hi ▸ is_any _ _ _))))); refine wpQuiet_nil ?_; rintro w1 ⟨j1, rfl⟩)
      go_ret
      exact Ret.mk (by congr 1; simp [hasB, hi, get8]) (by (repeat' (first | (with_reducible exact Below.refl _ _) | (with_reducible assumption) | (with_reducible refine Below.alloc ?_ ?_ _) | (with_reducible refine below_ext ?_ ?_ _) | (with_reducible refine Below.drew ?_) | (with_reducible refine below_drewN ?_ _) | (with_reducible refine Below.setCell ?_ ?_ _) | go_size)))
set_option maxHeartbeats 2000000 in
set_option maxRecDepth 100000 in
theorem rhas_any (a b c d e f g h t who : Int) (w : World) : Calls Try.prog 36 #[vec a b c d e f g h, stamp t who] w (Ret (.bool (hasB a b c d e f g h t who)) w) := by
  cases hi : isB t who
  · go_enter Try.func36, Try.ntmps36
    go_wp2_with (refine wp_region_ext (by kernel_rfl) (by kernel_rfl) ?_; (repeat (go_big_quiet_step ((go_at_call 30; exact quiet_call (hi ▸ ris_any _ _ _))))); refine wpQuiet_nil ?_; rintro w1 ⟨j1, rfl⟩)
    go_ret
    exact Ret.mk (by congr 1; simp [hasB, hi]) (by (repeat' (first | (with_reducible exact Below.refl _ _) | (with_reducible assumption) | (with_reducible refine Below.alloc ?_ ?_ _) | (with_reducible refine below_ext ?_ ?_ _) | (with_reducible refine Below.drew ?_) | (with_reducible refine below_drewN ?_ _) | (with_reducible refine Below.setCell ?_ ?_ _) | go_size)))
  · obtain ⟨h1, h2, h3, h4⟩ := isB_true hi
    revert hi
    refine who8 (P := fun who => isB t who = true → Calls Try.prog 36 #[vec a b c d e f g h, stamp t who] w (Ret (.bool (hasB a b c d e f g h t who)) w)) who h3 h4 ?_ ?_ ?_ ?_ ?_ ?_ ?_ ?_
    all_goals
      intro hi
      go_enter Try.func36, Try.ntmps36
      go_wp2_with (refine wp_region_ext (by kernel_rfl) (by kernel_rfl) ?_; (repeat (go_big_quiet_step ((go_at_call 30; exact quiet_call (hi ▸ ris_any _ _ _))))); refine wpQuiet_nil ?_; rintro w1 ⟨j1, rfl⟩)
      go_ret
      exact Ret.mk (by congr 1; simp [hasB, hi, get8]) (by (repeat' (first | (with_reducible exact Below.refl _ _) | (with_reducible assumption) | (with_reducible refine Below.alloc ?_ ?_ _) | (with_reducible refine below_ext ?_ ?_ _) | (with_reducible refine Below.drew ?_) | (with_reducible refine below_drewN ?_ _) | (with_reducible refine Below.setCell ?_ ?_ _) | go_size)))
set_option maxHeartbeats 2000000 in
set_option maxRecDepth 100000 in
theorem with_any (a b c d e f g h t who : Int) (w : World) : Calls Try.prog 37 #[vec a b c d e f g h, stamp t who] w (Ret (withV a b c d e f g h t who) w) := by
  cases hi : isB t who
  · go_enter Try.func37, Try.ntmps37
    go_wp2_with (go_at_call 29; refine (is_any _ _ _).mono ?_; rw [hi]; rintro e1 w1 ⟨rfl, j1, rfl⟩)
    refine bodyPost_ret (by simp [results, Try.results37, go_sem]; try rfl) rfl ?_
    exact Ret.mk (by simp [withV, hi]) (by (repeat' (first | (with_reducible exact Below.refl _ _) | (with_reducible assumption) | (with_reducible refine Below.alloc ?_ ?_ _) | (with_reducible refine below_ext ?_ ?_ _) | (with_reducible refine Below.drew ?_) | (with_reducible refine below_drewN ?_ _) | (with_reducible refine Below.setCell ?_ ?_ _) | go_size)))
  · have hmx := mxe
    obtain ⟨h1, h2, h3, h4⟩ := isB_true hi
    revert hi
    refine who8 (P := fun who => isB t who = true → Calls Try.prog 37 #[vec a b c d e f g h, stamp t who] w (Ret (withV a b c d e f g h t who) w)) who h3 h4 ?_ ?_ ?_ ?_ ?_ ?_ ?_ ?_
    all_goals
      intro hi
      go_enter Try.func37, Try.ntmps37
      go_wp2_with (go_at_call 29; refine (is_any _ _ _).mono ?_; rw [hi]; rintro e1 w1 ⟨rfl, j1, rfl⟩)
      go_region
      go_wp2
      refine bodyPost_ret (by simp [results, Try.results37, go_sem]; try rfl) rfl ?_
      exact Ret.mk (by simp [withV, hi, set8, get8]) (by (repeat' (first | (with_reducible exact Below.refl _ _) | (with_reducible assumption) | (with_reducible refine Below.alloc ?_ ?_ _) | (with_reducible refine below_ext ?_ ?_ _) | (with_reducible refine Below.drew ?_) | (with_reducible refine below_drewN ?_ _) | (with_reducible refine Below.setCell ?_ ?_ _) | go_size)))
set_option maxHeartbeats 2000000 in
set_option maxRecDepth 100000 in
theorem rwith_any (a b c d e f g h t who : Int) (w : World) : Calls Try.prog 38 #[vec a b c d e f g h, stamp t who] w (Ret (withV a b c d e f g h t who) w) := by
  cases hi : isB t who
  · go_enter Try.func38, Try.ntmps38
    go_wp2_with (refine wp_region_ext (by kernel_rfl) (by kernel_rfl) ?_; (repeat (go_big_quiet_step ((go_at_call 30; exact quiet_call (hi ▸ ris_any _ _ _))))); refine wpQuiet_nil ?_; rintro w1 ⟨j1, rfl⟩)
    refine bodyPost_ret (by simp [results, Try.results38, go_sem]; try rfl) rfl ?_
    exact Ret.mk (by simp [withV, hi]) (by (repeat' (first | (with_reducible exact Below.refl _ _) | (with_reducible assumption) | (with_reducible refine Below.alloc ?_ ?_ _) | (with_reducible refine below_ext ?_ ?_ _) | (with_reducible refine Below.drew ?_) | (with_reducible refine below_drewN ?_ _) | (with_reducible refine Below.setCell ?_ ?_ _) | go_size)))
  · obtain ⟨h1, h2, h3, h4⟩ := isB_true hi
    revert hi
    refine who8 (P := fun who => isB t who = true → Calls Try.prog 38 #[vec a b c d e f g h, stamp t who] w (Ret (withV a b c d e f g h t who) w)) who h3 h4 ?_ ?_ ?_ ?_ ?_ ?_ ?_ ?_
    all_goals
      intro hi
      go_enter Try.func38, Try.ntmps38
      go_wp2_with (refine wp_region_ext (by kernel_rfl) (by kernel_rfl) ?_; (repeat (go_big_quiet_step ((go_at_call 30; exact quiet_call (hi ▸ ris_any _ _ _))))); refine wpQuiet_nil ?_; rintro w1 ⟨j1, rfl⟩)
      all_goals refine bodyPost_ret (by simp [results, Try.results38, go_sem]; try rfl) rfl ?_
      all_goals exact Ret.mk (by simp [withV, hi, set8, get8]; omega) (by (repeat' (first | (with_reducible exact Below.refl _ _) | (with_reducible assumption) | (with_reducible refine Below.alloc ?_ ?_ _) | (with_reducible refine below_ext ?_ ?_ _) | (with_reducible refine Below.drew ?_) | (with_reducible refine below_drewN ?_ _) | (with_reducible refine Below.setCell ?_ ?_ _) | go_size)))
end Go.Proofs.Ytdjmpedfeahajaa
