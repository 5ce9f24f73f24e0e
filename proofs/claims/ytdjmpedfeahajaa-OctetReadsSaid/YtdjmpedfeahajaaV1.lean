/- What the functions Is, Good and Less of vector and of its reference return, for every argument. -/
import Derived.Test.YtdjmpedfeahajaaK
namespace Go.Proofs.Ytdjmpedfeahajaa
open Go.RowKit

theorem mxe (x y : Int) : (if x < y then y else x) = max x y := by
  split <;> omega
theorem mne (x y : Int) : (if y < x then y else x) = min x y := by
  split <;> omega
theorem idx8 (a b c d e f g h : Value) : 
  (∀ w, (Instr.index 23 (.agg #[a, b, c, d, e, f, g, h]) (.int .i64 0)).run Try.prog w = .ok a w) ∧
  (∀ w, (Instr.index 23 (.agg #[a, b, c, d, e, f, g, h]) (.int .i64 1)).run Try.prog w = .ok b w) ∧
  (∀ w, (Instr.index 23 (.agg #[a, b, c, d, e, f, g, h]) (.int .i64 2)).run Try.prog w = .ok c w) ∧
  (∀ w, (Instr.index 23 (.agg #[a, b, c, d, e, f, g, h]) (.int .i64 3)).run Try.prog w = .ok d w) ∧
  (∀ w, (Instr.index 23 (.agg #[a, b, c, d, e, f, g, h]) (.int .i64 4)).run Try.prog w = .ok e w) ∧
  (∀ w, (Instr.index 23 (.agg #[a, b, c, d, e, f, g, h]) (.int .i64 5)).run Try.prog w = .ok f w) ∧
  (∀ w, (Instr.index 23 (.agg #[a, b, c, d, e, f, g, h]) (.int .i64 6)).run Try.prog w = .ok g w) ∧
  (∀ w, (Instr.index 23 (.agg #[a, b, c, d, e, f, g, h]) (.int .i64 7)).run Try.prog w = .ok h w) := by
  refine ⟨?_, ?_, ?_, ?_, ?_, ?_, ?_, ?_⟩ <;> exact fun _ => by kernel_rfl

abbrev vec (a b c d e f g h : Int) : Value := .agg #[.int .i64 a, .int .i64 b, .int .i64 c, .int .i64 d, .int .i64 e, .int .i64 f, .int .i64 g, .int .i64 h]
abbrev stamp (t who : Int) : Value := .agg #[.int .i64 t, .int .i64 who]
def in40 (n : Int) : Bool := decide (0 ≤ n) && decide (n ≤ 1099511627776)
def goodB (a b c d e f g h : Int) : Bool := in40 a && in40 b && in40 c && in40 d && in40 e && in40 f && in40 g && in40 h
def isB (t who : Int) : Bool := decide (1 ≤ t) && decide (t ≤ 1099511627776) && decide (0 ≤ who) && decide (who < 8)
def lessB (t who t' who' : Int) : Bool := decide (t < t') || (decide (t = t') && decide (who < who'))
def get8 (i : Int) (a b c d e f g h : Int) : Int := if i = 0 then a else if i = 1 then b else if i = 2 then c else if i = 3 then d else if i = 4 then e else if i = 5 then f else if i = 6 then g else h
theorem isB_true {t who : Int} (h : isB t who = true) : 1 ≤ t ∧ t ≤ 1099511627776 ∧ 0 ≤ who ∧ who < 8 := by
  simp [isB] at h; omega

set_option maxHeartbeats 400000 in
theorem is_any (t who : Int) (w : World) : Calls Try.prog 29 #[stamp t who] w (Ret (.bool (isB t who)) w) := by
  go_enter Try.func29, Try.ntmps29
  go_wp2
  all_goals go_ret
  all_goals exact Ret.mk (by congr 1; simp [isB]; try omega) (by (repeat' (first | (with_reducible exact Below.refl _ _) | (with_reducible assumption) | (with_reducible refine Below.alloc ?_ ?_ _) | (with_reducible refine below_ext ?_ ?_ _) | (with_reducible refine Below.drew ?_) | (with_reducible refine below_drewN ?_ _) | (with_reducible refine Below.setCell ?_ ?_ _) | go_size)))
set_option maxHeartbeats 400000 in
theorem ris_any (t who : Int) (w : World) : Calls Try.prog 30 #[stamp t who] w (Ret (.bool (isB t who)) w) := by
  go_enter Try.func30, Try.ntmps30
  go_wp2
  all_goals go_ret
  all_goals exact Ret.mk (by congr 1; simp [isB]; try omega) (by (repeat' (first | (with_reducible exact Below.refl _ _) | (with_reducible assumption) | (with_reducible refine Below.alloc ?_ ?_ _) | (with_reducible refine below_ext ?_ ?_ _) | (with_reducible refine Below.drew ?_) | (with_reducible refine below_drewN ?_ _) | (with_reducible refine Below.setCell ?_ ?_ _) | go_size)))

set_option maxHeartbeats 1000000 in
set_option maxRecDepth 100000 in
theorem good_any (a b c d e f g h : Int) (w : World) : Calls Try.prog 27 #[vec a b c d e f g h] w (Ret (.bool (goodB a b c d e f g h)) w) := by
  obtain ⟨i0, i1, i2, i3, i4, i5, i6, i7⟩ := idx8 (.int .i64 a) (.int .i64 b) (.int .i64 c) (.int .i64 d) (.int .i64 e) (.int .i64 f) (.int .i64 g) (.int .i64 h)
  go_enter Try.func27, Try.ntmps27
  go_wp2
  go_rounds 9
  all_goals go_ret
  all_goals exact Ret.mk (by congr 1; simp [goodB, in40]; try omega) (by (repeat' (first | (with_reducible exact Below.refl _ _) | (with_reducible assumption) | (with_reducible refine Below.alloc ?_ ?_ _) | (with_reducible refine below_ext ?_ ?_ _) | (with_reducible refine Below.drew ?_) | (with_reducible refine below_drewN ?_ _) | (with_reducible refine Below.setCell ?_ ?_ _) | go_size)))
set_option maxHeartbeats 1000000 in
set_option maxRecDepth 100000 in
theorem rgood_any (a b c d e f g h : Int) (w : World) : Calls Try.prog 28 #[vec a b c d e f g h] w (Ret (.bool (goodB a b c d e f g h)) w) := by
  go_enter Try.func28, Try.ntmps28
  go_wp2
  go_rounds 9
  all_goals go_ret
  all_goals exact Ret.mk (by congr 1; simp [goodB, in40]; try omega) (by (repeat' (first | (with_reducible exact Below.refl _ _) | (with_reducible assumption) | (with_reducible refine Below.alloc ?_ ?_ _) | (with_reducible refine below_ext ?_ ?_ _) | (with_reducible refine Below.drew ?_) | (with_reducible refine below_drewN ?_ _) | (with_reducible refine Below.setCell ?_ ?_ _) | go_size)))

set_option maxHeartbeats 400000 in
theorem less_any (t who t' who' : Int) (w : World) : Calls Try.prog 31 #[stamp t who, stamp t' who'] w (Ret (.bool (lessB t who t' who')) w) := by
  go_enter Try.func31, Try.ntmps31
  go_wp2
  all_goals go_ret
  all_goals exact Ret.mk (by congr 1; simp_all [lessB]; try omega) (by (repeat' (first | (with_reducible exact Below.refl _ _) | (with_reducible assumption) | (with_reducible refine Below.alloc ?_ ?_ _) | (with_reducible refine below_ext ?_ ?_ _) | (with_reducible refine Below.drew ?_) | (with_reducible refine below_drewN ?_ _) | (with_reducible refine Below.setCell ?_ ?_ _) | go_size)))
set_option maxHeartbeats 400000 in
theorem rless_any (t who t' who' : Int) (w : World) : Calls Try.prog 32 #[stamp t who, stamp t' who'] w (Ret (.bool (lessB t who t' who')) w) := by
  go_enter Try.func32, Try.ntmps32
  go_wp2
  all_goals go_ret
  all_goals exact Ret.mk (by congr 1; simp_all [lessB]; try omega) (by (repeat' (first | (with_reducible exact Below.refl _ _) | (with_reducible assumption) | (with_reducible refine Below.alloc ?_ ?_ _) | (with_reducible refine below_ext ?_ ?_ _) | (with_reducible refine Below.drew ?_) | (with_reducible refine below_drewN ?_ _) | (with_reducible refine Below.setCell ?_ ?_ _) | go_size)))
end Go.Proofs.Ytdjmpedfeahajaa
