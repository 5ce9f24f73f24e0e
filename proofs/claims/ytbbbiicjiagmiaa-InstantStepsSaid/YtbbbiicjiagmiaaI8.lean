/- Helper lemmas: the whole number below a time and the next time, the program's and the document's. No condition. -/
import Derived.Test.YtbbbiicjiagmiaaF7
set_option linter.unusedSimpArgs false
set_option linter.unusedVariables false
namespace Go.Proofs.Ytbbbiicjiagmiaa
open Go.RowKit

theorem in_range (x : Nat) (hx : x < 18446744073709551616) (n : isN x) (h1 : (FloatKind.f64.format.order x 14069245235905429504 == some .lt) = false) (h2 : (FloatKind.f64.format.order x 4845873199050653696 == some .gt) = false) : x % 9223372036854775808 ≤ 4845873199050653696 := by
  have a := order_key x 14069245235905429504 hx (by decide) n (by unfold isN; decide)
  have b := order_key x 4845873199050653696 hx (by decide) n (by unfold isN; decide)
  rw [show FloatKind.f64.format = Ieee.double from rfl, a] at h1
  rw [show FloatKind.f64.format = Ieee.double from rfl, b] at h2
  have k1 : key 14069245235905429504 = -4845873199050653696 := by decide
  have k2 : key 4845873199050653696 = 4845873199050653696 := by decide
  rw [k1] at h1
  rw [k2] at h2
  have c1 : ¬ key x < -4845873199050653696 := fun c => by rw [c_lt c] at h1; cases h1
  have c2 : ¬ 4845873199050653696 < key x := fun c => by rw [c_gt c] at h2; cases h2
  unfold key at c1 c2
  split at c1
  · rw [if_pos (by assumption)] at c2; omega
  · rw [if_neg (by assumption)] at c2; omega
theorem call45 (x y : Nat) (hx : Fin64 x) (hy : Ieee.double.write ((Ieee.double.read x).integral .down) = y) (w : World) : (callFunc 45 #[.float .f64 x]).run Try.prog w = .ok (.value (.float .f64 y)) w := by
  rw [run_callFunc_extern Try.func45 (by kernel_rfl) (by kernel_rfl) (by kernel_rfl) (e := Extern.MathFloor.toIntegral "math.archFloor" .down) (by kernel_rfl)]
  obtain ⟨m, i, e, _⟩ := read_fin x hx
  have e' : FloatKind.f64.decode x = .number (ng x) m i := e
  rw [e] at hy
  have hy' : FloatKind.f64.encode ((Ieee.Datum.number (ng x) m i).integral .down) = y := hy
  have h : Extern.MathFloor.toIntegral "math.archFloor" .down #[.float .f64 x] = pure (.float .f64 y) := by
    conv => lhs; whnf
    rw [e']
    exact congrArg (fun z => pure (Value.float .f64 z)) hy'
  rw [h]
  rfl
set_option maxHeartbeats 1000000 in
set_option maxRecDepth 100000 in
theorem floor_any (x y : Nat) (hx : Fin64 x) (hy : Ieee.double.write ((Ieee.double.read x).integral .down) = y) (w : World) : Calls Try.prog 44 #[f64 x] w (Ret (f64 y) w) := by
  have c := fun w => call45 x y hx hy w
  clear hx hy
  go_enter Try.func44, Try.ntmps44
  go_wp2
  go_ret
  exact Ret.mk rfl (by (repeat' (first | (with_reducible exact Below.refl _ _) | (with_reducible exact w_ext_below _ _) | (with_reducible refine below_ext ?_ ?_ _) | (simp; done) | (simp; omega))))

theorem write_down (x : Nat) (h : x % 9223372036854775808 ≤ 4845873199050653696) : Ieee.double.write ((Ieee.double.read x).integral .down) = Ieee.double.nearest (ng x) (wf x) 0 := by
  rw [integral_down x (fin_of x h)]
  rfl
/-- The whole number below a time, or why there is none. -/
def far (x : Nat) : Bool := (FloatKind.f64.format.order x 14069245235905429504 == some .lt) || (FloatKind.f64.format.order x 4845873199050653696 == some .gt)
def wholeV (k : Nat) : Int := if goodB k = true then (if far (toV k) = true then 0 else floorV (toV k)) else 0
def wholeE (k : Nat) : Int := if goodB k = true then (if far (toV k) = true then 75 else 0) else 202
theorem wrap_small (n : Int) (h1 : -9007199254740992 ≤ n) (h2 : n ≤ 9007199254740992) : wrap64 (n - 1) = n - 1 := by unfold wrap64; omega
set_option maxHeartbeats 2000000 in
set_option maxRecDepth 100000 in
theorem whole_any (k : Nat) (hk : k < 18446744073709551616) (w : World) : Calls Try.prog 32 #[u64 k] w (Ret (.tuple #[.int .i64 (wholeV k), .int .i64 (wholeE k)]) w) := by
  have C := Lib.hid (fun w => to_any k hk w)
  have hr0 := in_range (toV k) (toV_lt k hk) (by unfold isN; exact toV_fin k hk)
  unfold wholeV wholeE far
  unfold toE at C
  generalize goodB k = g at *
  cases g
  · clear hr0
    simp only [Bool.false_eq_true, if_false] at C ⊢
    generalize toV k = x at *
    go_enter Try.func32, Try.ntmps32
    go_wp2_with (go_at_call 15; (with_reducible refine (C.out _).mono ?_); rintro e1 w1 ⟨rfl, j1, rfl⟩)
    go_ret2
    exact Ret.mk rfl (by (repeat' (first | (with_reducible exact Below.refl _ _) | (with_reducible exact w_ext_below _ _) | (with_reducible refine below_ext ?_ ?_ _) | (simp; done) | (simp; omega))))

  · simp only [if_true] at C ⊢
    generalize o1 : (FloatKind.f64.format.order (toV k) 14069245235905429504 == some .lt) = b1 at *
    generalize o2 : (FloatKind.f64.format.order (toV k) 4845873199050653696 == some .gt) = b2 at *
    by_cases hb : (b1 || b2) = true
    · rw [if_pos hb, if_pos hb]
      clear hr0
      generalize toV k = x at *
      cases b1
      · cases b2
        · cases hb
        · go_enter Try.func32, Try.ntmps32
          go_wp2_with (go_at_call 15; (with_reducible refine (C.out _).mono ?_); rintro e1 w1 ⟨rfl, j1, rfl⟩)
          go_ret2
          exact Ret.mk rfl (by (repeat' (first | (with_reducible exact Below.refl _ _) | (with_reducible exact w_ext_below _ _) | (with_reducible refine below_ext ?_ ?_ _) | (simp; done) | (simp; omega))))
      · cases b2
        all_goals
          go_enter Try.func32, Try.ntmps32
          go_wp2_with (go_at_call 15; (with_reducible refine (C.out _).mono ?_); rintro e1 w1 ⟨rfl, j1, rfl⟩)
          go_ret2
          exact Ret.mk rfl (by (repeat' (first | (with_reducible exact Below.refl _ _) | (with_reducible exact w_ext_below _ _) | (with_reducible refine below_ext ?_ ?_ _) | (simp; done) | (simp; omega))))
    · rw [if_neg hb, if_neg hb]
      obtain ⟨rfl, rfl⟩ : b1 = false ∧ b2 = false := by cases b1 <;> cases b2 <;> first | exact ⟨rfl, rfl⟩ | exact absurd rfl hb
      have hr := hr0 rfl rfl
      clear hr0 hb
      have t1 := trunc_is (toV k) hr
      have t2 : (FloatKind.f64.format.order (floatOfInt .f64 (truncV (toV k))) (toV k) == some .gt) = (ng (toV k) && wt (toV k)) := float_of_trunc (toV k) hr (toV_lt k hk)
      have t3 := floor_trunc (toV k)
      obtain ⟨_, _, r1, r2⟩ := sg_range (ng (toV k)) (wq (toV k)) (w_bounds (toV k) hr).1
      have t4 := wrap_small (truncV (toV k)) r1 r2
      have cv1 : ∀ w, (convert 22 3 (.float .f64 (toV k))).run Try.prog w = .ok (.int .i64 (truncV (toV k))) w := fun w => run_convert_float_int w 22 3 .f64 .i64 _ _ (by kernel_rfl) Try.underlying3 t1
      have cv2 : ∀ w, (convert 3 22 (.int .i64 (truncV (toV k)))).run Try.prog w = .ok (.float .f64 (floatOfInt .f64 (truncV (toV k)))) w := fun w => run_convert_int_float w 3 22 .i64 .f64 _ (by kernel_rfl) Try.underlying22
      rw [t3]
      clear t1 t3 r1 r2 hr hk
      generalize floatOfInt .f64 (truncV (toV k)) = z at *
      generalize truncV (toV k) = n at *
      generalize (ng (toV k) && wt (toV k)) = d at *
      generalize toV k = x at *
      cases d
      · simp only [Bool.false_eq_true, if_false]
        go_enter Try.func32, Try.ntmps32
        go_wp2_with (go_at_call 15; (with_reducible refine (C.out _).mono ?_); rintro e1 w1 ⟨rfl, j1, rfl⟩)
        go_ret2
        exact Ret.mk rfl (by (repeat' (first | (with_reducible exact Below.refl _ _) | (with_reducible exact w_ext_below _ _) | (with_reducible refine below_ext ?_ ?_ _) | (simp; done) | (simp; omega))))
      · simp only [if_true]
        go_enter Try.func32, Try.ntmps32
        go_wp2_with (go_at_call 15; (with_reducible refine (C.out _).mono ?_); rintro e1 w1 ⟨rfl, j1, rfl⟩)
        go_ret2
        exact Ret.mk (by first | rfl | simp [t4]) (by (repeat' (first | (with_reducible exact Below.refl _ _) | (with_reducible exact w_ext_below _ _) | (with_reducible refine below_ext ?_ ?_ _) | (simp; done) | (simp; omega))))
set_option maxHeartbeats 2000000 in
set_option maxRecDepth 100000 in
theorem rwhole_any (k : Nat) (hk : k < 18446744073709551616) (w : World) : Calls Try.prog 33 #[u64 k] w (Ret (.tuple #[.int .i64 (wholeV k), .int .i64 (wholeE k)]) w) := by
  have C := Lib.hid (fun w => rto_any k hk w)
  have hr0 := in_range (toV k) (toV_lt k hk) (by unfold isN; exact toV_fin k hk)
  unfold wholeV wholeE far
  unfold toE at C
  generalize goodB k = g at *
  cases g
  · clear hr0
    simp only [Bool.false_eq_true, if_false] at C ⊢
    generalize toV k = x at *
    go_enter Try.func33, Try.ntmps33
    go_wp2_with (go_at_call 24; (with_reducible refine (C.out _).mono ?_); rintro e1 w1 ⟨rfl, j1, rfl⟩)
    go_ret2
    exact Ret.mk rfl (by (repeat' (first | (with_reducible exact Below.refl _ _) | (with_reducible exact w_ext_below _ _) | (with_reducible refine below_ext ?_ ?_ _) | (simp; done) | (simp; omega))))

  · simp only [if_true] at C ⊢
    generalize o1 : (FloatKind.f64.format.order (toV k) 14069245235905429504 == some .lt) = b1 at *
    generalize o2 : (FloatKind.f64.format.order (toV k) 4845873199050653696 == some .gt) = b2 at *
    by_cases hb : (b1 || b2) = true
    · rw [if_pos hb, if_pos hb]
      clear hr0
      generalize toV k = x at *
      cases b1
      · cases b2
        · cases hb
        · go_enter Try.func33, Try.ntmps33
          go_wp2_with (go_at_call 24; (with_reducible refine (C.out _).mono ?_); rintro e1 w1 ⟨rfl, j1, rfl⟩)
          go_ret2
          exact Ret.mk rfl (by (repeat' (first | (with_reducible exact Below.refl _ _) | (with_reducible exact w_ext_below _ _) | (with_reducible refine below_ext ?_ ?_ _) | (simp; done) | (simp; omega))))
      · cases b2
        all_goals
          go_enter Try.func33, Try.ntmps33
          go_wp2_with (go_at_call 24; (with_reducible refine (C.out _).mono ?_); rintro e1 w1 ⟨rfl, j1, rfl⟩)
          go_ret2
          exact Ret.mk rfl (by (repeat' (first | (with_reducible exact Below.refl _ _) | (with_reducible exact w_ext_below _ _) | (with_reducible refine below_ext ?_ ?_ _) | (simp; done) | (simp; omega))))
    · rw [if_neg hb, if_neg hb]
      obtain ⟨rfl, rfl⟩ : b1 = false ∧ b2 = false := by cases b1 <;> cases b2 <;> first | exact ⟨rfl, rfl⟩ | exact absurd rfl hb
      have hr := hr0 rfl rfl
      clear hr0 hb
      have t1 := floor_is (toV k) hr
      have F := Lib.hid (fun w => floor_any (toV k) _ (fin_of _ hr) (write_down (toV k) hr) w)
      have cv1 : ∀ w, (convert 22 3 (.float .f64 (Ieee.double.nearest (ng (toV k)) (wf (toV k)) 0))).run Try.prog w = .ok (.int .i64 (floorV (toV k))) w := fun w => run_convert_float_int w 22 3 .f64 .i64 _ _ (by kernel_rfl) Try.underlying3 t1
      clear t1 hr hk
      generalize Ieee.double.nearest (ng (toV k)) (wf (toV k)) 0 = z at *
      generalize floorV (toV k) = n at *
      generalize toV k = x at *
      go_enter Try.func33, Try.ntmps33
      go_wp2_with (first | (go_at_call 24; (with_reducible refine (C.out _).mono ?_); rintro e1 w1 ⟨rfl, j1, rfl⟩) | (go_at_call 44; (with_reducible refine (F.out _).mono ?_); rintro e1 w1 ⟨rfl, j1, rfl⟩))
      go_ret2
      exact Ret.mk rfl (by (repeat' (first | (with_reducible exact Below.refl _ _) | (with_reducible exact w_ext_below _ _) | (with_reducible refine below_ext ?_ ?_ _) | (simp; done) | (simp; omega))))
set_option maxHeartbeats 1000000 in
set_option maxRecDepth 100000 in
theorem rnext_w (k k1 k2 x : Nat) (e : Int) (bad inf g : Bool) (hw : IntKind.u64.wrap ((k : Int) + 1) = (k1 : Int)) (hw2 : IntKind.u64.wrap ((k1 : Int) + 1) = (k2 : Int)) (hbad : (e != 0) = bad)
    (T : Hid (∀ w, Calls Try.prog 24 #[u64 k] w (Ret (.tuple #[f64 x, .int .i64 e]) w))) (z : (FloatKind.f64.format.order x 9218868437227405311 == some .gt) = inf) (G : Hid (∀ w, Calls Try.prog 25 #[u64 k1] w (Ret (.bool g) w))) (w : World) :
    Calls Try.prog 31 #[u64 k] w (Ret (if bad = true then .tuple #[.int .u64 0, .int .i64 e] else if inf = true then .tuple #[u64 k, .int .i64 0] else if g = true then .tuple #[u64 k1, .int .i64 0] else .tuple #[u64 k2, .int .i64 0]) w) := by
  cases bad
  · cases inf
    · cases g
      all_goals
        simp only [Bool.false_eq_true, if_false, if_true]
        go_enter Try.func31, Try.ntmps31
        go_wp2_with (first | (go_at_call 24; (with_reducible refine (T.out _).mono ?_); rintro e1 w1 ⟨rfl, j1, rfl⟩) | (go_at_call 25; (with_reducible refine (G.out _).mono ?_); rintro e1 w1 ⟨rfl, j1, rfl⟩))
        go_ret2
        exact Ret.mk rfl (by (repeat' (first | (with_reducible exact Below.refl _ _) | (with_reducible exact w_ext_below _ _) | (with_reducible refine below_ext ?_ ?_ _) | (simp; done) | (simp; omega))))
    · simp only [Bool.false_eq_true, if_false, if_true]
      go_enter Try.func31, Try.ntmps31
      go_wp2_with (first | (go_at_call 24; (with_reducible refine (T.out _).mono ?_); rintro e1 w1 ⟨rfl, j1, rfl⟩) | (go_at_call 25; (with_reducible refine (G.out _).mono ?_); rintro e1 w1 ⟨rfl, j1, rfl⟩))
      go_ret2
      exact Ret.mk rfl (by (repeat' (first | (with_reducible exact Below.refl _ _) | (with_reducible exact w_ext_below _ _) | (with_reducible refine below_ext ?_ ?_ _) | (simp; done) | (simp; omega))))
  · simp only [if_true]
    go_enter Try.func31, Try.ntmps31
    go_wp2_with (first | (go_at_call 24; (with_reducible refine (T.out _).mono ?_); rintro e1 w1 ⟨rfl, j1, rfl⟩) | (go_at_call 25; (with_reducible refine (G.out _).mono ?_); rintro e1 w1 ⟨rfl, j1, rfl⟩))
    go_ret2
    exact Ret.mk rfl (by (repeat' (first | (with_reducible exact Below.refl _ _) | (with_reducible exact w_ext_below _ _) | (with_reducible refine below_ext ?_ ?_ _) | (simp; done) | (simp; omega))))
theorem rnext_any (k : Nat) (hk : k < 18446744073709551616) (w : World) : Calls Try.prog 31 #[u64 k] w (Ret (.tuple #[u64 (nextV k), .int .i64 (toE k)]) w) := by
  have f1 := toV_fin k hk
  have f2 := toV_lt k hk
  have g := good_iff k hk
  have hk1 : (k + 1) % 18446744073709551616 < 18446744073709551616 := by omega
  have h := rnext_w k ((k + 1) % 18446744073709551616) (((k + 1) % 18446744073709551616 + 1) % 18446744073709551616) (toV k) (toE k) _ _ _ (by rw [IntKind.wrap_u64]; omega) (by rw [IntKind.wrap_u64]; omega) rfl (Lib.hid (fun w => rto_any k hk w)) (gt_max (toV k) f2 f1)
    (Lib.hid (fun w => rgood_any _ hk1 w)) w
  refine h.mono fun e1 w1 h1 => ?_
  refine Eq.mp (congrArg (fun v => Ret v w e1 w1) ?_) h1
  unfold nextV toE
  cases hg : goodB k with
  | false => simp
  | true =>
    have hr := g.1 hg
    simp only [if_true, bne_self_eq_false, Bool.false_eq_true, if_false]
    have hv : toV k = backV k := by unfold toV; rw [if_pos hg]
    rw [hv]
    by_cases h1 : k = 18442240474082181120
    · subst h1; rfl
    · rw [if_neg h1, if_neg (by rw [decide_eq_true_eq]; unfold backV; split <;> omega)]
      by_cases h3 : k = 9223372036854775806
      · subst h3; rfl
      · rw [if_neg h3]
        have hk2 : (k + 1) % 18446744073709551616 = k + 1 := by omega
        have hg1 := (good_iff (k + 1) (by omega)).2 ⟨by omega, by omega, by omega⟩
        rw [hk2, if_pos hg1]
end Go.Proofs.Ytbbbiicjiagmiaa
