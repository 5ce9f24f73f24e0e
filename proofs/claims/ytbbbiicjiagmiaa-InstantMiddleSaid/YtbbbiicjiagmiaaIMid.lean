/- A middle lies between both, whichever comes first, and is none where one is none, for all two numbers of 64 bits. -/
import Derived.Test.YtbbbiicjiagmiaaL
import Derived.Test.YtbbbiicjiagmiaaF9
namespace Go.Proofs.Ytbbbiicjiagmiaa
open Go.ChangeShapes Go.WideShapes Go.ChangeAt Go.RowKit
set_option linter.unusedSimpArgs false
set_option linter.unusedVariables false

set_option maxHeartbeats 4000000 in
set_option maxRecDepth 100000 in
theorem mid_lt (a b v p q pa qa : Nat) (e e1 e2 : Int) (ga gb bad la lb : Bool) (c1 : a < b) (c2 : ¬ b < a) (hbad : (e != 0) = bad) (hg : bad = true → (ga && gb) = false) (f1 : (FloatKind.f64.format.order pa 118622047889322841 == some .lt) = la) (f2 : (FloatKind.f64.format.order qa 118622047889322841 == some .lt) = lb)
    (hle : bad = false → la = false → lb = false → a ≤ v ∧ v ≤ b)
    (C1 : Hid (∀ w, Calls Try.prog 22 #[u64 a, u64 b] w (Ret (.tuple #[u64 v, .int .i64 e]) w))) (C2 : Hid (∀ w, Calls Try.prog 22 #[u64 b, u64 a] w (Ret (.tuple #[u64 v, .int .i64 e]) w)))
    (G1 : Hid (∀ w, Calls Try.prog 17 #[u64 a] w (Ret (.bool ga) w))) (G2 : Hid (∀ w, Calls Try.prog 17 #[u64 b] w (Ret (.bool gb) w)))
    (T1 : Hid (∀ w, Calls Try.prog 15 #[u64 a] w (Ret (.tuple #[f64 p, .int .i64 e1]) w))) (T2 : Hid (∀ w, Calls Try.prog 15 #[u64 b] w (Ret (.tuple #[f64 q, .int .i64 e2]) w)))
    (A1 : Hid (∀ w, Calls Try.prog 23 #[f64 p] w (Ret (f64 pa) w))) (A2 : Hid (∀ w, Calls Try.prog 23 #[f64 q] w (Ret (f64 qa) w))) (w : World) :
    Calls Try.prog 8 #[u64 a, u64 b] w (Ret (.bool true) w) := by
  cases bad
  · clear hg G1 G2
    cases la
    · cases lb
      · obtain ⟨l1, l2⟩ := hle rfl rfl rfl
        clear hle
        go_enter Try.func8, Try.ntmps8
        go_wp2_with (first | (go_at_call 22; (with_reducible refine (C1.out _).mono ?_); rintro e1 w1 ⟨rfl, j1, rfl⟩) | (go_at_call 22; (with_reducible refine (C2.out _).mono ?_); rintro e1 w1 ⟨rfl, j1, rfl⟩) | (go_at_call 17; (with_reducible refine (G1.out _).mono ?_); rintro e1 w1 ⟨rfl, j1, rfl⟩) | (go_at_call 17; (with_reducible refine (G2.out _).mono ?_); rintro e1 w1 ⟨rfl, j1, rfl⟩) | (go_at_call 15; (with_reducible refine (T1.out _).mono ?_); rintro e1 w1 ⟨rfl, j1, rfl⟩) | (go_at_call 15; (with_reducible refine (T2.out _).mono ?_); rintro e1 w1 ⟨rfl, j1, rfl⟩) | (go_at_call 23; (with_reducible refine (A1.out _).mono ?_); rintro e1 w1 ⟨rfl, j1, rfl⟩) | (go_at_call 23; (with_reducible refine (A2.out _).mono ?_); rintro e1 w1 ⟨rfl, j1, rfl⟩) | (go_at_call 14; (with_reducible refine (awake_any _).mono ?_); rintro e1 w1 ⟨rfl, j1, rfl⟩))
        go_ret
        exact Ret.mk rfl (by (repeat' (first | (with_reducible exact Below.refl _ _) | (with_reducible exact w_ext_below _ _) | (with_reducible refine below_ext ?_ ?_ _) | (simp; done) | (simp; omega))))
      · clear hle
        go_enter Try.func8, Try.ntmps8
        go_wp2_with (first | (go_at_call 22; (with_reducible refine (C1.out _).mono ?_); rintro e1 w1 ⟨rfl, j1, rfl⟩) | (go_at_call 22; (with_reducible refine (C2.out _).mono ?_); rintro e1 w1 ⟨rfl, j1, rfl⟩) | (go_at_call 17; (with_reducible refine (G1.out _).mono ?_); rintro e1 w1 ⟨rfl, j1, rfl⟩) | (go_at_call 17; (with_reducible refine (G2.out _).mono ?_); rintro e1 w1 ⟨rfl, j1, rfl⟩) | (go_at_call 15; (with_reducible refine (T1.out _).mono ?_); rintro e1 w1 ⟨rfl, j1, rfl⟩) | (go_at_call 15; (with_reducible refine (T2.out _).mono ?_); rintro e1 w1 ⟨rfl, j1, rfl⟩) | (go_at_call 23; (with_reducible refine (A1.out _).mono ?_); rintro e1 w1 ⟨rfl, j1, rfl⟩) | (go_at_call 23; (with_reducible refine (A2.out _).mono ?_); rintro e1 w1 ⟨rfl, j1, rfl⟩) | (go_at_call 14; (with_reducible refine (awake_any _).mono ?_); rintro e1 w1 ⟨rfl, j1, rfl⟩))
        go_ret
        exact Ret.mk rfl (by (repeat' (first | (with_reducible exact Below.refl _ _) | (with_reducible exact w_ext_below _ _) | (with_reducible refine below_ext ?_ ?_ _) | (simp; done) | (simp; omega))))
    · clear hle
      cases lb
      all_goals
        go_enter Try.func8, Try.ntmps8
        go_wp2_with (first | (go_at_call 22; (with_reducible refine (C1.out _).mono ?_); rintro e1 w1 ⟨rfl, j1, rfl⟩) | (go_at_call 22; (with_reducible refine (C2.out _).mono ?_); rintro e1 w1 ⟨rfl, j1, rfl⟩) | (go_at_call 17; (with_reducible refine (G1.out _).mono ?_); rintro e1 w1 ⟨rfl, j1, rfl⟩) | (go_at_call 17; (with_reducible refine (G2.out _).mono ?_); rintro e1 w1 ⟨rfl, j1, rfl⟩) | (go_at_call 15; (with_reducible refine (T1.out _).mono ?_); rintro e1 w1 ⟨rfl, j1, rfl⟩) | (go_at_call 15; (with_reducible refine (T2.out _).mono ?_); rintro e1 w1 ⟨rfl, j1, rfl⟩) | (go_at_call 23; (with_reducible refine (A1.out _).mono ?_); rintro e1 w1 ⟨rfl, j1, rfl⟩) | (go_at_call 23; (with_reducible refine (A2.out _).mono ?_); rintro e1 w1 ⟨rfl, j1, rfl⟩) | (go_at_call 14; (with_reducible refine (awake_any _).mono ?_); rintro e1 w1 ⟨rfl, j1, rfl⟩))
        go_ret
        exact Ret.mk rfl (by (repeat' (first | (with_reducible exact Below.refl _ _) | (with_reducible exact w_ext_below _ _) | (with_reducible refine below_ext ?_ ?_ _) | (simp; done) | (simp; omega))))
  · have hg := hg rfl
    clear hle T1 T2 A1 A2 f1 f2
    cases ga
    · clear hg
      go_enter Try.func8, Try.ntmps8
      go_wp2_with (first | (go_at_call 22; (with_reducible refine (C1.out _).mono ?_); rintro e1 w1 ⟨rfl, j1, rfl⟩) | (go_at_call 22; (with_reducible refine (C2.out _).mono ?_); rintro e1 w1 ⟨rfl, j1, rfl⟩) | (go_at_call 17; (with_reducible refine (G1.out _).mono ?_); rintro e1 w1 ⟨rfl, j1, rfl⟩) | (go_at_call 17; (with_reducible refine (G2.out _).mono ?_); rintro e1 w1 ⟨rfl, j1, rfl⟩) | (go_at_call 15; (with_reducible refine (T1.out _).mono ?_); rintro e1 w1 ⟨rfl, j1, rfl⟩) | (go_at_call 15; (with_reducible refine (T2.out _).mono ?_); rintro e1 w1 ⟨rfl, j1, rfl⟩) | (go_at_call 23; (with_reducible refine (A1.out _).mono ?_); rintro e1 w1 ⟨rfl, j1, rfl⟩) | (go_at_call 23; (with_reducible refine (A2.out _).mono ?_); rintro e1 w1 ⟨rfl, j1, rfl⟩) | (go_at_call 14; (with_reducible refine (awake_any _).mono ?_); rintro e1 w1 ⟨rfl, j1, rfl⟩))
      go_ret
      exact Ret.mk rfl (by (repeat' (first | (with_reducible exact Below.refl _ _) | (with_reducible exact w_ext_below _ _) | (with_reducible refine below_ext ?_ ?_ _) | (simp; done) | (simp; omega))))
    · cases gb
      · clear hg
        go_enter Try.func8, Try.ntmps8
        go_wp2_with (first | (go_at_call 22; (with_reducible refine (C1.out _).mono ?_); rintro e1 w1 ⟨rfl, j1, rfl⟩) | (go_at_call 22; (with_reducible refine (C2.out _).mono ?_); rintro e1 w1 ⟨rfl, j1, rfl⟩) | (go_at_call 17; (with_reducible refine (G1.out _).mono ?_); rintro e1 w1 ⟨rfl, j1, rfl⟩) | (go_at_call 17; (with_reducible refine (G2.out _).mono ?_); rintro e1 w1 ⟨rfl, j1, rfl⟩) | (go_at_call 15; (with_reducible refine (T1.out _).mono ?_); rintro e1 w1 ⟨rfl, j1, rfl⟩) | (go_at_call 15; (with_reducible refine (T2.out _).mono ?_); rintro e1 w1 ⟨rfl, j1, rfl⟩) | (go_at_call 23; (with_reducible refine (A1.out _).mono ?_); rintro e1 w1 ⟨rfl, j1, rfl⟩) | (go_at_call 23; (with_reducible refine (A2.out _).mono ?_); rintro e1 w1 ⟨rfl, j1, rfl⟩) | (go_at_call 14; (with_reducible refine (awake_any _).mono ?_); rintro e1 w1 ⟨rfl, j1, rfl⟩))
        go_ret
        exact Ret.mk rfl (by (repeat' (first | (with_reducible exact Below.refl _ _) | (with_reducible exact w_ext_below _ _) | (with_reducible refine below_ext ?_ ?_ _) | (simp; done) | (simp; omega))))
      · cases hg

set_option maxHeartbeats 4000000 in
set_option maxRecDepth 100000 in
theorem mid_gt (a b v p q pa qa : Nat) (e e1 e2 : Int) (ga gb bad la lb : Bool) (c1 : b < a) (c2 : ¬ a < b) (hbad : (e != 0) = bad) (hg : bad = true → (ga && gb) = false) (f1 : (FloatKind.f64.format.order pa 118622047889322841 == some .lt) = la) (f2 : (FloatKind.f64.format.order qa 118622047889322841 == some .lt) = lb)
    (hle : bad = false → la = false → lb = false → b ≤ v ∧ v ≤ a)
    (C1 : Hid (∀ w, Calls Try.prog 22 #[u64 a, u64 b] w (Ret (.tuple #[u64 v, .int .i64 e]) w))) (C2 : Hid (∀ w, Calls Try.prog 22 #[u64 b, u64 a] w (Ret (.tuple #[u64 v, .int .i64 e]) w)))
    (G1 : Hid (∀ w, Calls Try.prog 17 #[u64 a] w (Ret (.bool ga) w))) (G2 : Hid (∀ w, Calls Try.prog 17 #[u64 b] w (Ret (.bool gb) w)))
    (T1 : Hid (∀ w, Calls Try.prog 15 #[u64 b] w (Ret (.tuple #[f64 p, .int .i64 e1]) w))) (T2 : Hid (∀ w, Calls Try.prog 15 #[u64 a] w (Ret (.tuple #[f64 q, .int .i64 e2]) w)))
    (A1 : Hid (∀ w, Calls Try.prog 23 #[f64 p] w (Ret (f64 pa) w))) (A2 : Hid (∀ w, Calls Try.prog 23 #[f64 q] w (Ret (f64 qa) w))) (w : World) :
    Calls Try.prog 8 #[u64 a, u64 b] w (Ret (.bool true) w) := by
  cases bad
  · clear hg G1 G2
    cases la
    · cases lb
      · obtain ⟨l1, l2⟩ := hle rfl rfl rfl
        clear hle
        go_enter Try.func8, Try.ntmps8
        go_wp2_with (first | (go_at_call 22; (with_reducible refine (C1.out _).mono ?_); rintro e1 w1 ⟨rfl, j1, rfl⟩) | (go_at_call 22; (with_reducible refine (C2.out _).mono ?_); rintro e1 w1 ⟨rfl, j1, rfl⟩) | (go_at_call 17; (with_reducible refine (G1.out _).mono ?_); rintro e1 w1 ⟨rfl, j1, rfl⟩) | (go_at_call 17; (with_reducible refine (G2.out _).mono ?_); rintro e1 w1 ⟨rfl, j1, rfl⟩) | (go_at_call 15; (with_reducible refine (T1.out _).mono ?_); rintro e1 w1 ⟨rfl, j1, rfl⟩) | (go_at_call 15; (with_reducible refine (T2.out _).mono ?_); rintro e1 w1 ⟨rfl, j1, rfl⟩) | (go_at_call 23; (with_reducible refine (A1.out _).mono ?_); rintro e1 w1 ⟨rfl, j1, rfl⟩) | (go_at_call 23; (with_reducible refine (A2.out _).mono ?_); rintro e1 w1 ⟨rfl, j1, rfl⟩) | (go_at_call 14; (with_reducible refine (awake_any _).mono ?_); rintro e1 w1 ⟨rfl, j1, rfl⟩))
        go_ret
        exact Ret.mk rfl (by (repeat' (first | (with_reducible exact Below.refl _ _) | (with_reducible exact w_ext_below _ _) | (with_reducible refine below_ext ?_ ?_ _) | (simp; done) | (simp; omega))))
      · clear hle
        go_enter Try.func8, Try.ntmps8
        go_wp2_with (first | (go_at_call 22; (with_reducible refine (C1.out _).mono ?_); rintro e1 w1 ⟨rfl, j1, rfl⟩) | (go_at_call 22; (with_reducible refine (C2.out _).mono ?_); rintro e1 w1 ⟨rfl, j1, rfl⟩) | (go_at_call 17; (with_reducible refine (G1.out _).mono ?_); rintro e1 w1 ⟨rfl, j1, rfl⟩) | (go_at_call 17; (with_reducible refine (G2.out _).mono ?_); rintro e1 w1 ⟨rfl, j1, rfl⟩) | (go_at_call 15; (with_reducible refine (T1.out _).mono ?_); rintro e1 w1 ⟨rfl, j1, rfl⟩) | (go_at_call 15; (with_reducible refine (T2.out _).mono ?_); rintro e1 w1 ⟨rfl, j1, rfl⟩) | (go_at_call 23; (with_reducible refine (A1.out _).mono ?_); rintro e1 w1 ⟨rfl, j1, rfl⟩) | (go_at_call 23; (with_reducible refine (A2.out _).mono ?_); rintro e1 w1 ⟨rfl, j1, rfl⟩) | (go_at_call 14; (with_reducible refine (awake_any _).mono ?_); rintro e1 w1 ⟨rfl, j1, rfl⟩))
        go_ret
        exact Ret.mk rfl (by (repeat' (first | (with_reducible exact Below.refl _ _) | (with_reducible exact w_ext_below _ _) | (with_reducible refine below_ext ?_ ?_ _) | (simp; done) | (simp; omega))))
    · clear hle
      cases lb
      all_goals
        go_enter Try.func8, Try.ntmps8
        go_wp2_with (first | (go_at_call 22; (with_reducible refine (C1.out _).mono ?_); rintro e1 w1 ⟨rfl, j1, rfl⟩) | (go_at_call 22; (with_reducible refine (C2.out _).mono ?_); rintro e1 w1 ⟨rfl, j1, rfl⟩) | (go_at_call 17; (with_reducible refine (G1.out _).mono ?_); rintro e1 w1 ⟨rfl, j1, rfl⟩) | (go_at_call 17; (with_reducible refine (G2.out _).mono ?_); rintro e1 w1 ⟨rfl, j1, rfl⟩) | (go_at_call 15; (with_reducible refine (T1.out _).mono ?_); rintro e1 w1 ⟨rfl, j1, rfl⟩) | (go_at_call 15; (with_reducible refine (T2.out _).mono ?_); rintro e1 w1 ⟨rfl, j1, rfl⟩) | (go_at_call 23; (with_reducible refine (A1.out _).mono ?_); rintro e1 w1 ⟨rfl, j1, rfl⟩) | (go_at_call 23; (with_reducible refine (A2.out _).mono ?_); rintro e1 w1 ⟨rfl, j1, rfl⟩) | (go_at_call 14; (with_reducible refine (awake_any _).mono ?_); rintro e1 w1 ⟨rfl, j1, rfl⟩))
        go_ret
        exact Ret.mk rfl (by (repeat' (first | (with_reducible exact Below.refl _ _) | (with_reducible exact w_ext_below _ _) | (with_reducible refine below_ext ?_ ?_ _) | (simp; done) | (simp; omega))))
  · have hg := hg rfl
    clear hle T1 T2 A1 A2 f1 f2
    cases ga
    · clear hg
      go_enter Try.func8, Try.ntmps8
      go_wp2_with (first | (go_at_call 22; (with_reducible refine (C1.out _).mono ?_); rintro e1 w1 ⟨rfl, j1, rfl⟩) | (go_at_call 22; (with_reducible refine (C2.out _).mono ?_); rintro e1 w1 ⟨rfl, j1, rfl⟩) | (go_at_call 17; (with_reducible refine (G1.out _).mono ?_); rintro e1 w1 ⟨rfl, j1, rfl⟩) | (go_at_call 17; (with_reducible refine (G2.out _).mono ?_); rintro e1 w1 ⟨rfl, j1, rfl⟩) | (go_at_call 15; (with_reducible refine (T1.out _).mono ?_); rintro e1 w1 ⟨rfl, j1, rfl⟩) | (go_at_call 15; (with_reducible refine (T2.out _).mono ?_); rintro e1 w1 ⟨rfl, j1, rfl⟩) | (go_at_call 23; (with_reducible refine (A1.out _).mono ?_); rintro e1 w1 ⟨rfl, j1, rfl⟩) | (go_at_call 23; (with_reducible refine (A2.out _).mono ?_); rintro e1 w1 ⟨rfl, j1, rfl⟩) | (go_at_call 14; (with_reducible refine (awake_any _).mono ?_); rintro e1 w1 ⟨rfl, j1, rfl⟩))
      go_ret
      exact Ret.mk rfl (by (repeat' (first | (with_reducible exact Below.refl _ _) | (with_reducible exact w_ext_below _ _) | (with_reducible refine below_ext ?_ ?_ _) | (simp; done) | (simp; omega))))
    · cases gb
      · clear hg
        go_enter Try.func8, Try.ntmps8
        go_wp2_with (first | (go_at_call 22; (with_reducible refine (C1.out _).mono ?_); rintro e1 w1 ⟨rfl, j1, rfl⟩) | (go_at_call 22; (with_reducible refine (C2.out _).mono ?_); rintro e1 w1 ⟨rfl, j1, rfl⟩) | (go_at_call 17; (with_reducible refine (G1.out _).mono ?_); rintro e1 w1 ⟨rfl, j1, rfl⟩) | (go_at_call 17; (with_reducible refine (G2.out _).mono ?_); rintro e1 w1 ⟨rfl, j1, rfl⟩) | (go_at_call 15; (with_reducible refine (T1.out _).mono ?_); rintro e1 w1 ⟨rfl, j1, rfl⟩) | (go_at_call 15; (with_reducible refine (T2.out _).mono ?_); rintro e1 w1 ⟨rfl, j1, rfl⟩) | (go_at_call 23; (with_reducible refine (A1.out _).mono ?_); rintro e1 w1 ⟨rfl, j1, rfl⟩) | (go_at_call 23; (with_reducible refine (A2.out _).mono ?_); rintro e1 w1 ⟨rfl, j1, rfl⟩) | (go_at_call 14; (with_reducible refine (awake_any _).mono ?_); rintro e1 w1 ⟨rfl, j1, rfl⟩))
        go_ret
        exact Ret.mk rfl (by (repeat' (first | (with_reducible exact Below.refl _ _) | (with_reducible exact w_ext_below _ _) | (with_reducible refine below_ext ?_ ?_ _) | (simp; done) | (simp; omega))))
      · cases hg

set_option maxHeartbeats 4000000 in
set_option maxRecDepth 100000 in
theorem mid_eq (a v p pa : Nat) (e e1 : Int) (ga bad la : Bool) (hbad : (e != 0) = bad) (hg : bad = true → ga = false) (f1 : (FloatKind.f64.format.order pa 118622047889322841 == some .lt) = la)
    (hle : bad = false → la = false → a ≤ v ∧ v ≤ a)
    (C1 : Hid (∀ w, Calls Try.prog 22 #[u64 a, u64 a] w (Ret (.tuple #[u64 v, .int .i64 e]) w)))
    (G1 : Hid (∀ w, Calls Try.prog 17 #[u64 a] w (Ret (.bool ga) w))) (T1 : Hid (∀ w, Calls Try.prog 15 #[u64 a] w (Ret (.tuple #[f64 p, .int .i64 e1]) w)))
    (A1 : Hid (∀ w, Calls Try.prog 23 #[f64 p] w (Ret (f64 pa) w))) (w : World) :
    Calls Try.prog 8 #[u64 a, u64 a] w (Ret (.bool true) w) := by
  cases bad
  · clear hg G1
    cases la
    · obtain ⟨l1, l2⟩ := hle rfl rfl
      clear hle
      go_enter Try.func8, Try.ntmps8
      go_wp2_with (first | (go_at_call 22; (with_reducible refine (C1.out _).mono ?_); rintro e1 w1 ⟨rfl, j1, rfl⟩) | (go_at_call 22; (with_reducible refine (C2.out _).mono ?_); rintro e1 w1 ⟨rfl, j1, rfl⟩) | (go_at_call 17; (with_reducible refine (G1.out _).mono ?_); rintro e1 w1 ⟨rfl, j1, rfl⟩) | (go_at_call 17; (with_reducible refine (G2.out _).mono ?_); rintro e1 w1 ⟨rfl, j1, rfl⟩) | (go_at_call 15; (with_reducible refine (T1.out _).mono ?_); rintro e1 w1 ⟨rfl, j1, rfl⟩) | (go_at_call 15; (with_reducible refine (T2.out _).mono ?_); rintro e1 w1 ⟨rfl, j1, rfl⟩) | (go_at_call 23; (with_reducible refine (A1.out _).mono ?_); rintro e1 w1 ⟨rfl, j1, rfl⟩) | (go_at_call 23; (with_reducible refine (A2.out _).mono ?_); rintro e1 w1 ⟨rfl, j1, rfl⟩) | (go_at_call 14; (with_reducible refine (awake_any _).mono ?_); rintro e1 w1 ⟨rfl, j1, rfl⟩))
      go_ret
      exact Ret.mk rfl (by (repeat' (first | (with_reducible exact Below.refl _ _) | (with_reducible exact w_ext_below _ _) | (with_reducible refine below_ext ?_ ?_ _) | (simp; done) | (simp; omega))))
    · clear hle
      go_enter Try.func8, Try.ntmps8
      go_wp2_with (first | (go_at_call 22; (with_reducible refine (C1.out _).mono ?_); rintro e1 w1 ⟨rfl, j1, rfl⟩) | (go_at_call 22; (with_reducible refine (C2.out _).mono ?_); rintro e1 w1 ⟨rfl, j1, rfl⟩) | (go_at_call 17; (with_reducible refine (G1.out _).mono ?_); rintro e1 w1 ⟨rfl, j1, rfl⟩) | (go_at_call 17; (with_reducible refine (G2.out _).mono ?_); rintro e1 w1 ⟨rfl, j1, rfl⟩) | (go_at_call 15; (with_reducible refine (T1.out _).mono ?_); rintro e1 w1 ⟨rfl, j1, rfl⟩) | (go_at_call 15; (with_reducible refine (T2.out _).mono ?_); rintro e1 w1 ⟨rfl, j1, rfl⟩) | (go_at_call 23; (with_reducible refine (A1.out _).mono ?_); rintro e1 w1 ⟨rfl, j1, rfl⟩) | (go_at_call 23; (with_reducible refine (A2.out _).mono ?_); rintro e1 w1 ⟨rfl, j1, rfl⟩) | (go_at_call 14; (with_reducible refine (awake_any _).mono ?_); rintro e1 w1 ⟨rfl, j1, rfl⟩))
      go_ret
      exact Ret.mk rfl (by (repeat' (first | (with_reducible exact Below.refl _ _) | (with_reducible exact w_ext_below _ _) | (with_reducible refine below_ext ?_ ?_ _) | (simp; done) | (simp; omega))))
  · obtain rfl := hg rfl
    clear hle T1 A1 f1
    go_enter Try.func8, Try.ntmps8
    go_wp2_with (first | (go_at_call 22; (with_reducible refine (C1.out _).mono ?_); rintro e1 w1 ⟨rfl, j1, rfl⟩) | (go_at_call 22; (with_reducible refine (C2.out _).mono ?_); rintro e1 w1 ⟨rfl, j1, rfl⟩) | (go_at_call 17; (with_reducible refine (G1.out _).mono ?_); rintro e1 w1 ⟨rfl, j1, rfl⟩) | (go_at_call 17; (with_reducible refine (G2.out _).mono ?_); rintro e1 w1 ⟨rfl, j1, rfl⟩) | (go_at_call 15; (with_reducible refine (T1.out _).mono ?_); rintro e1 w1 ⟨rfl, j1, rfl⟩) | (go_at_call 15; (with_reducible refine (T2.out _).mono ?_); rintro e1 w1 ⟨rfl, j1, rfl⟩) | (go_at_call 23; (with_reducible refine (A1.out _).mono ?_); rintro e1 w1 ⟨rfl, j1, rfl⟩) | (go_at_call 23; (with_reducible refine (A2.out _).mono ?_); rintro e1 w1 ⟨rfl, j1, rfl⟩) | (go_at_call 14; (with_reducible refine (awake_any _).mono ?_); rintro e1 w1 ⟨rfl, j1, rfl⟩))
    go_ret
    exact Ret.mk rfl (by (repeat' (first | (with_reducible exact Below.refl _ _) | (with_reducible exact w_ext_below _ _) | (with_reducible refine below_ext ?_ ?_ _) | (simp; done) | (simp; omega))))
theorem order_comm' (x y : Nat) (hx : x < 18446744073709551616) (hy : y < 18446744073709551616) (nx : isN x) (ny : isN y) : (FloatKind.f64.format.order x y != some .eq) = !decide (key x = key y) := by
  rw [show FloatKind.f64.format = Ieee.double from rfl, order_key x y hx hy nx ny]
  rcases Int.lt_trichotomy (key x) (key y) with h | h | h
  · rw [c_lt h, decide_eq_false (by omega)]; rfl
  · rw [h, c_eq, decide_eq_true rfl]; rfl
  · rw [c_gt h, decide_eq_false (by omega)]; rfl
theorem toV_isN' (k : Nat) (hk : k < 18446744073709551616) : isN (toV k) := by unfold isN; exact toV_fin k hk
theorem midO_comm (a b : Nat) (ha : a < 18446744073709551616) (hb : b < 18446744073709551616) : midO b a = midO a b := by
  unfold midO
  rw [order_comm' _ _ (toV_lt b hb) (toV_lt a ha) (toV_isN' b hb) (toV_isN' a ha), order_comm' _ _ (toV_lt a ha) (toV_lt b hb) (toV_isN' a ha) (toV_isN' b hb)]
  rw [Bool.and_comm (goodB b), Bool.and_comm (decide (toV b % 9223372036854775808 = 9218868437227405312))]
  have h1 : decide (key (toV b) = key (toV a)) = decide (key (toV a) = key (toV b)) := by rw [Bool.eq_iff_iff, decide_eq_true_eq, decide_eq_true_eq]; exact eq_comm
  have h2 : floatBits .add .f64 (halfV (toV b)) (halfV (toV a)) = floatBits .add .f64 (halfV (toV a)) (halfV (toV b)) := add_comm64 _ _
  rw [h1, h2]
theorem toV_key' (k : Nat) (hk : k < 18446744073709551616) (hg : goodB k = true) : key (toV k) = if k < 9223372036854775808 then (k : Int) - 9223372036854775807 else (k : Int) - 9223372036854775808 := by
  have r := (good_iff k hk).1 hg
  unfold toV key
  rw [if_pos hg]
  unfold backV
  split
  · rw [if_neg (by omega)]; omega
  · rw [if_pos (by omega)]; omega
/-- The bits of a middle lie between, from what its key does. -/
theorem ofV_between (a b r : Nat) (ha : a < 18446744073709551616) (hb : b < 18446744073709551616) (ga : goodB a = true) (gb : goodB b = true) (nr : isN r) (hr : r < 18446744073709551616) (h1 : key (toV a) ≤ key r) (h2 : key r ≤ key (toV b)) : a ≤ ofV r ∧ ofV r ≤ b := by
  have ra := (good_iff a ha).1 ga
  have rb := (good_iff b hb).1 gb
  rw [toV_key' a ha ga] at h1
  rw [toV_key' b hb gb] at h2
  have e : (ofV r : Int) = if 0 ≤ key r then 9223372036854775808 + key r else 9223372036854775807 + key r := by
    unfold isN at nr
    unfold ofV key
    rw [if_neg (by omega)]
    split
    · split
      · rw [if_pos (by omega)]; omega
      · rw [if_pos (by omega)]; omega
    · split
      · rw [if_pos (by omega)]; omega
      · rw [if_neg (by omega)]; omega
  split at h1 <;> split at h2 <;> split at e <;> omega
/-- What a middle of two times is. -/
theorem mid_law (a b : Nat) (ha : a < 18446744073709551616) (hb : b < 18446744073709551616) (hab : a ≤ b) :
    ((resE (midO a b) != 0) = true → (goodB a && goodB b) = false) ∧
    ((resE (midO a b) != 0) = false → 9007199254740992 ≤ toV a % 9223372036854775808 → 9007199254740992 ≤ toV b % 9223372036854775808 → a ≤ resV (midO a b) ∧ resV (midO a b) ≤ b) := by
  unfold midO
  cases hg : (goodB a && goodB b) with
  | false =>
    simp only [Bool.false_eq_true, if_false]
    exact ⟨fun _ => trivial, fun h => by cases h⟩
  | true =>
    simp only [if_true]
    rw [Bool.and_eq_true] at hg
    obtain ⟨ga, gb⟩ := hg
    have pa := toV_lt a ha
    have pb := toV_lt b hb
    have na := toV_isN' a ha
    have nb := toV_isN' b hb
    have ra := (good_iff a ha).1 ga
    have rb := (good_iff b hb).1 gb
    have hk : key (toV a) ≤ key (toV b) := by
      rw [toV_key' a ha ga, toV_key' b hb gb]
      split <;> split <;> omega
    rw [order_comm' _ _ pa pb na nb]
    by_cases hc : ((decide (toV a % 9223372036854775808 = 9218868437227405312) && decide (toV b % 9223372036854775808 = 9218868437227405312)) && !decide (key (toV a) = key (toV b))) = true
    · rw [if_pos hc]
      refine ⟨fun h => (by rw [show resE (some 0) = 0 from ofE0] at h; cases h), fun _ _ _ => ?_⟩
      rw [show resV (some 0) = 9223372036854775808 from ofV0]
      simp only [Bool.and_eq_true, decide_eq_true_eq, Bool.not_eq_true', decide_eq_false_iff_not] at hc
      obtain ⟨⟨i1, i2⟩, i3⟩ := hc
      have k1 := key_inf (toV a) pa i1
      have k2 := key_inf (toV b) pb i2
      rw [toV_key' a ha ga, toV_key' b hb gb] at hk i3
      rw [toV_key' a ha ga] at k1
      rw [toV_key' b hb gb] at k2
      clear i1 i2
      have k1' : (if a < 9223372036854775808 then (a : Int) - 9223372036854775807 else (a : Int) - 9223372036854775808) = 9218868437227405312 ∨ (if a < 9223372036854775808 then (a : Int) - 9223372036854775807 else (a : Int) - 9223372036854775808) = -9218868437227405312 := by
        rcases k1 with ⟨_, h⟩ | ⟨_, h⟩
        · exact Or.inl h
        · exact Or.inr h
      have k2' : (if b < 9223372036854775808 then (b : Int) - 9223372036854775807 else (b : Int) - 9223372036854775808) = 9218868437227405312 ∨ (if b < 9223372036854775808 then (b : Int) - 9223372036854775807 else (b : Int) - 9223372036854775808) = -9218868437227405312 := by
        rcases k2 with ⟨_, h⟩ | ⟨_, h⟩
        · exact Or.inl h
        · exact Or.inr h
      clear k1 k2
      split at k1' <;> split at k2' <;> rename_i c1 c2 <;> simp only [c1, c2, if_true, if_false] at i3 hk <;> omega
    · rw [if_neg hc]
      obtain ⟨n1, l1, g1, f1⟩ := half_facts (toV a) na
      obtain ⟨n2, l2, g2, f2⟩ := half_facts (toV b) nb
      have hs : Fin64 (halfV (toV a)) ∨ Fin64 (halfV (toV b)) ∨ ng (halfV (toV a)) = ng (halfV (toV b)) := by
        rw [f1, f2, g1, g2]
        by_cases fa : Fin64 (toV a)
        · exact Or.inl fa
        · by_cases fb : Fin64 (toV b)
          · exact Or.inr (Or.inl fb)
          · refine Or.inr (Or.inr ?_)
            have i1 : toV a % 9223372036854775808 = 9218868437227405312 := by unfold isN at na; unfold Fin64 at fa; omega
            have i2 : toV b % 9223372036854775808 = 9218868437227405312 := by unfold isN at nb; unfold Fin64 at fb; omega
            have i3 : key (toV a) = key (toV b) := by
              rw [decide_eq_true i1, decide_eq_true i2, Bool.true_and, Bool.true_and, Bool.not_eq_true', decide_eq_false_iff_not] at hc
              exact Classical.not_not.1 hc
            rcases key_inf _ pa i1 with ⟨x1, y1⟩ | ⟨x1, y1⟩ <;> rcases key_inf _ pb i2 with ⟨x2, y2⟩ | ⟨x2, y2⟩
            · rw [x1, x2]
            · exfalso; omega
            · exfalso; omega
            · rw [x1, x2]
      obtain ⟨r, hr⟩ := add_some _ _ n1 n2 hs
      have hr' : floatBits .add .f64 (halfV (toV a)) (halfV (toV b)) = some r := hr
      rw [hr']
      obtain ⟨nr, lr, _⟩ := add_key _ _ r l1 l2 n1 n2 hr
      have he : resE (some r) = 0 := by
        show ofE r = 0
        unfold isN at nr
        unfold ofE
        rw [if_neg (by omega)]
      refine ⟨fun h => (by rw [he] at h; cases h), fun _ ca cb => ?_⟩
      obtain ⟨b1, b2, _⟩ := mid_between _ _ r pa pb na nb ca cb hk hr
      exact ofV_between a b r ha hb ga gb nr lr b1 b2
theorem big_of (x : Nat) (h : isN x) (hx : x < 18446744073709551616) (hl : (FloatKind.f64.format.order (x % 9223372036854775808) 118622047889322841 == some .lt) = false) : 9007199254740992 ≤ x % 9223372036854775808 := by
  unfold isN at h
  have k := order_key (x % 9223372036854775808) 118622047889322841 (by omega) (by decide) (by unfold isN; omega) (by unfold isN; decide)
  rw [show FloatKind.f64.format = Ieee.double from rfl, k] at hl
  have k2 : key 118622047889322841 = 118622047889322841 := by decide
  have k3 : key (x % 9223372036854775808) = (x % 9223372036854775808 : Nat) := by unfold key; rw [if_pos (by omega)]
  rw [k2, k3] at hl
  have : ¬ ((x % 9223372036854775808 : Nat) : Int) < 118622047889322841 := fun c => by rw [c_lt c] at hl; cases hl
  omega
theorem instantMiddle_calls (a : Nat) (ha : a < 18446744073709551616) (b : Nat) (hb : b < 18446744073709551616) (w : World) : Calls Try.prog 8 #[u64 a, u64 b] w (Ret (.bool true) w) := by
  have D2 := fun w => mid_any b a hb ha w
  rw [midO_comm a b ha hb] at D2
  rcases Nat.lt_trichotomy a b with h | rfl | h
  · obtain ⟨m1, m2⟩ := mid_law a b ha hb (Nat.le_of_lt h)
    exact mid_lt a b _ _ _ _ _ _ _ _ _ _ _ _ _ h (by omega) rfl m1 rfl rfl (fun x y z => m2 x (big_of _ (toV_isN' a ha) (toV_lt a ha) y) (big_of _ (toV_isN' b hb) (toV_lt b hb) z)) (Lib.hid (fun w => mid_any a b ha hb w)) (Lib.hid D2) (Lib.hid (fun w => good_any a ha w)) (Lib.hid (fun w => good_any b hb w)) (Lib.hid (fun w => to_any a ha w)) (Lib.hid (fun w => to_any b hb w)) (Lib.hid (fun w => abs_any _ (toV_lt a ha) w)) (Lib.hid (fun w => abs_any _ (toV_lt b hb) w)) w
  · obtain ⟨m1, m2⟩ := mid_law a a ha hb (Nat.le_refl _)
    exact mid_eq a _ _ _ _ _ _ _ _ rfl (fun x => by have := m1 x; rw [Bool.and_self] at this; exact this) rfl (fun x y => m2 x (big_of _ (toV_isN' a ha) (toV_lt a ha) y) (big_of _ (toV_isN' a ha) (toV_lt a ha) y)) (Lib.hid (fun w => mid_any a a ha hb w)) (Lib.hid (fun w => good_any a ha w)) (Lib.hid (fun w => to_any a ha w)) (Lib.hid (fun w => abs_any _ (toV_lt a ha) w)) w
  · obtain ⟨m1, m2⟩ := mid_law b a hb ha (Nat.le_of_lt h)
    rw [midO_comm a b ha hb] at m1 m2
    exact mid_gt a b _ _ _ _ _ _ _ _ _ _ _ _ _ h (by omega) rfl (fun x => by have := m1 x; rw [Bool.and_comm] at this; exact this) rfl rfl (fun x y z => m2 x (big_of _ (toV_isN' b hb) (toV_lt b hb) y) (big_of _ (toV_isN' a ha) (toV_lt a ha) z)) (Lib.hid (fun w => mid_any a b ha hb w)) (Lib.hid D2) (Lib.hid (fun w => good_any a ha w)) (Lib.hid (fun w => good_any b hb w)) (Lib.hid (fun w => to_any b hb w)) (Lib.hid (fun w => to_any a ha w)) (Lib.hid (fun w => abs_any _ (toV_lt b hb) w)) (Lib.hid (fun w => abs_any _ (toV_lt a ha) w)) w

set_option maxRecDepth 100000 in
theorem instantMiddle_lifted (os : Os) (started : os.Started) (H : Type) (enc : TypeId × Value → H) :
    ReturnsInHanded {} Try.checked os 8 .any (Rows.instantMiddleSpec.pre6 enc Try.prog Try.f8 Rows.instantMiddleRow.domain false) (Rows.instantMiddleSpec.post enc Try.prog Try.f8 false true false false) := by
  refine returnsInHanded_of_change (C := Try.checked) Try.own started (by kernel_rfl) Try.func8
    (ChangeSpec.witness6 (enc := enc) (C := Try.checked) false ⟨#[], #[.int .u64 0, .int .u64 0], []⟩ 8 (by kernel_rfl) (by kernel_rfl) (by kernel_rfl) (by kernel_rfl)) ?_
  intro W base args ds gs before hval0 hW hcnd _
  have hval : ∀ (j : Nat) t v, Try.f8.params[j]? = some t → args[j]? = some v → Value.okWide Try.prog W .any base t v := hval0
  have hW' := hW
  obtain ⟨p, q, hA0, hV, rfl, hfz, hnd⟩ := hW
  have hA : DataW.TrodAll enc Try.prog W 0 (fun _ => true) true Try.f8.params.toList args.toList ds p := hA0
  rw [Try.params8] at hA hval
  obtain ⟨v0, vs0, d0, ds0, p0, q0, hargs, rfl, rfl, h0, r0⟩ := trodAll_cons hA
  obtain ⟨v1, vs1, d1, ds1, p1, q1, rfl, rfl, rfl, h1, r1⟩ := trodAll_cons r0
  obtain ⟨rfl, rfl, rfl⟩ := trodAll_nil r1
  obtain rfl : args = #[v0, v1] := by cases args; simp_all
  obtain ⟨rfl, rfl⟩ := trodVars_none hV
  obtain ⟨b0, rfl, wb0⟩ := open_u64 (hval 0 23 _ rfl rfl) h0
  obtain ⟨b1, rfl, wb1⟩ := open_u64 (hval 1 23 _ rfl rfl) h1
  refine (instantMiddle_calls b0 wb0 b1 wb1 W).mono fun e W' ⟨he, j, hj⟩ => ?_
  subst he; subst hj
  exact ⟨_, rfl, law_post Try.laidOut (by kernel_rfl) rfl rfl rfl hW' (w_ext_below _ _)⟩

theorem instantMiddle_holds : Rows.InstantMiddleSaid :=
  OpenClaim.holds_of_wide 8 Try.f8 rfl rfl rfl rfl rfl rfl rfl ⟨rfl, rfl, rfl, rfl, rfl⟩ rfl rfl rfl rfl rfl (by kernel_rfl) Try.func8 (by kernel_rfl)
    (of_decide_eq_true (by kernel_rfl)) (by unfold Func.isWrapper; first | (rw [if_pos (by decide +kernel)]; kernel_rfl) | (rw [if_neg (by decide +kernel)]; exact ⟨rfl, rfl⟩))
    (fun os started H enc _ => instantMiddle_lifted os started H enc)
end Go.Proofs.Ytbbbiicjiagmiaa
