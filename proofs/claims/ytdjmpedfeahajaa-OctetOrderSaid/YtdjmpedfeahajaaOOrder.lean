/- Numbers from 0 on stand in order as their bytes do: for all numbers and widths. -/
import Derived.Test.YtdjmpedfeahajaaL
import Derived.Test.YtdjmpedfeahajaaM
import Derived.Test.YtdjmpedfeahajaaO8
namespace Go.Proofs.Ytdjmpedfeahajaa
open Go.ChangeShapes Go.WideShapes Go.ChangeAt Go.RowKit Go.Proofs.YtdjmpedfeahajaaW.PrintWords
set_option linter.unusedSimpArgs false

theorem below_pre {w : World} {a b : List Obj} {m m' : Nat} (h : a <+: b) : Below (wext w ⟨a, m⟩).heap.size (wext w ⟨a, m⟩) (wext w ⟨b, m'⟩) := by
  obtain ⟨t, rfl⟩ := h
  exact below_app w ⟨a, m⟩ t m'
theorem read49' (A : Option Addr) (c pw pn : Nat) (v0 : Value) (l : List Int) (k N : Nat) (w : World) (hl : l.length = k) (hC : ReadsB w A l) (hw : w.cell? ⟨pw, 0, none⟩ = some (.int .i64 (k : Int))) (hn : w.cell? ⟨pn, 0, none⟩ = some v0) (hnf : w.frozen? ⟨pn, 0, none⟩ = false)
    (h1 : 1 ≤ k) (h8 : k ≤ 8) (hN : beNat (Lib.bytesOf l) = N) (hN2 : N < 9223372036854775808) :
    Calls Try.prog 48 #[.slice A k c, .func (.func 49) #[] #[.pointer (some ⟨pw, 0, none⟩), .pointer (some ⟨pn, 0, none⟩)]] w fun e w' => e = .returned (.int .i64 0) ∧ ∃ j, w' = wext (w.setCell ⟨pn, 0, none⟩ (.int .i64 (N : Int))) j := by
  subst hl; exact read49 A c pw pn v0 l N w hC hw hn hnf h1 h8 hN hN2
theorem compare_any' (w : World) (A B : Option Addr) (l m : List Int) (p q c d : Nat) (hl : l.length = p) (hm : m.length = q) (hA : ReadsB w A l) (hB : ReadsB w B m) :
    Calls Try.prog 40 #[.slice A p c, .slice B q d] w (Ret (.int .i64 (Lib.compareBytes (Lib.bytesOf l) (Lib.bytesOf m))) w) := by
  subst hl; subst hm; exact compare_any w A B l m c d hA hB

set_option maxHeartbeats 2000000 in
set_option maxRecDepth 100000 in
theorem order_neg1 (x y n : Int) (k : Nat) (w : World) (hk : wrap64 (1 + wrap64 ((IntKind.u64.wrap n).tmod 8)) = (k : Int)) (h1 : 1 ≤ k) (h8 : k ≤ 8) (hx0 : x < 0) : Calls Try.prog 10 #[.int .i64 x, .int .i64 y, .int .i64 n] w (Ret (.bool true) w) := by
  have hw8 : wrap64 (8 * (k : Int)) = 8 * (k : Int) := by rw [wrap64_eq]; omega
  have hk0 : (0 : Int) ≤ 8 * (k : Int) := by omega
  have hk1 : ¬ 8 * (k : Int) < 0 := by omega
  have hk64 : 8 * (k : Int) ≤ 64 := by omega
  go_enter Try.func10, Try.ntmps10
  go_wp2_with (go_at_call 42; (with_reducible refine (awake01_any _).mono ?_); rintro e1 w1 ⟨rfl, j1, rfl⟩)
  go_ret
  exact Ret.mk rfl (by (repeat' (first | (with_reducible exact Below.refl _ _) | (with_reducible assumption) | (with_reducible exact below_app _ _ _ _) | (with_reducible refine Below.alloc ?_ ?_ _) | (with_reducible refine below_ext ?_ ?_ _) | (with_reducible refine Below.drew ?_) | (with_reducible refine below_drewN ?_ _) | (with_reducible refine Below.setCell ?_ ?_ _) | go_size)))

set_option maxHeartbeats 2000000 in
set_option maxRecDepth 100000 in
theorem order_neg2 (x y n : Int) (k : Nat) (w : World) (hk : wrap64 (1 + wrap64 ((IntKind.u64.wrap n).tmod 8)) = (k : Int)) (h1 : 1 ≤ k) (h8 : k ≤ 8) (hx0 : ¬ x < 0) (hy0 : y < 0) : Calls Try.prog 10 #[.int .i64 x, .int .i64 y, .int .i64 n] w (Ret (.bool true) w) := by
  have hw8 : wrap64 (8 * (k : Int)) = 8 * (k : Int) := by rw [wrap64_eq]; omega
  have hk0 : (0 : Int) ≤ 8 * (k : Int) := by omega
  have hk1 : ¬ 8 * (k : Int) < 0 := by omega
  have hk64 : 8 * (k : Int) ≤ 64 := by omega
  go_enter Try.func10, Try.ntmps10
  go_wp2_with (go_at_call 42; (with_reducible refine (awake01_any _).mono ?_); rintro e1 w1 ⟨rfl, j1, rfl⟩)
  go_ret
  exact Ret.mk rfl (by (repeat' (first | (with_reducible exact Below.refl _ _) | (with_reducible assumption) | (with_reducible exact below_app _ _ _ _) | (with_reducible refine Below.alloc ?_ ?_ _) | (with_reducible refine below_ext ?_ ?_ _) | (with_reducible refine Below.drew ?_) | (with_reducible refine below_drewN ?_ _) | (with_reducible refine Below.setCell ?_ ?_ _) | go_size)))

set_option maxHeartbeats 2000000 in
set_option maxRecDepth 100000 in
theorem order_wide1 (x y n : Int) (k : Nat) (w : World) (hk : wrap64 (1 + wrap64 ((IntKind.u64.wrap n).tmod 8)) = (k : Int)) (h1 : 1 ≤ k) (h8 : k ≤ 8) (hx0 : ¬ x < 0) (hy0 : ¬ y < 0) (h9 : (k : Int) < 8) (hA : 0 < x / 2 ^ (8 * k)) : Calls Try.prog 10 #[.int .i64 x, .int .i64 y, .int .i64 n] w (Ret (.bool true) w) := by
  have hw8 : wrap64 (8 * (k : Int)) = 8 * (k : Int) := by rw [wrap64_eq]; omega
  have hk0 : (0 : Int) ≤ 8 * (k : Int) := by omega
  have hk1 : ¬ 8 * (k : Int) < 0 := by omega
  have hk64 : 8 * (k : Int) ≤ 64 := by omega
  go_enter Try.func10, Try.ntmps10
  go_wp2_with (go_at_call 42; (with_reducible refine (awake01_any _).mono ?_); rintro e1 w1 ⟨rfl, j1, rfl⟩)
  go_ret
  exact Ret.mk rfl (by (repeat' (first | (with_reducible exact Below.refl _ _) | (with_reducible assumption) | (with_reducible exact below_app _ _ _ _) | (with_reducible refine Below.alloc ?_ ?_ _) | (with_reducible refine below_ext ?_ ?_ _) | (with_reducible refine Below.drew ?_) | (with_reducible refine below_drewN ?_ _) | (with_reducible refine Below.setCell ?_ ?_ _) | go_size)))

set_option maxHeartbeats 2000000 in
set_option maxRecDepth 100000 in
theorem order_wide2 (x y n : Int) (k : Nat) (w : World) (hk : wrap64 (1 + wrap64 ((IntKind.u64.wrap n).tmod 8)) = (k : Int)) (h1 : 1 ≤ k) (h8 : k ≤ 8) (hx0 : ¬ x < 0) (hy0 : ¬ y < 0) (h9 : (k : Int) < 8) (hA : ¬ 0 < x / 2 ^ (8 * k)) (hB : 0 < y / 2 ^ (8 * k)) : Calls Try.prog 10 #[.int .i64 x, .int .i64 y, .int .i64 n] w (Ret (.bool true) w) := by
  have hw8 : wrap64 (8 * (k : Int)) = 8 * (k : Int) := by rw [wrap64_eq]; omega
  have hk0 : (0 : Int) ≤ 8 * (k : Int) := by omega
  have hk1 : ¬ 8 * (k : Int) < 0 := by omega
  have hk64 : 8 * (k : Int) ≤ 64 := by omega
  go_enter Try.func10, Try.ntmps10
  go_wp2_with (go_at_call 42; (with_reducible refine (awake01_any _).mono ?_); rintro e1 w1 ⟨rfl, j1, rfl⟩)
  go_ret
  exact Ret.mk rfl (by (repeat' (first | (with_reducible exact Below.refl _ _) | (with_reducible assumption) | (with_reducible exact below_app _ _ _ _) | (with_reducible refine Below.alloc ?_ ?_ _) | (with_reducible refine below_ext ?_ ?_ _) | (with_reducible refine Below.drew ?_) | (with_reducible refine below_drewN ?_ _) | (with_reducible refine Below.setCell ?_ ?_ _) | go_size)))

set_option maxHeartbeats 2000000 in
set_option maxRecDepth 100000 in
theorem order_eight (x y n : Int) (k : Nat) (w : World) (hk : wrap64 (1 + wrap64 ((IntKind.u64.wrap n).tmod 8)) = (k : Int)) (h1 : 1 ≤ k) (h8 : k ≤ 8) (hx0 : ¬ x < 0) (hy0 : ¬ y < 0) (h9 : ¬ (k : Int) < 8) (N : Nat) (hNe : ((N : Int) == x) = true)
    (hx : N < 9223372036854775808) (hbe : beNat (Lib.bytesOf (putL k x)) = N) (cv : Int) (hcmp : Lib.compareBytes (Lib.bytesOf (putL k x)) (Lib.bytesOf (putL k y)) = cv) (hcv : (cv = -1 ∧ x < y ∧ (x == y) = false) ∨ (cv = 0 ∧ ¬ x < y ∧ (x == y) = true) ∨ (cv = 1 ∧ ¬ x < y ∧ (x == y) = false)) :
    Calls Try.prog 10 #[.int .i64 x, .int .i64 y, .int .i64 n] w (Ret (.bool true) w) := by
  have hw8 : wrap64 (8 * (k : Int)) = 8 * (k : Int) := by rw [wrap64_eq]; omega
  have hk0 : (0 : Int) ≤ 8 * (k : Int) := by omega
  have hk1 : ¬ 8 * (k : Int) < 0 := by omega
  have hk64 : 8 * (k : Int) ≤ 64 := by omega
  rcases hcv with ⟨rfl, f1, f2⟩ | ⟨rfl, f1, f2⟩ | ⟨rfl, f1, f2⟩
  all_goals
    go_enter Try.func10, Try.ntmps10
    go_wp2_with fail
    (refine wp_region_mix [(0, true), (1, true), (3, true), (4, true), (2, false), (5, false), (6, true), (7, true)] (by kernel_rfl) (by kernel_rfl) rfl (by kernel_rfl) (by intro _ _ d _ _ h; cases d <;> exact h) ?_; intro j1; (repeat (first | (refine wpMix_skip rfl rfl ?_; simp only [Act.put, List.setIfInBounds_toArray, List.set_cons_zero, List.set_cons_succ]) | (refine wpMix_light rfl rfl ?_; intro K hK; go_simp; refine hK _ ?_; clear hK K) | (refine wpMix_heavy rfl rfl ?_; intro K hK; go_wp2_with ((first | (go_at_call 47; (with_reducible refine (put_any x k _ h1 h8).mono ?_); rintro e1 w1 ⟨A, ca, rfl, j1, rfl, hA⟩; simp only [w_ext_ext] at hA; have HA := Lib.hid hA; clear hA) | (go_at_call 47; (with_reducible refine (put_any y k _ h1 h8).mono ?_); rintro e1 w1 ⟨B, cb, rfl, j1, rfl, hB⟩; simp only [w_ext_ext] at hB; have HB := Lib.hid hB; clear hB))); refine ⟨w_ext_of_below (by (repeat' (first | (with_reducible exact Below.refl _ _) | (with_reducible assumption) | (with_reducible exact below_app _ _ _ _) | (with_reducible refine Below.alloc ?_ ?_ _) | (with_reducible refine below_ext ?_ ?_ _) | (with_reducible refine Below.drew ?_) | (with_reducible refine below_drewN ?_ _) | (with_reducible refine Below.setCell ?_ ?_ _) | go_size))), ?_⟩))); refine wpMix_nil ?_)
    go_wp2_with (first | (go_at_call 42; (with_reducible refine (awake01_any _).mono ?_); rintro e1 w1 ⟨rfl, j1, rfl⟩) | (go_at_call 48; (with_reducible refine (read49' (some A) ca _ _ (.int .i64 0) (putL k x) k N _ (putL_length _ _) ?_ ?_ ?_ ?_ h1 h8 hbe hx).mono ?_); (· exact Kd.C_below HA.out (by (repeat' (first | (with_reducible exact Below.refl _ _) | (with_reducible assumption) | (with_reducible exact below_app _ _ _ _) | (with_reducible refine below_pre ?_; (simp only [List.append_assoc, List.prefix_append, List.prefix_refl, List.prefix_append_right_inj])) | (with_reducible refine Below.alloc ?_ ?_ _) | (with_reducible refine below_ext ?_ ?_ _) | (with_reducible refine Below.drew ?_) | (with_reducible refine below_drewN ?_ _) | (with_reducible refine Below.setCell ?_ ?_ _) | go_size | (simp only [w_size_ext, List.length_append, World.alloc_size]; omega) | (simp; done) | (simp; omega))))); (· simp [go_sem]); (· simp [go_sem]); (· simp [go_sem]); rintro e1 w1 ⟨rfl, j1, rfl⟩) | (go_at_call 40; (with_reducible refine (compare_any' _ (some A) (some B) (putL k x) (putL k y) k k ca cb (putL_length _ _) (putL_length _ _) ?_ ?_).mono ?_); (· exact Kd.C_below HA.out (by (repeat' (first | (with_reducible exact Below.refl _ _) | (with_reducible assumption) | (with_reducible exact below_app _ _ _ _) | (with_reducible refine below_pre ?_; (simp only [List.append_assoc, List.prefix_append, List.prefix_refl, List.prefix_append_right_inj])) | (with_reducible refine Below.alloc ?_ ?_ _) | (with_reducible refine below_ext ?_ ?_ _) | (with_reducible refine Below.drew ?_) | (with_reducible refine below_drewN ?_ _) | (with_reducible refine Below.setCell ?_ ?_ _) | go_size | (simp only [w_size_ext, List.length_append, World.alloc_size]; omega) | (simp; done) | (simp; omega))))); (· exact Kd.C_below HB.out (by (repeat' (first | (with_reducible exact Below.refl _ _) | (with_reducible assumption) | (with_reducible exact below_app _ _ _ _) | (with_reducible refine below_pre ?_; (simp only [List.append_assoc, List.prefix_append, List.prefix_refl, List.prefix_append_right_inj])) | (with_reducible refine Below.alloc ?_ ?_ _) | (with_reducible refine below_ext ?_ ?_ _) | (with_reducible refine Below.drew ?_) | (with_reducible refine below_drewN ?_ _) | (with_reducible refine Below.setCell ?_ ?_ _) | go_size | (simp only [w_size_ext, List.length_append, World.alloc_size]; omega) | (simp; done) | (simp; omega))))); rw [hcmp]; rintro e1 w1 ⟨rfl, j1, rfl⟩))
    go_ret
    exact Ret.mk (by first | rfl | simp [f1]) (by (repeat' (first | (with_reducible exact Below.refl _ _) | (with_reducible assumption) | (with_reducible exact below_app _ _ _ _) | (with_reducible refine Below.alloc ?_ ?_ _) | (with_reducible refine below_ext ?_ ?_ _) | (with_reducible refine Below.drew ?_) | (with_reducible refine below_drewN ?_ _) | (with_reducible refine Below.setCell ?_ ?_ _) | go_size)))

set_option maxHeartbeats 2000000 in
set_option maxRecDepth 100000 in
theorem order_small (x y n : Int) (k : Nat) (w : World) (hk : wrap64 (1 + wrap64 ((IntKind.u64.wrap n).tmod 8)) = (k : Int)) (h1 : 1 ≤ k) (h8 : k ≤ 8) (hx0 : ¬ x < 0) (hy0 : ¬ y < 0) (h9 : (k : Int) < 8) (hA : ¬ 0 < x / 2 ^ (8 * k)) (hB : ¬ 0 < y / 2 ^ (8 * k)) (N : Nat) (hNe : ((N : Int) == x) = true)
    (hx : N < 9223372036854775808) (hbe : beNat (Lib.bytesOf (putL k x)) = N) (cv : Int) (hcmp : Lib.compareBytes (Lib.bytesOf (putL k x)) (Lib.bytesOf (putL k y)) = cv) (hcv : (cv = -1 ∧ x < y ∧ (x == y) = false) ∨ (cv = 0 ∧ ¬ x < y ∧ (x == y) = true) ∨ (cv = 1 ∧ ¬ x < y ∧ (x == y) = false)) :
    Calls Try.prog 10 #[.int .i64 x, .int .i64 y, .int .i64 n] w (Ret (.bool true) w) := by
  have hw8 : wrap64 (8 * (k : Int)) = 8 * (k : Int) := by rw [wrap64_eq]; omega
  have hk0 : (0 : Int) ≤ 8 * (k : Int) := by omega
  have hk1 : ¬ 8 * (k : Int) < 0 := by omega
  have hk64 : 8 * (k : Int) ≤ 64 := by omega
  rcases hcv with ⟨rfl, f1, f2⟩ | ⟨rfl, f1, f2⟩ | ⟨rfl, f1, f2⟩
  all_goals
    go_enter Try.func10, Try.ntmps10
    go_wp2_with fail
    (refine wp_region_mix [(0, true), (1, true), (3, true), (4, true), (2, false), (5, false), (6, true), (7, true)] (by kernel_rfl) (by kernel_rfl) rfl (by kernel_rfl) (by intro _ _ d _ _ h; cases d <;> exact h) ?_; intro j1; (repeat (first | (refine wpMix_skip rfl rfl ?_; simp only [Act.put, List.setIfInBounds_toArray, List.set_cons_zero, List.set_cons_succ]) | (refine wpMix_light rfl rfl ?_; intro K hK; go_simp; refine hK _ ?_; clear hK K) | (refine wpMix_heavy rfl rfl ?_; intro K hK; go_wp2_with ((first | (go_at_call 47; (with_reducible refine (put_any x k _ h1 h8).mono ?_); rintro e1 w1 ⟨A, ca, rfl, j1, rfl, hA⟩; simp only [w_ext_ext] at hA; have HA := Lib.hid hA; clear hA) | (go_at_call 47; (with_reducible refine (put_any y k _ h1 h8).mono ?_); rintro e1 w1 ⟨B, cb, rfl, j1, rfl, hB⟩; simp only [w_ext_ext] at hB; have HB := Lib.hid hB; clear hB))); refine ⟨w_ext_of_below (by (repeat' (first | (with_reducible exact Below.refl _ _) | (with_reducible assumption) | (with_reducible exact below_app _ _ _ _) | (with_reducible refine Below.alloc ?_ ?_ _) | (with_reducible refine below_ext ?_ ?_ _) | (with_reducible refine Below.drew ?_) | (with_reducible refine below_drewN ?_ _) | (with_reducible refine Below.setCell ?_ ?_ _) | go_size))), ?_⟩))); refine wpMix_nil ?_)
    go_wp2_with (first | (go_at_call 42; (with_reducible refine (awake01_any _).mono ?_); rintro e1 w1 ⟨rfl, j1, rfl⟩) | (go_at_call 48; (with_reducible refine (read49' (some A) ca _ _ (.int .i64 0) (putL k x) k N _ (putL_length _ _) ?_ ?_ ?_ ?_ h1 h8 hbe hx).mono ?_); (· exact Kd.C_below HA.out (by (repeat' (first | (with_reducible exact Below.refl _ _) | (with_reducible assumption) | (with_reducible exact below_app _ _ _ _) | (with_reducible refine below_pre ?_; (simp only [List.append_assoc, List.prefix_append, List.prefix_refl, List.prefix_append_right_inj])) | (with_reducible refine Below.alloc ?_ ?_ _) | (with_reducible refine below_ext ?_ ?_ _) | (with_reducible refine Below.drew ?_) | (with_reducible refine below_drewN ?_ _) | (with_reducible refine Below.setCell ?_ ?_ _) | go_size | (simp only [w_size_ext, List.length_append, World.alloc_size]; omega) | (simp; done) | (simp; omega))))); (· simp [go_sem]); (· simp [go_sem]); (· simp [go_sem]); rintro e1 w1 ⟨rfl, j1, rfl⟩) | (go_at_call 40; (with_reducible refine (compare_any' _ (some A) (some B) (putL k x) (putL k y) k k ca cb (putL_length _ _) (putL_length _ _) ?_ ?_).mono ?_); (· exact Kd.C_below HA.out (by (repeat' (first | (with_reducible exact Below.refl _ _) | (with_reducible assumption) | (with_reducible exact below_app _ _ _ _) | (with_reducible refine below_pre ?_; (simp only [List.append_assoc, List.prefix_append, List.prefix_refl, List.prefix_append_right_inj])) | (with_reducible refine Below.alloc ?_ ?_ _) | (with_reducible refine below_ext ?_ ?_ _) | (with_reducible refine Below.drew ?_) | (with_reducible refine below_drewN ?_ _) | (with_reducible refine Below.setCell ?_ ?_ _) | go_size | (simp only [w_size_ext, List.length_append, World.alloc_size]; omega) | (simp; done) | (simp; omega))))); (· exact Kd.C_below HB.out (by (repeat' (first | (with_reducible exact Below.refl _ _) | (with_reducible assumption) | (with_reducible exact below_app _ _ _ _) | (with_reducible refine below_pre ?_; (simp only [List.append_assoc, List.prefix_append, List.prefix_refl, List.prefix_append_right_inj])) | (with_reducible refine Below.alloc ?_ ?_ _) | (with_reducible refine below_ext ?_ ?_ _) | (with_reducible refine Below.drew ?_) | (with_reducible refine below_drewN ?_ _) | (with_reducible refine Below.setCell ?_ ?_ _) | go_size | (simp only [w_size_ext, List.length_append, World.alloc_size]; omega) | (simp; done) | (simp; omega))))); rw [hcmp]; rintro e1 w1 ⟨rfl, j1, rfl⟩))
    go_ret
    exact Ret.mk (by first | rfl | simp [f1]) (by (repeat' (first | (with_reducible exact Below.refl _ _) | (with_reducible assumption) | (with_reducible exact below_app _ _ _ _) | (with_reducible refine Below.alloc ?_ ?_ _) | (with_reducible refine below_ext ?_ ?_ _) | (with_reducible refine Below.drew ?_) | (with_reducible refine below_drewN ?_ _) | (with_reducible refine Below.setCell ?_ ?_ _) | go_size)))

theorem small_of {x : Nat} {k : Nat} (h : ¬ (0 : Int) < (x : Int) / 2 ^ (8 * k)) : x < 256 ^ k := by
  have e : (x : Int) / 2 ^ (8 * k) = ((x / 256 ^ k : Nat) : Int) := by
    rw [Int.pow_mul]; simp
  rw [e] at h
  have h0 : x / 256 ^ k = 0 := by generalize x / 256 ^ k = q at h ⊢; omega
  rcases Nat.lt_or_ge x (256 ^ k) with h' | h'
  · exact h'
  · have := Nat.div_pos h' (Nat.pow_pos (by decide)); omega
theorem cmp_facts (k x y : Nat) (hx : x < 256 ^ k) (hy : y < 256 ^ k) : ∃ cv, Lib.compareBytes (Lib.bytesOf (putL k (x : Int))) (Lib.bytesOf (putL k (y : Int))) = cv ∧
    ((cv = -1 ∧ (x : Int) < (y : Int) ∧ ((x : Int) == (y : Int)) = false) ∨ (cv = 0 ∧ ¬ (x : Int) < (y : Int) ∧ ((x : Int) == (y : Int)) = true) ∨ (cv = 1 ∧ ¬ (x : Int) < (y : Int) ∧ ((x : Int) == (y : Int)) = false)) := by
  refine ⟨_, rfl, ?_⟩
  rw [cmp_put, Nat.mod_eq_of_lt hx, Nat.mod_eq_of_lt hy]
  unfold cmpN
  rcases Nat.lt_trichotomy x y with h | rfl | h
  · left; exact ⟨by rw [if_pos h], by omega, by simp; omega⟩
  · right; left; exact ⟨by simp, by omega, by simp⟩
  · right; right; exact ⟨by rw [if_neg (by omega), if_pos h], by omega, by simp; omega⟩
theorem octetOrder_calls (x : Int) (hx : I64 x) (y : Int) (hy : I64 y) (n : Int) (w : World) : Calls Try.prog 10 #[.int .i64 x, .int .i64 y, .int .i64 n] w (Ret (.bool true) w) := by
  obtain ⟨k, hk, h1, h8⟩ : ∃ k : Nat, wrap64 (1 + wrap64 ((IntKind.u64.wrap n).tmod 8)) = (k : Int) ∧ 1 ≤ k ∧ k ≤ 8 := by
    have h0 : 0 ≤ IntKind.u64.wrap n := by rw [IntKind.wrap_u64]; omega
    have e : (IntKind.u64.wrap n).tmod 8 = (IntKind.u64.wrap n) % 8 := Int.tmod_eq_emod_of_nonneg h0
    refine ⟨(1 + (IntKind.u64.wrap n) % 8).toNat, ?_, by omega, by omega⟩
    rw [e, wrap64_eq, wrap64_eq]; omega
  by_cases hx0 : x < 0
  · exact order_neg1 x y n k w hk h1 h8 hx0
  by_cases hy0 : y < 0
  · exact order_neg2 x y n k w hk h1 h8 hx0 hy0
  obtain ⟨a, rfl⟩ := Int.eq_ofNat_of_zero_le (show 0 ≤ x by omega)
  obtain ⟨b, rfl⟩ := Int.eq_ofNat_of_zero_le (show 0 ≤ y by omega)
  have ha : a < 9223372036854775808 := by have := hx.2; omega
  have hb : b < 9223372036854775808 := by have := hy.2; omega
  by_cases h9 : (k : Int) < 8
  · by_cases hA : (0 : Int) < (a : Int) / 2 ^ (8 * k)
    · exact order_wide1 _ _ n k w hk h1 h8 hx0 hy0 h9 hA
    by_cases hB : (0 : Int) < (b : Int) / 2 ^ (8 * k)
    · exact order_wide2 _ _ n k w hk h1 h8 hx0 hy0 h9 hA hB
    obtain ⟨cv, hc, hcv⟩ := cmp_facts k a b (small_of hA) (small_of hB)
    exact order_small _ _ n k w hk h1 h8 hx0 hy0 h9 hA hB a (by simp) ha (by rw [beNat_put, Nat.mod_eq_of_lt (small_of hA)]) cv hc hcv
  · obtain rfl : k = 8 := by omega
    have e8 : 256 ^ 8 = 18446744073709551616 := by decide
    obtain ⟨cv, hc, hcv⟩ := cmp_facts 8 a b (by omega) (by omega)
    exact order_eight _ _ n 8 w hk h1 h8 hx0 hy0 h9 a (by simp) ha (by rw [beNat_put, Nat.mod_eq_of_lt (by omega)]) cv hc hcv

set_option maxRecDepth 100000 in
theorem octetOrder_lifted (os : Os) (started : os.Started) (H : Type) (enc : TypeId × Value → H) :
    ReturnsInHanded {} Try.checked os 10 .any (Rows.octetOrderSpec.pre6 enc Try.prog Try.f10 Rows.octetOrderRow.domain false) (Rows.octetOrderSpec.post enc Try.prog Try.f10 false true false false) := by
  refine returnsInHanded_of_change (C := Try.checked) Try.own started (by kernel_rfl) Try.func10
    (ChangeSpec.witness6 (enc := enc) (C := Try.checked) false ⟨#[], #[.int .i64 0, .int .i64 0, .int .i64 0], []⟩ 8 (by kernel_rfl) (by kernel_rfl) (by kernel_rfl) (by kernel_rfl)) ?_
  intro W base args ds gs before hval0 hW hcnd _
  have hval : ∀ (j : Nat) t v, Try.f10.params[j]? = some t → args[j]? = some v → Value.okWide Try.prog W .any base t v := hval0
  have hW' := hW
  obtain ⟨p, q, hA0, hV, rfl, hfz, hnd⟩ := hW
  have hA : DataW.TrodAll enc Try.prog W 0 (fun _ => true) true Try.f10.params.toList args.toList ds p := hA0
  rw [Try.params10] at hA hval
  obtain ⟨v0, vs0, d0, ds0, p0, q0, hargs, rfl, rfl, h0, r0⟩ := trodAll_cons hA
  obtain ⟨v1, vs1, d1, ds1, p1, q1, rfl, rfl, rfl, h1, r1⟩ := trodAll_cons r0
  obtain ⟨v2, vs2, d2, ds2, p2, q2, rfl, rfl, rfl, h2, r2⟩ := trodAll_cons r1
  obtain ⟨rfl, rfl, rfl⟩ := trodAll_nil r2
  obtain rfl : args = #[v0, v1, v2] := by cases args; simp_all
  obtain ⟨rfl, rfl⟩ := trodVars_none hV
  obtain ⟨n0, rfl, wn0⟩ := open_i64 (hval 0 3 _ rfl rfl) h0
  obtain ⟨n1, rfl, wn1⟩ := open_i64 (hval 1 3 _ rfl rfl) h1
  obtain ⟨n2, rfl, wn2⟩ := open_i64 (hval 2 3 _ rfl rfl) h2
  refine (octetOrder_calls n0 wn0 n1 wn1 n2 W).mono fun e W' ⟨he, j, hj⟩ => ?_
  subst he; subst hj
  exact ⟨_, rfl, law_post Try.laidOut (by kernel_rfl) rfl rfl rfl hW' (w_ext_below _ _)⟩

theorem octetOrder_holds : Rows.OctetOrderSaid :=
  OpenClaim.holds_of_wide 10 Try.f10 rfl rfl rfl rfl rfl rfl rfl ⟨rfl, rfl, rfl, rfl, rfl⟩ rfl rfl rfl rfl rfl (by kernel_rfl) Try.func10 (by kernel_rfl)
    (of_decide_eq_true (by kernel_rfl)) (by unfold Func.isWrapper; first | (rw [if_pos (by decide +kernel)]; kernel_rfl) | (rw [if_neg (by decide +kernel)]; exact ⟨rfl, rfl⟩))
    (fun os started H enc _ => octetOrder_lifted os started H enc)
end Go.Proofs.Ytdjmpedfeahajaa
