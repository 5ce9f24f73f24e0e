/- Stamps stand in one order, as their bytes do: for all stamps. -/
import Derived.Test.YtdjmpedfeahajaaL
import Derived.Test.YtdjmpedfeahajaaM
import Derived.Test.YtdjmpedfeahajaaV5
import Derived.Test.YtdjmpedfeahajaaO8
namespace Go.Proofs.Ytdjmpedfeahajaa
open Go.ChangeShapes Go.WideShapes Go.ChangeAt Go.RowKit Go.Proofs.YtdjmpedfeahajaaW.PrintWords
set_option linter.unusedSimpArgs false
set_option linter.unusedVariables false

theorem below_pre {w : World} {a b : List Obj} {m m' : Nat} (h : a <+: b) : Below (wext w ⟨a, m⟩).heap.size (wext w ⟨a, m⟩) (wext w ⟨b, m'⟩) := by
  obtain ⟨t, rfl⟩ := h
  exact below_app w ⟨a, m⟩ t m'
theorem compare_any' (w : World) (A B : Option Addr) (l m : List Int) (p q c d : Nat) (hl : l.length = p) (hm : m.length = q) (hA : ReadsB w A l) (hB : ReadsB w B m) :
    Calls Try.prog 40 #[.slice A p c, .slice B q d] w (Ret (.int .i64 (Lib.compareBytes (Lib.bytesOf l) (Lib.bytesOf m))) w) := by
  subst hl; subst hm; exact compare_any w A B l m c d hA hB
/-- A stamp as bytes. -/
def stL (t u : Int) : List Int := putL 6 t ++ putL 1 u
theorem stL_length (t u : Int) : (stL t u).length = 7 := by simp [stL, putL_length]
theorem putstamp_pure (t u : Int) : PVectorOrder.vector_PutStamp.f 9 [] t u = some (stL t u) := by
  have h1 := put_pure [] t 6 (by omega) (by omega) (by simp)
  have h2 := put_pure (putL 6 t) u 1 (by omega) (by omega) (by rw [putL_length]; omega)
  simp only [List.nil_append] at h1
  show (PVectorOrder.octet_Put.f 9 [] t 6).bind _ = _
  rw [show ((6 : Int)) = ((6 : Nat) : Int) by rfl, h1]
  show (PVectorOrder.octet_Put.f 9 (putL 6 t) u 1).bind _ = _
  rw [show ((1 : Int)) = ((1 : Nat) : Int) by rfl, h2]
  rfl
theorem putstamp_any (t u : Int) (w : World) : Calls Try.prog 41 #[.slice none 0 0, stamp t u] w fun e w' => ∃ A c, e = .returned (.slice (some A) 7 c) ∧ ∃ j, w' = wext w j ∧ ReadsB (wext w j) (some A) (stL t u) := by
  refine (PVectorOrder.vector_PutStamp.calls 9 none 0 [] t u (stL t u) w ?_ (Nat.le_refl _) (putstamp_pure t u)).mono ?_
  · exact (Kd.R_reads' (Kd.R_nil (Kd.int .u8) 5 w 0 (fun _ => True))).2.2
  · rintro e w' ⟨v, rfl, hR, hb⟩
    obtain ⟨j, rfl⟩ := w_ext_of_below hb
    obtain ⟨A, c, rfl, hc, hC⟩ := Kd.R_reads hR
    rw [stL_length] at hC ⊢
    obtain ⟨ad, rfl, _⟩ := hC.2.2 (by omega)
    exact ⟨ad, c, rfl, j, rfl, by unfold ReadsB; rw [stL_length]; exact hC⟩
/-- The closure 'in'. -/
def inB (t u : Int) : Bool := decide (0 ≤ t) && decide (t ≤ 1099511627776) && decide (0 ≤ u) && decide (u < 256)
set_option maxRecDepth 100000 in
set_option maxHeartbeats 1000000 in
theorem in39_any (t u : Int) (w : World) : Calls Try.prog 39 #[stamp t u] w (Ret (.bool (inB t u)) w) := by
  go_enter Try.func39, Try.ntmps39
  go_wp2
  all_goals go_ret
  all_goals exact Ret.mk (by congr 1; simp [inB]; try omega) (by (repeat' (first | (with_reducible exact Below.refl _ _) | (with_reducible assumption) | (with_reducible exact below_app _ _ _ _) | (with_reducible refine below_pre ?_; (simp only [List.append_assoc, List.prefix_append, List.prefix_refl, List.prefix_append_right_inj])) | (with_reducible refine Below.alloc ?_ ?_ _) | (with_reducible refine below_ext ?_ ?_ _) | (with_reducible refine Below.drew ?_) | (with_reducible refine below_drewN ?_ _) | (with_reducible refine Below.setCell ?_ ?_ _) | go_size | (simp only [w_size_ext, List.length_append, World.alloc_size]; omega) | (simp; done) | (simp; omega))))
theorem cmp_app (a b x y : List UInt8) (h : a.length = b.length) : Lib.compareBytes (a ++ x) (b ++ y) = if Lib.compareBytes a b = 0 then Lib.compareBytes x y else Lib.compareBytes a b := by
  induction a generalizing b with
  | nil => cases b with
    | nil => simp [Lib.compareBytes]
    | cons c b => simp at h
  | cons c a ih => cases b with
    | nil => simp at h
    | cons d b =>
      simp only [List.cons_append, Lib.compareBytes]
      split
      · simp
      · split
        · simp
        · exact ih b (by simpa using h)
theorem stL_cmp (t u p q : Nat) (ht : t < 256 ^ 6) (hu : u < 256) (hp : p < 256 ^ 6) (hq : q < 256) :
    Lib.compareBytes (Lib.bytesOf (stL t u)) (Lib.bytesOf (stL p q)) = if cmpN t p = 0 then cmpN u q else cmpN t p := by
  have e : ∀ x y : Int, Lib.bytesOf (stL x y) = Lib.bytesOf (putL 6 x) ++ Lib.bytesOf (putL 1 y) := fun x y => by simp [stL, Lib.bytesOf]
  rw [e, e, cmp_app _ _ _ _ (by simp [Lib.bytesOf_length, putL_length]), cmp_put, cmp_put, Nat.mod_eq_of_lt ht, Nat.mod_eq_of_lt hp, Nat.mod_eq_of_lt (by omega), Nat.mod_eq_of_lt (by omega)]
theorem stL_less (t u p q : Int) (hi : inB t u = true) (hi' : inB p q = true) : Lib.compareBytes (Lib.bytesOf (stL t u)) (Lib.bytesOf (stL p q)) = if lessB t u p q = true then -1 else if lessB p q t u = true then 1 else 0 := by
  simp [inB] at hi hi'
  obtain ⟨t, rfl⟩ := Int.eq_ofNat_of_zero_le (show 0 ≤ t by omega)
  obtain ⟨u, rfl⟩ := Int.eq_ofNat_of_zero_le (show 0 ≤ u by omega)
  obtain ⟨p, rfl⟩ := Int.eq_ofNat_of_zero_le (show 0 ≤ p by omega)
  obtain ⟨q, rfl⟩ := Int.eq_ofNat_of_zero_le (show 0 ≤ q by omega)
  rw [stL_cmp t u p q (by omega) (by omega) (by omega) (by omega)]
  unfold cmpN lessB
  rcases Nat.lt_trichotomy t p with h | rfl | h
  · simp [h]
  · rcases Nat.lt_trichotomy u q with h' | rfl | h'
    · simp [h']
    · simp
    · simp [h', Nat.lt_asymm h']
  · have h1 : ¬ t < p := Nat.lt_asymm h
    have h2 : ¬ t = p := by omega
    simp [h, h1, h2]; omega
theorem lessB_self (t u : Int) : lessB t u t u = false := by simp [lessB]
theorem lessB_asymm {t u p q : Int} (h : lessB t u p q = true) : lessB p q t u = false := by
  simp [lessB] at h ⊢; omega
theorem lessB_trans {t u p q r s : Int} (h : lessB t u p q = true) (g : lessB p q r s = true) : lessB t u r s = true := by
  simp [lessB] at h g ⊢; omega
theorem lessB_total {t u p q : Int} (h : lessB t u p q = false) (g : lessB p q t u = false) : t = p ∧ u = q := by
  simp [lessB] at h g; omega

set_option maxHeartbeats 2000000 in
set_option maxRecDepth 100000 in
theorem vo_lt0_a (t u p q r s : Int) (w : World) (Haa : lessB t u t u = false) (Hab : lessB t u p q = true) (Hba : lessB p q t u = false) (Hbc : lessB p q r s = false) (Hia : inB t u = false) : Calls Try.prog 8 #[stamp t u, stamp p q, stamp r s] w (Ret (.bool true) w) := by
  go_enter Try.func8, Try.ntmps8
  go_wp2_with (first | (go_at_call 31; (with_reducible refine (less_any _ _ _ _ _).mono ?_); (first | rw [Haa] | rw [Hab] | rw [Hba] | rw [Hbc] | rw [Hac]); rintro e1 w1 ⟨rfl, j1, rfl⟩) | (go_at_call 39; (with_reducible refine (in39_any _ _ _).mono ?_); (first | rw [Hia] | rw [Hib]); rintro e1 w1 ⟨rfl, j1, rfl⟩) | (go_at_call 20; (with_reducible refine (awake_any _).mono ?_); rintro e1 w1 ⟨rfl, j1, rfl⟩))
  go_ret
  exact Ret.mk (by first | rfl | simp) (by (repeat' (first | (with_reducible exact Below.refl _ _) | (with_reducible assumption) | (with_reducible exact below_app _ _ _ _) | (with_reducible refine below_pre ?_; (simp only [List.append_assoc, List.prefix_append, List.prefix_refl, List.prefix_append_right_inj])) | (with_reducible refine Below.alloc ?_ ?_ _) | (with_reducible refine below_ext ?_ ?_ _) | (with_reducible refine Below.drew ?_) | (with_reducible refine below_drewN ?_ _) | (with_reducible refine Below.setCell ?_ ?_ _) | go_size | (simp only [w_size_ext, List.length_append, World.alloc_size]; omega) | (simp; done) | (simp; omega))))

set_option maxHeartbeats 2000000 in
set_option maxRecDepth 100000 in
theorem vo_lt0_b (t u p q r s : Int) (w : World) (Haa : lessB t u t u = false) (Hab : lessB t u p q = true) (Hba : lessB p q t u = false) (Hbc : lessB p q r s = false) (Hia : inB t u = true) (Hib : inB p q = false) : Calls Try.prog 8 #[stamp t u, stamp p q, stamp r s] w (Ret (.bool true) w) := by
  go_enter Try.func8, Try.ntmps8
  go_wp2_with (first | (go_at_call 31; (with_reducible refine (less_any _ _ _ _ _).mono ?_); (first | rw [Haa] | rw [Hab] | rw [Hba] | rw [Hbc] | rw [Hac]); rintro e1 w1 ⟨rfl, j1, rfl⟩) | (go_at_call 39; (with_reducible refine (in39_any _ _ _).mono ?_); (first | rw [Hia] | rw [Hib]); rintro e1 w1 ⟨rfl, j1, rfl⟩) | (go_at_call 20; (with_reducible refine (awake_any _).mono ?_); rintro e1 w1 ⟨rfl, j1, rfl⟩))
  go_ret
  exact Ret.mk (by first | rfl | simp) (by (repeat' (first | (with_reducible exact Below.refl _ _) | (with_reducible assumption) | (with_reducible exact below_app _ _ _ _) | (with_reducible refine below_pre ?_; (simp only [List.append_assoc, List.prefix_append, List.prefix_refl, List.prefix_append_right_inj])) | (with_reducible refine Below.alloc ?_ ?_ _) | (with_reducible refine below_ext ?_ ?_ _) | (with_reducible refine Below.drew ?_) | (with_reducible refine below_drewN ?_ _) | (with_reducible refine Below.setCell ?_ ?_ _) | go_size | (simp only [w_size_ext, List.length_append, World.alloc_size]; omega) | (simp; done) | (simp; omega))))

set_option maxHeartbeats 2000000 in
set_option maxRecDepth 100000 in
theorem vo_lt0_c (t u p q r s : Int) (w : World) (Haa : lessB t u t u = false) (Hab : lessB t u p q = true) (Hba : lessB p q t u = false) (Hbc : lessB p q r s = false) (Hia : inB t u = true) (Hib : inB p q = true) (hcmp : Lib.compareBytes (Lib.bytesOf (stL t u)) (Lib.bytesOf (stL p q)) = -1) : Calls Try.prog 8 #[stamp t u, stamp p q, stamp r s] w (Ret (.bool true) w) := by
  go_enter Try.func8, Try.ntmps8
  go_wp2_with (first | (go_at_call 31; (with_reducible refine (less_any _ _ _ _ _).mono ?_); (first | rw [Haa] | rw [Hab] | rw [Hba] | rw [Hbc] | rw [Hac]); rintro e1 w1 ⟨rfl, j1, rfl⟩) | (go_at_call 39; (with_reducible refine (in39_any _ _ _).mono ?_); (first | rw [Hia] | rw [Hib]); rintro e1 w1 ⟨rfl, j1, rfl⟩) | (go_at_call 20; (with_reducible refine (awake_any _).mono ?_); rintro e1 w1 ⟨rfl, j1, rfl⟩))
  (refine wp_region_mix [(0, true), (2, true), (6, true), (7, true), (1, false), (3, false), (4, false), (5, true), (8, false), (9, true), (10, true), (11, false), (12, true), (13, true)] (by kernel_rfl) (by kernel_rfl) rfl (by kernel_rfl) (by intro _ _ d _ _ h; cases d <;> exact h) ?_; intro j1; (repeat (first | (refine wpMix_skip rfl rfl ?_; simp only [Act.put, List.setIfInBounds_toArray, List.set_cons_zero, List.set_cons_succ]) | (refine wpMix_light rfl rfl ?_; intro K hK; go_simp; refine hK _ ?_; clear hK K) | (refine wpMix_heavy rfl rfl ?_; intro K hK; go_wp2_with ((first | (go_at_call 41; (with_reducible refine (putstamp_any t u _).mono ?_); rintro e1 w1 ⟨A, ca, rfl, j1, rfl, hA⟩; simp only [w_ext_ext] at hA; have HA := Lib.hid hA; clear hA) | (go_at_call 41; (with_reducible refine (putstamp_any p q _).mono ?_); rintro e1 w1 ⟨B, cb, rfl, j1, rfl, hB⟩; simp only [w_ext_ext] at hB; have HB := Lib.hid hB; clear hB) | (go_at_call 40; (with_reducible refine (compare_any' _ (some A) (some B) (stL t u) (stL p q) 7 7 ca cb (stL_length _ _) (stL_length _ _) ?_ ?_).mono ?_); (· exact Kd.C_below HA.out (by (repeat' (first | (with_reducible exact Below.refl _ _) | (with_reducible assumption) | (with_reducible exact below_app _ _ _ _) | (with_reducible refine below_pre ?_; (simp only [List.append_assoc, List.prefix_append, List.prefix_refl, List.prefix_append_right_inj])) | (with_reducible refine Below.alloc ?_ ?_ _) | (with_reducible refine below_ext ?_ ?_ _) | (with_reducible refine Below.drew ?_) | (with_reducible refine below_drewN ?_ _) | (with_reducible refine Below.setCell ?_ ?_ _) | go_size | (simp only [w_size_ext, List.length_append, World.alloc_size]; omega) | (simp; done) | (simp; omega))))); (· exact Kd.C_below HB.out (by (repeat' (first | (with_reducible exact Below.refl _ _) | (with_reducible assumption) | (with_reducible exact below_app _ _ _ _) | (with_reducible refine below_pre ?_; (simp only [List.append_assoc, List.prefix_append, List.prefix_refl, List.prefix_append_right_inj])) | (with_reducible refine Below.alloc ?_ ?_ _) | (with_reducible refine below_ext ?_ ?_ _) | (with_reducible refine Below.drew ?_) | (with_reducible refine below_drewN ?_ _) | (with_reducible refine Below.setCell ?_ ?_ _) | go_size | (simp only [w_size_ext, List.length_append, World.alloc_size]; omega) | (simp; done) | (simp; omega))))); rw [hcmp]; rintro e1 w1 ⟨rfl, j1, rfl⟩) | (go_at_call 31; (with_reducible refine (less_any _ _ _ _ _).mono ?_); (first | rw [Haa] | rw [Hab] | rw [Hba] | rw [Hbc] | rw [Hac]); rintro e1 w1 ⟨rfl, j1, rfl⟩) | (go_at_call 20; (with_reducible refine (awake_any _).mono ?_); rintro e1 w1 ⟨rfl, j1, rfl⟩))); refine ⟨w_ext_of_below (by (repeat' (first | (with_reducible exact Below.refl _ _) | (with_reducible assumption) | (with_reducible exact below_app _ _ _ _) | (with_reducible refine below_pre ?_; (simp only [List.append_assoc, List.prefix_append, List.prefix_refl, List.prefix_append_right_inj])) | (with_reducible refine Below.alloc ?_ ?_ _) | (with_reducible refine below_ext ?_ ?_ _) | (with_reducible refine Below.drew ?_) | (with_reducible refine below_drewN ?_ _) | (with_reducible refine Below.setCell ?_ ?_ _) | go_size | (simp only [w_size_ext, List.length_append, World.alloc_size]; omega) | (simp; done) | (simp; omega)))), ?_⟩))); refine wpMix_nil ?_)
  go_wp2
  go_ret
  exact Ret.mk (by first | rfl | simp) (by (repeat' (first | (with_reducible exact Below.refl _ _) | (with_reducible assumption) | (with_reducible exact below_app _ _ _ _) | (with_reducible refine below_pre ?_; (simp only [List.append_assoc, List.prefix_append, List.prefix_refl, List.prefix_append_right_inj])) | (with_reducible refine Below.alloc ?_ ?_ _) | (with_reducible refine below_ext ?_ ?_ _) | (with_reducible refine Below.drew ?_) | (with_reducible refine below_drewN ?_ _) | (with_reducible refine Below.setCell ?_ ?_ _) | go_size | (simp only [w_size_ext, List.length_append, World.alloc_size]; omega) | (simp; done) | (simp; omega))))

set_option maxHeartbeats 2000000 in
set_option maxRecDepth 100000 in
theorem vo_lt1_a (t u p q r s : Int) (w : World) (Haa : lessB t u t u = false) (Hab : lessB t u p q = true) (Hba : lessB p q t u = false) (Hbc : lessB p q r s = true) (Hac : lessB t u r s = true) (Hia : inB t u = false) : Calls Try.prog 8 #[stamp t u, stamp p q, stamp r s] w (Ret (.bool true) w) := by
  go_enter Try.func8, Try.ntmps8
  go_wp2_with (first | (go_at_call 31; (with_reducible refine (less_any _ _ _ _ _).mono ?_); (first | rw [Haa] | rw [Hab] | rw [Hba] | rw [Hbc] | rw [Hac]); rintro e1 w1 ⟨rfl, j1, rfl⟩) | (go_at_call 39; (with_reducible refine (in39_any _ _ _).mono ?_); (first | rw [Hia] | rw [Hib]); rintro e1 w1 ⟨rfl, j1, rfl⟩) | (go_at_call 20; (with_reducible refine (awake_any _).mono ?_); rintro e1 w1 ⟨rfl, j1, rfl⟩))
  go_ret
  exact Ret.mk (by first | rfl | simp) (by (repeat' (first | (with_reducible exact Below.refl _ _) | (with_reducible assumption) | (with_reducible exact below_app _ _ _ _) | (with_reducible refine below_pre ?_; (simp only [List.append_assoc, List.prefix_append, List.prefix_refl, List.prefix_append_right_inj])) | (with_reducible refine Below.alloc ?_ ?_ _) | (with_reducible refine below_ext ?_ ?_ _) | (with_reducible refine Below.drew ?_) | (with_reducible refine below_drewN ?_ _) | (with_reducible refine Below.setCell ?_ ?_ _) | go_size | (simp only [w_size_ext, List.length_append, World.alloc_size]; omega) | (simp; done) | (simp; omega))))

set_option maxHeartbeats 2000000 in
set_option maxRecDepth 100000 in
theorem vo_lt1_b (t u p q r s : Int) (w : World) (Haa : lessB t u t u = false) (Hab : lessB t u p q = true) (Hba : lessB p q t u = false) (Hbc : lessB p q r s = true) (Hac : lessB t u r s = true) (Hia : inB t u = true) (Hib : inB p q = false) : Calls Try.prog 8 #[stamp t u, stamp p q, stamp r s] w (Ret (.bool true) w) := by
  go_enter Try.func8, Try.ntmps8
  go_wp2_with (first | (go_at_call 31; (with_reducible refine (less_any _ _ _ _ _).mono ?_); (first | rw [Haa] | rw [Hab] | rw [Hba] | rw [Hbc] | rw [Hac]); rintro e1 w1 ⟨rfl, j1, rfl⟩) | (go_at_call 39; (with_reducible refine (in39_any _ _ _).mono ?_); (first | rw [Hia] | rw [Hib]); rintro e1 w1 ⟨rfl, j1, rfl⟩) | (go_at_call 20; (with_reducible refine (awake_any _).mono ?_); rintro e1 w1 ⟨rfl, j1, rfl⟩))
  go_ret
  exact Ret.mk (by first | rfl | simp) (by (repeat' (first | (with_reducible exact Below.refl _ _) | (with_reducible assumption) | (with_reducible exact below_app _ _ _ _) | (with_reducible refine below_pre ?_; (simp only [List.append_assoc, List.prefix_append, List.prefix_refl, List.prefix_append_right_inj])) | (with_reducible refine Below.alloc ?_ ?_ _) | (with_reducible refine below_ext ?_ ?_ _) | (with_reducible refine Below.drew ?_) | (with_reducible refine below_drewN ?_ _) | (with_reducible refine Below.setCell ?_ ?_ _) | go_size | (simp only [w_size_ext, List.length_append, World.alloc_size]; omega) | (simp; done) | (simp; omega))))

set_option maxHeartbeats 2000000 in
set_option maxRecDepth 100000 in
theorem vo_lt1_c (t u p q r s : Int) (w : World) (Haa : lessB t u t u = false) (Hab : lessB t u p q = true) (Hba : lessB p q t u = false) (Hbc : lessB p q r s = true) (Hac : lessB t u r s = true) (Hia : inB t u = true) (Hib : inB p q = true) (hcmp : Lib.compareBytes (Lib.bytesOf (stL t u)) (Lib.bytesOf (stL p q)) = -1) : Calls Try.prog 8 #[stamp t u, stamp p q, stamp r s] w (Ret (.bool true) w) := by
  go_enter Try.func8, Try.ntmps8
  go_wp2_with (first | (go_at_call 31; (with_reducible refine (less_any _ _ _ _ _).mono ?_); (first | rw [Haa] | rw [Hab] | rw [Hba] | rw [Hbc] | rw [Hac]); rintro e1 w1 ⟨rfl, j1, rfl⟩) | (go_at_call 39; (with_reducible refine (in39_any _ _ _).mono ?_); (first | rw [Hia] | rw [Hib]); rintro e1 w1 ⟨rfl, j1, rfl⟩) | (go_at_call 20; (with_reducible refine (awake_any _).mono ?_); rintro e1 w1 ⟨rfl, j1, rfl⟩))
  (refine wp_region_mix [(0, true), (2, true), (6, true), (7, true), (1, false), (3, false), (4, false), (5, true), (8, false), (9, true), (10, true), (11, false), (12, true), (13, true)] (by kernel_rfl) (by kernel_rfl) rfl (by kernel_rfl) (by intro _ _ d _ _ h; cases d <;> exact h) ?_; intro j1; (repeat (first | (refine wpMix_skip rfl rfl ?_; simp only [Act.put, List.setIfInBounds_toArray, List.set_cons_zero, List.set_cons_succ]) | (refine wpMix_light rfl rfl ?_; intro K hK; go_simp; refine hK _ ?_; clear hK K) | (refine wpMix_heavy rfl rfl ?_; intro K hK; go_wp2_with ((first | (go_at_call 41; (with_reducible refine (putstamp_any t u _).mono ?_); rintro e1 w1 ⟨A, ca, rfl, j1, rfl, hA⟩; simp only [w_ext_ext] at hA; have HA := Lib.hid hA; clear hA) | (go_at_call 41; (with_reducible refine (putstamp_any p q _).mono ?_); rintro e1 w1 ⟨B, cb, rfl, j1, rfl, hB⟩; simp only [w_ext_ext] at hB; have HB := Lib.hid hB; clear hB) | (go_at_call 40; (with_reducible refine (compare_any' _ (some A) (some B) (stL t u) (stL p q) 7 7 ca cb (stL_length _ _) (stL_length _ _) ?_ ?_).mono ?_); (· exact Kd.C_below HA.out (by (repeat' (first | (with_reducible exact Below.refl _ _) | (with_reducible assumption) | (with_reducible exact below_app _ _ _ _) | (with_reducible refine below_pre ?_; (simp only [List.append_assoc, List.prefix_append, List.prefix_refl, List.prefix_append_right_inj])) | (with_reducible refine Below.alloc ?_ ?_ _) | (with_reducible refine below_ext ?_ ?_ _) | (with_reducible refine Below.drew ?_) | (with_reducible refine below_drewN ?_ _) | (with_reducible refine Below.setCell ?_ ?_ _) | go_size | (simp only [w_size_ext, List.length_append, World.alloc_size]; omega) | (simp; done) | (simp; omega))))); (· exact Kd.C_below HB.out (by (repeat' (first | (with_reducible exact Below.refl _ _) | (with_reducible assumption) | (with_reducible exact below_app _ _ _ _) | (with_reducible refine below_pre ?_; (simp only [List.append_assoc, List.prefix_append, List.prefix_refl, List.prefix_append_right_inj])) | (with_reducible refine Below.alloc ?_ ?_ _) | (with_reducible refine below_ext ?_ ?_ _) | (with_reducible refine Below.drew ?_) | (with_reducible refine below_drewN ?_ _) | (with_reducible refine Below.setCell ?_ ?_ _) | go_size | (simp only [w_size_ext, List.length_append, World.alloc_size]; omega) | (simp; done) | (simp; omega))))); rw [hcmp]; rintro e1 w1 ⟨rfl, j1, rfl⟩) | (go_at_call 31; (with_reducible refine (less_any _ _ _ _ _).mono ?_); (first | rw [Haa] | rw [Hab] | rw [Hba] | rw [Hbc] | rw [Hac]); rintro e1 w1 ⟨rfl, j1, rfl⟩) | (go_at_call 20; (with_reducible refine (awake_any _).mono ?_); rintro e1 w1 ⟨rfl, j1, rfl⟩))); refine ⟨w_ext_of_below (by (repeat' (first | (with_reducible exact Below.refl _ _) | (with_reducible assumption) | (with_reducible exact below_app _ _ _ _) | (with_reducible refine below_pre ?_; (simp only [List.append_assoc, List.prefix_append, List.prefix_refl, List.prefix_append_right_inj])) | (with_reducible refine Below.alloc ?_ ?_ _) | (with_reducible refine below_ext ?_ ?_ _) | (with_reducible refine Below.drew ?_) | (with_reducible refine below_drewN ?_ _) | (with_reducible refine Below.setCell ?_ ?_ _) | go_size | (simp only [w_size_ext, List.length_append, World.alloc_size]; omega) | (simp; done) | (simp; omega)))), ?_⟩))); refine wpMix_nil ?_)
  go_wp2
  go_ret
  exact Ret.mk (by first | rfl | simp) (by (repeat' (first | (with_reducible exact Below.refl _ _) | (with_reducible assumption) | (with_reducible exact below_app _ _ _ _) | (with_reducible refine below_pre ?_; (simp only [List.append_assoc, List.prefix_append, List.prefix_refl, List.prefix_append_right_inj])) | (with_reducible refine Below.alloc ?_ ?_ _) | (with_reducible refine below_ext ?_ ?_ _) | (with_reducible refine Below.drew ?_) | (with_reducible refine below_drewN ?_ _) | (with_reducible refine Below.setCell ?_ ?_ _) | go_size | (simp only [w_size_ext, List.length_append, World.alloc_size]; omega) | (simp; done) | (simp; omega))))

set_option maxHeartbeats 2000000 in
set_option maxRecDepth 100000 in
theorem vo_gt_a (t u p q r s : Int) (w : World) (Haa : lessB t u t u = false) (Hab : lessB t u p q = false) (Hba : lessB p q t u = true) (hne : (t == p && u == q) = false) (Hia : inB t u = false) : Calls Try.prog 8 #[stamp t u, stamp p q, stamp r s] w (Ret (.bool true) w) := by
  go_enter Try.func8, Try.ntmps8
  go_wp2_with (first | (go_at_call 31; (with_reducible refine (less_any _ _ _ _ _).mono ?_); (first | rw [Haa] | rw [Hab] | rw [Hba] | rw [Hbc] | rw [Hac]); rintro e1 w1 ⟨rfl, j1, rfl⟩) | (go_at_call 39; (with_reducible refine (in39_any _ _ _).mono ?_); (first | rw [Hia] | rw [Hib]); rintro e1 w1 ⟨rfl, j1, rfl⟩) | (go_at_call 20; (with_reducible refine (awake_any _).mono ?_); rintro e1 w1 ⟨rfl, j1, rfl⟩))
  go_ret
  exact Ret.mk (by first | rfl | simp) (by (repeat' (first | (with_reducible exact Below.refl _ _) | (with_reducible assumption) | (with_reducible exact below_app _ _ _ _) | (with_reducible refine below_pre ?_; (simp only [List.append_assoc, List.prefix_append, List.prefix_refl, List.prefix_append_right_inj])) | (with_reducible refine Below.alloc ?_ ?_ _) | (with_reducible refine below_ext ?_ ?_ _) | (with_reducible refine Below.drew ?_) | (with_reducible refine below_drewN ?_ _) | (with_reducible refine Below.setCell ?_ ?_ _) | go_size | (simp only [w_size_ext, List.length_append, World.alloc_size]; omega) | (simp; done) | (simp; omega))))

set_option maxHeartbeats 2000000 in
set_option maxRecDepth 100000 in
theorem vo_gt_b (t u p q r s : Int) (w : World) (Haa : lessB t u t u = false) (Hab : lessB t u p q = false) (Hba : lessB p q t u = true) (hne : (t == p && u == q) = false) (Hia : inB t u = true) (Hib : inB p q = false) : Calls Try.prog 8 #[stamp t u, stamp p q, stamp r s] w (Ret (.bool true) w) := by
  go_enter Try.func8, Try.ntmps8
  go_wp2_with (first | (go_at_call 31; (with_reducible refine (less_any _ _ _ _ _).mono ?_); (first | rw [Haa] | rw [Hab] | rw [Hba] | rw [Hbc] | rw [Hac]); rintro e1 w1 ⟨rfl, j1, rfl⟩) | (go_at_call 39; (with_reducible refine (in39_any _ _ _).mono ?_); (first | rw [Hia] | rw [Hib]); rintro e1 w1 ⟨rfl, j1, rfl⟩) | (go_at_call 20; (with_reducible refine (awake_any _).mono ?_); rintro e1 w1 ⟨rfl, j1, rfl⟩))
  go_ret
  exact Ret.mk (by first | rfl | simp) (by (repeat' (first | (with_reducible exact Below.refl _ _) | (with_reducible assumption) | (with_reducible exact below_app _ _ _ _) | (with_reducible refine below_pre ?_; (simp only [List.append_assoc, List.prefix_append, List.prefix_refl, List.prefix_append_right_inj])) | (with_reducible refine Below.alloc ?_ ?_ _) | (with_reducible refine below_ext ?_ ?_ _) | (with_reducible refine Below.drew ?_) | (with_reducible refine below_drewN ?_ _) | (with_reducible refine Below.setCell ?_ ?_ _) | go_size | (simp only [w_size_ext, List.length_append, World.alloc_size]; omega) | (simp; done) | (simp; omega))))

set_option maxHeartbeats 2000000 in
set_option maxRecDepth 100000 in
theorem vo_gt_c (t u p q r s : Int) (w : World) (Haa : lessB t u t u = false) (Hab : lessB t u p q = false) (Hba : lessB p q t u = true) (hne : (t == p && u == q) = false) (Hia : inB t u = true) (Hib : inB p q = true) (hcmp : Lib.compareBytes (Lib.bytesOf (stL t u)) (Lib.bytesOf (stL p q)) = 1) : Calls Try.prog 8 #[stamp t u, stamp p q, stamp r s] w (Ret (.bool true) w) := by
  go_enter Try.func8, Try.ntmps8
  go_wp2_with (first | (go_at_call 31; (with_reducible refine (less_any _ _ _ _ _).mono ?_); (first | rw [Haa] | rw [Hab] | rw [Hba] | rw [Hbc] | rw [Hac]); rintro e1 w1 ⟨rfl, j1, rfl⟩) | (go_at_call 39; (with_reducible refine (in39_any _ _ _).mono ?_); (first | rw [Hia] | rw [Hib]); rintro e1 w1 ⟨rfl, j1, rfl⟩) | (go_at_call 20; (with_reducible refine (awake_any _).mono ?_); rintro e1 w1 ⟨rfl, j1, rfl⟩))
  (refine wp_region_mix [(0, true), (2, true), (6, true), (7, true), (1, false), (3, false), (4, false), (5, true), (8, false), (9, true), (10, true), (11, false), (12, true), (13, true)] (by kernel_rfl) (by kernel_rfl) rfl (by kernel_rfl) (by intro _ _ d _ _ h; cases d <;> exact h) ?_; intro j1; (repeat (first | (refine wpMix_skip rfl rfl ?_; simp only [Act.put, List.setIfInBounds_toArray, List.set_cons_zero, List.set_cons_succ]) | (refine wpMix_light rfl rfl ?_; intro K hK; go_simp; refine hK _ ?_; clear hK K) | (refine wpMix_heavy rfl rfl ?_; intro K hK; go_wp2_with ((first | (go_at_call 41; (with_reducible refine (putstamp_any t u _).mono ?_); rintro e1 w1 ⟨A, ca, rfl, j1, rfl, hA⟩; simp only [w_ext_ext] at hA; have HA := Lib.hid hA; clear hA) | (go_at_call 41; (with_reducible refine (putstamp_any p q _).mono ?_); rintro e1 w1 ⟨B, cb, rfl, j1, rfl, hB⟩; simp only [w_ext_ext] at hB; have HB := Lib.hid hB; clear hB) | (go_at_call 40; (with_reducible refine (compare_any' _ (some A) (some B) (stL t u) (stL p q) 7 7 ca cb (stL_length _ _) (stL_length _ _) ?_ ?_).mono ?_); (· exact Kd.C_below HA.out (by (repeat' (first | (with_reducible exact Below.refl _ _) | (with_reducible assumption) | (with_reducible exact below_app _ _ _ _) | (with_reducible refine below_pre ?_; (simp only [List.append_assoc, List.prefix_append, List.prefix_refl, List.prefix_append_right_inj])) | (with_reducible refine Below.alloc ?_ ?_ _) | (with_reducible refine below_ext ?_ ?_ _) | (with_reducible refine Below.drew ?_) | (with_reducible refine below_drewN ?_ _) | (with_reducible refine Below.setCell ?_ ?_ _) | go_size | (simp only [w_size_ext, List.length_append, World.alloc_size]; omega) | (simp; done) | (simp; omega))))); (· exact Kd.C_below HB.out (by (repeat' (first | (with_reducible exact Below.refl _ _) | (with_reducible assumption) | (with_reducible exact below_app _ _ _ _) | (with_reducible refine below_pre ?_; (simp only [List.append_assoc, List.prefix_append, List.prefix_refl, List.prefix_append_right_inj])) | (with_reducible refine Below.alloc ?_ ?_ _) | (with_reducible refine below_ext ?_ ?_ _) | (with_reducible refine Below.drew ?_) | (with_reducible refine below_drewN ?_ _) | (with_reducible refine Below.setCell ?_ ?_ _) | go_size | (simp only [w_size_ext, List.length_append, World.alloc_size]; omega) | (simp; done) | (simp; omega))))); rw [hcmp]; rintro e1 w1 ⟨rfl, j1, rfl⟩) | (go_at_call 31; (with_reducible refine (less_any _ _ _ _ _).mono ?_); (first | rw [Haa] | rw [Hab] | rw [Hba] | rw [Hbc] | rw [Hac]); rintro e1 w1 ⟨rfl, j1, rfl⟩) | (go_at_call 20; (with_reducible refine (awake_any _).mono ?_); rintro e1 w1 ⟨rfl, j1, rfl⟩))); refine ⟨w_ext_of_below (by (repeat' (first | (with_reducible exact Below.refl _ _) | (with_reducible assumption) | (with_reducible exact below_app _ _ _ _) | (with_reducible refine below_pre ?_; (simp only [List.append_assoc, List.prefix_append, List.prefix_refl, List.prefix_append_right_inj])) | (with_reducible refine Below.alloc ?_ ?_ _) | (with_reducible refine below_ext ?_ ?_ _) | (with_reducible refine Below.drew ?_) | (with_reducible refine below_drewN ?_ _) | (with_reducible refine Below.setCell ?_ ?_ _) | go_size | (simp only [w_size_ext, List.length_append, World.alloc_size]; omega) | (simp; done) | (simp; omega)))), ?_⟩))); refine wpMix_nil ?_)
  go_wp2
  go_ret
  exact Ret.mk (by first | rfl | simp) (by (repeat' (first | (with_reducible exact Below.refl _ _) | (with_reducible assumption) | (with_reducible exact below_app _ _ _ _) | (with_reducible refine below_pre ?_; (simp only [List.append_assoc, List.prefix_append, List.prefix_refl, List.prefix_append_right_inj])) | (with_reducible refine Below.alloc ?_ ?_ _) | (with_reducible refine below_ext ?_ ?_ _) | (with_reducible refine Below.drew ?_) | (with_reducible refine below_drewN ?_ _) | (with_reducible refine Below.setCell ?_ ?_ _) | go_size | (simp only [w_size_ext, List.length_append, World.alloc_size]; omega) | (simp; done) | (simp; omega))))

set_option maxHeartbeats 2000000 in
set_option maxRecDepth 100000 in
theorem vo_eq_a (t u r s : Int) (w : World) (Haa : lessB t u t u = false) (Hia : inB t u = false) : Calls Try.prog 8 #[stamp t u, stamp t u, stamp r s] w (Ret (.bool true) w) := by
  go_enter Try.func8, Try.ntmps8
  go_wp2_with (first | (go_at_call 31; (with_reducible refine (less_any _ _ _ _ _).mono ?_); (first | rw [Haa]); rintro e1 w1 ⟨rfl, j1, rfl⟩) | (go_at_call 39; (with_reducible refine (in39_any _ _ _).mono ?_); (first | rw [Hia]); rintro e1 w1 ⟨rfl, j1, rfl⟩) | (go_at_call 20; (with_reducible refine (awake_any _).mono ?_); rintro e1 w1 ⟨rfl, j1, rfl⟩))
  go_ret
  exact Ret.mk (by first | rfl | simp) (by (repeat' (first | (with_reducible exact Below.refl _ _) | (with_reducible assumption) | (with_reducible exact below_app _ _ _ _) | (with_reducible refine below_pre ?_; (simp only [List.append_assoc, List.prefix_append, List.prefix_refl, List.prefix_append_right_inj])) | (with_reducible refine Below.alloc ?_ ?_ _) | (with_reducible refine below_ext ?_ ?_ _) | (with_reducible refine Below.drew ?_) | (with_reducible refine below_drewN ?_ _) | (with_reducible refine Below.setCell ?_ ?_ _) | go_size | (simp only [w_size_ext, List.length_append, World.alloc_size]; omega) | (simp; done) | (simp; omega))))

set_option maxHeartbeats 2000000 in
set_option maxRecDepth 100000 in
theorem vo_eq_c (t u r s : Int) (w : World) (Haa : lessB t u t u = false) (Hia : inB t u = true) (hcmp : Lib.compareBytes (Lib.bytesOf (stL t u)) (Lib.bytesOf (stL t u)) = 0) : Calls Try.prog 8 #[stamp t u, stamp t u, stamp r s] w (Ret (.bool true) w) := by
  go_enter Try.func8, Try.ntmps8
  go_wp2_with (first | (go_at_call 31; (with_reducible refine (less_any _ _ _ _ _).mono ?_); (first | rw [Haa]); rintro e1 w1 ⟨rfl, j1, rfl⟩) | (go_at_call 39; (with_reducible refine (in39_any _ _ _).mono ?_); (first | rw [Hia]); rintro e1 w1 ⟨rfl, j1, rfl⟩) | (go_at_call 20; (with_reducible refine (awake_any _).mono ?_); rintro e1 w1 ⟨rfl, j1, rfl⟩))
  (refine wp_region_mix [(0, true), (2, true), (6, true), (7, true), (1, false), (3, false), (4, false), (5, true), (8, false), (9, true), (10, true), (11, false), (12, true), (13, true)] (by kernel_rfl) (by kernel_rfl) rfl (by kernel_rfl) (by intro _ _ d _ _ h; cases d <;> exact h) ?_; intro j1; (repeat (first | (refine wpMix_skip rfl rfl ?_; simp only [Act.put, List.setIfInBounds_toArray, List.set_cons_zero, List.set_cons_succ]) | (refine wpMix_light rfl rfl ?_; intro K hK; go_simp; refine hK _ ?_; clear hK K) | (refine wpMix_heavy rfl rfl ?_; intro K hK; go_wp2_with ((first | (go_at_call 41; (fail_if_success (have hz := HA)); (with_reducible refine (putstamp_any t u _).mono ?_); rintro e1 w1 ⟨A, ca, rfl, j1, rfl, hA⟩; simp only [w_ext_ext] at hA; have HA := Lib.hid hA; clear hA) | (go_at_call 41; (with_reducible refine (putstamp_any t u _).mono ?_); rintro e1 w1 ⟨B, cb, rfl, j1, rfl, hB⟩; simp only [w_ext_ext] at hB; have HB := Lib.hid hB; clear hB) | (go_at_call 40; (with_reducible refine (compare_any' _ (some A) (some B) (stL t u) (stL t u) 7 7 ca cb (stL_length _ _) (stL_length _ _) ?_ ?_).mono ?_); (· exact Kd.C_below HA.out (by (repeat' (first | (with_reducible exact Below.refl _ _) | (with_reducible assumption) | (with_reducible exact below_app _ _ _ _) | (with_reducible refine below_pre ?_; (simp only [List.append_assoc, List.prefix_append, List.prefix_refl, List.prefix_append_right_inj])) | (with_reducible refine Below.alloc ?_ ?_ _) | (with_reducible refine below_ext ?_ ?_ _) | (with_reducible refine Below.drew ?_) | (with_reducible refine below_drewN ?_ _) | (with_reducible refine Below.setCell ?_ ?_ _) | go_size | (simp only [w_size_ext, List.length_append, World.alloc_size]; omega) | (simp; done) | (simp; omega))))); (· exact Kd.C_below HB.out (by (repeat' (first | (with_reducible exact Below.refl _ _) | (with_reducible assumption) | (with_reducible exact below_app _ _ _ _) | (with_reducible refine below_pre ?_; (simp only [List.append_assoc, List.prefix_append, List.prefix_refl, List.prefix_append_right_inj])) | (with_reducible refine Below.alloc ?_ ?_ _) | (with_reducible refine below_ext ?_ ?_ _) | (with_reducible refine Below.drew ?_) | (with_reducible refine below_drewN ?_ _) | (with_reducible refine Below.setCell ?_ ?_ _) | go_size | (simp only [w_size_ext, List.length_append, World.alloc_size]; omega) | (simp; done) | (simp; omega))))); rw [hcmp]; rintro e1 w1 ⟨rfl, j1, rfl⟩) | (go_at_call 31; (with_reducible refine (less_any _ _ _ _ _).mono ?_); (first | rw [Haa]); rintro e1 w1 ⟨rfl, j1, rfl⟩) | (go_at_call 20; (with_reducible refine (awake_any _).mono ?_); rintro e1 w1 ⟨rfl, j1, rfl⟩))); refine ⟨w_ext_of_below (by (repeat' (first | (with_reducible exact Below.refl _ _) | (with_reducible assumption) | (with_reducible exact below_app _ _ _ _) | (with_reducible refine below_pre ?_; (simp only [List.append_assoc, List.prefix_append, List.prefix_refl, List.prefix_append_right_inj])) | (with_reducible refine Below.alloc ?_ ?_ _) | (with_reducible refine below_ext ?_ ?_ _) | (with_reducible refine Below.drew ?_) | (with_reducible refine below_drewN ?_ _) | (with_reducible refine Below.setCell ?_ ?_ _) | go_size | (simp only [w_size_ext, List.length_append, World.alloc_size]; omega) | (simp; done) | (simp; omega)))), ?_⟩))); refine wpMix_nil ?_)
  go_wp2
  go_ret
  exact Ret.mk (by first | rfl | simp) (by (repeat' (first | (with_reducible exact Below.refl _ _) | (with_reducible assumption) | (with_reducible exact below_app _ _ _ _) | (with_reducible refine below_pre ?_; (simp only [List.append_assoc, List.prefix_append, List.prefix_refl, List.prefix_append_right_inj])) | (with_reducible refine Below.alloc ?_ ?_ _) | (with_reducible refine below_ext ?_ ?_ _) | (with_reducible refine Below.drew ?_) | (with_reducible refine below_drewN ?_ _) | (with_reducible refine Below.setCell ?_ ?_ _) | go_size | (simp only [w_size_ext, List.length_append, World.alloc_size]; omega) | (simp; done) | (simp; omega))))

theorem vectorOrder_calls (t u p q r s : Int) (w : World) : Calls Try.prog 8 #[stamp t u, stamp p q, stamp r s] w (Ret (.bool true) w) := by
  have Haa := lessB_self t u
  cases Hab : lessB t u p q with
  | true =>
    have Hba := lessB_asymm Hab
    cases Hbc : lessB p q r s with
    | false =>
      cases Hia : inB t u with
      | false => exact vo_lt0_a t u p q r s w Haa Hab Hba Hbc Hia
      | true => cases Hib : inB p q with
        | false => exact vo_lt0_b t u p q r s w Haa Hab Hba Hbc Hia Hib
        | true => exact vo_lt0_c t u p q r s w Haa Hab Hba Hbc Hia Hib (by rw [stL_less t u p q Hia Hib, if_pos Hab])
    | true =>
      have Hac := lessB_trans Hab Hbc
      cases Hia : inB t u with
      | false => exact vo_lt1_a t u p q r s w Haa Hab Hba Hbc Hac Hia
      | true => cases Hib : inB p q with
        | false => exact vo_lt1_b t u p q r s w Haa Hab Hba Hbc Hac Hia Hib
        | true => exact vo_lt1_c t u p q r s w Haa Hab Hba Hbc Hac Hia Hib (by rw [stL_less t u p q Hia Hib, if_pos Hab])
  | false =>
    cases Hba : lessB p q t u with
    | true =>
      have hne : (t == p && u == q) = false := by simp [lessB] at Hba ⊢; omega
      cases Hia : inB t u with
      | false => exact vo_gt_a t u p q r s w Haa Hab Hba hne Hia
      | true => cases Hib : inB p q with
        | false => exact vo_gt_b t u p q r s w Haa Hab Hba hne Hia Hib
        | true => exact vo_gt_c t u p q r s w Haa Hab Hba hne Hia Hib (by rw [stL_less t u p q Hia Hib, if_neg (by simp [Hab]), if_pos Hba])
    | false =>
      obtain ⟨rfl, rfl⟩ := lessB_total Hab Hba
      cases Hia : inB t u with
      | false => exact vo_eq_a t u r s w Haa Hia
      | true => exact vo_eq_c t u r s w Haa Hia (by rw [stL_less t u t u Hia Hia, Haa]; rfl)

set_option maxRecDepth 100000 in
theorem vectorOrder_lifted (os : Os) (started : os.Started) (H : Type) (enc : TypeId × Value → H) :
    ReturnsInHanded {} Try.checked os 8 .any (Rows.vectorOrderSpec.pre6 enc Try.prog Try.f8 Rows.vectorOrderRow.domain false) (Rows.vectorOrderSpec.post enc Try.prog Try.f8 false true false false) := by
  refine returnsInHanded_of_change (C := Try.checked) Try.own started (by kernel_rfl) Try.func8
    (ChangeSpec.witness6 (enc := enc) (C := Try.checked) false ⟨#[], #[.agg #[.int .i64 0, .int .i64 0], .agg #[.int .i64 0, .int .i64 0], .agg #[.int .i64 0, .int .i64 0]], []⟩ 8 (by kernel_rfl) (by kernel_rfl) (by kernel_rfl) (by kernel_rfl)) ?_
  intro W base args ds gs before hval0 hW hcnd _
  have hval : ∀ (j : Nat) t v, Try.f8.params[j]? = some t → args[j]? = some v → Value.okWide Try.prog W .any base t v := hval0
  have hW' := hW
  obtain ⟨p, q, hA0, hV, rfl, hfz, hnd⟩ := hW
  have hA : DataW.TrodAll enc Try.prog W 0 (fun _ => true) true Try.f8.params.toList args.toList ds p := hA0
  rw [Try.params8] at hA hval
  obtain ⟨v0, vs0, d0, ds0, p0, q0, hargs, rfl, rfl, h0, r0⟩ := trodAll_cons hA
  obtain ⟨v1, vs1, d1, ds1, p1, q1, rfl, rfl, rfl, h1, r1⟩ := trodAll_cons r0
  obtain ⟨v2, vs2, d2, ds2, p2, q2, rfl, rfl, rfl, h2, r2⟩ := trodAll_cons r1
  obtain ⟨rfl, rfl, rfl⟩ := trodAll_nil r2
  obtain rfl : args = #[v0, v1, v2] := by cases args; simp_all
  obtain ⟨rfl, rfl⟩ := trodVars_none hV
  obtain ⟨t0, who0, rfl, wt0, ww0⟩ := open_stamp (hval 0 25 _ rfl rfl) h0
  obtain ⟨t1, who1, rfl, wt1, ww1⟩ := open_stamp (hval 1 25 _ rfl rfl) h1
  obtain ⟨t2, who2, rfl, wt2, ww2⟩ := open_stamp (hval 2 25 _ rfl rfl) h2
  refine (vectorOrder_calls t0 who0 t1 who1 t2 who2 W).mono fun e W' ⟨he, j, hj⟩ => ?_
  subst he; subst hj
  exact ⟨_, rfl, law_post Try.laidOut (by kernel_rfl) rfl rfl rfl hW' (w_ext_below _ _)⟩

theorem vectorOrder_holds : Rows.VectorOrderSaid :=
  OpenClaim.holds_of_wide 8 Try.f8 rfl rfl rfl rfl rfl rfl rfl ⟨rfl, rfl, rfl, rfl, rfl⟩ rfl rfl rfl rfl rfl (by kernel_rfl) Try.func8 (by kernel_rfl)
    (of_decide_eq_true (by kernel_rfl)) (by unfold Func.isWrapper; first | (rw [if_pos (by decide +kernel)]; kernel_rfl) | (rw [if_neg (by decide +kernel)]; exact ⟨rfl, rfl⟩))
    (fun os started H enc _ => vectorOrder_lifted os started H enc)
end Go.Proofs.Ytdjmpedfeahajaa
