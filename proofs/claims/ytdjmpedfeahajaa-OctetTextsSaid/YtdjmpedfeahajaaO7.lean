/- Helper lemmas: with how many bytes two texts begin alike, by the program and by the document's. No condition. -/
import Derived.Test.YtdjmpedfeahajaaQ2
import Derived.Test.YtdjmpedfeahajaaPSharedx1
namespace Go.Proofs.Ytdjmpedfeahajaa
open Go.RowKit Go.Proofs.YtdjmpedfeahajaaW.PrintWords

/-- With how many bytes two texts begin alike. -/
def alike : List UInt8 → List UInt8 → Nat
  | [], _ => 0
  | _ :: _, [] => 0
  | x :: a, y :: b => if x = y then alike a b + 1 else 0
theorem alike_nil (a : List UInt8) : alike a [] = 0 := by cases a <;> rfl

theorem rshared_pure (a b : ByteArray) (ha : a.size < 9223372036854775807) : ∀ (n i : Nat), i + n = a.size → PShared.crannogref01_Shared.l0 (2 * n + 2) a b (a.size : Int) (i : Int) = some (((alike (a.data.toList.drop i) (b.data.toList.drop i) + i : Nat)) : Int) := by
  intro n
  induction n with
  | zero =>
    intro i hi
    rw [show a.data.toList.drop i = [] from List.drop_eq_nil_of_le (by simp; omega)]
    simp only [PShared.crannogref01_Shared.l0, if_neg (show ¬ (i : Int) < (a.size : Int) by omega), alike, Nat.zero_add]
    congr 1; omega
  | succ n ih =>
    intro i hi
    have ha' : i < a.size := by omega
    have ihn := ih (i + 1) (by omega)
    rw [show 2 * (n + 1) + 2 = (2 * n + 2) + 1 + 1 by omega]
    have hw : wrap64 ((i : Int) + 1) = ((i + 1 : Nat) : Int) := by rw [show (i : Int) + 1 = ((i + 1 : Nat) : Int) by omega, wrap64_small (i + 1) (by omega)]
    have ihm := (fun k => PShared.crannogref01_Shared.mono_l k a b (a.size : Int) ((i + 1 : Nat) : Int))
    generalize 2 * n + 2 = m at ihn ⊢
    have ih1 := ihm m _ ihn
    clear ihn ihm
    generalize m + 1 = m' at ih1 ⊢
    by_cases hb : i < b.size
    · rw [drop_byte a i ha', drop_byte b i hb]
      simp only [PShared.crannogref01_Shared.l0, if_pos (show (i : Int) < (a.size : Int) by omega), if_neg (show ¬ (i : Int) ≥ (b.size : Int) by omega), if_pos (show (0 : Int) ≤ (i : Int) by omega), if_pos (show (i : Int) < (b.size : Int) by omega), bt_cast a i ha', bt_cast b i hb, hw, ih1, alike]
      have he : ((a[i].toNat : Int) = (b[i].toNat : Int)) ↔ a[i] = b[i] := ⟨fun h => UInt8.toNat_inj.1 (by omega), fun h => by rw [h]⟩
      simp only [he]
      split
      · congr 1; omega
      · congr 1; omega
    · rw [drop_byte a i ha', show b.data.toList.drop i = [] from List.drop_eq_nil_of_le (by simp; omega)]
      simp only [PShared.crannogref01_Shared.l0, if_pos (show (i : Int) < (a.size : Int) by omega), if_pos (show (i : Int) ≥ (b.size : Int) by omega), alike, Nat.zero_add]
theorem rshared_any (a b : ByteArray) (w : World) (ha : a.size < 9223372036854775807) : Calls Try.prog 53 #[.string a, .string b] w (Ret (.int .i64 (alike a.data.toList b.data.toList : Nat)) w) := by
  have h := rshared_pure a b ha a.size 0 (by omega)
  simp only [List.drop_zero, Nat.add_zero] at h
  exact Ret.of_drawn (PShared.crannogref01_Shared.calls _ a b _ w h)

set_option maxHeartbeats 4000000 in
set_option maxRecDepth 100000 in
theorem shared_any (a b : ByteArray) (w : World) (hs : a.size < 9223372036854775807) (hb : b.size < 9223372036854775807) : Calls Try.prog 52 #[.string a, .string b] w (Ret (.int .i64 (alike a.data.toList b.data.toList : Nat)) w) := by
  go_enter Try.func52, Try.ntmps52
  go_wp2
  go_loopw [5] (fun i wr => ∃ (k : Nat) (j : Junk), k ≤ a.size ∧ k ≤ b.size ∧ i = .int .i64 (k : Int) ∧ alike a.data.toList b.data.toList = alike (a.data.toList.drop k) (b.data.toList.drop k) + k ∧ wr = wext w j) (fun i _ => ((a.size : Int) - intOf i).toNat)
  case atStart => exact ⟨0, ⟨[], w.drawn⟩, by omega, by omega, rfl, by simp, by simp [wext]⟩
  case round =>
    obtain ⟨k, j, hka, hkb, rfl, ha, rfl⟩ := hrel
    have HA := Lib.hid ha; clear ha
    have k0 : (0 : Int) ≤ (k : Int) := by omega
    by_cases h1 : (k : Int) < (a.size : Int)
    · have a1 : k < a.size := by omega
      have da := Lib.hid (drop_byte a k a1)
      by_cases h2 : (k : Int) < (b.size : Int)
      · have b1 : k < b.size := by omega
        have db := Lib.hid (drop_byte b k b1)
        by_cases he : a[k] = b[k]
        · have he1 : (a[k].toNat : Int) = (b[k].toNat : Int) := by rw [he]
          have HE := Lib.hid he; clear he
          go_wp2_with (refine wp_region_ext (by kernel_rfl) (by kernel_rfl) ?_; (repeat (go_big_quiet_step (fail))); refine wpQuiet_nil ?_; rintro w1 ⟨j1, rfl⟩)
          go_roundw
          case rel => exact ⟨k + 1, ⟨j.l ++ j1.l, j1.m⟩, by omega, by omega, rfl, by rw [HA.out, da.out, db.out, alike, if_pos HE.out]; omega, rfl⟩
          case measure => simp [intOf]; omega
        · have he1 : ¬ (a[k].toNat : Int) = (b[k].toNat : Int) := fun h => he (UInt8.toNat_inj.1 (by omega))
          have HE := Lib.hid he; clear he
          go_wp2_with (refine wp_region_ext (by kernel_rfl) (by kernel_rfl) ?_; (repeat (go_big_quiet_step (fail))); refine wpQuiet_nil ?_; rintro w1 ⟨j1, rfl⟩)
          go_ret
          exact Ret.mk (by rw [HA.out, da.out, db.out, alike, if_neg HE.out, Nat.zero_add] <;> rfl) (by (repeat' (first | (with_reducible exact Below.refl _ _) | (with_reducible assumption) | (with_reducible exact below_app _ _ _ _) | (with_reducible refine Below.alloc ?_ ?_ _) | (with_reducible refine below_ext ?_ ?_ _) | (with_reducible refine Below.drew ?_) | (with_reducible refine below_drewN ?_ _) | (with_reducible refine Below.setCell ?_ ?_ _) | go_size)))
      · have db := Lib.hid (show b.data.toList.drop k = [] from List.drop_eq_nil_of_le (by simp; omega))
        go_wp2_with (refine wp_region_ext (by kernel_rfl) (by kernel_rfl) ?_; (repeat (go_big_quiet_step (fail))); refine wpQuiet_nil ?_; rintro w1 ⟨j1, rfl⟩)
        go_ret
        exact Ret.mk (by rw [HA.out, db.out, alike_nil, Nat.zero_add] <;> rfl) (by (repeat' (first | (with_reducible exact Below.refl _ _) | (with_reducible assumption) | (with_reducible exact below_app _ _ _ _) | (with_reducible refine Below.alloc ?_ ?_ _) | (with_reducible refine below_ext ?_ ?_ _) | (with_reducible refine Below.drew ?_) | (with_reducible refine below_drewN ?_ _) | (with_reducible refine Below.setCell ?_ ?_ _) | go_size)))
    · have da := Lib.hid (show a.data.toList.drop k = [] from List.drop_eq_nil_of_le (by simp; omega))
      go_wp2_with (refine wp_region_ext (by kernel_rfl) (by kernel_rfl) ?_; (repeat (go_big_quiet_step (fail))); refine wpQuiet_nil ?_; rintro w1 ⟨j1, rfl⟩)
      go_ret
      exact Ret.mk (by rw [HA.out, da.out, alike, Nat.zero_add] <;> rfl) (by (repeat' (first | (with_reducible exact Below.refl _ _) | (with_reducible assumption) | (with_reducible exact below_app _ _ _ _) | (with_reducible refine Below.alloc ?_ ?_ _) | (with_reducible refine below_ext ?_ ?_ _) | (with_reducible refine Below.drew ?_) | (with_reducible refine below_drewN ?_ _) | (with_reducible refine Below.setCell ?_ ?_ _) | go_size)))
end Go.Proofs.Ytdjmpedfeahajaa
