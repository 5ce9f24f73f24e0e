/- Helper lemmas: the least text above all that begin with one, by the document's program. No condition. -/
import Derived.Test.YtdjmpedfeahajaaQ2
namespace Go.Proofs.Ytdjmpedfeahajaa
open Go.RowKit

/-- The last byte below 255 of the first ones. -/
def lastN (s : ByteArray) : Nat → Int
  | 0 => -1
  | i + 1 => if s.data.toList.getD i 0 < 255 then (i : Int) else lastN s i
theorem lastN_yes {s : ByteArray} {i : Nat} (h : s.data.toList.getD i 0 < 255) : lastN s (i + 1) = i := by simp only [lastN, if_pos h]
theorem lastN_no {s : ByteArray} {i : Nat} (h : ¬ s.data.toList.getD i 0 < 255) : lastN s (i + 1) = lastN s i := by simp only [lastN, if_neg h]
theorem last_spec (s : ByteArray) (k : Nat) : (lastN s k = -1 ∧ bey s k = none) ∨ ∃ n : Nat, n < k ∧ lastN s k = n ∧ s.data.toList.getD n 0 < 255 ∧ bey s k = some (s.extract 0 n ++ ⟨#[s.data.toList.getD n 0 + 1]⟩) := by
  induction k with
  | zero => left; exact ⟨rfl, rfl⟩
  | succ i ih =>
    by_cases h : s.data.toList.getD i 0 < 255
    · right; exact ⟨i, by omega, lastN_yes h, h, bey_some h⟩
    · rw [lastN_no h, bey_none h]
      rcases ih with h1 | ⟨n, h1, h2⟩
      · exact Or.inl h1
      · exact Or.inr ⟨n, by omega, h2⟩

set_option maxHeartbeats 4000000 in
set_option maxRecDepth 100000 in
theorem rbeyond_any (s : ByteArray) (w : World) (hs : s.size < 9223372036854775807) : Calls Try.prog 51 #[.string s] w (Ret (BeyV (bey s s.size)) w) := by
  go_enter Try.func51, Try.ntmps51
  go_wp2
  go_loopw [4, 8] (fun n i wr => ∃ (k : Nat) (j : Junk), k ≤ s.size ∧ n = .int .i64 (lastN s k) ∧ i = .int .i64 (k : Int) ∧ wr = wext w j) (fun _ i _ => ((s.size : Int) - intOf i).toNat)
  case atStart => exact ⟨0, ⟨[], w.drawn⟩, by omega, rfl, rfl, by simp [wext]⟩
  case round =>
    obtain ⟨k, j, hk, rfl, rfl, rfl⟩ := hrel
    by_cases h0 : k = s.size
    · subst h0
      rcases last_spec s s.size with ⟨hn, hb⟩ | ⟨n, hi, hn, hc, hb⟩
      · rw [hn]
        have HB := Lib.hid hb; clear hb hn
        go_wp2
        go_ret2
        exact Ret.mk (by rw [HB.out]; rfl) (by (repeat' (first | (with_reducible exact Below.refl _ _) | (with_reducible assumption) | (with_reducible exact below_app _ _ _ _) | (with_reducible refine Below.alloc ?_ ?_ _) | (with_reducible refine below_ext ?_ ?_ _) | (with_reducible refine Below.drew ?_) | (with_reducible refine below_drewN ?_ _) | (with_reducible refine Below.setCell ?_ ?_ _) | go_size)))
      · rw [hn]
        have HB := Lib.hid hb; clear hb hn
        have HG := Lib.hid (getD_byte s n hi)
        have hlt : s[n] < 255 := by rw [← HG.out]; exact hc
        clear hc
        have hi0 : (0 : Int) ≤ (n : Int) := by omega
        have hi1 : (n : Int) < (s.size : Int) := by omega
        have hi4 : ¬ (n : Int) < 0 := by omega
        have hi3 : (n : Int) ≤ (s.size : Int) := by omega
        have hlt1 : (s[n].toNat : Int) < 255 := by have := UInt8.lt_iff_toNat_lt.1 hlt; simp at this; omega
        have hwr : IntKind.u8.wrap ((s[n].toNat : Int) + 1) = (s[n].toNat : Int) + 1 := by rw [IntKind.wrap_u8]; omega
        have hc1 : (s[n].toNat : Int) + 1 = ((s[n] + 1).toNat : Int) := by rw [UInt8.toNat_add]; simp; omega
        have hcv := fun W g hW => conv_one (s[n] + 1) W g _ hc1 hW
        clear hc1
        have hmn : ¬ 9223372036854775807 < min n s.size + 1 := by omega
        have HL := Lib.hid hlt; clear hlt
        go_wp2
        refine wp_region_mix [(0, true), (1, true), (2, true), (3, true), (4, true), (5, true), (6, true), (7, false), (8, false), (9, true), (10, true), (11, true)] (by kernel_rfl) (by kernel_rfl) rfl (by kernel_rfl) (by intro _ _ d _ _ h; cases d <;> exact h) ?_; intro j1; (repeat (first | (refine wpMix_skip rfl rfl ?_; simp only [Act.put, List.setIfInBounds_toArray, List.set_cons_zero, List.set_cons_succ]) | (refine wpMix_light rfl rfl ?_; intro K hK; go_simp; refine hK _ ?_; clear hK K) | (refine wpMix_heavy rfl rfl ?_; intro K hK; go_wp2_with (fail); refine ⟨w_ext_of_below (by (repeat' (first | (with_reducible exact Below.refl _ _) | (with_reducible assumption) | (with_reducible exact below_app _ _ _ _) | (with_reducible refine Below.alloc ?_ ?_ _) | (with_reducible refine below_ext ?_ ?_ _) | (with_reducible refine Below.drew ?_) | (with_reducible refine below_drewN ?_ _) | (with_reducible refine Below.setCell ?_ ?_ _) | go_size))), ?_⟩))); refine wpMix_nil ?_
        go_wp2
        go_ret2
        exact Ret.mk (by rw [HB.out, HG.out]; rfl) (by (repeat' (first | (with_reducible exact Below.refl _ _) | (with_reducible assumption) | (with_reducible exact below_app _ _ _ _) | (with_reducible refine Below.alloc ?_ ?_ _) | (with_reducible refine below_ext ?_ ?_ _) | (with_reducible refine Below.drew ?_) | (with_reducible refine below_drewN ?_ _) | (with_reducible refine Below.setCell ?_ ?_ _) | go_size)))
    · have hi : k < s.size := by omega
      have hi1 : (k : Int) < (s.size : Int) := by omega
      have hi3 : (0 : Int) ≤ (k : Int) := by omega
      have HG := Lib.hid (getD_byte s k hi)
      by_cases hlt : s[k] < 255
      · have hlt1 : ¬ (s[k].toNat : Int) = 255 := by have := UInt8.lt_iff_toNat_lt.1 hlt; simp at this; omega
        have HL := Lib.hid hlt; clear hlt
        go_wp2
        go_roundw
        case rel => exact ⟨k + 1, j, by omega, by rw [lastN_yes (by rw [HG.out]; exact HL.out)], by first | rfl | simp, rfl⟩
        case measure => simp [intOf]; (try omega)
      · have hlt1 : (s[k].toNat : Int) = 255 := by have := fun h => hlt (UInt8.lt_iff_toNat_lt.2 h); have := s[k].toNat_lt; simp at *; omega
        have HL := Lib.hid hlt; clear hlt
        go_wp2
        go_roundw
        case rel => exact ⟨k + 1, j, by omega, by rw [lastN_no (by rw [HG.out]; exact HL.out)], by first | rfl | simp, rfl⟩
        case measure => simp [intOf]; (try omega)
end Go.Proofs.Ytdjmpedfeahajaa
