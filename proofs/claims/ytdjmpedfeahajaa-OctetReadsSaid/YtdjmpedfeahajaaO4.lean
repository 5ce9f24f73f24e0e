/- Helper lemmas: the least text above all that begin with one, by the program. No condition. -/
import Derived.Test.YtdjmpedfeahajaaK2
namespace Go.Proofs.Ytdjmpedfeahajaa
open Go.RowKit

/-- The least text above all that begin with the first i bytes of s; none: there is none. -/
def bey (s : ByteArray) : Nat → Option ByteArray
  | 0 => none
  | i + 1 => if s.data.toList.getD i 0 < 255 then some (s.extract 0 i ++ ⟨#[s.data.toList.getD i 0 + 1]⟩) else bey s i

theorem bey_none {s : ByteArray} {i : Nat} (h : ¬ s.data.toList.getD i 0 < 255) : bey s (i + 1) = bey s i := by simp only [bey, if_neg h]
theorem bey_some {s : ByteArray} {i : Nat} (h : s.data.toList.getD i 0 < 255) : bey s (i + 1) = some (s.extract 0 i ++ ⟨#[s.data.toList.getD i 0 + 1]⟩) := by simp only [bey, if_pos h]

/-- What Beyond returns. -/
def BeyV (r : Option ByteArray) : Value := match r with
  | some t => .tuple #[.string t, .bool true]
  | none => .tuple #[.string ⟨#[]⟩, .bool false]

theorem conv_one (c : UInt8) (W : World) (g : Nat) (n : Int) (hn : n = (c.toNat : Int)) (hW : W.cell? ⟨g, 0, none⟩ = some (.int .u8 n)) : (convert 43 9 (.slice (some ⟨g, 0, none⟩) 1 1)).run Try.prog W = .ok (.string ⟨#[c]⟩) W :=
  run_convert_bytes_back W 43 9 5 ⟨g, 0, none⟩ 1 [c] Try.underlying43 Try.underlying5 Try.underlying9 (fun j hj => by
    obtain rfl : j = 0 := by simpa using hj
    rw [hn] at hW
    exact hW)
theorem getD_byte (s : ByteArray) (i : Nat) (h : i < s.size) : s.data.toList.getD i 0 = s[i] := by
  rw [List.getD_eq_getElem?_getD, List.getElem?_eq_getElem (by simpa using h)]; rfl

set_option maxHeartbeats 4000000 in
set_option maxRecDepth 100000 in
theorem beyond_any (s : ByteArray) (w : World) (hs : s.size ≤ 9223372036854775807) : Calls Try.prog 45 #[.string s] w (Ret (BeyV (bey s s.size)) w) := by
  go_enter Try.func45, Try.ntmps45
  go_wp2
  go_loopw [4] (fun i wr => ∃ (k : Nat) (j : Junk), k ≤ s.size ∧ i = .int .i64 ((k : Int) - 1) ∧ bey s s.size = bey s k ∧ wr = wext w j) (fun i _ => (intOf i + 1).toNat)
  case atStart => exact ⟨s.size, ⟨[], w.drawn⟩, by omega, rfl, rfl, by simp [wext]⟩
  case round =>
    obtain ⟨k, j, hk, rfl, hb, rfl⟩ := hrel
    have HB := Lib.hid hb; clear hb
    by_cases h0 : k = 0
    · subst h0
      go_wp2
      go_ret2
      exact Ret.mk (by rw [HB.out]; rfl) (by (repeat' (first | (with_reducible exact Below.refl _ _) | (with_reducible assumption) | (with_reducible exact below_app _ _ _ _) | (with_reducible refine Below.alloc ?_ ?_ _) | (with_reducible refine below_ext ?_ ?_ _) | (with_reducible refine Below.drew ?_) | (with_reducible refine below_drewN ?_ _) | (with_reducible refine Below.setCell ?_ ?_ _) | go_size)))
    · obtain ⟨i, rfl⟩ : ∃ i, k = i + 1 := ⟨k - 1, by omega⟩
      have hi : i < s.size := by omega
      have hi0 : (0 : Int) ≤ ((i + 1 : Nat) : Int) - 1 := by omega
      have hi1 : ((i + 1 : Nat) : Int) - 1 < (s.size : Int) := by omega
      have hi2 : (((i + 1 : Nat) : Int) - 1) = (i : Int) := by omega
      rw [hi2] at hi0 hi1 ⊢
      clear hi2 h0
      have hi3 : (i : Int) ≤ (s.size : Int) := by omega
      have HG := Lib.hid (getD_byte s i hi)
      by_cases hlt : s[i] < 255
      · have hlt1 : (s[i].toNat : Int) < 255 := by have := UInt8.lt_iff_toNat_lt.1 hlt; simp at this; omega
        have hwr : IntKind.u8.wrap ((s[i].toNat : Int) + 1) = (s[i].toNat : Int) + 1 := by rw [IntKind.wrap_u8]; omega
        have hc1 : (s[i].toNat : Int) + 1 = ((s[i] + 1).toNat : Int) := by rw [UInt8.toNat_add]; simp; omega
        have hcv := fun W g hW => conv_one (s[i] + 1) W g _ hc1 hW
        clear hc1
        have hmn : ¬ 9223372036854775807 < min i s.size + 1 := by omega
        have HL := Lib.hid hlt; clear hlt
        go_wp2
        refine wp_region_mix [(0, true), (1, true), (2, true), (3, true), (4, true), (5, true), (6, true), (7, false), (8, false), (9, true), (10, true), (11, true)] (by kernel_rfl) (by kernel_rfl) rfl (by kernel_rfl) (by intro _ _ d _ _ h; cases d <;> exact h) ?_; intro j1; (repeat (first | (refine wpMix_skip rfl rfl ?_; simp only [Act.put, List.setIfInBounds_toArray, List.set_cons_zero, List.set_cons_succ]) | (refine wpMix_light rfl rfl ?_; intro K hK; go_simp; refine hK _ ?_; clear hK K) | (refine wpMix_heavy rfl rfl ?_; intro K hK; go_wp2_with (fail); refine ⟨w_ext_of_below (by (repeat' (first | (with_reducible exact Below.refl _ _) | (with_reducible assumption) | (with_reducible exact below_app _ _ _ _) | (with_reducible refine Below.alloc ?_ ?_ _) | (with_reducible refine below_ext ?_ ?_ _) | (with_reducible refine Below.drew ?_) | (with_reducible refine below_drewN ?_ _) | (with_reducible refine Below.setCell ?_ ?_ _) | go_size))), ?_⟩))); refine wpMix_nil ?_
        go_wp2
        go_ret2
        exact Ret.mk (by rw [HB.out, bey_some (by rw [HG.out]; exact HL.out), HG.out]; rfl) (by (repeat' (first | (with_reducible exact Below.refl _ _) | (with_reducible assumption) | (with_reducible exact below_app _ _ _ _) | (with_reducible refine Below.alloc ?_ ?_ _) | (with_reducible refine below_ext ?_ ?_ _) | (with_reducible refine Below.drew ?_) | (with_reducible refine below_drewN ?_ _) | (with_reducible refine Below.setCell ?_ ?_ _) | go_size)))
      · have hlt1 : ¬ (s[i].toNat : Int) < 255 := by have := fun h => hlt (UInt8.lt_iff_toNat_lt.2 h); simp at this; omega
        have HL := Lib.hid hlt; clear hlt
        go_wp2
        go_roundw
        case rel => exact ⟨i, j, by omega, rfl, by rw [HB.out, bey_none (by rw [HG.out]; exact HL.out)], rfl⟩
        case measure => simp [intOf]
end Go.Proofs.Ytdjmpedfeahajaa
