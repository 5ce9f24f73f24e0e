/- Helper lemmas: what stands for a kind, by the reference. No condition. -/
import Derived.Test.YtmcooenafgihkaaGreatDoorS2
import Derived.Test.YtmcooenafgihkaaGreatDoorQ2
import Derived.Test.YtmcooenafgihkaaGreatDoorP7
set_option linter.unusedSimpArgs false
set_option linter.unusedVariables false
namespace Go.Proofs.YtmcooenafgihkaaGreatDoor
open Go.RowKit

/-- What stands for a kind, as the reference has it. -/
def stepK (k : Int) : Bs × Bs := match formAt stepF k with
  | none => ([], [])
  | some (w, cs) => (w, cs.map bigN)
def rstepW : Array Value := #[Value.string { data := #[] }, Value.string { data := #[99, 97, 108, 108] }, Value.string { data := #[115, 110, 97, 112] }, Value.string { data := #[99, 108, 111, 110, 101] }, Value.string { data := #[100, 101, 108, 101, 116, 101] }, Value.string { data := #[99, 111, 109, 109, 105, 116] }, Value.string { data := #[116, 105, 99, 107] }, Value.string { data := #[100, 101, 108, 105, 118, 101, 114] }, Value.string { data := #[100, 114, 111, 112] }, Value.string { data := #[100, 111, 117, 98, 108, 101] }, Value.string { data := #[99, 114, 97, 115, 104] }, Value.string { data := #[102, 117, 115, 101] }, Value.string { data := #[115, 116, 97, 114, 116] }, Value.string { data := #[112, 114, 117, 110, 101] }]
def rstepA : Array Value := #[Value.string { data := #[] }, Value.string { data := #[114, 118, 99] }, Value.string { data := #[114, 118, 116] }, Value.string { data := #[114, 118, 116] }, Value.string { data := #[114, 118] }, Value.string { data := #[114] }, Value.string { data := #[114] }, Value.string { data := #[78] }, Value.string { data := #[78] }, Value.string { data := #[78] }, Value.string { data := #[114, 107] }, Value.string { data := #[114, 78] }, Value.string { data := #[114] }, Value.string { data := #[114, 118] }]
theorem rstep_at (i : Nat) (hi : i < 14) : rstepW[i]? = some (str (stepK (i : Int)).1) ∧ rstepA[i]? = some (str (stepK (i : Int)).2) := by
  have h : i = 0 ∨ i = 1 ∨ i = 2 ∨ i = 3 ∨ i = 4 ∨ i = 5 ∨ i = 6 ∨ i = 7 ∨ i = 8 ∨ i = 9 ∨ i = 10 ∨ i = 11 ∨ i = 12 ∨ i = 13 := by omega
  rcases h with rfl | rfl | rfl | rfl | rfl | rfl | rfl | rfl | rfl | rfl | rfl | rfl | rfl | rfl <;> exact ⟨rfl, rfl⟩
set_option maxHeartbeats 8000000 in
set_option maxRecDepth 100000 in
theorem rstep_out (k : Int) (hk : k < 0 ∨ 13 < k) (w : World) : Calls Tryz.prog 38 #[.int .i64 k] w (fun e w' => e = .returned (.tuple #[.string ⟨#[]⟩, .string ⟨#[]⟩]) ∧ Below w.heap.size w w') := by
  rcases hk with hk | hk
  all_goals
    go_enter Tryz.func38, Tryz.ntmps38
    go_wp2
    go_ret2
    exact ⟨rfl, Below.alloc (Below.alloc (Below.refl _ _) (Nat.le_refl _) _) (by simp) _⟩
set_option maxHeartbeats 8000000 in
set_option maxRecDepth 100000 in
theorem rstep_in (i : Nat) (a b : ByteArray) (w : World) (hi : (i : Int) < 14) (ha : #[Value.string { data := #[] }, Value.string { data := #[99, 97, 108, 108] }, Value.string { data := #[115, 110, 97, 112] }, Value.string { data := #[99, 108, 111, 110, 101] }, Value.string { data := #[100, 101, 108, 101, 116, 101] }, Value.string { data := #[99, 111, 109, 109, 105, 116] }, Value.string { data := #[116, 105, 99, 107] }, Value.string { data := #[100, 101, 108, 105, 118, 101, 114] }, Value.string { data := #[100, 114, 111, 112] }, Value.string { data := #[100, 111, 117, 98, 108, 101] }, Value.string { data := #[99, 114, 97, 115, 104] }, Value.string { data := #[102, 117, 115, 101] }, Value.string { data := #[115, 116, 97, 114, 116] }, Value.string { data := #[112, 114, 117, 110, 101] }][i]? = some (.string a)) (hb : #[Value.string { data := #[] }, Value.string { data := #[114, 118, 99] }, Value.string { data := #[114, 118, 116] }, Value.string { data := #[114, 118, 116] }, Value.string { data := #[114, 118] }, Value.string { data := #[114] }, Value.string { data := #[114] }, Value.string { data := #[78] }, Value.string { data := #[78] }, Value.string { data := #[78] }, Value.string { data := #[114, 107] }, Value.string { data := #[114, 78] }, Value.string { data := #[114] }, Value.string { data := #[114, 118] }][i]? = some (.string b)) : Calls Tryz.prog 38 #[.int .i64 (i : Int)] w (fun e w' => e = .returned (.tuple #[.string a, .string b]) ∧ Below w.heap.size w w') := by
  have h1 : ¬ (i : Int) < 0 := by omega
  have h2 : ¬ 13 < (i : Int) := by omega
  have h3 : (0 : Int) ≤ (i : Int) := by omega
  go_enter Tryz.func38, Tryz.ntmps38
  go_wp2
  refine wp_region_mix [(0, true), (1, true), (2, true), (3, true), (4, true), (5, true), (6, true), (7, true), (8, true), (9, true)] (by kernel_rfl) (by kernel_rfl) rfl (by kernel_rfl) (by intro _ _ d _ _ h; cases d <;> exact h) ?_; intro j1; (repeat (first | (refine wpMix_skipK rfl rfl ?_; intro K hK; go_simp; refine hK _ ?_; clear hK K) | (refine wpMix_light rfl rfl ?_; intro K hK; go_simp; refine hK _ ?_; clear hK K) | (refine wpMix_heavy rfl rfl ?_; intro K hK; go_wp2_with (fail); refine ⟨w_ext_of_below (by (repeat' (first | (with_reducible exact Below.refl _ _) | (with_reducible assumption) | (with_reducible exact below_app _ _ _ _) | (with_reducible refine below_pre ?_; (simp only [List.append_assoc, List.prefix_append, List.prefix_refl, List.prefix_append_right_inj])) | (with_reducible refine Below.alloc ?_ ?_ _) | (with_reducible refine below_ext ?_ ?_ _) | (with_reducible refine Below.drew ?_) | (with_reducible refine below_drewN ?_ _) | (with_reducible refine Below.setCell ?_ ?_ _) | go_size | (simp only [w_size_ext, List.length_append, World.alloc_size]; omega) | (simp; done) | (simp; omega)))), ?_⟩))); refine wpMix_nil ?_
  go_wp2
  go_ret2
  exact ⟨rfl, below_tr (Below.alloc (Below.alloc (Below.refl _ _) (Nat.le_refl _) _) (by simp) _) (w_ext_below _ _)⟩
theorem rstep_any (k : Int) (w : World) : Calls Tryz.prog 38 #[.int .i64 k] w (fun e w' => e = .returned (.tuple #[str (stepK k).1, str (stepK k).2]) ∧ Below w.heap.size w w') := by
  by_cases hk : k < 0 ∨ 13 < k
  · have e : stepK k = ([], []) := by
      unfold stepK
      have : formAt stepF k = none := by
        unfold formAt
        split
        · rfl
        · rw [List.getElem?_eq_none_iff]
          have : stepF.length = 13 := rfl
          omega
      rw [this]
    rw [e]; exact rstep_out k hk w
  · obtain ⟨i, rfl⟩ : ∃ i : Nat, k = (i : Int) := ⟨k.toNat, by omega⟩
    obtain ⟨h1, h2⟩ := rstep_at i (by omega)
    exact rstep_in i _ _ w (by omega) h1 h2
/-- What stands for a kind, as the reference has it. -/
def callK (k : Int) : Bs × Bs := match formAt callF k with
  | none => ([], [])
  | some (w, cs) => (w, 112 :: cs)
def rcallW : Array Value := #[Value.string { data := #[] }, Value.string { data := #[109, 107, 100, 105, 114] }, Value.string { data := #[99, 114, 101, 97, 116, 101] }, Value.string { data := #[108, 105, 110, 107] }, Value.string { data := #[115, 121, 109, 108, 105, 110, 107] }, Value.string { data := #[117, 110, 108, 105, 110, 107] }, Value.string { data := #[114, 109, 100, 105, 114] }, Value.string { data := #[114, 101, 110, 97, 109, 101] }, Value.string { data := #[119, 114, 105, 116, 101] }, Value.string { data := #[116, 114, 117, 110, 99, 97, 116, 101] }, Value.string { data := #[99, 104, 109, 111, 100] }, Value.string { data := #[117, 116, 105, 109, 101] }, Value.string { data := #[115, 101, 116, 120] }, Value.string { data := #[100, 101, 108, 120] }, Value.string { data := #[114, 101, 97, 100] }, Value.string { data := #[108, 105, 115, 116] }, Value.string { data := #[114, 101, 97, 100, 108, 105, 110, 107] }, Value.string { data := #[115, 116, 97, 116] }, Value.string { data := #[103, 101, 116, 120] }, Value.string { data := #[108, 105, 115, 116, 120] }]
def rcallA : Array Value := #[Value.string { data := #[] }, Value.string { data := #[112, 110, 115] }, Value.string { data := #[112, 110, 115] }, Value.string { data := #[112, 116] }, Value.string { data := #[112, 116, 110, 115] }, Value.string { data := #[112] }, Value.string { data := #[112] }, Value.string { data := #[112, 116] }, Value.string { data := #[112, 111, 100] }, Value.string { data := #[112, 110] }, Value.string { data := #[112, 110] }, Value.string { data := #[112, 115] }, Value.string { data := #[112, 116, 100] }, Value.string { data := #[112, 116] }, Value.string { data := #[112, 111, 110] }, Value.string { data := #[112] }, Value.string { data := #[112] }, Value.string { data := #[112] }, Value.string { data := #[112, 116] }, Value.string { data := #[112] }]
theorem rcall_at (i : Nat) (hi : i < 20) : rcallW[i]? = some (str (callK (i : Int)).1) ∧ rcallA[i]? = some (str (callK (i : Int)).2) := by
  have h : i = 0 ∨ i = 1 ∨ i = 2 ∨ i = 3 ∨ i = 4 ∨ i = 5 ∨ i = 6 ∨ i = 7 ∨ i = 8 ∨ i = 9 ∨ i = 10 ∨ i = 11 ∨ i = 12 ∨ i = 13 ∨ i = 14 ∨ i = 15 ∨ i = 16 ∨ i = 17 ∨ i = 18 ∨ i = 19 := by omega
  rcases h with rfl | rfl | rfl | rfl | rfl | rfl | rfl | rfl | rfl | rfl | rfl | rfl | rfl | rfl | rfl | rfl | rfl | rfl | rfl | rfl <;> exact ⟨rfl, rfl⟩
set_option maxHeartbeats 8000000 in
set_option maxRecDepth 100000 in
theorem rcall_out (k : Int) (hk : k < 0 ∨ 19 < k) (w : World) : Calls Tryz.prog 39 #[.int .i64 k] w (fun e w' => e = .returned (.tuple #[.string ⟨#[]⟩, .string ⟨#[]⟩]) ∧ Below w.heap.size w w') := by
  rcases hk with hk | hk
  all_goals
    go_enter Tryz.func39, Tryz.ntmps39
    go_wp2
    go_ret2
    exact ⟨rfl, Below.alloc (Below.alloc (Below.refl _ _) (Nat.le_refl _) _) (by simp) _⟩
set_option maxHeartbeats 8000000 in
set_option maxRecDepth 100000 in
theorem rcall_in (i : Nat) (a b : ByteArray) (w : World) (hi : (i : Int) < 20) (ha : #[Value.string { data := #[] }, Value.string { data := #[109, 107, 100, 105, 114] }, Value.string { data := #[99, 114, 101, 97, 116, 101] }, Value.string { data := #[108, 105, 110, 107] }, Value.string { data := #[115, 121, 109, 108, 105, 110, 107] }, Value.string { data := #[117, 110, 108, 105, 110, 107] }, Value.string { data := #[114, 109, 100, 105, 114] }, Value.string { data := #[114, 101, 110, 97, 109, 101] }, Value.string { data := #[119, 114, 105, 116, 101] }, Value.string { data := #[116, 114, 117, 110, 99, 97, 116, 101] }, Value.string { data := #[99, 104, 109, 111, 100] }, Value.string { data := #[117, 116, 105, 109, 101] }, Value.string { data := #[115, 101, 116, 120] }, Value.string { data := #[100, 101, 108, 120] }, Value.string { data := #[114, 101, 97, 100] }, Value.string { data := #[108, 105, 115, 116] }, Value.string { data := #[114, 101, 97, 100, 108, 105, 110, 107] }, Value.string { data := #[115, 116, 97, 116] }, Value.string { data := #[103, 101, 116, 120] }, Value.string { data := #[108, 105, 115, 116, 120] }][i]? = some (.string a)) (hb : #[Value.string { data := #[] }, Value.string { data := #[112, 110, 115] }, Value.string { data := #[112, 110, 115] }, Value.string { data := #[112, 116] }, Value.string { data := #[112, 116, 110, 115] }, Value.string { data := #[112] }, Value.string { data := #[112] }, Value.string { data := #[112, 116] }, Value.string { data := #[112, 111, 100] }, Value.string { data := #[112, 110] }, Value.string { data := #[112, 110] }, Value.string { data := #[112, 115] }, Value.string { data := #[112, 116, 100] }, Value.string { data := #[112, 116] }, Value.string { data := #[112, 111, 110] }, Value.string { data := #[112] }, Value.string { data := #[112] }, Value.string { data := #[112] }, Value.string { data := #[112, 116] }, Value.string { data := #[112] }][i]? = some (.string b)) : Calls Tryz.prog 39 #[.int .i64 (i : Int)] w (fun e w' => e = .returned (.tuple #[.string a, .string b]) ∧ Below w.heap.size w w') := by
  have h1 : ¬ (i : Int) < 0 := by omega
  have h2 : ¬ 19 < (i : Int) := by omega
  have h3 : (0 : Int) ≤ (i : Int) := by omega
  go_enter Tryz.func39, Tryz.ntmps39
  go_wp2
  refine wp_region_mix [(0, true), (1, true), (2, true), (3, true), (4, true), (5, true), (6, true), (7, true), (8, true), (9, true)] (by kernel_rfl) (by kernel_rfl) rfl (by kernel_rfl) (by intro _ _ d _ _ h; cases d <;> exact h) ?_; intro j1; (repeat (first | (refine wpMix_skipK rfl rfl ?_; intro K hK; go_simp; refine hK _ ?_; clear hK K) | (refine wpMix_light rfl rfl ?_; intro K hK; go_simp; refine hK _ ?_; clear hK K) | (refine wpMix_heavy rfl rfl ?_; intro K hK; go_wp2_with (fail); refine ⟨w_ext_of_below (by (repeat' (first | (with_reducible exact Below.refl _ _) | (with_reducible assumption) | (with_reducible exact below_app _ _ _ _) | (with_reducible refine below_pre ?_; (simp only [List.append_assoc, List.prefix_append, List.prefix_refl, List.prefix_append_right_inj])) | (with_reducible refine Below.alloc ?_ ?_ _) | (with_reducible refine below_ext ?_ ?_ _) | (with_reducible refine Below.drew ?_) | (with_reducible refine below_drewN ?_ _) | (with_reducible refine Below.setCell ?_ ?_ _) | go_size | (simp only [w_size_ext, List.length_append, World.alloc_size]; omega) | (simp; done) | (simp; omega)))), ?_⟩))); refine wpMix_nil ?_
  go_wp2
  go_ret2
  exact ⟨rfl, below_tr (Below.alloc (Below.alloc (Below.refl _ _) (Nat.le_refl _) _) (by simp) _) (w_ext_below _ _)⟩
theorem rcall_any (k : Int) (w : World) : Calls Tryz.prog 39 #[.int .i64 k] w (fun e w' => e = .returned (.tuple #[str (callK k).1, str (callK k).2]) ∧ Below w.heap.size w w') := by
  by_cases hk : k < 0 ∨ 19 < k
  · have e : callK k = ([], []) := by
      unfold callK
      have : formAt callF k = none := by
        unfold formAt
        split
        · rfl
        · rw [List.getElem?_eq_none_iff]
          have : callF.length = 19 := rfl
          omega
      rw [this]
    rw [e]; exact rcall_out k hk w
  · obtain ⟨i, rfl⟩ : ∃ i : Nat, k = (i : Int) := ⟨k.toNat, by omega⟩
    obtain ⟨h1, h2⟩ := rcall_at i (by omega)
    exact rcall_in i _ _ w (by omega) h1 h2
end Go.Proofs.YtmcooenafgihkaaGreatDoor
