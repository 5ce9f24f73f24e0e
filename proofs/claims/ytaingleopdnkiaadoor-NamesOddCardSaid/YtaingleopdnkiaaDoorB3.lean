/- Helper lemmas: names.Parent at every text. No condition. -/
import Derived.Test.YtaingleopdnkiaaDoorB2
import Derived.OwnWalk
set_option linter.unusedSimpArgs false
set_option linter.unusedVariables false
namespace Go.Proofs.YtaingleopdnkiaaDoor
open Go.RowKit

/-- A path's directory and its last name, off what it is split into. -/
def parentR (r : List ByteArray × Int) : List ByteArray × ByteArray × Int :=
  if ¬ r.2 = 0 then ([], ⟨#[]⟩, r.2) else if r.1.length = 0 then ([], ⟨#[]⟩, 16) else (r.1.take (r.1.length - 1), r.1.getD (r.1.length - 1) ByteArray.empty, 0)
/-- What these are in a world. -/
def ParP (r : List ByteArray × ByteArray × Int) (w : World) : Ending → World → Prop := fun e w' => ∃ (A : Option Addr), e = .returned (.tuple #[.slice A r.1.length r.1.length, .string r.2.1, .int .i64 r.2.2]) ∧ Hid (Below w.heap.size w w') ∧ Hid (StrsAt w' A r.1) ∧ Hid (A = none → r.1.length = 0)
theorem ParP.none {w w' : World} {v : Value} (r : List ByteArray × ByteArray × Int) (x : Int) (hr : r = ([], ⟨#[]⟩, x)) (he : v = .tuple #[.slice none 0 0, .string ⟨#[]⟩, .int .i64 x]) (hb : Below w.heap.size w w') : ParP r w (.returned v) w' := by
  subst hr; subst he
  exact ⟨Option.none, rfl, Lib.hid hb, Lib.hid fun i hi => by simp at hi, Lib.hid fun _ => rfl⟩
theorem split_len (s : ByteArray) : (splitR s).1.length ≤ 8 := by
  unfold splitR
  (repeat' split) <;> first | (simp; done) | (simp; omega) | omega
theorem wrapE (x : Int) : IntKind.i64.wrap x = wrap64 x := by rw [IntKind.wrap_i64, wrap64_eq]
set_option maxHeartbeats 2000000 in
set_option maxRecDepth 100000 in
theorem parent_any (s : ByteArray) (m : Int) (w : World) (hm : w.cell? ⟨0, 0, none⟩ = some (.int .i64 m)) : Calls Tryd.prog 21 #[.string s] w (ParP (parentR (splitR s)) w) := by
  have HC := Lib.hid (split_any s m w hm)
  have hl8 := split_len s
  generalize splitR s = q at *
  obtain ⟨l, x⟩ := q
  simp only at hl8
  obtain ⟨n, hn⟩ : ∃ n, l.length = n := ⟨_, rfl⟩
  rw [hn] at hl8
  obtain ⟨r, hr⟩ : ∃ r, parentR (l, x) = r := ⟨_, rfl⟩
  rw [hr]
  have HN := Lib.hid hn
  have HR := Lib.hid hr
  clear hr hm hn
  by_cases hx : x = 0
  · subst hx
    by_cases h0 : n = 0
    · subst h0
      have hr := Lib.hid (show r = ([], ⟨#[]⟩, 16) by rw [← HR.out, parentR, if_neg (fun h => h rfl), if_pos HN.out])
      go_enter Tryd.func21, Tryd.ntmps21
      go_wp2_with (go_at_call 19; (with_reducible refine HC.out.mono ?_); rintro e1 w1 ⟨A, j1, rfl, rfl, HS, HA⟩; rw [HN.out])
      go_ret3
      exact ParP.none r 16 hr.out rfl (by (repeat' (first | (with_reducible exact Below.refl _ _) | (with_reducible assumption) | (with_reducible exact below_app _ _ _ _) | (with_reducible refine below_pre ?_; (simp only [List.append_assoc, List.prefix_append, List.prefix_refl, List.prefix_append_right_inj])) | (with_reducible refine Below.alloc ?_ ?_ _) | (with_reducible refine below_ext ?_ ?_ _) | (with_reducible refine Below.drew ?_) | (with_reducible refine below_drewN ?_ _) | (with_reducible refine Below.setCell ?_ ?_ _) | go_size | (simp only [w_size_ext, List.length_append, World.alloc_size]; omega) | (simp; done) | (simp; omega))))
    · obtain ⟨k, rfl⟩ : ∃ k, n = k + 1 := ⟨n - 1, by omega⟩
      obtain ⟨q, hq⟩ : ∃ q, l.getD k ByteArray.empty = q := ⟨_, rfl⟩
      have hr := Lib.hid (show r = (l.take k, q, 0) by rw [← HR.out, parentR, if_neg (fun h => h rfl), if_neg (by rw [HN.out]; exact h0), HN.out, Nat.add_sub_cancel, hq])
      have HQ := Lib.hid hq
      clear hq
      have hk : wrap64 (((k + 1 : Nat) : Int) - 1) = (k : Int) := by rw [wrap64_eq]; omega
      go_enter Tryd.func21, Tryd.ntmps21
      go_wp2_with (go_at_call 19; (with_reducible refine HC.out.mono ?_); rintro e1 w1 ⟨A, j1, rfl, hw1, HS, HA⟩; rw [HN.out]; replace hw1 := Lib.hid hw1; obtain ⟨b, o, rfl, hc⟩ := HS.out k (by rw [HN.out]; omega); have hlb := leB_of_cell hc; rw [HQ.out] at hc)
      have hk2 : wrap64 ((k : Int) + 1 - 1) = (k : Int) := by rw [wrap64_eq]; omega
      have hk9 : wrap64 (k : Int) = (k : Int) := by rw [wrap64_eq]; omega
      have hk10 : IntKind.i64.wrap (k : Int) = (k : Int) := (wrapE _).trans hk9
      have hk3 : (0 : Int) ≤ (k : Int) := by omega
      have hk4 : ¬ (k : Int) < 0 := by omega
      have hk5 : (k : Int) ≤ (k : Int) + 1 := by omega
      have hk6 : (k : Int) < (k : Int) + 1 := by omega
      have hk7 : k ≤ k + 1 := by omega
      have hk8 : k < k + 1 := by omega
      refine wp_region_mix [(0, true), (1, true), (2, true), (3, true), (4, true), (5, true), (6, true), (7, true), (8, true), (9, true), (10, true), (11, true), (12, true), (13, true), (14, true), (15, true), (16, true)] (by kernel_rfl) (by kernel_rfl) rfl (by kernel_rfl) (by intro _ _ d _ _ h; cases d <;> exact h) ?_; intro j1; (repeat (first | (refine wpMix_skip rfl rfl ?_; simp only [Act.put, List.setIfInBounds_toArray, List.set_cons_zero, List.set_cons_succ]) | (refine wpMix_light rfl rfl ?_; intro K hK; go_simp; refine hK _ ?_; clear hK K) | (refine wpMix_heavy rfl rfl ?_; intro K hK; go_wp2_with (fail); refine ⟨w_ext_of_below (by (repeat' (first | (with_reducible exact Below.refl _ _) | (with_reducible assumption) | (with_reducible exact below_app _ _ _ _) | (with_reducible refine below_pre ?_; (simp only [List.append_assoc, List.prefix_append, List.prefix_refl, List.prefix_append_right_inj])) | (with_reducible refine Below.alloc ?_ ?_ _) | (with_reducible refine below_ext ?_ ?_ _) | (with_reducible refine Below.drew ?_) | (with_reducible refine below_drewN ?_ _) | (with_reducible refine Below.setCell ?_ ?_ _) | go_size | (simp only [w_size_ext, List.length_append, World.alloc_size]; omega) | (simp; done) | (simp; omega)))), ?_⟩))); refine wpMix_nil ?_
      go_wp2
      go_ret3
      have hlk : (l.take k).length = k := by rw [List.length_take, HN.out]; omega
      rw [hr.out]
      refine ⟨some ⟨b, o, Option.none⟩, ?_, Lib.hid ?_, Lib.hid ((HS.out.later (w_ext_below _ _)).take k), Lib.hid fun h => by cases h⟩
      · simp only [hlk]; rfl
      · rw [hw1.out]; exact below_two (w_ext_below _ _) _
  · have hr := Lib.hid (show r = ([], ⟨#[]⟩, x) by rw [← HR.out, parentR, if_pos hx])
    go_enter Tryd.func21, Tryd.ntmps21
    go_wp2_with (go_at_call 19; (with_reducible refine HC.out.mono ?_); rintro e1 w1 ⟨A, j1, rfl, rfl, HS, HA⟩; rw [HN.out])
    go_ret3
    exact ParP.none r x hr.out rfl (by (repeat' (first | (with_reducible exact Below.refl _ _) | (with_reducible assumption) | (with_reducible exact below_app _ _ _ _) | (with_reducible refine below_pre ?_; (simp only [List.append_assoc, List.prefix_append, List.prefix_refl, List.prefix_append_right_inj])) | (with_reducible refine Below.alloc ?_ ?_ _) | (with_reducible refine below_ext ?_ ?_ _) | (with_reducible refine Below.drew ?_) | (with_reducible refine below_drewN ?_ _) | (with_reducible refine Below.setCell ?_ ?_ _) | go_size | (simp only [w_size_ext, List.length_append, World.alloc_size]; omega) | (simp; done) | (simp; omega))))
end Go.Proofs.YtaingleopdnkiaaDoor
