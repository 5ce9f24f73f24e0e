/- Helper lemmas: steps that lie in memory; whether they are short. No condition. -/
import Derived.Test.YtmcooenafgihkaaGreatDoorP14
set_option linter.unusedSimpArgs false
set_option linter.unusedVariables false
namespace Go.Proofs.YtmcooenafgihkaaGreatDoor
open Go.RowKit

/-- The cells of a step. -/
abbrev cellsOf (s : StepR) (A : Option Addr) (m c : Nat) : Array Value := #[.int .i64 s.kind, .int .i64 s.rep, .string s.vol, .string s.dst, .int .i64 s.n, .slice A m c, .int .i64 s.ck, .string s.path, .string s.cto, .int .i64 s.off, .int .i64 s.cn, .string s.data, f64 s.time]
/-- Steps lie in memory. -/
def StsAt (w : World) (A : Option Addr) (l : List StepR) : Prop := ∀ i, i < l.length → ∃ b o : Nat, A = some ⟨b, o, none⟩ ∧ ∃ K m c, IntsAt w K (l.getD i zeroR).keep ∧ (l.getD i zeroR).keep.length = m ∧ ∀ k, k < 13 → w.cell? ⟨b, o + i * 13 + k, none⟩ = (cellsOf (l.getD i zeroR) K m c)[k]?
theorem StsAt.later {w w' : World} {A : Option Addr} {l : List StepR} (h : StsAt w A l) (hb : Below w.heap.size w w') : StsAt w' A l := fun i hi => by
  obtain ⟨b, o, e, K, m, c, h1, h2, h3⟩ := h i hi
  refine ⟨b, o, e, K, m, c, h1.later hb, h2, fun k hk => ?_⟩
  obtain ⟨v, hv⟩ : ∃ v, (cellsOf (l.getD i zeroR) K m c)[k]? = some v := ⟨_, Array.getElem?_eq_getElem (by simpa using hk)⟩
  have h4 := h3 k hk
  rw [hv] at h4 ⊢
  exact (hb.cell (World.block_lt_of_cell? w _ h4)).trans h4
/-- A step that is short. -/
def Brief (s : StepR) : Prop := s.vol.size ≤ 2048 ∧ s.dst.size ≤ 2048 ∧ s.path.size ≤ 2048 ∧ s.cto.size ≤ 2048 ∧ s.data.size ≤ 2048 ∧ s.keep.length ≤ 2048
/-- A bool comes back; where it is true, the steps are short. -/
def ShC (l : List StepR) (w : World) (e : Ending) (w' : World) : Prop := ∃ b, e = .returned (.bool b) ∧ Below w.heap.size w w' ∧ (b = true → l.length ≤ 60 ∧ ∀ i, i < l.length → Brief (l.getD i zeroR))
theorem cast_one (j : Nat) : Value.int .i64 ((j : Int) + 1) = .int .i64 ((j + 1 : Nat) : Int) := by rw [Int.natCast_add]; rfl
theorem cast_sum (a b : Nat) : Value.int .i64 ((a : Int) + (b : Int)) = .int .i64 ((a + b : Nat) : Int) := by rw [Int.natCast_add]
theorem inner_up {M j k : Nat} (h : M ≤ 2048 + j * 2049) (hk : k ≤ 2049) : M + k ≤ 2048 + (j + 1) * 2049 := by omega
theorem outer_up {M k : Nat} (h : M ≤ 2048 + 5 * 2049) (hk : k ≤ 2049) : M + k ≤ 20000 := by omega
def five (s : StepR) (k : Nat) : ByteArray := if k = 0 then s.vol else if k = 1 then s.dst else if k = 2 then s.path else if k = 3 then s.cto else s.data
theorem five_brief {s : StepR} (h : ∀ k, k < 5 → (five s k).size ≤ 2048) (hk : s.keep.length ≤ 2048) : Brief s := ⟨h 0 (by decide), h 1 (by decide), h 2 (by decide), h 3 (by decide), h 4 (by decide), hk⟩
theorem ShC.mk {l : List StepR} {w w' : World} {v : Value} (bv : Bool) (he : v = .bool bv) (hb : Below w.heap.size w w') (h : bv = true → l.length ≤ 60 ∧ ∀ i, i < l.length → Brief (l.getD i zeroR)) : ShC l w (.returned v) w' := ⟨bv, by rw [he], hb, h⟩
set_option maxHeartbeats 8000000 in
set_option maxRecDepth 100000 in
theorem short_any (A : Option Addr) (c : Nat) (l : List StepR) (w : World) (hA : StsAt w A l) (hm : l.length ≤ 9223372036854775807) : Calls Tryz.prog 17 #[.slice A l.length c] w (ShC l w) := by
  have HA := Lib.hid hA
  obtain ⟨n, hn⟩ : ∃ n, l.length = n := ⟨_, rfl⟩
  rw [hn] at hm ⊢
  have HN := Lib.hid hn
  clear hA hn
  have HB0 := Lib.hid (Below.refl w.heap.size w)
  go_enter Tryz.func17, Tryz.ntmps17
  go_wp2
  go_loopw [3, 4] (fun v3 v4 wr => ∃ (i N : Nat), i ≤ n ∧ i ≤ 61 ∧ N ≤ 20000 ∧ v4 = .int .i64 (i : Int) ∧ v3 = .int .i64 (N : Int) ∧ Hid (Below w.heap.size w wr) ∧ Hid (N ≤ 2048 → ∀ k, k < i → Brief (l.getD k zeroR))) (fun _ i _ => ((n : Int) - intOf i).toNat)
  case atStart => exact ⟨0, 0, Nat.zero_le _, by omega, by omega, rfl, rfl, HB0, Lib.hid fun _ k hk => by omega⟩
  case round =>
    obtain ⟨i, N, hi, hi1, hN, rfl, rfl, HB, HS⟩ := hrel
    by_cases hc : i < n ∧ i ≤ 60 ∧ N ≤ 2048
    · obtain ⟨g1, g2, g3⟩ := hc
      obtain ⟨b, o, eA, K, mk, ck, _, hkl, hcell⟩ := HA.out.later HB.out i (by rw [HN.out]; exact g1)
      subst eA
      have HS2 := Lib.hid (HS.out g3)
      have HQ : Hid (Brief (l.getD i zeroR) → ∀ k, k < i + 1 → Brief (l.getD k zeroR)) := Lib.hid fun hb k hk => by
        rcases Nat.lt_or_ge k i with h | h
        · exact HS2.out k h
        · obtain rfl : k = i := by omega
          exact hb
      generalize l.getD i zeroR = s at *
      have c2 : wr.cell? ⟨b, o + i * 13 + 2, none⟩ = some (.string s.vol) := hcell 2 (by decide)
      have c3 : wr.cell? ⟨b, o + i * 13 + 3, none⟩ = some (.string s.dst) := hcell 3 (by decide)
      have c5 : wr.cell? ⟨b, o + i * 13 + 5, none⟩ = some (.slice K mk ck) := hcell 5 (by decide)
      have c7 : wr.cell? ⟨b, o + i * 13 + 7, none⟩ = some (.string s.path) := hcell 7 (by decide)
      have c8 : wr.cell? ⟨b, o + i * 13 + 8, none⟩ = some (.string s.cto) := hcell 8 (by decide)
      have c11 : wr.cell? ⟨b, o + i * 13 + 11, none⟩ = some (.string s.data) := hcell 11 (by decide)
      have d7 : wr.cell? ⟨b, o + i * 13 + 6 + 1, none⟩ = some (.string s.path) := c7
      have d8 : wr.cell? ⟨b, o + i * 13 + 6 + 2, none⟩ = some (.string s.cto) := c8
      have d11 : wr.cell? ⟨b, o + i * 13 + 6 + 5, none⟩ = some (.string s.data) := c11
      clear hcell
      have hlb := leB_of_cell c2
      have g1' : (i : Int) < (n : Int) := by omega
      have g2' : (i : Int) ≤ 60 := by omega
      have g3' : (N : Int) ≤ 2048 := by omega
      have hge : (0 : Int) ≤ (i : Int) := by omega
      have hnl : ¬ (i : Int) < 0 := by omega
      have hwr : wrap64 ((i : Int) + 1) = (i : Int) + 1 := by rw [wrap64_eq]; omega
      go_wp2
      refine wp_region_mix [(0, true), (1, true), (2, true), (3, true), (4, true), (5, true), (6, true), (7, true), (8, true), (9, true), (10, true), (11, true), (12, true), (13, true), (14, true), (15, true), (16, true), (17, true), (18, true), (19, true), (20, true), (21, true), (22, true), (23, true), (24, true), (25, true), (26, true), (27, true), (30, true), (28, false), (29, true)] (by kernel_rfl) (by kernel_rfl) rfl (by kernel_rfl) (by intro _ _ d _ _ h; cases d <;> exact h) ?_; intro j1; (repeat (first | (refine wpMix_skipK rfl rfl ?_; intro K hK; go_simp; refine hK _ ?_; clear hK K) | (refine wpMix_light rfl rfl ?_; intro K hK; go_simp; refine hK _ ?_; clear hK K) | (refine wpMix_heavy rfl rfl ?_; intro K hK; go_wp2_with (fail); refine ⟨w_ext_of_below (by (repeat' (first | (with_reducible exact Below.refl _ _) | (with_reducible assumption) | (with_reducible exact below_app _ _ _ _) | (with_reducible refine below_pre ?_; (simp only [List.append_assoc, List.prefix_append, List.prefix_refl, List.prefix_append_right_inj])) | (with_reducible refine Below.alloc ?_ ?_ _) | (with_reducible refine below_ext ?_ ?_ _) | (with_reducible refine Below.drew ?_) | (with_reducible refine below_drewN ?_ _) | (with_reducible refine Below.setCell ?_ ?_ _) | go_size | (simp only [w_size_ext, List.length_append, World.alloc_size]; omega) | (simp; done) | (simp; omega)))), ?_⟩))); refine wpMix_nil ?_
      have HK0 := Lib.hid (show Below wr.heap.size wr ((wext wr j1).alloc (.cells #[.string s.vol, .string s.dst, .string s.path, .string s.cto, .string s.data] 9)) from Below.alloc (w_ext_below _ _) (by rw [w_size_ext]; omega) _)
      have HC0 := Lib.hid (show ((wext wr j1).alloc (.cells #[.string s.vol, .string s.dst, .string s.path, .string s.cto, .string s.data] 9)).heap[wr.heap.size + j1.l.length]? = some (.cells #[.string s.vol, .string s.dst, .string s.path, .string s.cto, .string s.data] 9 (0, 0)) by
        rw [← w_size_ext]; exact heap_alloc_new _ _)
      have HB2 := Lib.hid (below_tr HB.out HK0.out)
      have e5 := (HK0.out.cell (p := ⟨b, o + i * 13 + 5, none⟩) (World.block_lt_of_cell? wr _ c5)).trans c5
      generalize World.alloc (wext wr j1) (.cells #[.string s.vol, .string s.dst, .string s.path, .string s.cto, .string s.data] 9) = wf at *
      go_wp2
      obtain ⟨g, hg⟩ : ∃ g, wr.heap.size + j1.l.length = g := ⟨_, rfl⟩
      rw [hg] at HC0 ⊢
      have hlb2 := leB_of_cell e5
      have hlb3 : leB (g + 1) wf.heap.size = true := leB_of_cell (cell_at (i := 0) HC0.out rfl)
      clear hlb c2 c3 c5 c7 c8 c11 d7 d8 d11 HB HK0 hg
      go_loopw [3, 51] (fun v3 v51 wr2 => ∃ (j M : Nat), j ≤ 5 ∧ M ≤ 2048 + j * 2049 ∧ v51 = .int .i64 (j : Int) ∧ v3 = .int .i64 (M : Int) ∧ wr2 = wf ∧ Hid (M ≤ 2048 → ∀ k, k < j → (five s k).size ≤ 2048)) (fun _ v51 _ => ((5 : Int) - intOf v51).toNat)
      case atStart => exact ⟨0, N, by omega, by omega, rfl, rfl, rfl, Lib.hid fun _ k hk => by omega⟩
      case round =>
        obtain ⟨j, M, hj, hM, rfl, rfl, rfl, HF⟩ := hrel
        by_cases hj5 : j < 5
        · have hj1 : (j : Int) < 5 := by omega
          have hj2 : (0 : Int) ≤ (j : Int) := by omega
          have hj3 : ¬ (j : Int) < 0 := by omega
          have hwj : wrap64 ((j : Int) + 1) = (j : Int) + 1 := by rw [wrap64_eq]; omega
          have cf : wr.cell? ⟨g, j, none⟩ = some (.string (five s j)) := cell_at HC0.out (by
            have h : j = 0 ∨ j = 1 ∨ j = 2 ∨ j = 3 ∨ j = 4 := by omega
            rcases h with rfl | rfl | rfl | rfl | rfl <;> rfl)
          have HF2 := Lib.hid (show ∀ M2, M2 = M + min (five s j).size 2049 → M2 ≤ 2048 → ∀ k, k < j + 1 → (five s k).size ≤ 2048 from fun M2 h1 h2 k hk => by
            rcases Nat.lt_or_ge k j with h | h
            · exact HF.out (by omega) k h
            · obtain rfl : k = j := by omega
              omega)
          generalize five s j = q at *
          obtain ⟨kk, hk⟩ : ∃ kk : Nat, min q.size 2049 = kk := ⟨_, rfl⟩
          have hk2 : kk ≤ 2049 := by omega
          have hk3 : min (q.size : Int) 2049 = (kk : Int) := by omega
          have hwn : wrap64 ((M : Int) + (kk : Int)) = (M : Int) + (kk : Int) := by rw [wrap64_eq]; omega
          rw [hk] at HF2
          clear hk
          go_wp2
          go_roundw
          case rel => exact ⟨j + 1, M + kk, hj5, inner_up hM hk2, by first | exact cast_one _ | (rw [hwj]; exact cast_one _), by first | exact cast_sum _ _ | (rw [hwn]; exact cast_sum _ _), by first | rfl | trivial, Lib.hid (HF2.out _ rfl)⟩
          case measure => first | (rw [intOf_lit, intOf_lit, hwj]; omega) | (rw [intOf_lit, intOf_lit]; omega)
        · have hj1 : ¬ (j : Int) < 5 := by omega
          have hj0 : j = 5 := by omega
          subst hj0
          have HBR := Lib.hid (show M + min mk 2049 ≤ 2048 → Brief s from fun h => five_brief (HF.out (by omega)) (by omega))
          obtain ⟨kk, hk⟩ : ∃ kk : Nat, min mk 2049 = kk := ⟨_, rfl⟩
          have hk2 : kk ≤ 2049 := by omega
          have hk3 : min (mk : Int) 2049 = (kk : Int) := by omega
          have hwn : wrap64 ((M : Int) + (kk : Int)) = (M : Int) + (kk : Int) := by rw [wrap64_eq]; omega
          rw [hk] at HBR
          clear hk
          go_wp2
          go_roundw
          case rel => exact ⟨i + 1, M + kk, g1, Nat.succ_le_succ g2, outer_up hM hk2, by first | exact cast_one _ | (rw [hwr]; exact cast_one _), by first | exact cast_sum _ _ | (rw [hwn]; exact cast_sum _ _), HB2, Lib.hid fun h => HQ.out (HBR.out h)⟩
          case measure => first | (rw [intOf_lit, intOf_lit, hwr]; omega) | (rw [intOf_lit, intOf_lit]; omega)
    · have hcc : (¬ (i : Int) < (n : Int)) ∨ ((i : Int) < (n : Int) ∧ ¬ (i : Int) ≤ 60) ∨ ((i : Int) < (n : Int) ∧ (i : Int) ≤ 60 ∧ ¬ (N : Int) ≤ 2048) := by omega
      by_cases p1 : (n : Int) ≤ 60
      · by_cases p2 : (N : Int) ≤ 2048
        · have HE := Lib.hid (show n ≤ 60 ∧ ∀ k, k < n → Brief (l.getD k zeroR) from ⟨by omega, fun k hk => HS.out (by omega) k (by omega)⟩)
          have f1 : ¬ (i : Int) < (n : Int) := by omega
          clear hc hcc
          go_wp2
          go_ret
          exact ShC.mk true (by first | rfl | simp) HB.out (fun _ => by rw [HN.out]; exact HE.out)
        · clear hc
          rcases hcc with f1 | ⟨f1, f2⟩ | ⟨f1, f2, f3⟩
          · go_wp2
            go_ret
            exact ShC.mk false (by first | rfl | simp) HB.out (fun h => by cases h)
          · omega
          · go_wp2
            go_ret
            exact ShC.mk false (by first | rfl | simp) HB.out (fun h => by cases h)
      · clear hc
        rcases hcc with f1 | ⟨f1, f2⟩ | ⟨f1, f2, f3⟩
        all_goals
          go_wp2
          go_ret
          exact ShC.mk false (by first | rfl | simp) HB.out (fun h => by cases h)
end Go.Proofs.YtmcooenafgihkaaGreatDoor
