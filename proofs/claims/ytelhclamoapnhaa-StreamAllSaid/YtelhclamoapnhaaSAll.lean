/- Windows, one behind the other's end, are all parts, each once, for all numbers of parts. -/
import Derived.Test.YtelhclamoapnhaaL
import Derived.Test.YtelhclamoapnhaaGD
namespace Go.Proofs.Ytelhclamoapnhaa
open Go.ChangeShapes Go.WideShapes Go.ChangeAt Go.RowKit Go.Proofs.YtelhclamoapnhaaW.PrintWords
set_option linter.unusedSimpArgs false
set_option linter.unusedVariables false
theorem addr_add (b o j : Nat) : (⟨b, o, none⟩ : Addr).add j = ⟨b, o + j, none⟩ := by unfold Addr.add; split <;> simp_all
theorem app_ints (w W : World) (v : Value) (l x : List Int) (A : Option Addr) (c : Nat) (HO : W.ownsRow w.heap.size 3 1 v l.length (l.map (Value.int .i64))) (HB : Below w.heap.size w W) (hA : IntsAt W A x) (hx : 0 < x.length) (hl : l.length + x.length ≤ 1000000) :
    ∃ (v2 : Value) (w2 : World), (Builtin.append_ #[29, 29] 29 #[v, .slice A x.length c]).run Try.prog W = .ok v2 w2 ∧ Hid (w2.ownsRow w.heap.size 3 1 v2 (l ++ x).length ((l ++ x).map (Value.int .i64))) ∧ Hid (Below w.heap.size w w2) ∧ Hid (∀ k, k < W.heap.size → ¬ v.ownBlock = some k → w2.heap[k]? = W.heap[k]?) := by
  obtain ⟨i0, hi, hzz⟩ := Option.map_eq_some_iff.1 (show (Try.prog.info? 3).map (fun i => (i.zero, i.size, i.bytes)) = some (some (.int .i64 0), 1, 8) by kernel_rfl)
  simp only [Prod.mk.injEq] at hzz
  obtain ⟨hz0, hz1, hz2⟩ := hzz
  have hbase : w.heap.size ≤ W.heap.size := HB.size
  obtain ⟨b, o, rfl, _⟩ := hA 0 hx
  obtain ⟨v2, w2, hr, hown, hg, _, _⟩ := run_append_own_at (P := Try.prog) W w.heap.size 29 29 3 i0 (.int .i64 0) 1 8 Try.underlying29 hi hz0 hz1 hz2 rfl (by decide) v l.length (l.map (Value.int .i64)) HO ⟨b, o, none⟩ x.length c (x.map (Value.int .i64)) (by rw [List.length_map]; omega)
    (fun j u hu => by
      rw [List.getElem?_map, Option.map_eq_some_iff] at hu
      obtain ⟨y, hy, rfl⟩ := hu
      obtain ⟨hj, _⟩ := List.getElem?_eq_some_iff.1 hy
      obtain ⟨b', o', e, h0⟩ := hA j hj
      injection e with e
      injection e with e1 e2
      rw [addr_add, e1, e2, h0, List.getD_eq_getElem?_getD, hy]
      rfl) (fun u hu => by
      rw [List.mem_map] at hu
      obtain ⟨y, _, rfl⟩ := hu
      rfl) (by simp only [maxLen]; omega) (by omega) hbase
  have own_b : ∀ k, v.ownBlock = some k → w.heap.size ≤ k := fun k hk => by
    obtain ⟨_, ⟨rfl, _⟩ | ⟨g, cap, cur, rfl, hb, _⟩⟩ := HO
    · simp [Value.ownBlock] at hk
    · have : g = k := by simpa [Value.ownBlock] using hk
      omega
  refine ⟨v2, w2, hr, Lib.hid ?_, Lib.hid (HB.grown hg hbase own_b), Lib.hid fun k hk hne => hg.block k hk (fun e => hne e.symm)⟩
  rw [List.length_append, List.map_append]
  exact hown
/-- The numbers from 0 on. -/
def upTo (n : Nat) : List Int := (List.range n).map fun k : Nat => (k : Int)
theorem upTo_len (n : Nat) : (upTo n).length = n := by simp [upTo]
theorem upTo_at (n i : Nat) (h : i < n) : (upTo n).getD i 0 = (i : Int) := by
  unfold upTo
  rw [List.getD_eq_getElem?_getD, List.getElem?_map, List.getElem?_range h]
  rfl
theorem upTo_win (n a : Nat) (h : a < n) : ∃ m : Nat, 1 ≤ m ∧ m ≤ 4 ∧ a + m ≤ n ∧ (winR (a : Int) (n : Int)).length = m ∧ upTo a ++ winR (a : Int) (n : Int) = upTo (a + m) ∧ (winR (a : Int) (n : Int)).getD (m - 1) 0 = ((a + m - 1 : Nat) : Int) := by
  obtain ⟨m, hm⟩ : ∃ m, (min (4 - (a : Int) % 4) ((n : Int) - (a : Int))).toNat = m := ⟨_, rfl⟩
  have hw : winR (a : Int) (n : Int) = (List.range m).map (fun k : Nat => (a : Int) + (k : Int)) := by
    unfold winR
    rw [if_pos (by omega), hm]
  refine ⟨m, by omega, by omega, by omega, by rw [hw]; simp, ?_, ?_⟩
  · rw [hw]
    unfold upTo
    rw [List.range_add, List.map_append, List.map_map]
    congr 1
  · rw [hw, List.getD_eq_getElem?_getD, List.getElem?_map, List.getElem?_range (by omega)]
    simp
    try omega
theorem u64_mod (x : Int) : ∃ N : Nat, 1 ≤ N ∧ N ≤ 200 ∧ wrap64 (1 + wrap64 (Int.tmod (IntKind.u64.wrap x) 200)) = (N : Int) := by
  have h0 : 0 ≤ IntKind.u64.wrap x := by
    simp [IntKind.wrap, IntKind.signed, IntKind.bits]
    omega
  rw [Int.tmod_eq_emod_of_nonneg h0]
  refine ⟨(1 + (IntKind.u64.wrap x) % 200).toNat, by omega, by omega, ?_⟩
  rw [wrap64_eq, wrap64_eq]
  omega
/-- So many numbers of a window, in a slice of their own. -/
def NewM (l : List Int) (m : Nat) (w : World) (e : Ending) (w' : World) : Prop := ∃ (A : Option Addr) (c : Nat), e = .returned (.slice A m c) ∧ Hid (Below w.heap.size w w') ∧ Hid (IntsAt w' A l) ∧ Hid (∀ ad, A = some ad → w.heap.size ≤ ad.block)
theorem own_open {w w' : World} {v : Value} {a : Nat} (ho : w'.ownsRow w.heap.size 3 1 v (upTo a).length ((upTo a).map (Value.int .i64))) (hb : Below w.heap.size w w') : ∃ (A : Option Addr) (c : Nat), v = .slice A a c ∧ Hid (IntsAt w' A (upTo a)) := by
  obtain ⟨A, c, he, _, hi, _, _⟩ := NewI.own ho hb
  rw [upTo_len] at he
  injection he with he
  exact ⟨A, c, he, hi⟩
theorem app_win (w W wr : World) (a m : Nat) (r : List Int) (A0 A1 : Option Addr) (c0 c1 : Nat) (HO : wr.ownsRow w.heap.size 3 1 (.slice A0 a c0) (upTo a).length ((upTo a).map (Value.int .i64))) (HB : Below w.heap.size w wr) (HB1 : Below wr.heap.size wr W) (hA : IntsAt W A1 r) (hf : ∀ ad, A1 = some ad → wr.heap.size ≤ ad.block)
    (hr : r.length = m) (hm : 1 ≤ m) (ha : a + m ≤ 1000000) (hu : upTo a ++ r = upTo (a + m)) :
    ∃ (v2 : Value) (w2 : World), (Builtin.append_ #[29, 29] 29 #[.slice A0 a c0, .slice A1 m c1]).run Try.prog W = .ok v2 w2 ∧ Hid (w2.ownsRow w.heap.size 3 1 v2 (upTo (a + m)).length ((upTo (a + m)).map (Value.int .i64))) ∧ Hid (Below w.heap.size w w2) ∧ Hid (IntsAt w2 A1 r) := by
  have HO1 : W.ownsRow w.heap.size 3 1 (.slice A0 a c0) (upTo a).length ((upTo a).map (Value.int .i64)) := own_same HO fun g _ hg => HB1.block g hg
  obtain ⟨v2, w2, h1, h2, h3, h4⟩ := app_ints w W (.slice A0 a c0) (upTo a) r A1 c1 HO1 (below_tr HB HB1) hA (by omega) (by rw [upTo_len]; omega)
  rw [hr] at h1
  rw [hu] at h2
  refine ⟨v2, w2, h1, h2, h3, Lib.hid fun i hi => ?_⟩
  obtain ⟨b, o, e, h0⟩ := hA i hi
  subst e
  have hb := hf _ rfl
  have hlt := World.block_lt_of_cell? W _ h0
  refine ⟨b, o, rfl, ?_⟩
  rw [← h0]
  have hk := h4.out b hlt (fun e => by
    obtain ⟨_, ⟨hv, _⟩ | ⟨g, cap, cur, hv, hg, h6, _⟩⟩ := HO
    · rw [hv] at e; simp [Value.ownBlock] at e
    · rw [hv] at e
      have hgb : g = b := by simpa [Value.ownBlock] using e
      have := (Array.getElem?_eq_some_iff.1 h6).1
      simp only at hb
      omega)
  unfold World.cell?
  simp only [hk]
set_option maxHeartbeats 8000000 in
set_option maxRecDepth 100000 in
theorem streamAll_calls (x : Int) (wx : I64 x) (w : World) : Calls Try.prog 6 #[.int .i64 x] w (Ret (.bool true) w) := by
  obtain ⟨N, hN1, hN2, hN⟩ := u64_mod x
  go_enter Try.func6, Try.ntmps6
  go_wp2
  rw [hN]
  clear hN
  go_loopw [4, 5, 6] (fun v4 v5 v6 wr => ∃ (a : Nat), a ≤ N ∧ v5 = .int .i64 (a : Int) ∧ Hid (wr.ownsRow w.heap.size 3 1 v4 (upTo a).length ((upTo a).map (Value.int .i64))) ∧ Hid (Below w.heap.size w wr)) (fun _ i _ _ => ((N : Int) - intOf i).toNat)
  case atStart => exact ⟨0, Nat.zero_le _, rfl, Lib.hid ⟨rfl, Or.inl ⟨rfl, rfl⟩⟩, Lib.hid (Below.refl _ _)⟩
  case round =>
    obtain ⟨a, ha, rfl, HO, HB⟩ := hrel
    obtain ⟨A0, c0, rfl, HI0⟩ := own_open HO.out HB.out
    by_cases haN : a = N
    · subst haN
      have hnn : ¬ (a : Int) < (a : Int) := by omega
      clear HO
      go_wp2
      go_loop [7, 8, 46] (fun v7 v8 v46 => ∃ (i : Nat), i ≤ a ∧ v46 = .int .i64 (i : Int)) (fun _ _ i => ((a : Int) - intOf i).toNat)
      case atStart => exact ⟨0, Nat.zero_le _, rfl⟩
      case round =>
        obtain ⟨i, hi, rfl⟩ := hrel
        by_cases hin : i = a
        · subst hin
          go_wp2_with (go_at_call 13; (with_reducible refine (awake_any _).mono ?_); rintro e4 w4 ⟨rfl, j4, hw4⟩; have HBD := Lib.hid (show Below w.heap.size w w4 from below_tr HB.out (by rw [hw4]; exact w_ext_below _ _)); clear hw4)
          go_ret
          exact Ret.mk rfl HBD.out
        · have hlt : (i : Int) < (a : Int) := by omega
          have hge : (0 : Int) ≤ (i : Int) := by omega
          have hnl : ¬ (i : Int) < 0 := by omega
          have hwr : wrap64 ((i : Int) + 1) = ((i + 1 : Nat) : Int) := by rw [wrap64_eq]; omega
          obtain ⟨b, o, eA, h0⟩ := HI0.out i (by rw [upTo_len]; omega)
          rw [upTo_at a i (by omega)] at h0
          subst eA
          go_wp2
          go_round
          case rel => exact ⟨i + 1, by omega, by first | rfl | rw [hwr]⟩
          case measure => first | (simp [intOf]; omega) | (rw [intOf_lit, intOf_lit, hwr]; omega)
    · have hlt : (a : Int) < (N : Int) := by omega
      have hge : (a : Int) ≤ (N : Int) := by omega
      obtain ⟨m, hm1, hm4, hmN, hml, hmu, hmg⟩ := upTo_win N a (by omega)
      obtain ⟨k, rfl⟩ : ∃ k, m = k + 1 := ⟨m - 1, by omega⟩
      rw [Nat.add_sub_cancel] at hmg
      have H15 : Hid (∀ W, Calls Try.prog 15 #[.int .i64 (a : Int), .int .i64 (N : Int)] W (NewM (winR (a : Int) (N : Int)) (k + 1) W)) := Lib.hid fun W => (window_any (a : Int) (N : Int) W (by omega) (by omega)).mono fun e w' h => by
        obtain ⟨A, c, he, h1, h2, _, h4⟩ := h
        rw [hml] at he
        exact ⟨A, c, he, h1, h2, Lib.hid h4.out.2⟩
      generalize winR (a : Int) (N : Int) = r at *
      have HR := Lib.hid hml
      have HU := Lib.hid hmu
      have HL : Hid (r.getD k 0 = ((a + k : Nat) : Int)) := Lib.hid (by rw [hmg]; congr 1)
      clear hml hmu hmg
      have hz1 : ((k : Int) + 1 == 0) = false := beq_eq_false_iff_ne.2 (by omega)
      have hz4 : ¬ (4 : Int) < (k : Int) + 1 := by omega
      go_wp2_with (first | (go_at_call 15; (with_reducible refine (H15.out _).mono ?_); rintro e1 w1 ⟨A1, c1, rfl, HB1, HI1, HF1⟩; obtain ⟨v2, w2, happ, HO2, HB2, HI2⟩ := app_win w w1 wr a (k + 1) r A0 A1 c0 c1 HO.out HB.out HB1.out HI1.out HF1.out HR.out (by omega) (by omega) HU.out; obtain ⟨b1, o1, hA1, hl1⟩ := HI2.out k (by rw [HR.out]; omega); rw [HL.out] at hl1; subst hA1) | (at_builtin; refine app_step 29 _ _ rfl rfl rfl rfl rfl happ ?_))
      go_roundw
      case rel => exact ⟨a + (k + 1), by omega, by congr 1, HO2, HB2⟩
      case measure => rw [intOf_lit, intOf_lit]; omega

set_option maxRecDepth 100000 in
theorem streamAll_lifted (os : Os) (started : os.Started) (H : Type) (enc : TypeId × Value → H) :
    ReturnsInHanded {} Try.checked os 6 .any (Rows.streamAllSpec.pre6 enc Try.prog Try.f6 Rows.streamAllRow.domain false) (Rows.streamAllSpec.post enc Try.prog Try.f6 false true false false) := by
  refine returnsInHanded_of_change (C := Try.checked) Try.own started (by kernel_rfl) Try.func6
    (ChangeSpec.witness6 (enc := enc) (C := Try.checked) false ⟨#[], #[.int .i64 0], []⟩ 8 (by kernel_rfl) (by kernel_rfl) (by kernel_rfl) (by kernel_rfl)) ?_
  intro W base args ds gs before hval0 hW hcnd _
  have hval : ∀ (j : Nat) t v, Try.f6.params[j]? = some t → args[j]? = some v → Value.okWide Try.prog W .any base t v := hval0
  have hW' := hW
  obtain ⟨p, q, hA0, hV, rfl, hfz, hnd⟩ := hW
  have hA : DataW.TrodAll enc Try.prog W 0 (fun _ => true) true Try.f6.params.toList args.toList ds p := hA0
  rw [Try.params6] at hA hval
  obtain ⟨v0, vs0, d0, ds0, p0, q0, hargs, rfl, rfl, h0, r0⟩ := trodAll_cons hA
  obtain ⟨rfl, rfl, rfl⟩ := trodAll_nil r0
  obtain rfl : args = #[v0] := by cases args; simp_all
  obtain ⟨rfl, rfl⟩ := trodVars_none hV
  obtain ⟨n0, rfl, wn0⟩ := open_i64 (hval 0 3 _ rfl rfl) h0
  refine (streamAll_calls n0 wn0 W).mono fun e W' ⟨he, j, hj⟩ => ?_
  subst he; subst hj
  exact ⟨_, rfl, law_post Try.laidOut (by kernel_rfl) rfl rfl rfl hW' (w_ext_below _ _)⟩

theorem streamAll_holds : Rows.StreamAllSaid :=
  OpenClaim.holds_of_wide 6 Try.f6 rfl rfl rfl rfl rfl rfl rfl ⟨rfl, rfl, rfl, rfl, rfl⟩ rfl rfl rfl rfl rfl (by kernel_rfl) Try.func6 (by kernel_rfl)
    (of_decide_eq_true (by kernel_rfl)) (by unfold Func.isWrapper; first | (rw [if_pos (by decide +kernel)]; kernel_rfl) | (rw [if_neg (by decide +kernel)]; exact ⟨rfl, rfl⟩))
    (fun os started H enc _ => streamAll_lifted os started H enc)
end Go.Proofs.Ytelhclamoapnhaa
