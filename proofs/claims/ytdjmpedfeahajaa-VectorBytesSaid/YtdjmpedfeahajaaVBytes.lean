/- Any vector and stamp as bytes, behind any, and those of any bytes, are as the document says, for all bytes, vectors and stamps. -/
import Derived.Test.YtdjmpedfeahajaaL
import Derived.Test.YtdjmpedfeahajaaO9
import Derived.Test.YtdjmpedfeahajaaCM
namespace Go.Proofs.Ytdjmpedfeahajaa
open Go.ChangeShapes Go.WideShapes Go.ChangeAt Go.RowKit Go.Proofs.YtdjmpedfeahajaaW.PrintWords Go.Proofs.YtdjmpedfeahajaaW.PrintMore
set_option linter.unusedSimpArgs false
set_option linter.unusedVariables false
theorem str_size (l : List Int) : (strOfNums l).size = l.length := by
  have h : (strOfNums l).data.toList.length = l.length := by
    rw [← Lib.toList_data, Lib.strOfNums_toList]
    simp [Lib.bytesOf]
  simpa using h
theorem size_nil (s : ByteArray) (h : s.size = 0) : s = ⟨#[]⟩ := by
  apply ByteArray.ext
  apply Array.eq_empty_of_size_eq_zero
  exact h
theorem vectorBytes_calls {w : World} (A : Option Addr) (c : Nat) (l : List Int) (hA : ReadsB w A l) (hc : l.length ≤ c) (n0 n1 n2 n3 n4 n5 n6 n7 t0 u0 : Int) (B : Option Addr) (d : Nat) (li : List Int) (hB : ReadsB w B li) (hd : li.length ≤ d) (w' : World) (e : w = w') :
    Calls Try.prog 17 #[.slice A l.length c, vec n0 n1 n2 n3 n4 n5 n6 n7, stamp t0 u0, .slice B li.length d] w' (Ret (.bool true) w') := by
  subst e
  by_cases h1 : (4096 : Int) < (l.length : Int)
  · exact bytes_long A c l n0 n1 n2 n3 n4 n5 n6 n7 t0 u0 B d li w hA hc hB hd h1
  by_cases h2 : (4096 : Int) < (li.length : Int)
  · exact bytes_long2 A c l n0 n1 n2 n3 n4 n5 n6 n7 t0 u0 B d li w hA hc hB hd h1 h2
  obtain ⟨s0, sI⟩ : ∃ s0, strOfNums li = s0 := ⟨_, rfl⟩
  have hsz : s0.size = li.length := by rw [← sI, str_size]
  have hs6 : s0.size ≤ 1000000 := by omega
  by_cases h7 : s0.size < 7
  · obtain ⟨t, who, a, RS⟩ := ref_stamp_short s0 h7
    exact bytes_no A c l n0 n1 n2 n3 n4 n5 n6 n7 t0 u0 B d li w hA hc hB hd h1 h2 s0 sI (Lib.hid fun py px => look81_s py px s0 (fun b w hr ho hf => seeS_short b s0 w hr ho hf h7)) t who a 201 true (Lib.hid RS) (Lib.hid (rsee_done s0 a))
  obtain ⟨t, s1, v0', z0⟩ := nx_get s0 6 (by omega) (by omega)
  obtain ⟨who, s2, v1', z1⟩ := nx_get s1 1 (by omega) (by omega)
  have y0 := Lib.hid v0'
  have y1 := Lib.hid v1'
  have e1 := (ref_num_nx s0 s1 0 6 t 0 hs6 (Nat.zero_le _) (by omega) (by omega) (by rw [extract_whole]; exact v0')).2.1
  have e2 : s2 = s0.extract 7 s0.size := (ref_num_nx s0 s2 6 1 who 0 hs6 (by omega) (by omega) (by omega) (by rw [← e1]; exact v1')).2.1
  by_cases hs : (isB (t : Int) (who : Int) = true ∨ (isB (t : Int) (who : Int) = false ∧ t = 0 ∧ who = 0))
  · have RS := ref_stamp_ok s0 s1 s2 t who hs6 v0' v1' hs
    by_cases h55 : s0.size < 55
    · exact bytes_no A c l n0 n1 n2 n3 n4 n5 n6 n7 t0 u0 B d li w hA hc hB hd h1 h2 s0 sI (Lib.hid fun py px => look81_v py px s0 s1 s2 t who y0 y1 hs (fun b w hr ho hf => see_short b s2 w hr ho hf (by omega))) t who 7 0 false (Lib.hid RS) (Lib.hid (rsee_short s0 (by omega) h55))
    · skip
      obtain ⟨m0, s3, v0, z2⟩ := nx_get s2 6 (by omega) (by omega)
      have x0 := Lib.hid v0
      obtain ⟨m1, s4, v1, z3⟩ := nx_get s3 6 (by omega) (by omega)
      have x1 := Lib.hid v1
      obtain ⟨m2, s5, v2, z4⟩ := nx_get s4 6 (by omega) (by omega)
      have x2 := Lib.hid v2
      obtain ⟨m3, s6, v3, z5⟩ := nx_get s5 6 (by omega) (by omega)
      have x3 := Lib.hid v3
      obtain ⟨m4, s7, v4, z6⟩ := nx_get s6 6 (by omega) (by omega)
      have x4 := Lib.hid v4
      obtain ⟨m5, s8, v5, z7⟩ := nx_get s7 6 (by omega) (by omega)
      have x5 := Lib.hid v5
      obtain ⟨m6, s9, v6, z8⟩ := nx_get s8 6 (by omega) (by omega)
      have x6 := Lib.hid v6
      obtain ⟨m7, s10, v7, z9⟩ := nx_get s9 6 (by omega) (by omega)
      have x7 := Lib.hid v7
      cases hg : goodB (m0 : Int) (m1 : Int) (m2 : Int) (m3 : Int) (m4 : Int) (m5 : Int) (m6 : Int) (m7 : Int) with
      | false =>
        exact bytes_no A c l n0 n1 n2 n3 n4 n5 n6 n7 t0 u0 B d li w hA hc hB hd h1 h2 s0 sI (Lib.hid fun py px => look81_v py px s0 s1 s2 t who y0 y1 hs (fun b w hr ho hf => see_no b s2 s3 s4 s5 s6 s7 s8 s9 s10 m0 m1 m2 m3 m4 m5 m6 m7 w hr ho hf x0 x1 x2 x3 x4 x5 x6 x7 hg)) t who 7 0 false (Lib.hid RS) (Lib.hid (rsee_not s0 s2 s3 s4 s5 s6 s7 s8 s9 s10 m0 m1 m2 m3 m4 m5 m6 m7 hs6 (by omega) e2 x0 x1 x2 x3 x4 x5 x6 x7 hg))
      | true =>
        by_cases h10 : s10.size = 0
        · exact bytes_ok A c l n0 n1 n2 n3 n4 n5 n6 n7 t0 u0 B d li w hA hc hB hd h1 h2 s0 s1 s2 s3 s4 s5 s6 s7 s8 s9 s10 m0 m1 m2 m3 m4 m5 m6 m7 t who sI y0 y1 x0 x1 x2 x3 x4 x5 x6 x7 hg hs (Lib.hid ⟨hs6, by omega⟩) (Lib.hid e2) (Lib.hid RS) (Lib.hid (size_nil s10 h10)) (Lib.hid (by omega))
        · exact bytes_more A c l n0 n1 n2 n3 n4 n5 n6 n7 t0 u0 B d li w hA hc hB hd h1 h2 s0 s1 s2 s3 s4 s5 s6 s7 s8 s9 s10 m0 m1 m2 m3 m4 m5 m6 m7 t who sI y0 y1 x0 x1 x2 x3 x4 x5 x6 x7 hg hs (Lib.hid ⟨hs6, by omega⟩) (Lib.hid e2) (Lib.hid RS) (Lib.hid h10) (Lib.hid (by omega))
  · have hb : isB (t : Int) (who : Int) = false := by
      cases h : isB (t : Int) (who : Int) with
      | true => exact absurd (Or.inl h) hs
      | false => rfl
    have hz : ¬ (t = 0 ∧ who = 0) := fun h => hs (Or.inr ⟨hb, h⟩)
    exact bytes_no A c l n0 n1 n2 n3 n4 n5 n6 n7 t0 u0 B d li w hA hc hB hd h1 h2 s0 sI (Lib.hid fun py px => look81_s py px s0 (fun b w hr ho hf => seeS_thr b s0 s1 s2 t who w hr ho hf y0 y1 hb hz)) t who 7 201 true (Lib.hid (ref_stamp_bad s0 s1 s2 t who hs6 v0' v1' hb hz)) (Lib.hid (rsee_done s0 7))

set_option maxRecDepth 100000 in
theorem vectorBytes_lifted (os : Os) (started : os.Started) (H : Type) (enc : TypeId × Value → H) :
    ReturnsInHanded {} Try.checked os 17 .any (Rows.vectorBytesSpec.pre6 enc Try.prog Try.f17 Rows.vectorBytesRow.domain false) (Rows.vectorBytesSpec.post enc Try.prog Try.f17 false true false false) := by
  refine returnsInHanded_of_change (C := Try.checked) Try.own started (by kernel_rfl) Try.func17
    (ChangeSpec.witness6 (enc := enc) (C := Try.checked) false ⟨#[], #[.slice none 0 0, .agg #[.int .i64 0, .int .i64 0, .int .i64 0, .int .i64 0, .int .i64 0, .int .i64 0, .int .i64 0, .int .i64 0], .agg #[.int .i64 0, .int .i64 0], .slice none 0 0], []⟩ 8 (by kernel_rfl) (by kernel_rfl) (by kernel_rfl) (by kernel_rfl)) ?_
  intro W base args ds gs before hval0 hW hcnd _
  have hval : ∀ (j : Nat) t v, Try.f17.params[j]? = some t → args[j]? = some v → Value.okWide Try.prog W .any base t v := hval0
  have hW' := hW
  obtain ⟨p, q, hA0, hV, rfl, hfz, hnd⟩ := hW
  have hA : DataW.TrodAll enc Try.prog W 0 (fun _ => true) true Try.f17.params.toList args.toList ds p := hA0
  rw [Try.params17] at hA hval
  obtain ⟨v0, vs0, d0, ds0, p0, q0, hargs, rfl, rfl, h0, r0⟩ := trodAll_cons hA
  obtain ⟨v1, vs1, d1, ds1, p1, q1, rfl, rfl, rfl, h1, r1⟩ := trodAll_cons r0
  obtain ⟨v2, vs2, d2, ds2, p2, q2, rfl, rfl, rfl, h2, r2⟩ := trodAll_cons r1
  obtain ⟨v3, vs3, d3, ds3, p3, q3, rfl, rfl, rfl, h3, r3⟩ := trodAll_cons r2
  obtain ⟨rfl, rfl, rfl⟩ := trodAll_nil r3
  obtain rfl : args = #[v0, v1, v2, v3] := by cases args; simp_all
  obtain ⟨rfl, rfl⟩ := trodVars_none hV
  obtain ⟨A0, c0, l0, rfl, R0, k0, f0⟩ := open_bytes (hval 0 43 _ rfl rfl) h0
  obtain ⟨xa1, xb1, xc1, xd1, xe1, xf1, xg1, xh1, rfl, wxa1, wxb1, wxc1, wxd1, wxe1, wxf1, wxg1, wxh1⟩ := open_vec (hval 1 23 _ rfl rfl) h1
  obtain ⟨t2, who2, rfl, wt2, ww2⟩ := open_stamp (hval 2 25 _ rfl rfl) h2
  obtain ⟨A3, c3, l3, rfl, R3, k3, f3⟩ := open_bytes (hval 3 43 _ rfl rfl) h3
  refine (vectorBytes_calls A0 c0 l0 R0 k0 xa1 xb1 xc1 xd1 xe1 xf1 xg1 xh1 t2 who2 A3 c3 l3 R3 k3 W rfl).mono fun e W' ⟨he, j, hj⟩ => ?_
  subst he; subst hj
  exact ⟨_, rfl, law_post Try.laidOut (by kernel_rfl) rfl rfl rfl hW' (w_ext_below _ _)⟩

theorem vectorBytes_holds : Rows.VectorBytesSaid :=
  OpenClaim.holds_of_wide 17 Try.f17 rfl rfl rfl rfl rfl rfl rfl ⟨rfl, rfl, rfl, rfl, rfl⟩ rfl rfl rfl rfl rfl (by kernel_rfl) Try.func17 (by kernel_rfl)
    (of_decide_eq_true (by kernel_rfl)) (by unfold Func.isWrapper; first | (rw [if_pos (by decide +kernel)]; kernel_rfl) | (rw [if_neg (by decide +kernel)]; exact ⟨rfl, rfl⟩))
    (fun os started H enc _ => vectorBytes_lifted os started H enc)
end Go.Proofs.Ytdjmpedfeahajaa
