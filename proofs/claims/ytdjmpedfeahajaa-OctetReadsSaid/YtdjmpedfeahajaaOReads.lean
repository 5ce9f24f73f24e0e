/- Whatever is asked of any bytes is answered as the document says, up to where looking ends, and it ends so, for all bytes and all lists of questions. -/
import Derived.Test.YtdjmpedfeahajaaL
import Derived.Test.YtdjmpedfeahajaaO9
import Derived.Test.YtdjmpedfeahajaaDM
import Derived.Deep.SlicePairs
namespace Go.Proofs.Ytdjmpedfeahajaa
open Go.ChangeShapes Go.WideShapes Go.ChangeAt Go.RowKit Go.Proofs.YtdjmpedfeahajaaW.PrintWords Go.Proofs.YtdjmpedfeahajaaW.PrintMore
set_option linter.unusedSimpArgs false
set_option linter.unusedVariables false
open Go.Deep in
theorem open_looks2 {H : Type} {enc : TypeId × Value → H} {W : World} {base : Nat} {v : Value} {d : DataW H} {p : List MemPlace} (hval : Value.okWide Try.prog W .any base 67 v) (h : DataW.Trod enc Try.prog W 0 (fun _ => true) true 67 v d p) :
    ∃ (A : Option Addr) (n c : Nat), v = .slice A n c ∧ LooksIn W A n ∧ n ≤ c := by
  obtain ⟨a0, len0, cap0, rfl⟩ := okWide_slice Try.underlying67 hval
  obtain ⟨fuel, hf⟩ := h
  refine ⟨a0, len0, cap0, rfl, ?_⟩
  rcases open_slice_pairs Try.underlying67 Try.underlying84 (by kernel_rfl) (by kernel_rfl) (by kernel_rfl) (by kernel_rfl) (by kernel_rfl) hf with ⟨hcs, _⟩ | ⟨a, len, cap, m, k, V0, V1, D0, D1, P0, P1, hcs, _, hl, _, hm, _, hc⟩
  · simp [Value.cells] at hcs
    obtain ⟨rfl, rfl, rfl⟩ := hcs
    exact ⟨fun i hi => by omega, Nat.le_refl _⟩
  · simp [Value.cells] at hcs
    obtain ⟨rfl, rfl, rfl⟩ := hcs
    refine ⟨fun i hi => ?_, hl⟩
    obtain ⟨h0, h1, t0, t1⟩ := hc i (by rw [hm]; split <;> omega)
    obtain ⟨f0, e0, _⟩ := DataW.trod_int Try.underlying3 t0
    obtain ⟨f1, e1, _⟩ := DataW.trod_int Try.underlying3 t1
    injection e0 with e0
    injection e1 with e1
    rw [e0] at h0
    rw [e1] at h1
    obtain ⟨ab, ao, sp⟩ := a
    have h00 := (hc 0 (by rw [hm]; split <;> omega)).1
    have hs : sp = none := by simpa [Addr.add] using World.cell?_spot h00
    subst hs
    rw [Addr.add_lit] at h0 h1
    exact ⟨ab, ao, f0, f1, rfl, h0, h1⟩
theorem str_size11 (l : List Int) : (strOfNums l).size = l.length := by
  have h : (strOfNums l).data.toList.length = l.length := by
    rw [← Lib.toList_data, Lib.strOfNums_toList]
    simp [Lib.bytesOf]
  simpa using h
theorem size_nil11 (s : ByteArray) (h : s.size = 0) : s = ⟨#[]⟩ := by
  apply ByteArray.ext
  apply Array.eq_empty_of_size_eq_zero
  exact h
theorem octetReads_calls {w : World} (B : Option Addr) (d : Nat) (lb : List Int) (hB : ReadsB w B lb) (hd : lb.length ≤ d) (A : Option Addr) (n c : Nat) (hL : LooksIn w A n) (hc : n ≤ c) (w' : World) (e : w = w') :
    Calls Try.prog 15 #[.slice B lb.length d, .slice A n c] w' (Ret (.bool true) w') := by
  subst e
  obtain ⟨q, rfl, hQ⟩ := looksL_of w A n hL
  by_cases h1 : (8192 : Int) < (lb.length : Int)
  · exact reads_long B d lb A c q w hB hd hQ hc h1
  by_cases h2 : (100 : Int) < (q.length : Int)
  · exact reads_many B d lb A c q w hB hd hQ hc h1 h2
  have hq : q.length ≤ 100 := by omega
  obtain ⟨s0, sI⟩ : ∃ s0, strOfNums lb = s0 := ⟨_, rfl⟩
  have hsz : s0.size = lb.length := by rw [← sI, str_size11]
  have hs : s0.size ≤ 1000000 := by omega
  have hlen := runQ_len q s0 [] []
  obtain ⟨x, y, r, hr⟩ : ∃ x y r, runQ q s0 [] [] = (x, y, r) := ⟨_, _, _, rfl⟩
  rw [hr] at hlen
  simp only [List.length_nil, Nat.zero_add] at hlen
  have lx := Lib.hid (show x.length ≤ 100 by omega)
  have ly := Lib.hid (show y.length ≤ 100 by omega)
  cases r with
  | inl t =>
    obtain ⟨a', e1, l1, AL⟩ := also_all s0 q hs hq x y t hr
    by_cases ht : t.size = 0
    · obtain rfl := size_nil11 t ht
      exact reads_law B d lb A c q w hB hd hQ hc h1 h2 s0 sI x y false true false false (a' : Int) 0 (a' : Int) 0 0 rfl (Lib.hid AL) (Lib.hid (reads69_a A c q s0 hq x y hr)) (Lib.hid (end_all s0 (a' : Int) 0 (by omega))) lx ly
    · exact reads_law B d lb A c q w hB hd hQ hc h1 h2 s0 sI x y false true false true (a' : Int) 0 (a' : Int) 201 201 rfl (Lib.hid AL) (Lib.hid (reads69_b A c q s0 hq x y t ht hr)) (Lib.hid (end_more s0 (a' : Int) 0 (by omega))) lx ly
  | inr cc =>
    obtain ⟨a', AL⟩ := also_end s0 q hs hq x y cc hr
    exact reads_law B d lb A c q w hB hd hQ hc h1 h2 s0 sI x y true false true true (a' : Int) cc (a' : Int) cc cc rfl (Lib.hid AL) (Lib.hid (reads69_c A c q s0 hq x y cc hr)) (Lib.hid (end_done s0 (a' : Int) cc)) lx ly

set_option maxRecDepth 100000 in
theorem octetReads_lifted (os : Os) (started : os.Started) (H : Type) (enc : TypeId × Value → H) :
    ReturnsInHanded {} Try.checked os 15 .any (Rows.octetReadsSpec.pre6 enc Try.prog Try.f15 Rows.octetReadsRow.domain false) (Rows.octetReadsSpec.post enc Try.prog Try.f15 false true false false) := by
  refine returnsInHanded_of_change (C := Try.checked) Try.own started (by kernel_rfl) Try.func15
    (ChangeSpec.witness6 (enc := enc) (C := Try.checked) false ⟨#[], #[.slice none 0 0, .slice none 0 0], []⟩ 8 (by kernel_rfl) (by kernel_rfl) (by kernel_rfl) (by kernel_rfl)) ?_
  intro W base args ds gs before hval0 hW hcnd _
  have hval : ∀ (j : Nat) t v, Try.f15.params[j]? = some t → args[j]? = some v → Value.okWide Try.prog W .any base t v := hval0
  have hW' := hW
  obtain ⟨p, q, hA0, hV, rfl, hfz, hnd⟩ := hW
  have hA : DataW.TrodAll enc Try.prog W 0 (fun _ => true) true Try.f15.params.toList args.toList ds p := hA0
  rw [Try.params15] at hA hval
  obtain ⟨v0, vs0, d0, ds0, p0, q0, hargs, rfl, rfl, h0, r0⟩ := trodAll_cons hA
  obtain ⟨v1, vs1, d1, ds1, p1, q1, rfl, rfl, rfl, h1, r1⟩ := trodAll_cons r0
  obtain ⟨rfl, rfl, rfl⟩ := trodAll_nil r1
  obtain rfl : args = #[v0, v1] := by cases args; simp_all
  obtain ⟨rfl, rfl⟩ := trodVars_none hV
  obtain ⟨A0, c0, l0, rfl, R0, k0, f0⟩ := open_bytes (hval 0 43 _ rfl rfl) h0
  obtain ⟨A1, n1, c1, rfl, L1, k1⟩ := open_looks2 (hval 1 67 _ rfl rfl) h1
  refine (octetReads_calls A0 c0 l0 R0 k0 A1 n1 c1 L1 k1 W rfl).mono fun e W' ⟨he, j, hj⟩ => ?_
  subst he; subst hj
  exact ⟨_, rfl, law_post Try.laidOut (by kernel_rfl) rfl rfl rfl hW' (w_ext_below _ _)⟩

theorem octetReads_holds : Rows.OctetReadsSaid :=
  OpenClaim.holds_of_wide 15 Try.f15 rfl rfl rfl rfl rfl rfl rfl ⟨rfl, rfl, rfl, rfl, rfl⟩ rfl rfl rfl rfl rfl (by kernel_rfl) Try.func15 (by kernel_rfl)
    (of_decide_eq_true (by kernel_rfl)) (by unfold Func.isWrapper; first | (rw [if_pos (by decide +kernel)]; kernel_rfl) | (rw [if_neg (by decide +kernel)]; exact ⟨rfl, rfl⟩))
    (fun os started H enc _ => octetReads_lifted os started H enc)
end Go.Proofs.Ytdjmpedfeahajaa
