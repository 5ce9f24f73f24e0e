/- Helper lemmas: Put behind no bytes, the order of bytes, and reading one number of all bytes. No condition. -/
import Derived.Test.YtdjmpedfeahajaaQ3
import Derived.Lib.BytesEntry
namespace Go.Proofs.Ytdjmpedfeahajaa
open Go.RowKit Go.Proofs.YtdjmpedfeahajaaW.PrintWords

theorem put_any (n : Int) (k : Nat) (w : World) (h1 : 1 ≤ k) (h8 : k ≤ 8) : Calls Try.prog 47 #[.slice none 0 0, .int .i64 n, .int .i64 (k : Int)] w fun e w' => ∃ A c, e = .returned (.slice (some A) k c) ∧ ∃ j, w' = wext w j ∧ ReadsB (wext w j) (some A) (putL k n) := by
  refine (PVectorOrder.octet_Put.calls 9 none 0 [] n (k : Int) (putL k n) w ?_ (Nat.le_refl _) (put_pure [] n k h1 h8 (by simp))).mono ?_
  · exact (Kd.R_reads' (Kd.R_nil (Kd.int .u8) 5 w 0 (fun _ => True))).2.2
  · rintro e w' ⟨v, rfl, hR, hb⟩
    obtain ⟨j, rfl⟩ := w_ext_of_below hb
    obtain ⟨A, c, rfl, hc, hC⟩ := Kd.R_reads hR
    rw [putL_length] at hC ⊢
    obtain ⟨ad, rfl, _⟩ := hC.2.2 (by omega)
    exact ⟨ad, c, rfl, j, rfl, by unfold ReadsB; rw [putL_length]; exact hC⟩

theorem run_bytes {w : World} {A : Option Addr} {l : List Int} (h : ReadsB w A l) (c : Nat) {P : Program} : ∃ s : ByteArray, (Extern.Bytes.bytesOf (.slice A l.length c)).run P w = .ok s w ∧ s.data.toList = Lib.bytesOf l := by
  have hr := Kd.reads_of_C (enc := Value.int .u8) (d := (0 : Int)) (h1 := fun _ => rfl) h
  rcases A with _ | ad
  · have h0 : l.length = 0 := by
      rcases Nat.eq_zero_or_pos l.length with h0 | h0
      · exact h0
      · obtain ⟨ad, h', _⟩ := hr.2.2 h0
        cases h'
    obtain rfl : l = [] := List.eq_nil_of_length_eq_zero h0
    exact ⟨_, rfl, rfl⟩
  · refine ⟨_, Lib.run_loadBytesX w l ad .empty (fun j x hj => ?_), by simp [ByteArray.empty, ByteArray.emptyWithCapacity]; try rfl⟩
    have hjl : j < l.length := by
      rcases Nat.lt_or_ge j l.length with h' | h'
      · exact h'
      · rw [List.getElem?_eq_none h'] at hj; cases hj
    obtain ⟨ad', he', hc⟩ := hr.2.2 (by omega)
    injection he' with he'
    subst he'
    rw [hc j hjl]
    rw [List.getElem?_eq_getElem hjl] at hj
    simp at hj
    subst hj
    simp [List.getD_eq_getElem?_getD, List.getElem?_eq_getElem hjl]
theorem run_compare {w : World} {A B : Option Addr} {l m : List Int} (hA : ReadsB w A l) (hB : ReadsB w B m) (c d : Nat) {P : Program} :
    (Extern.BytealgCompare.compare #[.slice A l.length c, .slice B m.length d]).run P w = .ok (.int .i64 (Lib.compareBytes (Lib.bytesOf l) (Lib.bytesOf m))) w := by
  obtain ⟨s, h1, e1⟩ := run_bytes hA c (P := P)
  obtain ⟨t, h2, e2⟩ := run_bytes hB d (P := P)
  change Sem.run P (do pure (goInt (Extern.BytealgCompare.cmp (← Extern.Bytes.bytesOf (.slice A l.length c)) (← Extern.Bytes.bytesOf (.slice B m.length d))))) w = _
  simp only [Sem.run_bind, Sem.run_pure, Result.andThen, h1, h2]
  rw [Lib.cmp_eq, e1, e2]
  rfl

set_option maxRecDepth 100000 in
theorem compare_any (w : World) (A B : Option Addr) (l m : List Int) (c d : Nat) (hA : ReadsB w A l) (hB : ReadsB w B m) :
    Calls Try.prog 40 #[.slice A l.length c, .slice B m.length d] w (Ret (.int .i64 (Lib.compareBytes (Lib.bytesOf l) (Lib.bytesOf m))) w) := by
  go_enter Try.func40, Try.ntmps40
  go_wp2
  rw [run_callFunc_extern Try.func84 (by kernel_rfl) (by kernel_rfl) (by kernel_rfl) (e := Extern.BytealgCompare.compare) (by kernel_rfl), run_compare hA hB]
  simp only [Result.andThen]
  rw [Oper.upon_value]
  go_wp2
  go_ret
  exact Ret.mk rfl (Below.refl _ _)

theorem strOfNums_size (l : List Int) : (strOfNums l).size = l.length := by
  have : (strOfNums l).data.toList = Lib.bytesOf l := by rw [← Lib.toList_data, Lib.strOfNums_toList]
  have h := congrArg List.length this
  rw [Lib.bytesOf_length] at h
  simpa using h
theorem extract_self (s : ByteArray) (k : Nat) : s.extract k k = ⟨#[]⟩ := by
  apply ByteArray.ext
  have := Lib.extract_toList s k k
  rw [Lib.toList_data, Nat.sub_self, List.take_zero] at this
  exact Array.toList_inj.1 this
theorem numOf_all (l : List Int) : numOf (strOfNums l) l.length = beNat (Lib.bytesOf l) := by
  unfold numOf
  have h1 := Lib.extract_toList (strOfNums l) 0 l.length
  rw [Lib.toList_data] at h1
  have : (strOfNums l).data.toList = Lib.bytesOf l := by rw [← Lib.toList_data, Lib.strOfNums_toList]
  rw [h1, this, List.drop_zero, Nat.sub_zero, List.take_of_length_le (by rw [Lib.bytesOf_length]; exact Nat.le_refl _)]

set_option maxHeartbeats 1000000 in
theorem look49 (b pw pn : Nat) (v0 : Value) (s : ByteArray) (k N : Nat) (w : World) (hr : w.cell? ⟨b, 0, none⟩ = some (.string s)) (ho : w.cell? ⟨b, 1, none⟩ = some (.bool true)) (hf : w.frozen? ⟨b, 0, none⟩ = false)
    (hw : w.cell? ⟨pw, 0, none⟩ = some (.int .i64 (k : Int))) (hn : w.cell? ⟨pn, 0, none⟩ = some v0) (hnf : w.frozen? ⟨pn, 0, none⟩ = false) (hne : ¬ pn = b)
    (h1 : 1 ≤ k) (h8 : k ≤ 8) (hk : k ≤ s.size) (hN : numOf s k = N) (hN2 : N < 9223372036854775808) (hx : s.extract k s.size = ⟨#[]⟩) :
    Calls Try.prog 49 #[eyeP b, .pointer (some ⟨pw, 0, none⟩), .pointer (some ⟨pn, 0, none⟩)] w fun e w' => e = .returned (.tuple #[]) ∧ ∃ j, w' = wext ((eyeSet w b ⟨#[]⟩).setCell ⟨pn, 0, none⟩ (.int .i64 (N : Int))) j := by
  have hlt := leB_of_cell hr
  have hlp := leB_of_cell hn
  go_enter Try.func49, Try.ntmps49
  go_wp2_with (go_at_call 50; refine (num_yes b s k _ (by go_cell) (by go_cell) hf (by omega) (by omega) (by omega) (by rw [hN]; omega)).mono ?_; rw [hN, hx]; rintro e1 w1 ⟨rfl, j1, rfl⟩)
  go_end0
  exact ⟨rfl, w_grown (by (repeat' (first | (with_reducible exact Below.refl _ _) | (with_reducible assumption) | (with_reducible exact below_app _ _ _ _) | (with_reducible refine Below.alloc ?_ ?_ _) | (with_reducible refine below_ext ?_ ?_ _) | (with_reducible refine Below.drew ?_) | (with_reducible refine below_drewN ?_ _) | (with_reducible refine Below.setCell ?_ ?_ _) | go_size)))⟩

set_option maxRecDepth 100000 in
set_option maxHeartbeats 2000000 in
theorem read49 (A : Option Addr) (c pw pn : Nat) (v0 : Value) (l : List Int) (N : Nat) (w : World) (hC : ReadsB w A l) (hw : w.cell? ⟨pw, 0, none⟩ = some (.int .i64 (l.length : Int))) (hn : w.cell? ⟨pn, 0, none⟩ = some v0) (hnf : w.frozen? ⟨pn, 0, none⟩ = false)
    (h1 : 1 ≤ l.length) (h8 : l.length ≤ 8) (hN : beNat (Lib.bytesOf l) = N) (hN2 : N < 9223372036854775808) :
    Calls Try.prog 48 #[.slice A l.length c, .func (.func 49) #[] #[.pointer (some ⟨pw, 0, none⟩), .pointer (some ⟨pn, 0, none⟩)]] w fun e w' => e = .returned (.int .i64 0) ∧ ∃ j, w' = wext (w.setCell ⟨pn, 0, none⟩ (.int .i64 (N : Int))) j := by
  have hlp := leB_of_cell hn
  have hlw := leB_of_cell hw
  have hlt := World.block_lt_of_cell? w _ hn
  simp only at hlt
  have hmf : ∀ (fn : Fn) (first cap : Array Value) (w : World), (Instr.makeFunc fn first cap).run Try.prog w = .ok (.func fn first cap) w := fun _ _ _ _ => rfl
  have hcv : ∀ o, (convert 43 9 (.slice A l.length c)).run Try.prog (w.alloc o) = .ok (.string (strOfNums l)) (w.alloc o) := fun o => conv_read hC c _ ((Below.refl _ _).alloc (Nat.le_refl _) o)
  have htn := toList_nil
  have hsz : (strOfNums l).size = l.length := strOfNums_size l
  have hx : (strOfNums l).extract l.length (strOfNums l).size = ⟨#[]⟩ := by rw [hsz]; exact extract_self _ _
  have hnum : numOf (strOfNums l) l.length = N := by rw [← hN]; exact numOf_all l
  have hnq : ∀ W, (binOp .neq 55 (.func (.func 49) #[] #[.pointer (some ⟨pw, 0, none⟩), .pointer (some ⟨pn, 0, none⟩)]) .nilFunc).run Try.prog W = .ok (.bool true) W := fun _ => by kernel_rfl
  go_enter_defers Try.func48, Try.ntmps48
  go_wp2_with (go_at_call 49; refine (look49 _ pw pn v0 (strOfNums l) l.length N _ (by go_cell) (by go_cell) (by simp [go_sem]) (by simp [go_sem, hlw, hw]) (by simp [go_sem, hlp, hn]) (by simp [go_sem, hlp, hnf]) (by omega) h1 h8 (by omega) hnum hN2 hx).mono ?_; rintro e1 w1 ⟨rfl, j1, rfl⟩)
  refine leaves_cons (f := 88) (args := #[.pointer (some ⟨w.heap.size + 1 + 1, 0, none⟩), .pointer (some ⟨w.heap.size, 0, none⟩)]) (by simp) (by simp [go_sem]) ?_
  refine (catch_idle (w.heap.size + 1 + 1) w.heap.size (w.heap.size + 1) _ (by simp [go_sem]) (by simp [go_sem]) (by simp [go_sem])).mono ?_
  rintro e u' w'' ⟨rfl, rfl, rfl⟩
  simp [Leaves, settle, results, Try.results48, go_sem]
  exact w_grown (by (repeat' (first | (with_reducible exact Below.refl _ _) | (with_reducible assumption) | (with_reducible exact below_app _ _ _ _) | (with_reducible refine Below.alloc ?_ ?_ _) | (with_reducible refine below_ext ?_ ?_ _) | (with_reducible refine Below.drew ?_) | (with_reducible refine below_drewN ?_ _) | (with_reducible refine Below.setCell ?_ ?_ _) | go_size)))
end Go.Proofs.Ytdjmpedfeahajaa
