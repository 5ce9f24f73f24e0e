/- Helper lemmas: bytes that a call returns, of its own; Put, PutText, both of the document, Clone and Equal, behind any bytes. No condition. -/
import Derived.Test.YtdjmpedfeahajaaQ4
import Derived.Test.YtdjmpedfeahajaaO8
import Derived.Test.YtdjmpedfeahajaaPEqualx1
import Derived.Test.YtdjmpedfeahajaaL
set_option linter.unusedSimpArgs false
namespace Go.Proofs.Ytdjmpedfeahajaa
open Go.RowKit Go.Proofs.YtdjmpedfeahajaaW.PrintWords Go.Proofs.YtdjmpedfeahajaaW.PrintLast Go.Proofs.YtdjmpedfeahajaaW.PrintMore
attribute [local go_sem] max2_int min2_int max_two min_two

theorem below_pre {w : World} {a b : List Obj} {m m' : Nat} (h : a <+: b) : Below (wext w ⟨a, m⟩).heap.size (wext w ⟨a, m⟩) (wext w ⟨b, m'⟩) := by
  obtain ⟨t, rfl⟩ := h
  exact below_app w ⟨a, m⟩ t m'
/-- The call returns bytes, and leaves all that lay before as it was. -/
def RetB (r : List Int) (w : World) (e : Ending) (w' : World) : Prop := ∃ (A : Option Addr) (c : Nat), e = .returned (.slice A r.length c) ∧ r.length ≤ c ∧ ∃ j : Junk, w' = wext w j ∧ ReadsB (wext w j) A r
theorem RetB.of_R {r : List Int} {w : World} {e : Ending} {w' : World} (h : ∃ v0 : Value, e = .returned v0 ∧ Kd.R (Kd.int .u8) 5 w' w.heap.size (fun _ => True) v0 r ∧ Below w.heap.size w w') : RetB r w e w' := by
  obtain ⟨v, rfl, hR, hb⟩ := h
  obtain ⟨j, rfl⟩ := w_ext_of_below hb
  obtain ⟨A, c, rfl, hc, hC⟩ := Kd.R_reads hR
  exact ⟨A, c, rfl, hc, j, rfl, hC⟩

theorem put_gen (A : Option Addr) (c : Nat) (l : List Int) (n k : Int) (w : World) (hA : ReadsB w A l) (hc : l.length ≤ c) (hl : l.length < 140737488355000) :
    Calls Try.prog 47 #[.slice A l.length c, .int .i64 n, .int .i64 k] w (RetB (putR l n k) w) :=
  (PVectorOrder.octet_Put.calls 9 A c l n k (putR l n k) w hA hc (put_all l n k hl)).mono fun _ _ h => RetB.of_R h
theorem rput_gen (A : Option Addr) (c : Nat) (l : List Int) (n k : Int) (w : World) (hA : ReadsB w A l) (hc : l.length ≤ c) (hl : l.length < 140737488355000) :
    Calls Try.prog 56 #[.slice A l.length c, .int .i64 n, .int .i64 k] w (RetB (putR l n k) w) :=
  (PPutText.crannogref01_Put.calls 10 A c l n k (putR l n k) w hA hc (rput_all l n k hl 10 (Nat.le_refl _))).mono fun _ _ h => RetB.of_R h
theorem rtext_gen (A : Option Addr) (c : Nat) (l : List Int) (s : ByteArray) (w : World) (hA : ReadsB w A l) (hc : l.length ≤ c) (hl : l.length < 140737488254000) :
    Calls Try.prog 58 #[.slice A l.length c, .string s] w (RetB (textR l s) w) :=
  (PPutText.crannogref01_PutText.calls (65535 + 10) A c l s (textR l s) w hA hc (rtext_all l s hl)).mono fun _ _ h => RetB.of_R h
theorem equal_gen (A B : Option Addr) (c d : Nat) (l : List Int) (w : World) (hA : ReadsB w A l) (hc : l.length ≤ c) (hB : ReadsB w B l) (hd : l.length ≤ d) :
    Calls Try.prog 55 #[.slice A l.length c, .slice B l.length d] w (Ret (.bool true) w) := by
  refine (PEqual.bytes_Equal.calls A c l B d l true w hA hc hB hd ?_).mono ?_
  · simp [PEqual.bytes_Equal.f]
  · rintro e w' ⟨rfl, hd⟩
    exact Ret.mk rfl hd.below

theorem bytesOf_extract (s : ByteArray) (n : Nat) : bytesOf (s.extract 0 n) = (bytesOf s).take n := by
  have h := Lib.extract_toList s 0 n
  rw [Lib.toList_data] at h
  unfold bytesOf
  rw [h, List.drop_zero, Nat.sub_zero, List.map_take]
set_option maxHeartbeats 2000000 in
set_option maxRecDepth 100000 in
theorem text_gen (A : Option Addr) (c : Nat) (l : List Int) (s : ByteArray) (w : World) (hA : ReadsB w A l) (hc : l.length ≤ c) (hl : l.length < 140737488254000) :
    Calls Try.prog 57 #[.slice A l.length c, .string s] w (RetB (textR l s) w) := by
  obtain ⟨m, hm⟩ : ∃ m : Nat, min s.size 65535 = m := ⟨_, rfl⟩
  have hm1 : min (s.size : Int) 65535 = (m : Int) := by omega
  have hm2 : (if (65535 : Int) < (s.size : Int) then (65535 : Int) else (s.size : Int)) = (m : Int) := by split <;> omega
  have hms : m ≤ s.size := by omega
  have hsz : (s.extract 0 m).size = m := by simp; omega
  have hlen : (putR l (m : Int) 2).length ≤ l.length + 8 := putR_length _ _ _
  go_enter Try.func57, Try.ntmps57
  go_wp2_with (first | (go_at_call 47; (with_reducible refine (PVectorOrder.octet_Put.calls 9 A c l (m : Int) 2 (putR l (m : Int) 2) _ hA hc (put_all l _ 2 (by omega))).mono ?_); rintro e1 w1 ⟨v1, rfl, hR1, hb1⟩) | (at_builtin; refine print_append_str (w0 := w) w.heap.size rfl (.tmp 13) _ 43 9 5 rfl Try.underlying43 Try.underlying9 PPutText.info5 v1 (putR l (m : Int) 2) (s.extract 0 m) rfl rfl (Kd.own_of_R hR1) hb1 (below_size hb1) (by omega) ?_; intro v2 w2 ho2 hb2 hg2))
  go_ret
  refine RetB.of_R ⟨_, rfl, ?_, hb2⟩
  have := Kd.R_of_own (h1 := fun _ => rfl) (ok := fun _ => True) ho2 (fun _ _ => trivial)
  rw [bytesOf_extract] at this
  unfold textR
  rw [hm]
  exact this

set_option maxHeartbeats 2000000 in
set_option maxRecDepth 100000 in
theorem clone_gen (A : Option Addr) (c : Nat) (l : List Int) (w : World) (hA : ReadsB w A l) (hc : l.length ≤ c) (hl : l.length < 140737488254000) :
    Calls Try.prog 54 #[.slice A l.length c] w (RetB l w) := by
  have qE : ∀ (w : World) (a : Option Addr) (n c n' c' : Nat), (binOp .eql 43 (.slice a n c) (.slice none n' c')).run Try.prog w = .ok (.bool a.isNone) w := fun w a n c n' c' => by simpa using Lib.run_eql_slice_nil w 43 _ a n c n' c' Try.underlying43
  rcases A with _ | ad
  · have h0 : l.length = 0 := by
      have hr := Kd.reads_of_C (enc := Value.int .u8) (d := (0 : Int)) (h1 := fun _ => rfl) hA
      rcases Nat.eq_zero_or_pos l.length with h0 | h0
      · exact h0
      · obtain ⟨ad, h', _⟩ := hr.2.2 h0
        cases h'
    obtain rfl : l = [] := List.eq_nil_of_length_eq_zero h0
    go_enter Try.func54, Try.ntmps54
    go_wp2
    go_ret
    exact ⟨none, 0, rfl, Nat.le_refl _, ⟨[], w.drawn⟩, by simp [wext], by simpa [wext] using hA⟩
  · go_enter Try.func54, Try.ntmps54
    go_wp2_with (first | (refine Kd.R_lit (Kd.int .u8) w.heap.size 5 rfl (N := 5) rfl (w0 := w) (xs := ([] : List Int)) (inner := []) (ok := fun _ => True) (okp := fun _ => True) ?hr (Reps.none _ _) (fun _ hk => hk) trivial (Below.refl _ _) (Nat.le_refl _) (by simp) ?_; (case hr => first | (go_simp; done) | (go_simp; rfl)); intro v1 w1 hR1 hb1 hg1 hn1) | (at_builtin; refine Kd.R_append_rows (Kd.int .u8) (w0 := w) w.heap.size rfl (.tmp 5) (.tmp 6) 43 5 (.int .u8 0) 1 rfl Try.underlying43 PPutText.info5 rfl (by decide) (by omega) v1 ([] : List Int) l _ _ _ (fun _ => True) (fun _ => False) rfl rfl hR1 (Kd.C_below hA hb1) (fun _ _ h => h) (fun _ h => h.elim) (fun _ _ => trivial) hb1 (below_size hb1) (by simp only [List.length_nil]; omega) ?_; intro v2 w2 hR2 hb2 hg2 hat2))
    go_ret
    exact RetB.of_R ⟨_, rfl, hR2, hb2⟩

open Go.ChangeShapes Go.WideShapes Go.ChangeAt in
/-- A slice of bytes that came in: its bytes, and that they can be read. -/
theorem open_bytes {H : Type} {enc : TypeId × Value → H} {W : World} {base : Nat} {v : Value} {d : DataW H} {p : List MemPlace} (hval : Value.okWide Try.prog W .any base 43 v) (h : DataW.Trod enc Try.prog W 0 (fun _ => true) true 43 v d p) :
    ∃ (A : Option Addr) (c : Nat) (l : List Int), v = .slice A l.length c ∧ ReadsB W A l ∧ l.length ≤ c ∧ l.length ≤ maxLen := by
  obtain ⟨a0, len0, cap0, rfl⟩ := okWide_slice Try.underlying43 hval
  obtain ⟨fuel, hf⟩ := h
  have : ∃ zs : List Int, (a0 = none ∧ len0 = 0 ∧ cap0 = 0 ∧ zs = []) ∨ ∃ x, a0 = some x ∧ len0 ≤ cap0 ∧ cap0 ≤ maxLen ∧ zs.length = cap0 ∧ (∀ i, i < zs.length → W.cell? (x.add i) = some (.int .u8 (zs.getD i 0))) ∧ ∀ n ∈ zs, (Lit.int .u8 n).wf = true := by
    rcases open_ints Try.underlying43 Try.underlying5 (by kernel_rfl) hf with ⟨hcs, _⟩ | ⟨x, l, c, zs, hcs, _, hl, hm, hz, _, hcell, hwz⟩
    · simp [Value.cells] at hcs
      obtain ⟨rfl, rfl, rfl⟩ := hcs
      exact ⟨[], .inl ⟨rfl, rfl, rfl, rfl⟩⟩
    · simp [Value.cells] at hcs
      obtain ⟨rfl, rfl, rfl⟩ := hcs
      exact ⟨zs, .inr ⟨_, rfl, hl, hm, by simpa using hz, hcell, hwz⟩⟩
  obtain ⟨zs, hz⟩ := this
  obtain ⟨l, rfl, hr, hm, hw, hc⟩ := ReadsInt.ofRowC hz
  exact ⟨a0, cap0, l, rfl, Kd.C_of_reads (d := (0 : Int)) (h1 := fun _ => rfl) hr, hc, hm⟩
end Go.Proofs.Ytdjmpedfeahajaa
