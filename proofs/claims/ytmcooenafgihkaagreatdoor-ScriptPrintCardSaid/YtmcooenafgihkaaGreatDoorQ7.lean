/- Helper lemmas: what stands in a line for a letter, by the reference. No condition. -/
import Derived.Test.YtmcooenafgihkaaGreatDoorQ5
import Derived.Test.YtmcooenafgihkaaGreatDoorQ6
import Derived.Test.YtmcooenafgihkaaGreatDoorP10
set_option linter.unusedSimpArgs false
set_option linter.unusedVariables false
namespace Go.Proofs.YtmcooenafgihkaaGreatDoor
open Go.RowKit

set_option maxHeartbeats 8000000 in
set_option maxRecDepth 100000 in
theorem field_r (kd rp nn ck off cn : Int) (vol dst path cto data : ByteArray) (AK : Value) (tm : Nat) (w : World) (T : ByteArray) (hz : (9223372036854775807 < 1 + T.size) = False) (HC : Hid (∀ W, Calls Tryz.prog 43 #[.int .i64 rp] W fun e w' => e = .returned (.string T) ∧ Below W.heap.size W w'))  : Calls Tryz.prog 52 #[.agg #[.int .i64 kd, .int .i64 rp, .string vol, .string dst, .int .i64 nn, AK, .int .i64 ck, .string path, .string cto, .int .i64 off, .int .i64 cn, .string data, f64 tm], .int .u8 114] w (fun e w' => e = .returned (.tuple #[.string ((⟨#[32]⟩ : ByteArray) ++ T), .bool true]) ∧ Below w.heap.size w w') := by
  have HB0 := Lib.hid (Below.alloc (Below.refl w.heap.size w) (Nat.le_refl _) (.cells #[.int .i64 kd, .int .i64 rp, .string vol, .string dst, .int .i64 nn, AK, .int .i64 ck, .string path, .string cto, .int .i64 off, .int .i64 cn, .string data, f64 tm] 33 (0, 0)))
  go_enter Tryz.func52, Tryz.ntmps52
  go_wp2_with (go_at_call 43; (with_reducible refine (HC.out _).mono ?_); rintro e1 w1 ⟨rfl, hb1⟩; have HB1 := Lib.hid (below_tr HB0.out hb1); clear hb1)
  go_ret2
  exact ⟨rfl, HB1.out⟩
set_option maxHeartbeats 8000000 in
set_option maxRecDepth 100000 in
theorem field_v (kd rp nn ck off cn : Int) (vol dst path cto data : ByteArray) (AK : Value) (tm : Nat) (w : World) (T : ByteArray) (hz : (9223372036854775807 < 1 + T.size) = False) (HC : Hid (∀ W, Calls Tryz.prog 27 #[.string vol] W fun e w' => e = .returned (.string T) ∧ Below W.heap.size W w'))  : Calls Tryz.prog 52 #[.agg #[.int .i64 kd, .int .i64 rp, .string vol, .string dst, .int .i64 nn, AK, .int .i64 ck, .string path, .string cto, .int .i64 off, .int .i64 cn, .string data, f64 tm], .int .u8 118] w (fun e w' => e = .returned (.tuple #[.string ((⟨#[32]⟩ : ByteArray) ++ T), .bool true]) ∧ Below w.heap.size w w') := by
  have HB0 := Lib.hid (Below.alloc (Below.refl w.heap.size w) (Nat.le_refl _) (.cells #[.int .i64 kd, .int .i64 rp, .string vol, .string dst, .int .i64 nn, AK, .int .i64 ck, .string path, .string cto, .int .i64 off, .int .i64 cn, .string data, f64 tm] 33 (0, 0)))
  go_enter Tryz.func52, Tryz.ntmps52
  go_wp2_with (go_at_call 27; (with_reducible refine (HC.out _).mono ?_); rintro e1 w1 ⟨rfl, hb1⟩; have HB1 := Lib.hid (below_tr HB0.out hb1); clear hb1)
  go_ret2
  exact ⟨rfl, HB1.out⟩
set_option maxHeartbeats 8000000 in
set_option maxRecDepth 100000 in
theorem field_N (kd rp nn ck off cn : Int) (vol dst path cto data : ByteArray) (AK : Value) (tm : Nat) (w : World) (T : ByteArray) (hz : (9223372036854775807 < 1 + T.size) = False) (HC : Hid (∀ W, Calls Tryz.prog 43 #[.int .i64 nn] W fun e w' => e = .returned (.string T) ∧ Below W.heap.size W w'))  : Calls Tryz.prog 52 #[.agg #[.int .i64 kd, .int .i64 rp, .string vol, .string dst, .int .i64 nn, AK, .int .i64 ck, .string path, .string cto, .int .i64 off, .int .i64 cn, .string data, f64 tm], .int .u8 78] w (fun e w' => e = .returned (.tuple #[.string ((⟨#[32]⟩ : ByteArray) ++ T), .bool true]) ∧ Below w.heap.size w w') := by
  have HB0 := Lib.hid (Below.alloc (Below.refl w.heap.size w) (Nat.le_refl _) (.cells #[.int .i64 kd, .int .i64 rp, .string vol, .string dst, .int .i64 nn, AK, .int .i64 ck, .string path, .string cto, .int .i64 off, .int .i64 cn, .string data, f64 tm] 33 (0, 0)))
  go_enter Tryz.func52, Tryz.ntmps52
  go_wp2_with (go_at_call 43; (with_reducible refine (HC.out _).mono ?_); rintro e1 w1 ⟨rfl, hb1⟩; have HB1 := Lib.hid (below_tr HB0.out hb1); clear hb1)
  go_ret2
  exact ⟨rfl, HB1.out⟩
set_option maxHeartbeats 8000000 in
set_option maxRecDepth 100000 in
theorem field_p (kd rp nn ck off cn : Int) (vol dst path cto data : ByteArray) (AK : Value) (tm : Nat) (w : World) (T : ByteArray) (hz : (9223372036854775807 < 1 + T.size) = False) (HC : Hid (∀ W, Calls Tryz.prog 27 #[.string path] W fun e w' => e = .returned (.string T) ∧ Below W.heap.size W w'))  : Calls Tryz.prog 52 #[.agg #[.int .i64 kd, .int .i64 rp, .string vol, .string dst, .int .i64 nn, AK, .int .i64 ck, .string path, .string cto, .int .i64 off, .int .i64 cn, .string data, f64 tm], .int .u8 112] w (fun e w' => e = .returned (.tuple #[.string ((⟨#[32]⟩ : ByteArray) ++ T), .bool true]) ∧ Below w.heap.size w w') := by
  have HB0 := Lib.hid (Below.alloc (Below.refl w.heap.size w) (Nat.le_refl _) (.cells #[.int .i64 kd, .int .i64 rp, .string vol, .string dst, .int .i64 nn, AK, .int .i64 ck, .string path, .string cto, .int .i64 off, .int .i64 cn, .string data, f64 tm] 33 (0, 0)))
  go_enter Tryz.func52, Tryz.ntmps52
  go_wp2_with (go_at_call 27; (with_reducible refine (HC.out _).mono ?_); rintro e1 w1 ⟨rfl, hb1⟩; have HB1 := Lib.hid (below_tr HB0.out hb1); clear hb1)
  go_ret2
  exact ⟨rfl, HB1.out⟩
set_option maxHeartbeats 8000000 in
set_option maxRecDepth 100000 in
theorem field_o (kd rp nn ck off cn : Int) (vol dst path cto data : ByteArray) (AK : Value) (tm : Nat) (w : World) (T : ByteArray) (hz : (9223372036854775807 < 1 + T.size) = False) (HC : Hid (∀ W, Calls Tryz.prog 43 #[.int .i64 off] W fun e w' => e = .returned (.string T) ∧ Below W.heap.size W w'))  : Calls Tryz.prog 52 #[.agg #[.int .i64 kd, .int .i64 rp, .string vol, .string dst, .int .i64 nn, AK, .int .i64 ck, .string path, .string cto, .int .i64 off, .int .i64 cn, .string data, f64 tm], .int .u8 111] w (fun e w' => e = .returned (.tuple #[.string ((⟨#[32]⟩ : ByteArray) ++ T), .bool true]) ∧ Below w.heap.size w w') := by
  have HB0 := Lib.hid (Below.alloc (Below.refl w.heap.size w) (Nat.le_refl _) (.cells #[.int .i64 kd, .int .i64 rp, .string vol, .string dst, .int .i64 nn, AK, .int .i64 ck, .string path, .string cto, .int .i64 off, .int .i64 cn, .string data, f64 tm] 33 (0, 0)))
  go_enter Tryz.func52, Tryz.ntmps52
  go_wp2_with (go_at_call 43; (with_reducible refine (HC.out _).mono ?_); rintro e1 w1 ⟨rfl, hb1⟩; have HB1 := Lib.hid (below_tr HB0.out hb1); clear hb1)
  go_ret2
  exact ⟨rfl, HB1.out⟩
set_option maxHeartbeats 8000000 in
set_option maxRecDepth 100000 in
theorem field_n (kd rp nn ck off cn : Int) (vol dst path cto data : ByteArray) (AK : Value) (tm : Nat) (w : World) (T : ByteArray) (hz : (9223372036854775807 < 1 + T.size) = False) (HC : Hid (∀ W, Calls Tryz.prog 43 #[.int .i64 cn] W fun e w' => e = .returned (.string T) ∧ Below W.heap.size W w'))  : Calls Tryz.prog 52 #[.agg #[.int .i64 kd, .int .i64 rp, .string vol, .string dst, .int .i64 nn, AK, .int .i64 ck, .string path, .string cto, .int .i64 off, .int .i64 cn, .string data, f64 tm], .int .u8 110] w (fun e w' => e = .returned (.tuple #[.string ((⟨#[32]⟩ : ByteArray) ++ T), .bool true]) ∧ Below w.heap.size w w') := by
  have HB0 := Lib.hid (Below.alloc (Below.refl w.heap.size w) (Nat.le_refl _) (.cells #[.int .i64 kd, .int .i64 rp, .string vol, .string dst, .int .i64 nn, AK, .int .i64 ck, .string path, .string cto, .int .i64 off, .int .i64 cn, .string data, f64 tm] 33 (0, 0)))
  go_enter Tryz.func52, Tryz.ntmps52
  go_wp2_with (go_at_call 43; (with_reducible refine (HC.out _).mono ?_); rintro e1 w1 ⟨rfl, hb1⟩; have HB1 := Lib.hid (below_tr HB0.out hb1); clear hb1)
  go_ret2
  exact ⟨rfl, HB1.out⟩
set_option maxHeartbeats 8000000 in
set_option maxRecDepth 100000 in
theorem field_d (kd rp nn ck off cn : Int) (vol dst path cto data : ByteArray) (AK : Value) (tm : Nat) (w : World) (T : ByteArray) (hz : (9223372036854775807 < 1 + T.size) = False) (HC : Hid (∀ W, Calls Tryz.prog 27 #[.string data] W fun e w' => e = .returned (.string T) ∧ Below W.heap.size W w'))  : Calls Tryz.prog 52 #[.agg #[.int .i64 kd, .int .i64 rp, .string vol, .string dst, .int .i64 nn, AK, .int .i64 ck, .string path, .string cto, .int .i64 off, .int .i64 cn, .string data, f64 tm], .int .u8 100] w (fun e w' => e = .returned (.tuple #[.string ((⟨#[32]⟩ : ByteArray) ++ T), .bool true]) ∧ Below w.heap.size w w') := by
  have HB0 := Lib.hid (Below.alloc (Below.refl w.heap.size w) (Nat.le_refl _) (.cells #[.int .i64 kd, .int .i64 rp, .string vol, .string dst, .int .i64 nn, AK, .int .i64 ck, .string path, .string cto, .int .i64 off, .int .i64 cn, .string data, f64 tm] 33 (0, 0)))
  go_enter Tryz.func52, Tryz.ntmps52
  go_wp2_with (go_at_call 27; (with_reducible refine (HC.out _).mono ?_); rintro e1 w1 ⟨rfl, hb1⟩; have HB1 := Lib.hid (below_tr HB0.out hb1); clear hb1)
  go_ret2
  exact ⟨rfl, HB1.out⟩
set_option maxHeartbeats 8000000 in
set_option maxRecDepth 100000 in
theorem field_s (kd rp nn ck off cn : Int) (vol dst path cto data : ByteArray) (AK : Value) (tm : Nat) (w : World) (T : ByteArray) (b : Bool) (hz : (9223372036854775807 < 1 + T.size) = False) (HC : Hid (∀ W, Calls Tryz.prog 25 #[f64 tm] W fun e w' => e = .returned (.tuple #[.string T, .bool b]) ∧ Below W.heap.size W w'))  : Calls Tryz.prog 52 #[.agg #[.int .i64 kd, .int .i64 rp, .string vol, .string dst, .int .i64 nn, AK, .int .i64 ck, .string path, .string cto, .int .i64 off, .int .i64 cn, .string data, f64 tm], .int .u8 115] w (fun e w' => e = .returned (.tuple #[.string ((⟨#[32]⟩ : ByteArray) ++ T), .bool b]) ∧ Below w.heap.size w w') := by
  have HB0 := Lib.hid (Below.alloc (Below.refl w.heap.size w) (Nat.le_refl _) (.cells #[.int .i64 kd, .int .i64 rp, .string vol, .string dst, .int .i64 nn, AK, .int .i64 ck, .string path, .string cto, .int .i64 off, .int .i64 cn, .string data, f64 tm] 33 (0, 0)))
  go_enter Tryz.func52, Tryz.ntmps52
  go_wp2_with (go_at_call 25; (with_reducible refine (HC.out _).mono ?_); rintro e1 w1 ⟨rfl, hb1⟩; have HB1 := Lib.hid (below_tr HB0.out hb1); clear hb1)
  go_ret2
  exact ⟨rfl, HB1.out⟩
set_option maxHeartbeats 8000000 in
set_option maxRecDepth 100000 in
theorem field_t1 (kd rp nn ck off cn : Int) (vol dst path cto data : ByteArray) (AK : Value) (tm : Nat) (w : World) (T : ByteArray) (hz : (9223372036854775807 < 1 + T.size) = False) (HC : Hid (∀ W, Calls Tryz.prog 27 #[.string cto] W fun e w' => e = .returned (.string T) ∧ Below W.heap.size W w')) (hk : (kd == 1) = true) : Calls Tryz.prog 52 #[.agg #[.int .i64 kd, .int .i64 rp, .string vol, .string dst, .int .i64 nn, AK, .int .i64 ck, .string path, .string cto, .int .i64 off, .int .i64 cn, .string data, f64 tm], .int .u8 116] w (fun e w' => e = .returned (.tuple #[.string ((⟨#[32]⟩ : ByteArray) ++ T), .bool true]) ∧ Below w.heap.size w w') := by
  have HB0 := Lib.hid (Below.alloc (Below.refl w.heap.size w) (Nat.le_refl _) (.cells #[.int .i64 kd, .int .i64 rp, .string vol, .string dst, .int .i64 nn, AK, .int .i64 ck, .string path, .string cto, .int .i64 off, .int .i64 cn, .string data, f64 tm] 33 (0, 0)))
  go_enter Tryz.func52, Tryz.ntmps52
  go_wp2_with (go_at_call 27; (with_reducible refine (HC.out _).mono ?_); rintro e1 w1 ⟨rfl, hb1⟩; have HB1 := Lib.hid (below_tr HB0.out hb1); clear hb1)
  go_ret2
  exact ⟨rfl, HB1.out⟩
set_option maxHeartbeats 8000000 in
set_option maxRecDepth 100000 in
theorem field_t (kd rp nn ck off cn : Int) (vol dst path cto data : ByteArray) (AK : Value) (tm : Nat) (w : World) (T : ByteArray) (hz : (9223372036854775807 < 1 + T.size) = False) (HC : Hid (∀ W, Calls Tryz.prog 27 #[.string dst] W fun e w' => e = .returned (.string T) ∧ Below W.heap.size W w')) (hk : (kd == 1) = false) : Calls Tryz.prog 52 #[.agg #[.int .i64 kd, .int .i64 rp, .string vol, .string dst, .int .i64 nn, AK, .int .i64 ck, .string path, .string cto, .int .i64 off, .int .i64 cn, .string data, f64 tm], .int .u8 116] w (fun e w' => e = .returned (.tuple #[.string ((⟨#[32]⟩ : ByteArray) ++ T), .bool true]) ∧ Below w.heap.size w w') := by
  have HB0 := Lib.hid (Below.alloc (Below.refl w.heap.size w) (Nat.le_refl _) (.cells #[.int .i64 kd, .int .i64 rp, .string vol, .string dst, .int .i64 nn, AK, .int .i64 ck, .string path, .string cto, .int .i64 off, .int .i64 cn, .string data, f64 tm] 33 (0, 0)))
  go_enter Tryz.func52, Tryz.ntmps52
  go_wp2_with (go_at_call 27; (with_reducible refine (HC.out _).mono ?_); rintro e1 w1 ⟨rfl, hb1⟩; have HB1 := Lib.hid (below_tr HB0.out hb1); clear hb1)
  go_ret2
  exact ⟨rfl, HB1.out⟩
/-- What a letter gives: the text, and whether it can be said. -/
def FieldV (R : Option Bs) : Value := .tuple #[str (32 :: R.getD []), .bool R.isSome]
theorem wd_size {t : Bs} (h : Wd t) : (9223372036854775807 < 1 + (⟨t.toArray⟩ : ByteArray).size) = False := eq_false (by
  have h1 := h.len
  have : (⟨t.toArray⟩ : ByteArray).size = t.length := rfl
  omega)
theorem sp_app (t : Bs) : (⟨#[32]⟩ : ByteArray) ++ ⟨t.toArray⟩ = ⟨(32 :: t).toArray⟩ := app_bytes _ [32] _ t rfl rfl
/-- The letters of the reference. -/
def isRL (c : UInt8) : Prop := c = 114 ∨ c = 118 ∨ c = 78 ∨ c = 112 ∨ c = 111 ∨ c = 110 ∨ c = 100 ∨ c = 115 ∨ c = 116
/-- The word of a letter. -/
def wordR (s : StepR) (c : UInt8) : Option Bs := if c = 114 then some (Lib.itoa s.rep) else if c = 118 then some (wordL s.vol.data.toList) else if c = 78 then some (Lib.itoa s.n) else if c = 112 then some (wordL s.path.data.toList) else if c = 111 then some (Lib.itoa s.off) else if c = 110 then some (Lib.itoa s.cn) else
  if c = 100 then some (wordL s.data.data.toList) else if c = 115 then timeL s.time else if s.kind = 1 then some (wordL s.cto.data.toList) else some (wordL s.dst.data.toList)
theorem wordR_fld (s : StepR) (c : UInt8) (h : isRL c) : fldR s c = (wordR s c).map fun t => [t] := by
  rcases h with rfl | rfl | rfl | rfl | rfl | rfl | rfl | rfl | rfl
  · simp [fldR, wordR]
  · simp [fldR, wordR]
  · simp [fldR, wordR]
  · simp [fldR, wordR]
  · simp [fldR, wordR]
  · simp [fldR, wordR]
  · simp [fldR, wordR]
  · simp [fldR, wordR]
  · by_cases hk : s.kind = 1 <;> simp [fldR, wordR, hk]
theorem wordR_wd {s : StepR} (hs : s.Fine) (hm : s.Small) {c : UInt8} {t : Bs} (hc : isRL c) (h : wordR s c = some t) : Wd t := by
  rcases hc with rfl | rfl | rfl | rfl | rfl | rfl | rfl | rfl | rfl
  · simp [wordR] at h; subst h; exact itoa_wd _ hs.rep
  · simp [wordR] at h; subst h; exact word_wd _ hm.vol
  · simp [wordR] at h; subst h; exact itoa_wd _ hs.n
  · simp [wordR] at h; subst h; exact word_wd _ hm.path
  · simp [wordR] at h; subst h; exact itoa_wd _ hs.off
  · simp [wordR] at h; subst h; exact itoa_wd _ hs.cn
  · simp [wordR] at h; subst h; exact word_wd _ hm.data
  · simp [wordR] at h; exact time_wd hs.time h
  · by_cases hk : s.kind = 1
    · simp [wordR, hk] at h; subst h; exact word_wd _ hm.cto
    · simp [wordR, hk] at h; subst h; exact word_wd _ hm.dst
theorem field_any (s : StepR) (AK : Value) (c : UInt8) (hs : s.Fine) (hm : s.Small) (hc : isRL c) (w : World) : Calls Tryz.prog 52 #[.agg #[.int .i64 s.kind, .int .i64 s.rep, .string s.vol, .string s.dst, .int .i64 s.n, AK, .int .i64 s.ck, .string s.path, .string s.cto, .int .i64 s.off, .int .i64 s.cn, .string s.data, f64 s.time], .int .u8 (c.toNat : Int)] w (fun e w' => e = .returned (FieldV (wordR s c)) ∧ Below w.heap.size w w') := by
  rcases hc with rfl | rfl | rfl | rfl | rfl | rfl | rfl | rfl | rfl
  · have h := field_r s.kind s.rep s.n s.ck s.off s.cn s.vol s.dst s.path s.cto s.data AK s.time w _ (wd_size (itoa_wd _ hs.rep)) (Lib.hid fun W => digits_any _ hs.rep W)
    rw [sp_app] at h; exact h
  · have h := field_v s.kind s.rep s.n s.ck s.off s.cn s.vol s.dst s.path s.cto s.data AK s.time w _ (wd_size (word_wd _ hm.vol)) (Lib.hid fun W => rword_any _ W hm.vol)
    rw [sp_app] at h; exact h
  · have h := field_N s.kind s.rep s.n s.ck s.off s.cn s.vol s.dst s.path s.cto s.data AK s.time w _ (wd_size (itoa_wd _ hs.n)) (Lib.hid fun W => digits_any _ hs.n W)
    rw [sp_app] at h; exact h
  · have h := field_p s.kind s.rep s.n s.ck s.off s.cn s.vol s.dst s.path s.cto s.data AK s.time w _ (wd_size (word_wd _ hm.path)) (Lib.hid fun W => rword_any _ W hm.path)
    rw [sp_app] at h; exact h
  · have h := field_o s.kind s.rep s.n s.ck s.off s.cn s.vol s.dst s.path s.cto s.data AK s.time w _ (wd_size (itoa_wd _ hs.off)) (Lib.hid fun W => digits_any _ hs.off W)
    rw [sp_app] at h; exact h
  · have h := field_n s.kind s.rep s.n s.ck s.off s.cn s.vol s.dst s.path s.cto s.data AK s.time w _ (wd_size (itoa_wd _ hs.cn)) (Lib.hid fun W => digits_any _ hs.cn W)
    rw [sp_app] at h; exact h
  · have h := field_d s.kind s.rep s.n s.ck s.off s.cn s.vol s.dst s.path s.cto s.data AK s.time w _ (wd_size (word_wd _ hm.data)) (Lib.hid fun W => rword_any _ W hm.data)
    rw [sp_app] at h; exact h
  · have hz : (9223372036854775807 < 1 + (⟨((timeL s.time).getD []).toArray⟩ : ByteArray).size) = False := by
      cases ht : timeL s.time with
      | none => exact eq_false (by decide)
      | some t => exact wd_size (time_wd hs.time ht)
    have h := field_s s.kind s.rep s.n s.ck s.off s.cn s.vol s.dst s.path s.cto s.data AK s.time w _ _ hz (Lib.hid fun W => rtime_any _ hs.time W)
    rw [sp_app] at h; exact h
  · by_cases hk : s.kind = 1
    · have h := field_t1 s.kind s.rep s.n s.ck s.off s.cn s.vol s.dst s.path s.cto s.data AK s.time w _ (wd_size (word_wd _ hm.cto)) (Lib.hid fun W => rword_any _ W hm.cto) (by simpa using hk)
      rw [sp_app] at h
      have e : wordR s 116 = some (wordL s.cto.data.toList) := by simp [wordR, hk]
      rw [e]; exact h
    · have h := field_t s.kind s.rep s.n s.ck s.off s.cn s.vol s.dst s.path s.cto s.data AK s.time w _ (wd_size (word_wd _ hm.dst)) (Lib.hid fun W => rword_any _ W hm.dst) (by simpa using hk)
      rw [sp_app] at h
      have e : wordR s 116 = some (wordL s.dst.data.toList) := by simp [wordR, hk]
      rw [e]; exact h
end Go.Proofs.YtmcooenafgihkaaGreatDoor
