/- Helper lemmas: a number in decimal digits, by the reference. No condition. -/
import Derived.Test.YtmcooenafgihkaaGreatDoorQ2
import Derived.Test.YtmcooenafgihkaaGreatDoorS7
import Derived.Test.YtmcooenafgihkaaGreatDoorP7
set_option linter.unusedSimpArgs false
set_option linter.unusedVariables false
namespace Go.Proofs.YtmcooenafgihkaaGreatDoor
open Go.RowKit

set_option maxHeartbeats 8000000 in
set_option maxRecDepth 100000 in
theorem digits_pos (n : Int) (u0 : Nat) (t : Bs) (w : World) (hn : ¬ n < 0) (HU : Hid (u0 < 18446744073709551616)) (hcv0 : IntKind.u64.wrap n = (u0 : Int)) (HR : Hid (t = Lib.decDigits u0)) : Calls Tryz.prog 43 #[.int .i64 n] w (fun e w' => e = .returned (str t) ∧ Below w.heap.size w w') := by
  go_enter Tryz.func43, Tryz.ntmps43
  go_wp2
  go_loopw [3, 4, 11] (fun v3 v4 v11 wr => ∃ (k u : Nat) (acc : ByteArray), k ≤ 20 ∧ v11 = .int .i64 (k : Int) ∧ v3 = .int .u64 (u : Int) ∧ v4 = .string acc ∧ Hid (∃ l : Bs, acc = ⟨l.toArray⟩ ∧ DigI u0 k u l) ∧ Hid (u < 18446744073709551616) ∧ Hid (Below w.heap.size w wr)) (fun _ _ k _ => ((20 : Int) - intOf k).toNat)
  case atStart => exact ⟨0, u0, ⟨#[]⟩, Nat.zero_le _, rfl, rfl, rfl, Lib.hid ⟨[], rfl, DigI.start u0 HU.out⟩, HU, Lib.hid (Below.refl _ _)⟩
  case round =>
    obtain ⟨k, u, acc, hk, rfl, rfl, rfl, HL, HUL, HB⟩ := hrel
    by_cases hin : k < 20
    · have hlt : (k : Int) < 20 := by omega
      have hwr : wrap64 ((k : Int) + 1) = ((k + 1 : Nat) : Int) := by rw [wrap64_eq]; omega
      have HU10 := Lib.hid (show u / 10 < 18446744073709551616 by have := HUL.out; omega)
      have q1 : ((u : Int)).tdiv 10 = ((u / 10 : Nat) : Int) := by rw [Int.tdiv_eq_ediv_of_nonneg (by omega)]; omega
      have q2 : ((u : Int)) / 10 = ((u / 10 : Nat) : Int) := by omega
      have q3 : ((u : Int)).tmod 10 = ((u % 10 : Nat) : Int) := by rw [Int.tmod_eq_emod_of_nonneg (by omega)]; omega
      have q4 : ((u : Int)) % 10 = ((u % 10 : Nat) : Int) := by omega
      obtain ⟨d, hd⟩ : ∃ d, u % 10 = d := ⟨_, rfl⟩
      obtain ⟨u2, hu2⟩ : ∃ u2, u / 10 = u2 := ⟨_, rfl⟩
      rw [hu2] at q1 q2 HU10
      rw [hd] at q3 q4
      have HD := Lib.hid hd
      have HU2 := Lib.hid hu2
      have hd10 : d < 10 := by omega
      have w1 : IntKind.u64.wrap (48 + (d : Int)) = 48 + (d : Int) := by show (48 + (d : Int)) % 18446744073709551616 = _; omega
      have w2 : (48 + (d : Int)) % 18446744073709551616 = 48 + (d : Int) := by omega
      have w3 : IntKind.u8.wrap (48 + (d : Int)) = 48 + (d : Int) := by show (48 + (d : Int)) % 256 = _; omega
      have w4 : (48 + (d : Int)) % 256 = 48 + (d : Int) := by omega
      have HCV := Lib.hid (fun W : World => conv_own (w := W.alloc (.cells #[.int .u8 (48 + (d : Int))] 5)) (B := 0) (v := .slice (some ⟨W.heap.size, 0, none⟩) 1 1) (l := [UInt8.ofNat (48 + d)]) (by
        have h := World.ownsRow_lit (base := 0) (e := 5) (size := 1) W #[.int .u8 (48 + (d : Int))] 1 (Nat.zero_le _) (by decide) rfl
        have e : Lib.byteCells [UInt8.ofNat (48 + d)] = [Value.int .u8 (48 + (d : Int))] := by
          show [Value.int .u8 ((UInt8.ofNat (48 + d)).toNat : Int)] = _
          rw [digit_nat d hd10]
          rfl
        unfold OwnB
        rw [e]; exact h))
      obtain ⟨cb, hcb⟩ : ∃ cb, UInt8.ofNat (48 + d) = cb := ⟨_, rfl⟩
      rw [hcb] at HCV
      have HCBD := Lib.hid hcb
      have hw5 : IntKind.u64.wrap (u2 : Int) = (u2 : Int) := by have := HU10.out; show (u2 : Int) % 18446744073709551616 = _; omega
      clear hd hu2 hcb
      have hcv : ∀ W : World, (convert 59 9 (.slice (some ⟨W.heap.size, 0, none⟩) 1 1)).run Tryz.prog (W.alloc (.cells #[.int .u8 (48 + (d : Int))] 5)) = .ok (.string ⟨#[cb]⟩) (W.alloc (.cells #[.int .u8 (48 + (d : Int))] 5)) := HCV.out
      have HAS := Lib.hid (show acc.size ≤ 20 by
        obtain ⟨l, rfl, _, _, h4⟩ := HL.out
        have : (⟨l.toArray⟩ : ByteArray).size = l.length := rfl
        omega)
      have hz : (9223372036854775807 < 1 + acc.size) = False := eq_false (by have := HAS.out; omega)
      by_cases hu0 : 0 < u
      · have HN := Lib.hid (show ∃ l : Bs, (⟨#[cb]⟩ : ByteArray) ++ acc = ⟨l.toArray⟩ ∧ DigI u0 (k + 1) u2 l by
          obtain ⟨l, h1, h2⟩ := HL.out
          refine ⟨cb :: l, app_bytes _ [cb] _ _ rfl h1, ?_⟩
          have := h2.put hin (Or.inl hu0)
          rw [HD.out, HU2.out, HCBD.out] at this
          exact this)
        go_wp2
        go_roundw
        case rel => exact ⟨k + 1, u2, _, hin, (by first | rw [hwr] | rfl), rfl, rfl, HN, HU10, Lib.hid (Below.alloc HB.out HB.out.size _)⟩
        case measure => rw [intOf_lit, intOf_lit]; omega
      · have hu00 : u = 0 := by omega
        have hd0 : decide (0 < u) = false := decide_eq_false hu0
        by_cases he : acc.size = 0
        · have HN := Lib.hid (show ∃ l : Bs, (⟨#[cb]⟩ : ByteArray) ++ acc = ⟨l.toArray⟩ ∧ DigI u0 (k + 1) u2 l by
            obtain ⟨l, h1, h2⟩ := HL.out
            refine ⟨cb :: l, app_bytes _ [cb] _ _ rfl h1, ?_⟩
            have hl : l = [] := by
              rw [h1] at he
              exact List.eq_nil_of_length_eq_zero he
            have := h2.put hin (Or.inr hl)
            rw [HD.out, HU2.out, HCBD.out] at this
            exact this)
          obtain rfl := empty_of_size he
          clear hu00
          go_wp2
          go_roundw
          case rel => exact ⟨k + 1, u2, _, hin, (by first | rw [hwr] | rfl), rfl, rfl, HN, HU10, Lib.hid (Below.alloc HB.out HB.out.size _)⟩
          case measure => rw [intOf_lit, intOf_lit]; omega
        · have hne := nonempty_of_size (show 0 < acc.size by omega)
          have HN := Lib.hid (show ∃ l : Bs, acc = ⟨l.toArray⟩ ∧ DigI u0 (k + 1) u2 l by
            obtain ⟨l, h1, h2⟩ := HL.out
            refine ⟨l, h1, ?_⟩
            have := h2.pass hin hu00 (fun e => he (by rw [h1, e]; rfl))
            rw [HU2.out] at this
            exact this)
          clear hu00
          go_wp2
          go_roundw
          case rel => exact ⟨k + 1, u2, _, hin, (by first | rw [hwr] | rfl), rfl, rfl, HN, HU10, HB⟩
          case measure => rw [intOf_lit, intOf_lit]; omega
    · obtain rfl : k = 20 := by omega
      have HE := Lib.hid (show acc = ⟨(Lib.decDigits u0).toArray⟩ by
        obtain ⟨l, h1, h2⟩ := HL.out
        rw [h1, h2.done])
      have HAS := Lib.hid (show acc.size ≤ 20 by
        obtain ⟨l, rfl, _, _, h4⟩ := HL.out
        have : (⟨l.toArray⟩ : ByteArray).size = l.length := rfl
        omega)
      have hz : (9223372036854775807 < 1 + acc.size) = False := eq_false (by have := HAS.out; omega)
      go_wp2
      go_ret
      exact ⟨by rw [HR.out, HE.out]; rfl, HB.out⟩
set_option maxHeartbeats 8000000 in
set_option maxRecDepth 100000 in
theorem digits_neg (n : Int) (x : Int) (u0 : Nat) (t : Bs) (w : World) (hn : n < 0) (HU : Hid (u0 < 18446744073709551616)) (hcv0 : IntKind.u64.wrap n = x) (hng : IntKind.u64.wrap (-x) = (u0 : Int)) (HR : Hid (t = 45 :: Lib.decDigits u0)) : Calls Tryz.prog 43 #[.int .i64 n] w (fun e w' => e = .returned (str t) ∧ Below w.heap.size w w') := by
  go_enter Tryz.func43, Tryz.ntmps43
  go_wp2
  go_loopw [3, 4, 11] (fun v3 v4 v11 wr => ∃ (k u : Nat) (acc : ByteArray), k ≤ 20 ∧ v11 = .int .i64 (k : Int) ∧ v3 = .int .u64 (u : Int) ∧ v4 = .string acc ∧ Hid (∃ l : Bs, acc = ⟨l.toArray⟩ ∧ DigI u0 k u l) ∧ Hid (u < 18446744073709551616) ∧ Hid (Below w.heap.size w wr)) (fun _ _ k _ => ((20 : Int) - intOf k).toNat)
  case atStart => exact ⟨0, u0, ⟨#[]⟩, Nat.zero_le _, rfl, rfl, rfl, Lib.hid ⟨[], rfl, DigI.start u0 HU.out⟩, HU, Lib.hid (Below.refl _ _)⟩
  case round =>
    obtain ⟨k, u, acc, hk, rfl, rfl, rfl, HL, HUL, HB⟩ := hrel
    by_cases hin : k < 20
    · have hlt : (k : Int) < 20 := by omega
      have hwr : wrap64 ((k : Int) + 1) = ((k + 1 : Nat) : Int) := by rw [wrap64_eq]; omega
      have HU10 := Lib.hid (show u / 10 < 18446744073709551616 by have := HUL.out; omega)
      have q1 : ((u : Int)).tdiv 10 = ((u / 10 : Nat) : Int) := by rw [Int.tdiv_eq_ediv_of_nonneg (by omega)]; omega
      have q2 : ((u : Int)) / 10 = ((u / 10 : Nat) : Int) := by omega
      have q3 : ((u : Int)).tmod 10 = ((u % 10 : Nat) : Int) := by rw [Int.tmod_eq_emod_of_nonneg (by omega)]; omega
      have q4 : ((u : Int)) % 10 = ((u % 10 : Nat) : Int) := by omega
      obtain ⟨d, hd⟩ : ∃ d, u % 10 = d := ⟨_, rfl⟩
      obtain ⟨u2, hu2⟩ : ∃ u2, u / 10 = u2 := ⟨_, rfl⟩
      rw [hu2] at q1 q2 HU10
      rw [hd] at q3 q4
      have HD := Lib.hid hd
      have HU2 := Lib.hid hu2
      have hd10 : d < 10 := by omega
      have w1 : IntKind.u64.wrap (48 + (d : Int)) = 48 + (d : Int) := by show (48 + (d : Int)) % 18446744073709551616 = _; omega
      have w2 : (48 + (d : Int)) % 18446744073709551616 = 48 + (d : Int) := by omega
      have w3 : IntKind.u8.wrap (48 + (d : Int)) = 48 + (d : Int) := by show (48 + (d : Int)) % 256 = _; omega
      have w4 : (48 + (d : Int)) % 256 = 48 + (d : Int) := by omega
      have HCV := Lib.hid (fun W : World => conv_own (w := W.alloc (.cells #[.int .u8 (48 + (d : Int))] 5)) (B := 0) (v := .slice (some ⟨W.heap.size, 0, none⟩) 1 1) (l := [UInt8.ofNat (48 + d)]) (by
        have h := World.ownsRow_lit (base := 0) (e := 5) (size := 1) W #[.int .u8 (48 + (d : Int))] 1 (Nat.zero_le _) (by decide) rfl
        have e : Lib.byteCells [UInt8.ofNat (48 + d)] = [Value.int .u8 (48 + (d : Int))] := by
          show [Value.int .u8 ((UInt8.ofNat (48 + d)).toNat : Int)] = _
          rw [digit_nat d hd10]
          rfl
        unfold OwnB
        rw [e]; exact h))
      obtain ⟨cb, hcb⟩ : ∃ cb, UInt8.ofNat (48 + d) = cb := ⟨_, rfl⟩
      rw [hcb] at HCV
      have HCBD := Lib.hid hcb
      have hw5 : IntKind.u64.wrap (u2 : Int) = (u2 : Int) := by have := HU10.out; show (u2 : Int) % 18446744073709551616 = _; omega
      clear hd hu2 hcb
      have hcv : ∀ W : World, (convert 59 9 (.slice (some ⟨W.heap.size, 0, none⟩) 1 1)).run Tryz.prog (W.alloc (.cells #[.int .u8 (48 + (d : Int))] 5)) = .ok (.string ⟨#[cb]⟩) (W.alloc (.cells #[.int .u8 (48 + (d : Int))] 5)) := HCV.out
      have HAS := Lib.hid (show acc.size ≤ 20 by
        obtain ⟨l, rfl, _, _, h4⟩ := HL.out
        have : (⟨l.toArray⟩ : ByteArray).size = l.length := rfl
        omega)
      have hz : (9223372036854775807 < 1 + acc.size) = False := eq_false (by have := HAS.out; omega)
      by_cases hu0 : 0 < u
      · have HN := Lib.hid (show ∃ l : Bs, (⟨#[cb]⟩ : ByteArray) ++ acc = ⟨l.toArray⟩ ∧ DigI u0 (k + 1) u2 l by
          obtain ⟨l, h1, h2⟩ := HL.out
          refine ⟨cb :: l, app_bytes _ [cb] _ _ rfl h1, ?_⟩
          have := h2.put hin (Or.inl hu0)
          rw [HD.out, HU2.out, HCBD.out] at this
          exact this)
        go_wp2
        go_roundw
        case rel => exact ⟨k + 1, u2, _, hin, (by first | rw [hwr] | rfl), rfl, rfl, HN, HU10, Lib.hid (Below.alloc HB.out HB.out.size _)⟩
        case measure => rw [intOf_lit, intOf_lit]; omega
      · have hu00 : u = 0 := by omega
        have hd0 : decide (0 < u) = false := decide_eq_false hu0
        by_cases he : acc.size = 0
        · have HN := Lib.hid (show ∃ l : Bs, (⟨#[cb]⟩ : ByteArray) ++ acc = ⟨l.toArray⟩ ∧ DigI u0 (k + 1) u2 l by
            obtain ⟨l, h1, h2⟩ := HL.out
            refine ⟨cb :: l, app_bytes _ [cb] _ _ rfl h1, ?_⟩
            have hl : l = [] := by
              rw [h1] at he
              exact List.eq_nil_of_length_eq_zero he
            have := h2.put hin (Or.inr hl)
            rw [HD.out, HU2.out, HCBD.out] at this
            exact this)
          obtain rfl := empty_of_size he
          clear hu00
          go_wp2
          go_roundw
          case rel => exact ⟨k + 1, u2, _, hin, (by first | rw [hwr] | rfl), rfl, rfl, HN, HU10, Lib.hid (Below.alloc HB.out HB.out.size _)⟩
          case measure => rw [intOf_lit, intOf_lit]; omega
        · have hne := nonempty_of_size (show 0 < acc.size by omega)
          have HN := Lib.hid (show ∃ l : Bs, acc = ⟨l.toArray⟩ ∧ DigI u0 (k + 1) u2 l by
            obtain ⟨l, h1, h2⟩ := HL.out
            refine ⟨l, h1, ?_⟩
            have := h2.pass hin hu00 (fun e => he (by rw [h1, e]; rfl))
            rw [HU2.out] at this
            exact this)
          clear hu00
          go_wp2
          go_roundw
          case rel => exact ⟨k + 1, u2, _, hin, (by first | rw [hwr] | rfl), rfl, rfl, HN, HU10, HB⟩
          case measure => rw [intOf_lit, intOf_lit]; omega
    · obtain rfl : k = 20 := by omega
      have HE := Lib.hid (show acc = ⟨(Lib.decDigits u0).toArray⟩ by
        obtain ⟨l, h1, h2⟩ := HL.out
        rw [h1, h2.done])
      have HAS := Lib.hid (show acc.size ≤ 20 by
        obtain ⟨l, rfl, _, _, h4⟩ := HL.out
        have : (⟨l.toArray⟩ : ByteArray).size = l.length := rfl
        omega)
      have hz : (9223372036854775807 < 1 + acc.size) = False := eq_false (by have := HAS.out; omega)
      go_wp2
      go_ret
      exact ⟨by rw [HR.out, HE.out]; exact congrArg (fun b : ByteArray => Ending.returned (Value.string b)) (app_bytes _ [45] _ _ rfl rfl), HB.out⟩
theorem u64_wrap (x : Int) : IntKind.u64.wrap x = x % 18446744073709551616 := rfl
theorem digits_any (n : Int) (h : I64 n) (w : World) : Calls Tryz.prog 43 #[.int .i64 n] w (fun e w' => e = .returned (str (Lib.itoa n)) ∧ Below w.heap.size w w') := by
  unfold I64 at h
  unfold Lib.itoa
  by_cases hn : n < 0
  · rw [if_pos hn]
    exact digits_neg n (n + 18446744073709551616) n.natAbs _ w hn (Lib.hid (by omega)) (by rw [u64_wrap]; omega) (by rw [u64_wrap]; omega) (Lib.hid rfl)
  · rw [if_neg hn]
    exact digits_pos n n.toNat _ w hn (Lib.hid (by omega)) (by rw [u64_wrap]; omega) (Lib.hid rfl)
end Go.Proofs.YtmcooenafgihkaaGreatDoor
