/- The law on words: it returns true. No condition. -/
import Derived.Test.YtmcooenafgihkaaGreatDoorP19
import Derived.Test.YtmcooenafgihkaaGreatDoorQ5
set_option linter.unusedSimpArgs false
set_option linter.unusedVariables false
namespace Go.Proofs.YtmcooenafgihkaaGreatDoor
open Go.RowKit

theorem num_told (s : ByteArray) (w : World) (hs : s.size ≤ 30000000) (hg : Glob w) : Calls Tryz.prog 22 #[.string s] w (fun e w' => e = .returned (numV (numL s.data.toList)) ∧ Below w.heap.size w w') := number_any2 s w hs hg
set_option maxHeartbeats 8000000 in
set_option maxRecDepth 100000 in
theorem words_main (s u : ByteArray) (x : Nat) (w : World) (HG : Hid (GlobM w)) (hs : ¬ 2048 < (s.size : Int)) (hu : ¬ 2048 < (u.size : Int)) (n : Int) (b : Bool) (t : ByteArray) (c : Bool) (W : ByteArray)
    (HN : Hid (∀ V, Glob V → Calls Tryz.prog 22 #[.string u] V fun e w' => e = .returned (.tuple #[.int .i64 n, .bool b]) ∧ Below V.heap.size V w')) (HM : Hid (∀ V, Calls Tryz.prog 23 #[.string u] V fun e w' => e = .returned (.tuple #[.int .i64 n, .bool b]) ∧ Below V.heap.size V w'))
    (HT : Hid (∀ V, Glob V → Calls Tryz.prog 24 #[f64 x] V fun e w' => e = .returned (.tuple #[.string t, .bool c]) ∧ Below V.heap.size V w')) (HR : Hid (∀ V, Calls Tryz.prog 25 #[f64 x] V fun e w' => e = .returned (.tuple #[.string t, .bool c]) ∧ Below V.heap.size V w'))
    (HW : Hid (∀ V, Calls Tryz.prog 26 #[.string s] V fun e w' => e = .returned (.string W) ∧ Below V.heap.size V w')) (HX : Hid (∀ V, Calls Tryz.prog 27 #[.string s] V fun e w' => e = .returned (.string W) ∧ Below V.heap.size V w')) : Calls Tryz.prog 6 #[.string s, .string u, f64 x] w (fun e w' => e = .returned (.bool true) ∧ Below w.heap.size w w') := by
  go_enter Tryz.func6, Tryz.ntmps6
  go_wp2_with (first | (go_at_call 22; (with_reducible refine (HN.out _ HG.out.glob).mono ?_); rintro e1 w1 ⟨rfl, hb1⟩; have HB1 := Lib.hid (hb1); have HG1 := Lib.hid (HG.out.later HB1.out); clear hb1) | (go_at_call 23; (with_reducible refine (HM.out _).mono ?_); rintro e2 w2 ⟨rfl, hb2⟩; have HB2 := Lib.hid (below_tr HB1.out hb2); have HG2 := Lib.hid (HG.out.later HB2.out); clear hb2) | (go_at_call 24; (with_reducible refine (HT.out _ HG2.out.glob).mono ?_); rintro e3 w3 ⟨rfl, hb3⟩; have HB3 := Lib.hid (below_tr HB2.out hb3); have HG3 := Lib.hid (HG.out.later HB3.out); clear hb3) | (go_at_call 25; (with_reducible refine (HR.out _).mono ?_); rintro e4 w4 ⟨rfl, hb4⟩; have HB4 := Lib.hid (below_tr HB3.out hb4); have HG4 := Lib.hid (HG.out.later HB4.out); clear hb4) | (go_at_call 26; (with_reducible refine (HW.out _).mono ?_); rintro e5 w5 ⟨rfl, hb5⟩; have HB5 := Lib.hid (below_tr HB4.out hb5); have HG5 := Lib.hid (HG.out.later HB5.out); clear hb5) | (go_at_call 27; (with_reducible refine (HX.out _).mono ?_); rintro e6 w6 ⟨rfl, hb6⟩; have HB6 := Lib.hid (below_tr HB5.out hb6); have HG6 := Lib.hid (HG.out.later HB6.out); clear hb6) | (go_at_call 8; (with_reducible refine (awake_any _ HG6.out).mono ?_); rintro e9 w9 ⟨rfl, hb9⟩; have HB9 := Lib.hid hb9; clear hb9))
  go_ret
  exact ⟨rfl, below_tr HB6.out HB9.out⟩
set_option maxHeartbeats 8000000 in
set_option maxRecDepth 100000 in
theorem words_long1 (s u : ByteArray) (x : Nat) (w : World) (HG : Hid (GlobM w)) (hs : 2048 < (s.size : Int)) : Calls Tryz.prog 6 #[.string s, .string u, f64 x] w (fun e w' => e = .returned (.bool true) ∧ Below w.heap.size w w') := by
  go_enter Tryz.func6, Tryz.ntmps6
  go_wp2_with (go_at_call 8; (with_reducible refine (awake_any _ HG.out).mono ?_); rintro e9 w9 ⟨rfl, hb9⟩; have HB9 := Lib.hid hb9; clear hb9)
  go_ret
  exact ⟨rfl, HB9.out⟩
set_option maxHeartbeats 8000000 in
set_option maxRecDepth 100000 in
theorem words_long2 (s u : ByteArray) (x : Nat) (w : World) (HG : Hid (GlobM w)) (hs : ¬ 2048 < (s.size : Int)) (hu : 2048 < (u.size : Int)) : Calls Tryz.prog 6 #[.string s, .string u, f64 x] w (fun e w' => e = .returned (.bool true) ∧ Below w.heap.size w w') := by
  go_enter Tryz.func6, Tryz.ntmps6
  go_wp2_with (go_at_call 8; (with_reducible refine (awake_any _ HG.out).mono ?_); rintro e9 w9 ⟨rfl, hb9⟩; have HB9 := Lib.hid hb9; clear hb9)
  go_ret
  exact ⟨rfl, HB9.out⟩
theorem words_law (s u : ByteArray) (x : Nat) (hx : x < 18446744073709551616) (w : World) (hg : GlobM w) : Calls Tryz.prog 6 #[.string s, .string u, f64 x] w (fun e w' => e = .returned (.bool true) ∧ Below w.heap.size w w') := by
  by_cases hs : 2048 < s.size
  · exact words_long1 s u x w (Lib.hid hg) (by omega)
  by_cases hu : 2048 < u.size
  · exact words_long2 s u x w (Lib.hid hg) (by omega) (by omega)
  exact words_main s u x w (Lib.hid hg) (by omega) (by omega) _ _ _ _ _ (Lib.hid fun V h => num_told u V (by omega) h) (Lib.hid fun V => rnumber_any u V) (Lib.hid fun V h => time_any x hx V h) (Lib.hid fun V => rtime_any x hx V)
    (Lib.hid fun V => told_of_ret (word_any s V (by omega))) (Lib.hid fun V => rword_any s V (by omega))
end Go.Proofs.YtmcooenafgihkaaGreatDoor
