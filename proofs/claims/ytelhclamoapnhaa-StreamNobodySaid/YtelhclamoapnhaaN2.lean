/- Helper lemmas: a stage that no call made. No condition. -/
import Derived.Test.YtelhclamoapnhaaGA
set_option linter.unusedSimpArgs false
set_option linter.unusedVariables false
namespace Go.Proofs.Ytelhclamoapnhaa
open Go.RowKit

/-- A stage that no call made. -/
def DeadS (p : Value) (w : World) : Prop := p = .pointer none ∨ ∃ sb, p = .pointer (some ⟨sb, 0, none⟩) ∧ w.cell? ⟨sb, 0, none⟩ = some (.int .i64 0)
theorem dead_yes (p : Value) (w : World) (h : DeadS p w) : Calls Try.prog 35 #[p] w (Tells (.bool true) w) := by
  rcases h with rfl | ⟨sb, rfl, h⟩
  · exact dead_none w
  · exact dead_zero sb w h
set_option maxHeartbeats 2000000 in
set_option maxRecDepth 100000 in
theorem add_dead (p : Value) (i : Int) (q : ByteArray) (w : World) (h : DeadS p w) : Calls Try.prog 19 #[p, .int .i64 i, .string q] w (Tells (.tuple #[.bool false, .int .i64 200]) w) := by
  have HD := Lib.hid (dead_yes p w h)
  clear h
  go_enter Try.func19, Try.ntmps19
  go_wp2_with (go_at_call 35; (with_reducible refine (HD.out).mono ?_); rintro e1 w1 ⟨rfl, hw⟩; replace hw := hw.symm; subst hw)
  go_ret2
  exact ⟨rfl, rfl⟩
set_option maxHeartbeats 2000000 in
set_option maxRecDepth 100000 in
theorem has_dead (p : Value)  (w : World) (h : DeadS p w) : Calls Try.prog 27 #[p] w (Tells (.tuple #[.int .i64 0, .int .i64 0]) w) := by
  have HD := Lib.hid (dead_yes p w h)
  clear h
  go_enter Try.func27, Try.ntmps27
  go_wp2_with (go_at_call 35; (with_reducible refine (HD.out).mono ?_); rintro e1 w1 ⟨rfl, hw⟩; replace hw := hw.symm; subst hw)
  go_ret2
  exact ⟨rfl, rfl⟩
set_option maxHeartbeats 2000000 in
set_option maxRecDepth 100000 in
theorem changes_dead (p : Value)  (w : World) (h : DeadS p w) : Calls Try.prog 20 #[p] w (Tells (.tuple #[.slice none 0 0, .int .i64 200]) w) := by
  have HD := Lib.hid (dead_yes p w h)
  clear h
  go_enter Try.func20, Try.ntmps20
  go_wp2_with (go_at_call 35; (with_reducible refine (HD.out).mono ?_); rintro e1 w1 ⟨rfl, hw⟩; replace hw := hw.symm; subst hw)
  go_ret2
  exact ⟨rfl, rfl⟩
set_option maxHeartbeats 2000000 in
set_option maxRecDepth 100000 in
theorem missing_dead (p : Value)  (w : World) (h : DeadS p w) : Calls Try.prog 22 #[p] w (Tells (.int .i64 0) w) := by
  have HD := Lib.hid (dead_yes p w h)
  clear h
  go_enter Try.func22, Try.ntmps22
  go_wp2_with (go_at_call 35; (with_reducible refine (HD.out).mono ?_); rintro e1 w1 ⟨rfl, hw⟩; replace hw := hw.symm; subst hw)
  go_ret
  exact ⟨rfl, rfl⟩
set_option maxHeartbeats 2000000 in
set_option maxRecDepth 100000 in
theorem whole_dead (p : Value) (i : Int) (w : World) (h : DeadS p w) : Calls Try.prog 30 #[p, .int .i64 i] w (Tells (.bool false) w) := by
  have HD := Lib.hid (dead_yes p w h)
  clear h
  go_enter Try.func30, Try.ntmps30
  go_wp2_with (go_at_call 35; (with_reducible refine (HD.out).mono ?_); rintro e1 w1 ⟨rfl, hw⟩; replace hw := hw.symm; subst hw)
  go_ret
  exact ⟨rfl, rfl⟩
end Go.Proofs.Ytelhclamoapnhaa
