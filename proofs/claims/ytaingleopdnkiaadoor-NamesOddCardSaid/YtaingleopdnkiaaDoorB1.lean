/- Helper lemmas: names.Good at every text. No condition. -/
import Derived.Test.YtaingleopdnkiaaDoorA2
set_option linter.unusedSimpArgs false
set_option linter.unusedVariables false
namespace Go.Proofs.YtaingleopdnkiaaDoor
open Go.RowKit

/-- What a text is as a name: 0 is a name. -/
def goodE (s : ByteArray) : Int :=
  if s.toList = ([] : List UInt8) then 22 else if s.toList = ([46] : List UInt8) then 22 else if s.toList = ([46, 46] : List UInt8) then 22 else
  if 0 ≤ Lib.indexByte s.data.toList 47 then 22 else if 0 ≤ Lib.indexByte s.data.toList 0 then 22 else if (s.size : Int) > 16 then 36 else 0
set_option maxHeartbeats 2000000 in
set_option maxRecDepth 100000 in
theorem good_any (s : ByteArray) (w : World) : Calls Tryd.prog 16 #[.string s] w (Ret (.int .i64 (goodE s)) w) := by
  go_enter Tryd.func16, Tryd.ntmps16
  go_wp2_with (first | (go_at_call 30; (with_reducible refine (Tryd.strings_Contains_one s 47 _).mono ?_); rintro e1 w1 ⟨rfl, rfl⟩) | (go_at_call 30; (with_reducible refine (Tryd.strings_Contains_one s 0 _).mono ?_); rintro e1 w1 ⟨rfl, rfl⟩))
  all_goals go_ret
  all_goals refine Ret.mk (congrArg (Value.int .i64) ?_) (Below.refl _ _)
  all_goals (unfold goodE; (repeat' split) <;> first | rfl | contradiction | omega | (exfalso; simp_all; done) | (exfalso; simp_all; omega))
end Go.Proofs.YtaingleopdnkiaaDoor
