/- Helper lemmas: what Read's deferred function does where the looking went well, and where a fault was thrown. No condition. -/
import Derived.Test.YtdjmpedfeahajaaO1
import Derived.Recover
namespace Go.Proofs.Ytdjmpedfeahajaa
open Go.RowKit

set_option maxHeartbeats 1000000 in
theorem catch_idle (pv pe b : Nat) (w : World) (hv : w.cell? ⟨pv, 0, none⟩ = some (eyeP b)) (ho : w.cell? ⟨b, 1, none⟩ = some (.bool true)) (hz : w.frozen? ⟨b, 1, none⟩ = false) :
    CallsD Try.prog 88 #[.pointer (some ⟨pv, 0, none⟩), .pointer (some ⟨pe, 0, none⟩)] .returning w fun e u' w' =>
      e = .returned (.tuple #[]) ∧ u' = .returning ∧ w' = w.setCell ⟨b, 1, none⟩ (.bool false) := by
  refine callsD_of_wpS Try.func88 rfl fun c₀ cs hu => ?_
  simp only [Try.ntmps88, List.size_toArray, List.length_cons, List.length_nil, Nat.reduceAdd, Nat.reduceSub, Array.replicate_succ, Array.replicate_zero, List.push_toArray, List.append_toArray, List.nil_append, List.cons_append]
  apply wpS_seq
  apply wpS_region
  simp [wpOpsS, go_sem, hv, ho, hz, Exit.thenS]
  apply wpS_seq
  apply wpS_region
  simp [wpOpsS, go_sem, recoverD, hu, Exit.thenS]
  refine wpS_of_wp ?_
  go_wp2
  cases c₀
  simp_all [bodyPostS, results, Try.results88]

set_option maxRecDepth 20000 in
set_option maxHeartbeats 1000000 in
theorem catch_fault (pv pe b : Nat) (c : Int) (r0 : Value) (w : World) (hv : w.cell? ⟨pv, 0, none⟩ = some (eyeP b)) (ho : w.cell? ⟨b, 1, none⟩ = some (.bool true)) (hz : w.frozen? ⟨b, 1, none⟩ = false)
    (he : w.cell? ⟨pe, 0, none⟩ = some r0) (hez : w.frozen? ⟨pe, 0, none⟩ = false) :
    CallsD Try.prog 88 #[.pointer (some ⟨pv, 0, none⟩), .pointer (some ⟨pe, 0, none⟩)] (.panicking [fault c]) w fun e u' w' =>
      e = .returned (.tuple #[]) ∧ u' = .panicking [{ fault c with recovered := true }] ∧ ∃ j, w' = wext ((w.setCell ⟨b, 1, none⟩ (.bool false)).setCell ⟨pe, 0, none⟩ (.int .i64 c)) j := by
  have hlt := leB_of_cell he
  refine callsD_of_wpS Try.func88 rfl fun c₀ cs hu => ?_
  simp only [fault] at hu ⊢
  simp only [Try.ntmps88, List.size_toArray, List.length_cons, List.length_nil, Nat.reduceAdd, Nat.reduceSub, Array.replicate_succ, Array.replicate_zero, List.push_toArray, List.append_toArray, List.nil_append, List.cons_append]
  apply wpS_seq
  apply wpS_region
  simp [wpOpsS, go_sem, hv, ho, hz, Exit.thenS]
  apply wpS_seq
  apply wpS_region
  simp [wpOpsS, go_sem, recoverD, hu, Exit.thenS]
  refine wpS_of_wp ?_
  have hta : ∀ W, (Instr.typeAssert (.iface 95 (.agg #[.int .i64 c])) 20 95 true).run Try.prog W = .ok (.tuple #[.agg #[.int .i64 c], .bool true]) W := fun _ => by kernel_rfl
  go_wp2
  simp [bodyPostS, results, Try.results88]
  exact w_grown (by (repeat' (first | (with_reducible exact Below.refl _ _) | (with_reducible assumption) | (with_reducible refine Below.alloc ?_ ?_ _) | (with_reducible refine below_ext ?_ ?_ _) | (with_reducible refine Below.drew ?_) | (with_reducible refine below_drewN ?_ _) | (with_reducible refine Below.setCell ?_ ?_ _) | go_size)))
end Go.Proofs.Ytdjmpedfeahajaa
