/- Helper lemmas: an eye that no call made, or whose call is over: all that it is asked is nothing. No condition. -/
import Derived.Test.YtdjmpedfeahajaaO9
set_option linter.unusedSimpArgs false
namespace Go.Proofs.Ytdjmpedfeahajaa
open Go.RowKit Go.Proofs.YtdjmpedfeahajaaW.PrintWords Go.Proofs.YtdjmpedfeahajaaW.PrintMore

/-- Nothing can be looked at, now and later. -/
def DeadE (w : World) (v : Value) : Prop := ∀ w' : World, Below w.heap.size w w' → Calls Try.prog 90 #[v] w' (Ret (.bool true) w')
theorem DeadE.nil (w : World) : DeadE w (.pointer none) := fun w' _ => dead_nil w'
theorem DeadE.off (w : World) (b : Nat) (ho : w.cell? ⟨b, 1, none⟩ = some (.bool false)) : DeadE w (eyeP b) := fun w' hb => dead_off b w' (by rw [hb.cell (p := ⟨b, 1, none⟩) (World.block_lt_of_cell? w _ ho)]; exact ho)
theorem DeadE.later {w w' : World} {v : Value} (h : DeadE w v) (hb : Below w.heap.size w w') : DeadE w' v := fun w2 hb2 => h w2 (hb.trans (hb2.mono hb.size))
theorem DeadE.is {w : World} {v : Value} (h : DeadE w v) : Calls Try.prog 90 #[v] w (Ret (.bool true) w) := h w (Below.refl _ _)

set_option maxHeartbeats 1000000 in
theorem fail_dead (v : Value) (c : Int) (w : World) (h : DeadE w v) : Calls Try.prog 89 #[v, .int .i64 c] w (Ret (.tuple #[]) w) := by
  have H := Lib.hid h
  clear h
  go_enter Try.func89, Try.ntmps89
  go_wp2_with (go_at_call 90; (with_reducible refine (H.out.is).mono ?_); rintro e1 w1 ⟨rfl, j1, rfl⟩)
  go_end0
  exact Ret.mk rfl (w_ext_below _ _)
set_option maxHeartbeats 1000000 in
theorem left_dead (v : Value) (w : World) (h : DeadE w v) : Calls Try.prog 62 #[v] w (Ret (.int .i64 0) w) := by
  have H := Lib.hid h
  clear h
  go_enter Try.func62, Try.ntmps62
  go_wp2_with (go_at_call 90; (with_reducible refine (H.out.is).mono ?_); rintro e1 w1 ⟨rfl, j1, rfl⟩)
  go_ret
  exact Ret.mk rfl (w_ext_below _ _)
set_option maxHeartbeats 1000000 in
theorem raw_dead (v : Value) (n : Int) (w : World) (h : DeadE w v) : Calls Try.prog 60 #[v, .int .i64 n] w (Ret (.string ⟨#[]⟩) w) := by
  have H := Lib.hid h
  clear h
  go_enter Try.func60, Try.ntmps60
  go_wp2_with (go_at_call 90; (with_reducible refine (H.out.is).mono ?_); rintro e1 w1 ⟨rfl, j1, rfl⟩)
  go_ret
  exact Ret.mk rfl (w_ext_below _ _)
set_option maxHeartbeats 1000000 in
theorem num_dead (v : Value) (n : Int) (w : World) (h : DeadE w v) : Calls Try.prog 50 #[v, .int .i64 n] w (Ret (.int .i64 0) w) := by
  have H := Lib.hid h
  clear h
  go_enter Try.func50, Try.ntmps50
  go_wp2_with (go_at_call 90; (with_reducible refine (H.out.is).mono ?_); rintro e1 w1 ⟨rfl, j1, rfl⟩)
  go_ret
  exact Ret.mk rfl (w_ext_below _ _)
set_option maxHeartbeats 1000000 in
theorem text_dead (v : Value) (n : Int) (w : World) (h : DeadE w v) : Calls Try.prog 61 #[v, .int .i64 n] w (Ret (.string ⟨#[]⟩) w) := by
  have H := Lib.hid h
  clear h
  by_cases hn : n < 0
  all_goals
    go_enter Try.func61, Try.ntmps61
    go_wp2_with (first | (go_at_call 50; (with_reducible refine (num_dead v 2 _ H.out).mono ?_); rintro e1 w1 ⟨rfl, j1, rfl⟩) | (go_at_call 89; (with_reducible refine (fail_dead v 203 _ (H.out.later ?_)).mono ?_); (· exact w_ext_below _ _); rintro e1 w1 ⟨rfl, j1, rfl⟩) | (go_at_call 60; (with_reducible refine (raw_dead v 0 _ (H.out.later ?_)).mono ?_); (· exact w_ext_below _ _); rintro e1 w1 ⟨rfl, j1, rfl⟩))
    go_ret
    exact Ret.mk rfl (by (repeat' (first | (with_reducible exact Below.refl _ _) | (with_reducible assumption) | (with_reducible exact below_app _ _ _ _) | (with_reducible refine below_pre ?_; (simp only [List.append_assoc, List.prefix_append, List.prefix_refl, List.prefix_append_right_inj])) | (with_reducible refine Below.alloc ?_ ?_ _) | (with_reducible refine below_ext ?_ ?_ _) | (with_reducible refine Below.drew ?_) | (with_reducible refine below_drewN ?_ _) | (with_reducible refine Below.setCell ?_ ?_ _) | go_size | (simp only [w_size_ext, List.length_append, World.alloc_size]; omega) | (simp; done) | (simp; omega))))
end Go.Proofs.Ytdjmpedfeahajaa
