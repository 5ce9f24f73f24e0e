/- Helper lemmas: the example of the statements on octet. No condition. -/
import Derived.Test.YtdjmpedfeahajaaO3
import Derived.Test.YtdjmpedfeahajaaO4
import Derived.Test.YtdjmpedfeahajaaPVectorOrderx1
namespace Go.Proofs.Ytdjmpedfeahajaa
open Go.RowKit Go.Proofs.YtdjmpedfeahajaaW.PrintWords

theorem put_258 : PVectorOrder.octet_Put.f 9 [] 258 3 = some [0, 1, 2] := by decide +kernel
theorem put_ex (w : World) : Calls Try.prog 47 #[.slice none 0 0, .int .i64 258, .int .i64 3] w fun e w' => ∃ A c, e = .returned (.slice (some A) 3 c) ∧ ∃ j, w' = wext w j ∧ ReadsB (wext w j) (some A) [0, 1, 2] := by
  refine (PVectorOrder.octet_Put.calls 9 none 0 [] 258 3 [0, 1, 2] w ?_ (Nat.le_refl _) put_258).mono ?_
  · exact (Kd.R_reads' (Kd.R_nil (Kd.int .u8) 5 w 0 (fun _ => True))).2.2
  · rintro e w' ⟨v, rfl, hR, hb⟩
    obtain ⟨j, rfl⟩ := w_ext_of_below hb
    obtain ⟨A, c, rfl, hc, hC⟩ := Kd.R_reads hR
    obtain ⟨ad, rfl, _⟩ := hC.2.2 (by decide)
    exact ⟨ad, c, rfl, j, rfl, hC⟩
theorem strs_012 : strOfNums [0, 1, 2] = ⟨#[0, 1, 2]⟩ := by decide +kernel
theorem bey_ex : bey ⟨#[97, 255]⟩ (⟨#[97, 255]⟩ : ByteArray).size = some ⟨#[98]⟩ := by decide +kernel

set_option maxRecDepth 100000 in
set_option maxHeartbeats 400000 in
theorem awake01_any (w : World) : Calls Try.prog 42 #[] w (Ret (.bool true) w) := by
  go_enter Try.func42, Try.ntmps42
  go_wp2_with fail
  (with_reducible refine (put_ex _).mono ?_)
  rintro e1 w1 ⟨A, c, rfl, j1, rfl, hC⟩
  have HC := Lib.hid hC; clear hC
  go_wp2_with fail
  (with_reducible refine (read85 (some A) c _ (.int .i64 0) _ ?_ ?_ ?_).mono ?_)
  · exact Kd.C_below HC.out (by (repeat' (first | (with_reducible exact Below.refl _ _) | (with_reducible assumption) | (with_reducible exact below_app _ _ _ _) | (with_reducible refine Below.alloc ?_ ?_ _) | (with_reducible refine below_ext ?_ ?_ _) | (with_reducible refine Below.drew ?_) | (with_reducible refine below_drewN ?_ _) | (with_reducible refine Below.setCell ?_ ?_ _) | go_size)))
  · simp [go_sem]
  · simp [go_sem]
  rintro e1 w1 ⟨rfl, j2, rfl⟩
  go_wp2_with fail
  (with_reducible refine (read86 (some A) c _ ?_).mono ?_)
  · exact Kd.C_below HC.out (by (repeat' (first | (with_reducible exact Below.refl _ _) | (with_reducible assumption) | (with_reducible exact below_app _ _ _ _) | (with_reducible refine Below.alloc ?_ ?_ _) | (with_reducible refine below_ext ?_ ?_ _) | (with_reducible refine Below.drew ?_) | (with_reducible refine below_drewN ?_ _) | (with_reducible refine Below.setCell ?_ ?_ _) | go_size)))
  rintro e1 w1 ⟨rfl, j3, rfl⟩
  go_wp2_with fail
  (with_reducible refine (beyond_any _ _ ?_).mono ?_)
  · decide +kernel
  rw [bey_ex]
  rintro e1 w1 ⟨rfl, j4, rfl⟩
  simp only [BeyV]
  have hcv : ∀ W, Below (wext w j1).heap.size (wext w j1) W → (convert 43 9 (.slice (some A) 3 c)).run Try.prog W = .ok (.string ⟨#[0, 1, 2]⟩) W := fun W hb => by
    rw [← strs_012]; exact conv_read HC.out c W hb
  go_wp2_with fail
  rw [hcv _ (by (repeat' (first | (with_reducible exact Below.refl _ _) | (with_reducible assumption) | (with_reducible exact below_app _ _ _ _) | (with_reducible refine Below.alloc ?_ ?_ _) | (with_reducible refine below_ext ?_ ?_ _) | (with_reducible refine Below.drew ?_) | (with_reducible refine below_drewN ?_ _) | (with_reducible refine Below.setCell ?_ ?_ _) | go_size)))]
  go_wp2_with fail
  go_ret
  exact Ret.mk rfl (by (repeat' (first | (with_reducible exact Below.refl _ _) | (with_reducible assumption) | (with_reducible exact below_app _ _ _ _) | (with_reducible refine Below.alloc ?_ ?_ _) | (with_reducible refine below_ext ?_ ?_ _) | (with_reducible refine Below.drew ?_) | (with_reducible refine below_drewN ?_ _) | (with_reducible refine Below.setCell ?_ ?_ _) | go_size)))
end Go.Proofs.Ytdjmpedfeahajaa
