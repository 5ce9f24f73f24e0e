/- The law on steps as a text: it returns true. No condition. -/
import Derived.Test.YtmcooenafgihkaaGreatDoorQ21
set_option linter.unusedSimpArgs false
set_option linter.unusedVariables false
namespace Go.Proofs.YtmcooenafgihkaaGreatDoor
open Go.RowKit

theorem print_form (l : List StepR) : ∃ t n c, printV l = .tuple #[.string t, .int .i64 n, .int .i64 c] := by
  cases h : badF l with
  | none => exact ⟨_, _, _, by unfold printV; rw [h]⟩
  | some i => exact ⟨_, _, _, by unfold printV; rw [h]⟩
set_option maxHeartbeats 8000000 in
set_option maxRecDepth 100000 in
theorem print_law (l : List StepR) (A : Option Addr) (cp : Nat) (w : World) (hg : GlobM w) (hR : StsAt w A l) (hM : l.length ≤ 9223372036854775807) (hF : ∀ i, i < l.length → (l.getD i zeroR).Fine) : Calls Tryz.prog 4 #[.slice A l.length cp] w (fun e w' => e = .returned (.bool true) ∧ Below w.heap.size w w') := by
  have HG := Lib.hid hg
  have HR := Lib.hid hR
  have HF := Lib.hid hF
  have HSH := Lib.hid (short_any A cp l w hR hM)
  obtain ⟨t, n, c, hv⟩ := print_form l
  have HV := Lib.hid hv
  clear hg hR hM hF hv
  go_enter Tryz.func4, Tryz.ntmps4
  go_wp2_with (fail)
  refine HSH.out.mono ?_
  rintro e1 w1 ⟨b, rfl, hb1, hbr⟩
  have HBR := Lib.hid hbr
  have HB1 := Lib.hid hb1
  have HG1 := Lib.hid (HG.out.later hb1)
  clear hb1 hbr
  cases b
  · go_wp2_with (go_at_call 8; (with_reducible refine (awake_any _ HG1.out).mono ?_); rintro e9 w9 ⟨rfl, hb9⟩; have HB9 := Lib.hid (below_tr HB1.out hb9); clear hb9)
    go_ret
    exact ⟨rfl, HB9.out⟩
  · have HF2 := Lib.hid (fun i (hi : i < l.length) => And.intro (HF.out i hi) ((HBR.out rfl).2 i hi))
    have HN := Lib.hid (HBR.out rfl).1
    clear HBR HF
    go_wp2_with (fail)
    refine (print_any A cp l w1 (Lib.hid (HR.out.later HB1.out)) HN HF2 (Lib.hid HG1.out.glob)).mono ?_
    rw [HV.out]
    rintro e2 w2 ⟨rfl, hb2⟩
    have HB2 := Lib.hid (below_tr HB1.out hb2)
    clear hb2
    go_wp2_with (fail)
    refine (rprint_any A cp l w2 (Lib.hid (HR.out.later HB2.out)) HN HF2).mono ?_
    rw [HV.out]
    rintro e3 w3 ⟨rfl, hb3⟩
    have HB3 := Lib.hid (below_tr HB2.out hb3)
    have HG3 := Lib.hid (HG.out.later HB3.out)
    clear hb3
    go_wp2_with (go_at_call 8; (with_reducible refine (awake_any _ HG3.out).mono ?_); rintro e9 w9 ⟨rfl, hb9⟩; have HB9 := Lib.hid (below_tr HB3.out hb9); clear hb9)
    go_ret
    exact ⟨rfl, HB9.out⟩
end Go.Proofs.YtmcooenafgihkaaGreatDoor
