/- Helper lemmas: the reference's Split: its slice as texts that lie. No condition. -/
import Derived.Test.YtaingleopdnkiaaDoorC4
set_option linter.unusedSimpArgs false
set_option linter.unusedVariables false
namespace Go.Proofs.YtaingleopdnkiaaDoor
open Go.RowKit Go.Proofs.YtaingleopdnkiaaDoorW.PrintWords PParent

theorem strs_of_C {w : World} {A : Option Addr} {l : List ByteArray} (h : Kd.string.C w A l.length l) : StrsAt w A l := fun i hi => by
  obtain ⟨ad, rfl, h0⟩ := Kd.at_string h (0 : Int) (by omega) (by omega)
  obtain ⟨ad2, e, h1⟩ := Kd.at_string h (i : Int) (by omega) (by omega)
  injection e with e
  subst e
  obtain ⟨b, o, sp⟩ := ad
  have hs : sp = none := by
    have h2 := World.cell?_spot h0
    simpa [Addr.add] using h2
  subst hs
  refine ⟨b, o, rfl, ?_⟩
  have ha : (⟨b, o, none⟩ : Addr).add i = ⟨b, o + i, none⟩ := by unfold Addr.add; split <;> simp_all
  rw [Int.toNat_natCast, ha] at h1
  exact h1
/-- What a slice of names and an error are, whatever the capacity. -/
def RefP (r : List ByteArray × Int) (w : World) : Ending → World → Prop := fun e w' => ∃ (A : Option Addr) (c : Nat), e = .returned (.tuple #[.slice A r.1.length c, .int .i64 r.2]) ∧ Hid (Below w.heap.size w w') ∧ Hid (StrsAt w' A r.1) ∧ Hid (r.1.length ≤ c)
theorem refsplit_ref (s : ByteArray) (w : World) : Calls Tryd.prog 20 #[.string s] w (RefP (splitR s) w) := by
  refine (refsplit_any s w).mono ?_
  rintro e w' ⟨v, rfl, hR, hb⟩
  obtain ⟨A, c, rfl, hc, hC⟩ := Kd.R_reads hR
  exact ⟨A, c, rfl, Lib.hid hb, Lib.hid (strs_of_C hC), Lib.hid hc⟩
end Go.Proofs.YtaingleopdnkiaaDoor
