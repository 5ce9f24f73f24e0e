/-
  No cell of these rows narrows 'for every input' (looked for: loops, veiled, ifaces, maps, wideKeys, modest, calm, conditions, laid).
  DERIVED. THE GIVEN ROWS OF THIS SEAT. 9 by the template 'for every input the law returns true; each argument reads behind the call as it read before'; 0 by the template 'total and deterministic' (their statements: YtbbbiicjiagmiaaTotals.lean).
  GIVEN WITH THE SEED: the statements are not yours to turn. If you find one false, say at which input.
  Laid BY PROGRAM, IN A SANDBOX (cutbox-rows.mjs): the forced cells as the released guide's own fill.sh prints them over the translation 15deba91d605f551… (all of the seat's roots in one cut). By AI agents, Wed Nov 11 2026. No macro, syntax, notation, axiom, sorry.
-/
import Derived.Test.YtbbbiicjiagmiaaChecked
import GoSem.Claim
import GoSem.ClaimJoined
import GoSem.ClaimMapViews
import Derived.JoinedTies
import Derived.KernelRfl
namespace Go.Proofs.Ytbbbiicjiagmiaa
/- THE CELL 'sum', in the pinned program and in every row, IS THE sha256 OF THE DUMP (.gsa) THAT YtbbbiicjiagmiaaProg.lean LOADS. Nothing in Lean hashes anything: it is a label: what it is worth is what the hold of that sum in a sandbox is worth. -/
noncomputable def Try.pinned : Pinned := { name := "ytbbbiicjiagmiaa", sum := "15deba91d605f551bb729e4977275c849257ed5948571abe775a0061becb9cc8", checked := Try.checked }
namespace Rows
def none {H : Type} : Left H := { results := [], args := [] }

/-- 'crannoglaw02.InstantOf': WHATEVER THE INPUT: true; the input reads as it did. -/
def instantOfSpec : ChangeSpec := { name := "instantOf", fn := fun _ => fun
  | [d] => { results := [.lit (.bool true)], args := [d] }
  | _ => none }
def instantOfRow : OpenClaim := { program := "ytbbbiicjiagmiaa", sum := "15deba91d605f551bb729e4977275c849257ed5948571abe775a0061becb9cc8", func := "crannog/crannoglaw02.InstantOf", spec := "instantOf", inPlace := ["math.Float64bits", "math.Float64frombits"], apart := false }
def InstantOfSaid : Prop := instantOfRow.holds Try.pinned (OpenSpec.ofChange instantOfSpec)

/-- ITS FALSE NEIGHBOUR: 'it returns false'. Refute it at one input. -/
def instantOfWrong : ChangeSpec := { name := "instantOf", fn := fun _ => fun
  | [d] => { results := [.lit (.bool false)], args := [d] }
  | _ => none }
def InstantOfWrongFalsely : Prop := instantOfRow.holds Try.pinned (OpenSpec.ofChange instantOfWrong)

/-- 'crannoglaw02.InstantOrder': WHATEVER THE INPUT: true; the input reads as it did. -/
def instantOrderSpec : ChangeSpec := { name := "instantOrder", fn := fun _ => fun
  | [d1, d2] => { results := [.lit (.bool true)], args := [d1, d2] }
  | _ => none }
def instantOrderRow : OpenClaim := { program := "ytbbbiicjiagmiaa", sum := "15deba91d605f551bb729e4977275c849257ed5948571abe775a0061becb9cc8", func := "crannog/crannoglaw02.InstantOrder", spec := "instantOrder", inPlace := ["math.Float64bits", "math.Float64frombits"], apart := false }
def InstantOrderSaid : Prop := instantOrderRow.holds Try.pinned (OpenSpec.ofChange instantOrderSpec)

/-- ITS FALSE NEIGHBOUR: 'it returns false'. Refute it at one input. -/
def instantOrderWrong : ChangeSpec := { name := "instantOrder", fn := fun _ => fun
  | [d1, d2] => { results := [.lit (.bool false)], args := [d1, d2] }
  | _ => none }
def InstantOrderWrongFalsely : Prop := instantOrderRow.holds Try.pinned (OpenSpec.ofChange instantOrderWrong)

/-- 'crannoglaw02.InstantBack': WHATEVER THE INPUT: true; the input reads as it did. -/
def instantBackSpec : ChangeSpec := { name := "instantBack", fn := fun _ => fun
  | [d1, d2] => { results := [.lit (.bool true)], args := [d1, d2] }
  | _ => none }
def instantBackRow : OpenClaim := { program := "ytbbbiicjiagmiaa", sum := "15deba91d605f551bb729e4977275c849257ed5948571abe775a0061becb9cc8", func := "crannog/crannoglaw02.InstantBack", spec := "instantBack", inPlace := ["math.Float64bits", "math.Float64frombits"], apart := false }
def InstantBackSaid : Prop := instantBackRow.holds Try.pinned (OpenSpec.ofChange instantBackSpec)

/-- ITS FALSE NEIGHBOUR: 'it returns false'. Refute it at one input. -/
def instantBackWrong : ChangeSpec := { name := "instantBack", fn := fun _ => fun
  | [d1, d2] => { results := [.lit (.bool false)], args := [d1, d2] }
  | _ => none }
def InstantBackWrongFalsely : Prop := instantBackRow.holds Try.pinned (OpenSpec.ofChange instantBackWrong)

/-- 'crannoglaw02.InstantAdds': WHATEVER THE INPUT: true; the input reads as it did. -/
def instantAddsSpec : ChangeSpec := { name := "instantAdds", fn := fun _ => fun
  | [d1, d2, d3] => { results := [.lit (.bool true)], args := [d1, d2, d3] }
  | _ => none }
def instantAddsRow : OpenClaim := { program := "ytbbbiicjiagmiaa", sum := "15deba91d605f551bb729e4977275c849257ed5948571abe775a0061becb9cc8", func := "crannog/crannoglaw02.InstantAdds", spec := "instantAdds", inPlace := ["math.Float64frombits", "math.Float64bits"], apart := false }
def InstantAddsSaid : Prop := instantAddsRow.holds Try.pinned (OpenSpec.ofChange instantAddsSpec)

/-- ITS FALSE NEIGHBOUR: 'it returns false'. Refute it at one input. -/
def instantAddsWrong : ChangeSpec := { name := "instantAdds", fn := fun _ => fun
  | [d1, d2, d3] => { results := [.lit (.bool false)], args := [d1, d2, d3] }
  | _ => none }
def InstantAddsWrongFalsely : Prop := instantAddsRow.holds Try.pinned (OpenSpec.ofChange instantAddsWrong)

/-- 'crannoglaw02.InstantBetween': WHATEVER THE INPUT: true; the input reads as it did. -/
def instantBetweenSpec : ChangeSpec := { name := "instantBetween", fn := fun _ => fun
  | [d1, d2] => { results := [.lit (.bool true)], args := [d1, d2] }
  | _ => none }
def instantBetweenRow : OpenClaim := { program := "ytbbbiicjiagmiaa", sum := "15deba91d605f551bb729e4977275c849257ed5948571abe775a0061becb9cc8", func := "crannog/crannoglaw02.InstantBetween", spec := "instantBetween", inPlace := ["math.Float64frombits", "math.Float64bits"], apart := false }
def InstantBetweenSaid : Prop := instantBetweenRow.holds Try.pinned (OpenSpec.ofChange instantBetweenSpec)

/-- ITS FALSE NEIGHBOUR: 'it returns false'. Refute it at one input. -/
def instantBetweenWrong : ChangeSpec := { name := "instantBetween", fn := fun _ => fun
  | [d1, d2] => { results := [.lit (.bool false)], args := [d1, d2] }
  | _ => none }
def InstantBetweenWrongFalsely : Prop := instantBetweenRow.holds Try.pinned (OpenSpec.ofChange instantBetweenWrong)

/-- 'crannoglaw02.InstantMiddle': WHATEVER THE INPUT: true; the input reads as it did. -/
def instantMiddleSpec : ChangeSpec := { name := "instantMiddle", fn := fun _ => fun
  | [d1, d2] => { results := [.lit (.bool true)], args := [d1, d2] }
  | _ => none }
def instantMiddleRow : OpenClaim := { program := "ytbbbiicjiagmiaa", sum := "15deba91d605f551bb729e4977275c849257ed5948571abe775a0061becb9cc8", func := "crannog/crannoglaw02.InstantMiddle", spec := "instantMiddle", inPlace := ["math.Float64frombits", "math.Float64bits"], apart := false }
def InstantMiddleSaid : Prop := instantMiddleRow.holds Try.pinned (OpenSpec.ofChange instantMiddleSpec)

/-- ITS FALSE NEIGHBOUR: 'it returns false'. Refute it at one input. -/
def instantMiddleWrong : ChangeSpec := { name := "instantMiddle", fn := fun _ => fun
  | [d1, d2] => { results := [.lit (.bool false)], args := [d1, d2] }
  | _ => none }
def InstantMiddleWrongFalsely : Prop := instantMiddleRow.holds Try.pinned (OpenSpec.ofChange instantMiddleWrong)

/-- 'crannoglaw02.InstantTo': WHATEVER THE INPUT: true; the input reads as it did. -/
def instantToSpec : ChangeSpec := { name := "instantTo", fn := fun _ => fun
  | [d] => { results := [.lit (.bool true)], args := [d] }
  | _ => none }
def instantToRow : OpenClaim := { program := "ytbbbiicjiagmiaa", sum := "15deba91d605f551bb729e4977275c849257ed5948571abe775a0061becb9cc8", func := "crannog/crannoglaw02.InstantTo", spec := "instantTo", inPlace := ["math.Float64frombits", "math.Float64bits"], apart := false }
def InstantToSaid : Prop := instantToRow.holds Try.pinned (OpenSpec.ofChange instantToSpec)

/-- ITS FALSE NEIGHBOUR: 'it returns false'. Refute it at one input. -/
def instantToWrong : ChangeSpec := { name := "instantTo", fn := fun _ => fun
  | [d] => { results := [.lit (.bool false)], args := [d] }
  | _ => none }
def InstantToWrongFalsely : Prop := instantToRow.holds Try.pinned (OpenSpec.ofChange instantToWrong)

/-- 'crannoglaw02.InstantSums': WHATEVER THE INPUT: true; the input reads as it did. -/
def instantSumsSpec : ChangeSpec := { name := "instantSums", fn := fun _ => fun
  | [d1, d2] => { results := [.lit (.bool true)], args := [d1, d2] }
  | _ => none }
def instantSumsRow : OpenClaim := { program := "ytbbbiicjiagmiaa", sum := "15deba91d605f551bb729e4977275c849257ed5948571abe775a0061becb9cc8", func := "crannog/crannoglaw02.InstantSums", spec := "instantSums", inPlace := ["math.Float64frombits", "math.Float64bits"], apart := false }
def InstantSumsSaid : Prop := instantSumsRow.holds Try.pinned (OpenSpec.ofChange instantSumsSpec)

/-- ITS FALSE NEIGHBOUR: 'it returns false'. Refute it at one input. -/
def instantSumsWrong : ChangeSpec := { name := "instantSums", fn := fun _ => fun
  | [d1, d2] => { results := [.lit (.bool false)], args := [d1, d2] }
  | _ => none }
def InstantSumsWrongFalsely : Prop := instantSumsRow.holds Try.pinned (OpenSpec.ofChange instantSumsWrong)

/-- 'crannoglaw02.InstantSteps': WHATEVER THE INPUT: true; the input reads as it did. -/
def instantStepsSpec : ChangeSpec := { name := "instantSteps", fn := fun _ => fun
  | [d] => { results := [.lit (.bool true)], args := [d] }
  | _ => none }
def instantStepsRow : OpenClaim := { program := "ytbbbiicjiagmiaa", sum := "15deba91d605f551bb729e4977275c849257ed5948571abe775a0061becb9cc8", func := "crannog/crannoglaw02.InstantSteps", spec := "instantSteps", inPlace := ["math.Float64frombits", "math.Float64bits", "math.archFloor", "math.archTrunc"], apart := false }
def InstantStepsSaid : Prop := instantStepsRow.holds Try.pinned (OpenSpec.ofChange instantStepsSpec)

/-- ITS FALSE NEIGHBOUR: 'it returns false'. Refute it at one input. -/
def instantStepsWrong : ChangeSpec := { name := "instantSteps", fn := fun _ => fun
  | [d] => { results := [.lit (.bool false)], args := [d] }
  | _ => none }
def InstantStepsWrongFalsely : Prop := instantStepsRow.holds Try.pinned (OpenSpec.ofChange instantStepsWrong)

/- THE SECOND FORM. 'bulk': how many values and letters a reading holds, each counted each time it is reached (what is shared counts as often as it is met; a slice's spare places count too). A statement '..UptoSaid' is the law's where the arguments, and the package variables that the reading takes, are together of bulk at most 1048576: NARROWER than '..Said'. Prove '..Said' where nothing that the law and all that it calls make is longer than what came in: it says more and counts as full. Else prove '..UptoSaid'. A law counts once. -/
mutual
def uptoBulk {H : Type} : DataW H → Nat
  | .lit (.string bytes) => bytes.length + 1
  | .lit _ => 1
  | .nil => 1
  | .ptr d => uptoBulk d + 1
  | .slice elems spare => uptoBulkAll elems + uptoBulkAll spare + 1
  | .agg parts => uptoBulkAll parts + 1
  | .iface _ d => uptoBulk d + 1
  | .map entries => uptoBulkEntries entries + 1
  | .held _ => 1
def uptoBulkAll {H : Type} : List (DataW H) → Nat
  | [] => 0
  | d :: r => uptoBulk d + uptoBulkAll r
def uptoBulkEntries {H : Type} : List (Lit × DataW H) → Nat
  | [] => 0
  | x :: r => uptoBulkEntry x + uptoBulkEntries r
def uptoBulkEntry {H : Type} : Lit × DataW H → Nat
  | (.string bytes, d) => bytes.length + uptoBulk d + 1
  | (_, d) => uptoBulk d + 1
 end
def uptoSmall : (H : Type) → List (DataW H) → Bool := fun _ ds => decide (uptoBulkAll ds ≤ 1048576)
def OpenSpec.upto (s : _root_.Go.ChangeSpec) : _root_.Go.OpenSpec := { _root_.Go.OpenSpec.ofChange s with cond := some uptoSmall }

/-- 'crannoglaw02.InstantOf', WHERE WHAT IT READS IS OF BULK AT MOST 1048576: true; the input reads as it did. -/
def instantOfUptoRow : OpenClaim := { program := "ytbbbiicjiagmiaa", sum := "15deba91d605f551bb729e4977275c849257ed5948571abe775a0061becb9cc8", func := "crannog/crannoglaw02.InstantOf", spec := "instantOf", inPlace := ["math.Float64bits", "math.Float64frombits"], apart := false, narrowed := true }
def InstantOfUptoSaid : Prop := instantOfUptoRow.holds Try.pinned (OpenSpec.upto instantOfSpec)

/-- 'crannoglaw02.InstantOrder', WHERE WHAT IT READS IS OF BULK AT MOST 1048576: true; the input reads as it did. -/
def instantOrderUptoRow : OpenClaim := { program := "ytbbbiicjiagmiaa", sum := "15deba91d605f551bb729e4977275c849257ed5948571abe775a0061becb9cc8", func := "crannog/crannoglaw02.InstantOrder", spec := "instantOrder", inPlace := ["math.Float64bits", "math.Float64frombits"], apart := false, narrowed := true }
def InstantOrderUptoSaid : Prop := instantOrderUptoRow.holds Try.pinned (OpenSpec.upto instantOrderSpec)

/-- 'crannoglaw02.InstantBack', WHERE WHAT IT READS IS OF BULK AT MOST 1048576: true; the input reads as it did. -/
def instantBackUptoRow : OpenClaim := { program := "ytbbbiicjiagmiaa", sum := "15deba91d605f551bb729e4977275c849257ed5948571abe775a0061becb9cc8", func := "crannog/crannoglaw02.InstantBack", spec := "instantBack", inPlace := ["math.Float64bits", "math.Float64frombits"], apart := false, narrowed := true }
def InstantBackUptoSaid : Prop := instantBackUptoRow.holds Try.pinned (OpenSpec.upto instantBackSpec)

/-- 'crannoglaw02.InstantAdds', WHERE WHAT IT READS IS OF BULK AT MOST 1048576: true; the input reads as it did. -/
def instantAddsUptoRow : OpenClaim := { program := "ytbbbiicjiagmiaa", sum := "15deba91d605f551bb729e4977275c849257ed5948571abe775a0061becb9cc8", func := "crannog/crannoglaw02.InstantAdds", spec := "instantAdds", inPlace := ["math.Float64frombits", "math.Float64bits"], apart := false, narrowed := true }
def InstantAddsUptoSaid : Prop := instantAddsUptoRow.holds Try.pinned (OpenSpec.upto instantAddsSpec)

/-- 'crannoglaw02.InstantBetween', WHERE WHAT IT READS IS OF BULK AT MOST 1048576: true; the input reads as it did. -/
def instantBetweenUptoRow : OpenClaim := { program := "ytbbbiicjiagmiaa", sum := "15deba91d605f551bb729e4977275c849257ed5948571abe775a0061becb9cc8", func := "crannog/crannoglaw02.InstantBetween", spec := "instantBetween", inPlace := ["math.Float64frombits", "math.Float64bits"], apart := false, narrowed := true }
def InstantBetweenUptoSaid : Prop := instantBetweenUptoRow.holds Try.pinned (OpenSpec.upto instantBetweenSpec)

/-- 'crannoglaw02.InstantMiddle', WHERE WHAT IT READS IS OF BULK AT MOST 1048576: true; the input reads as it did. -/
def instantMiddleUptoRow : OpenClaim := { program := "ytbbbiicjiagmiaa", sum := "15deba91d605f551bb729e4977275c849257ed5948571abe775a0061becb9cc8", func := "crannog/crannoglaw02.InstantMiddle", spec := "instantMiddle", inPlace := ["math.Float64frombits", "math.Float64bits"], apart := false, narrowed := true }
def InstantMiddleUptoSaid : Prop := instantMiddleUptoRow.holds Try.pinned (OpenSpec.upto instantMiddleSpec)

/-- 'crannoglaw02.InstantTo', WHERE WHAT IT READS IS OF BULK AT MOST 1048576: true; the input reads as it did. -/
def instantToUptoRow : OpenClaim := { program := "ytbbbiicjiagmiaa", sum := "15deba91d605f551bb729e4977275c849257ed5948571abe775a0061becb9cc8", func := "crannog/crannoglaw02.InstantTo", spec := "instantTo", inPlace := ["math.Float64frombits", "math.Float64bits"], apart := false, narrowed := true }
def InstantToUptoSaid : Prop := instantToUptoRow.holds Try.pinned (OpenSpec.upto instantToSpec)

/-- 'crannoglaw02.InstantSums', WHERE WHAT IT READS IS OF BULK AT MOST 1048576: true; the input reads as it did. -/
def instantSumsUptoRow : OpenClaim := { program := "ytbbbiicjiagmiaa", sum := "15deba91d605f551bb729e4977275c849257ed5948571abe775a0061becb9cc8", func := "crannog/crannoglaw02.InstantSums", spec := "instantSums", inPlace := ["math.Float64frombits", "math.Float64bits"], apart := false, narrowed := true }
def InstantSumsUptoSaid : Prop := instantSumsUptoRow.holds Try.pinned (OpenSpec.upto instantSumsSpec)

/-- 'crannoglaw02.InstantSteps', WHERE WHAT IT READS IS OF BULK AT MOST 1048576: true; the input reads as it did. -/
def instantStepsUptoRow : OpenClaim := { program := "ytbbbiicjiagmiaa", sum := "15deba91d605f551bb729e4977275c849257ed5948571abe775a0061becb9cc8", func := "crannog/crannoglaw02.InstantSteps", spec := "instantSteps", inPlace := ["math.Float64frombits", "math.Float64bits", "math.archFloor", "math.archTrunc"], apart := false, narrowed := true }
def InstantStepsUptoSaid : Prop := instantStepsUptoRow.holds Try.pinned (OpenSpec.upto instantStepsSpec)

end Rows
end Go.Proofs.Ytbbbiicjiagmiaa
