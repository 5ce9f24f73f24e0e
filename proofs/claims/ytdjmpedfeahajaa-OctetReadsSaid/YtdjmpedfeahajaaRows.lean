/-
  No cell of these rows narrows 'for every input' (looked for: loops, veiled, ifaces, maps, wideKeys, modest, calm, conditions, laid).
  DERIVED. THE GIVEN ROWS OF THIS SEAT. 15 by the template 'for every input the law returns true; each argument reads behind the call as it read before'; 0 by the template 'total and deterministic' (their statements: YtdjmpedfeahajaaTotals.lean).
  GIVEN WITH THE SEED: the statements are not yours to turn. If you find one false, say at which input.
  Laid BY PROGRAM, IN A SANDBOX (cutbox-rows.mjs): the forced cells as the released guide's own fill.sh prints them over the translation 4eb88a32912f7ebd… (all of the seat's roots in one cut). By AI agents, Wed Nov 11 2026. No macro, syntax, notation, axiom, sorry.
-/
import Derived.Test.YtdjmpedfeahajaaChecked
import GoSem.Claim
import GoSem.ClaimJoined
import GoSem.ClaimMapViews
import Derived.JoinedTies
import Derived.KernelRfl
namespace Go.Proofs.Ytdjmpedfeahajaa
/- THE CELL 'sum', in the pinned program and in every row, IS THE sha256 OF THE DUMP (.gsa) THAT YtdjmpedfeahajaaProg.lean LOADS. Nothing in Lean hashes anything: it is a label: what it is worth is what the hold of that sum in a sandbox is worth. -/
noncomputable def Try.pinned : Pinned := { name := "ytdjmpedfeahajaa", sum := "4eb88a32912f7ebdfd12c6487a1ddd126ef16be298d9863f9b459a8b87d316e7", checked := Try.checked }
namespace Rows
def none {H : Type} : Left H := { results := [], args := [] }

/-- 'crannoglaw09.VectorNext': WHATEVER THE INPUT: true; the input reads as it did. -/
def vectorNextSpec : ChangeSpec := { name := "vectorNext", fn := fun _ => fun
  | [d1, d2] => { results := [.lit (.bool true)], args := [d1, d2] }
  | _ => none }
def vectorNextRow : OpenClaim := { program := "ytdjmpedfeahajaa", sum := "4eb88a32912f7ebdfd12c6487a1ddd126ef16be298d9863f9b459a8b87d316e7", func := "crannog/crannoglaw09.VectorNext", spec := "vectorNext", apart := false }
def VectorNextSaid : Prop := vectorNextRow.holds Try.pinned (OpenSpec.ofChange vectorNextSpec)

/-- ITS FALSE NEIGHBOUR: 'it returns false'. Refute it at one input. -/
def vectorNextWrong : ChangeSpec := { name := "vectorNext", fn := fun _ => fun
  | [d1, d2] => { results := [.lit (.bool false)], args := [d1, d2] }
  | _ => none }
def VectorNextWrongFalsely : Prop := vectorNextRow.holds Try.pinned (OpenSpec.ofChange vectorNextWrong)

/-- 'crannoglaw09.VectorTwo': WHATEVER THE INPUT: true; the input reads as it did. -/
def vectorTwoSpec : ChangeSpec := { name := "vectorTwo", fn := fun _ => fun
  | [d1, d2] => { results := [.lit (.bool true)], args := [d1, d2] }
  | _ => none }
def vectorTwoRow : OpenClaim := { program := "ytdjmpedfeahajaa", sum := "4eb88a32912f7ebdfd12c6487a1ddd126ef16be298d9863f9b459a8b87d316e7", func := "crannog/crannoglaw09.VectorTwo", spec := "vectorTwo", apart := false }
def VectorTwoSaid : Prop := vectorTwoRow.holds Try.pinned (OpenSpec.ofChange vectorTwoSpec)

/-- ITS FALSE NEIGHBOUR: 'it returns false'. Refute it at one input. -/
def vectorTwoWrong : ChangeSpec := { name := "vectorTwo", fn := fun _ => fun
  | [d1, d2] => { results := [.lit (.bool false)], args := [d1, d2] }
  | _ => none }
def VectorTwoWrongFalsely : Prop := vectorTwoRow.holds Try.pinned (OpenSpec.ofChange vectorTwoWrong)

/-- 'crannoglaw09.VectorJoined': WHATEVER THE INPUT: true; the input reads as it did. -/
def vectorJoinedSpec : ChangeSpec := { name := "vectorJoined", fn := fun _ => fun
  | [d1, d2, d3] => { results := [.lit (.bool true)], args := [d1, d2, d3] }
  | _ => none }
def vectorJoinedRow : OpenClaim := { program := "ytdjmpedfeahajaa", sum := "4eb88a32912f7ebdfd12c6487a1ddd126ef16be298d9863f9b459a8b87d316e7", func := "crannog/crannoglaw09.VectorJoined", spec := "vectorJoined", apart := false }
def VectorJoinedSaid : Prop := vectorJoinedRow.holds Try.pinned (OpenSpec.ofChange vectorJoinedSpec)

/-- ITS FALSE NEIGHBOUR: 'it returns false'. Refute it at one input. -/
def vectorJoinedWrong : ChangeSpec := { name := "vectorJoined", fn := fun _ => fun
  | [d1, d2, d3] => { results := [.lit (.bool false)], args := [d1, d2, d3] }
  | _ => none }
def VectorJoinedWrongFalsely : Prop := vectorJoinedRow.holds Try.pinned (OpenSpec.ofChange vectorJoinedWrong)

/-- 'crannoglaw09.VectorStamps': WHATEVER THE INPUT: true; the input reads as it did. -/
def vectorStampsSpec : ChangeSpec := { name := "vectorStamps", fn := fun _ => fun
  | [d1, d2, d3] => { results := [.lit (.bool true)], args := [d1, d2, d3] }
  | _ => none }
def vectorStampsRow : OpenClaim := { program := "ytdjmpedfeahajaa", sum := "4eb88a32912f7ebdfd12c6487a1ddd126ef16be298d9863f9b459a8b87d316e7", func := "crannog/crannoglaw09.VectorStamps", spec := "vectorStamps", apart := false }
def VectorStampsSaid : Prop := vectorStampsRow.holds Try.pinned (OpenSpec.ofChange vectorStampsSpec)

/-- ITS FALSE NEIGHBOUR: 'it returns false'. Refute it at one input. -/
def vectorStampsWrong : ChangeSpec := { name := "vectorStamps", fn := fun _ => fun
  | [d1, d2, d3] => { results := [.lit (.bool false)], args := [d1, d2, d3] }
  | _ => none }
def VectorStampsWrongFalsely : Prop := vectorStampsRow.holds Try.pinned (OpenSpec.ofChange vectorStampsWrong)

/-- 'crannoglaw09.VectorFresh': WHATEVER THE INPUT: true; the input reads as it did. -/
def vectorFreshSpec : ChangeSpec := { name := "vectorFresh", fn := fun _ => fun
  | [d1, d2, d3, d4] => { results := [.lit (.bool true)], args := [d1, d2, d3, d4] }
  | _ => none }
def vectorFreshRow : OpenClaim := { program := "ytdjmpedfeahajaa", sum := "4eb88a32912f7ebdfd12c6487a1ddd126ef16be298d9863f9b459a8b87d316e7", func := "crannog/crannoglaw09.VectorFresh", spec := "vectorFresh", apart := false }
def VectorFreshSaid : Prop := vectorFreshRow.holds Try.pinned (OpenSpec.ofChange vectorFreshSpec)

/-- ITS FALSE NEIGHBOUR: 'it returns false'. Refute it at one input. -/
def vectorFreshWrong : ChangeSpec := { name := "vectorFresh", fn := fun _ => fun
  | [d1, d2, d3, d4] => { results := [.lit (.bool false)], args := [d1, d2, d3, d4] }
  | _ => none }
def VectorFreshWrongFalsely : Prop := vectorFreshRow.holds Try.pinned (OpenSpec.ofChange vectorFreshWrong)

/-- 'crannoglaw09.VectorOrder': WHATEVER THE INPUT: true; the input reads as it did. -/
def vectorOrderSpec : ChangeSpec := { name := "vectorOrder", fn := fun _ => fun
  | [d1, d2, d3] => { results := [.lit (.bool true)], args := [d1, d2, d3] }
  | _ => none }
def vectorOrderRow : OpenClaim := { program := "ytdjmpedfeahajaa", sum := "4eb88a32912f7ebdfd12c6487a1ddd126ef16be298d9863f9b459a8b87d316e7", func := "crannog/crannoglaw09.VectorOrder", spec := "vectorOrder", inPlace := ["internal/bytealg.Compare"], unfollowed := true, recurses := true, apart := false }
def VectorOrderSaid : Prop := vectorOrderRow.holds Try.pinned (OpenSpec.ofChange vectorOrderSpec)

/-- ITS FALSE NEIGHBOUR: 'it returns false'. Refute it at one input. -/
def vectorOrderWrong : ChangeSpec := { name := "vectorOrder", fn := fun _ => fun
  | [d1, d2, d3] => { results := [.lit (.bool false)], args := [d1, d2, d3] }
  | _ => none }
def VectorOrderWrongFalsely : Prop := vectorOrderRow.holds Try.pinned (OpenSpec.ofChange vectorOrderWrong)

/-- 'crannoglaw01.OctetLeast': WHATEVER THE INPUT: true; the input reads as it did. -/
def octetLeastSpec : ChangeSpec := { name := "octetLeast", fn := fun _ => fun
  | [d1, d2] => { results := [.lit (.bool true)], args := [d1, d2] }
  | _ => none }
def octetLeastRow : OpenClaim := { program := "ytdjmpedfeahajaa", sum := "4eb88a32912f7ebdfd12c6487a1ddd126ef16be298d9863f9b459a8b87d316e7", func := "crannog/crannoglaw01.OctetLeast", spec := "octetLeast", unfollowed := true, recurses := true, apart := false }
def OctetLeastSaid : Prop := octetLeastRow.holds Try.pinned (OpenSpec.ofChange octetLeastSpec)

/-- ITS FALSE NEIGHBOUR: 'it returns false'. Refute it at one input. -/
def octetLeastWrong : ChangeSpec := { name := "octetLeast", fn := fun _ => fun
  | [d1, d2] => { results := [.lit (.bool false)], args := [d1, d2] }
  | _ => none }
def OctetLeastWrongFalsely : Prop := octetLeastRow.holds Try.pinned (OpenSpec.ofChange octetLeastWrong)

/-- 'crannoglaw01.OctetOrder': WHATEVER THE INPUT: true; the input reads as it did. -/
def octetOrderSpec : ChangeSpec := { name := "octetOrder", fn := fun _ => fun
  | [d1, d2, d3] => { results := [.lit (.bool true)], args := [d1, d2, d3] }
  | _ => none }
def octetOrderRow : OpenClaim := { program := "ytdjmpedfeahajaa", sum := "4eb88a32912f7ebdfd12c6487a1ddd126ef16be298d9863f9b459a8b87d316e7", func := "crannog/crannoglaw01.OctetOrder", spec := "octetOrder", inPlace := ["internal/bytealg.Compare"], unfollowed := true, recurses := true, apart := false }
def OctetOrderSaid : Prop := octetOrderRow.holds Try.pinned (OpenSpec.ofChange octetOrderSpec)

/-- ITS FALSE NEIGHBOUR: 'it returns false'. Refute it at one input. -/
def octetOrderWrong : ChangeSpec := { name := "octetOrder", fn := fun _ => fun
  | [d1, d2, d3] => { results := [.lit (.bool false)], args := [d1, d2, d3] }
  | _ => none }
def OctetOrderWrongFalsely : Prop := octetOrderRow.holds Try.pinned (OpenSpec.ofChange octetOrderWrong)

/-- 'crannoglaw01.OctetTexts': WHATEVER THE INPUT: true; the input reads as it did. -/
def octetTextsSpec : ChangeSpec := { name := "octetTexts", fn := fun _ => fun
  | [d1, d2] => { results := [.lit (.bool true)], args := [d1, d2] }
  | _ => none }
def octetTextsRow : OpenClaim := { program := "ytdjmpedfeahajaa", sum := "4eb88a32912f7ebdfd12c6487a1ddd126ef16be298d9863f9b459a8b87d316e7", func := "crannog/crannoglaw01.OctetTexts", spec := "octetTexts", unfollowed := true, recurses := true, apart := false }
def OctetTextsSaid : Prop := octetTextsRow.holds Try.pinned (OpenSpec.ofChange octetTextsSpec)

/-- ITS FALSE NEIGHBOUR: 'it returns false'. Refute it at one input. -/
def octetTextsWrong : ChangeSpec := { name := "octetTexts", fn := fun _ => fun
  | [d1, d2] => { results := [.lit (.bool false)], args := [d1, d2] }
  | _ => none }
def OctetTextsWrongFalsely : Prop := octetTextsRow.holds Try.pinned (OpenSpec.ofChange octetTextsWrong)

/-- 'crannoglaw01.OctetPuts': WHATEVER THE INPUT: true; the input reads as it did. -/
def octetPutsSpec : ChangeSpec := { name := "octetPuts", fn := fun _ => fun
  | [d1, d2, d3, d4] => { results := [.lit (.bool true)], args := [d1, d2, d3, d4] }
  | _ => none }
def octetPutsRow : OpenClaim := { program := "ytdjmpedfeahajaa", sum := "4eb88a32912f7ebdfd12c6487a1ddd126ef16be298d9863f9b459a8b87d316e7", func := "crannog/crannoglaw01.OctetPuts", spec := "octetPuts", unfollowed := true, recurses := true, apart := false }
def OctetPutsSaid : Prop := octetPutsRow.holds Try.pinned (OpenSpec.ofChange octetPutsSpec)

/-- ITS FALSE NEIGHBOUR: 'it returns false'. Refute it at one input. -/
def octetPutsWrong : ChangeSpec := { name := "octetPuts", fn := fun _ => fun
  | [d1, d2, d3, d4] => { results := [.lit (.bool false)], args := [d1, d2, d3, d4] }
  | _ => none }
def OctetPutsWrongFalsely : Prop := octetPutsRow.holds Try.pinned (OpenSpec.ofChange octetPutsWrong)

/-- 'crannoglaw01.OctetBack': WHATEVER THE INPUT: true; the input reads as it did. -/
def octetBackSpec : ChangeSpec := { name := "octetBack", fn := fun _ => fun
  | [d1, d2, d3] => { results := [.lit (.bool true)], args := [d1, d2, d3] }
  | _ => none }
def octetBackRow : OpenClaim := { program := "ytdjmpedfeahajaa", sum := "4eb88a32912f7ebdfd12c6487a1ddd126ef16be298d9863f9b459a8b87d316e7", func := "crannog/crannoglaw01.OctetBack", spec := "octetBack", unfollowed := true, recurses := true, apart := false }
def OctetBackSaid : Prop := octetBackRow.holds Try.pinned (OpenSpec.ofChange octetBackSpec)

/-- ITS FALSE NEIGHBOUR: 'it returns false'. Refute it at one input. -/
def octetBackWrong : ChangeSpec := { name := "octetBack", fn := fun _ => fun
  | [d1, d2, d3] => { results := [.lit (.bool false)], args := [d1, d2, d3] }
  | _ => none }
def OctetBackWrongFalsely : Prop := octetBackRow.holds Try.pinned (OpenSpec.ofChange octetBackWrong)

/-- 'crannoglaw01.OctetNobody': WHATEVER THE INPUT: true; the input reads as it did. -/
def octetNobodySpec : ChangeSpec := { name := "octetNobody", fn := fun _ => fun
  | [d1, d2] => { results := [.lit (.bool true)], args := [d1, d2] }
  | _ => none }
def octetNobodyRow : OpenClaim := { program := "ytdjmpedfeahajaa", sum := "4eb88a32912f7ebdfd12c6487a1ddd126ef16be298d9863f9b459a8b87d316e7", func := "crannog/crannoglaw01.OctetNobody", spec := "octetNobody", unfollowed := true, recurses := true, apart := false }
def OctetNobodySaid : Prop := octetNobodyRow.holds Try.pinned (OpenSpec.ofChange octetNobodySpec)

/-- ITS FALSE NEIGHBOUR: 'it returns false'. Refute it at one input. -/
def octetNobodyWrong : ChangeSpec := { name := "octetNobody", fn := fun _ => fun
  | [d1, d2] => { results := [.lit (.bool false)], args := [d1, d2] }
  | _ => none }
def OctetNobodyWrongFalsely : Prop := octetNobodyRow.holds Try.pinned (OpenSpec.ofChange octetNobodyWrong)

/-- 'crannoglaw01.OctetReads': WHATEVER THE INPUT: true; the input reads as it did. -/
def octetReadsSpec : ChangeSpec := { name := "octetReads", fn := fun _ => fun
  | [d1, d2] => { results := [.lit (.bool true)], args := [d1, d2] }
  | _ => none }
def octetReadsRow : OpenClaim := { program := "ytdjmpedfeahajaa", sum := "4eb88a32912f7ebdfd12c6487a1ddd126ef16be298d9863f9b459a8b87d316e7", func := "crannog/crannoglaw01.OctetReads", spec := "octetReads", unfollowed := true, recurses := true, apart := false }
def OctetReadsSaid : Prop := octetReadsRow.holds Try.pinned (OpenSpec.ofChange octetReadsSpec)

/-- ITS FALSE NEIGHBOUR: 'it returns false'. Refute it at one input. -/
def octetReadsWrong : ChangeSpec := { name := "octetReads", fn := fun _ => fun
  | [d1, d2] => { results := [.lit (.bool false)], args := [d1, d2] }
  | _ => none }
def OctetReadsWrongFalsely : Prop := octetReadsRow.holds Try.pinned (OpenSpec.ofChange octetReadsWrong)

/-- 'crannoglaw09.VectorBack': WHATEVER THE INPUT: true; the input reads as it did. -/
def vectorBackSpec : ChangeSpec := { name := "vectorBack", fn := fun _ => fun
  | [d1, d2] => { results := [.lit (.bool true)], args := [d1, d2] }
  | _ => none }
def vectorBackRow : OpenClaim := { program := "ytdjmpedfeahajaa", sum := "4eb88a32912f7ebdfd12c6487a1ddd126ef16be298d9863f9b459a8b87d316e7", func := "crannog/crannoglaw09.VectorBack", spec := "vectorBack", unfollowed := true, recurses := true, apart := false }
def VectorBackSaid : Prop := vectorBackRow.holds Try.pinned (OpenSpec.ofChange vectorBackSpec)

/-- ITS FALSE NEIGHBOUR: 'it returns false'. Refute it at one input. -/
def vectorBackWrong : ChangeSpec := { name := "vectorBack", fn := fun _ => fun
  | [d1, d2] => { results := [.lit (.bool false)], args := [d1, d2] }
  | _ => none }
def VectorBackWrongFalsely : Prop := vectorBackRow.holds Try.pinned (OpenSpec.ofChange vectorBackWrong)

/-- 'crannoglaw09.VectorBytes': WHATEVER THE INPUT: true; the input reads as it did. -/
def vectorBytesSpec : ChangeSpec := { name := "vectorBytes", fn := fun _ => fun
  | [d1, d2, d3, d4] => { results := [.lit (.bool true)], args := [d1, d2, d3, d4] }
  | _ => none }
def vectorBytesRow : OpenClaim := { program := "ytdjmpedfeahajaa", sum := "4eb88a32912f7ebdfd12c6487a1ddd126ef16be298d9863f9b459a8b87d316e7", func := "crannog/crannoglaw09.VectorBytes", spec := "vectorBytes", unfollowed := true, recurses := true, apart := false }
def VectorBytesSaid : Prop := vectorBytesRow.holds Try.pinned (OpenSpec.ofChange vectorBytesSpec)

/-- ITS FALSE NEIGHBOUR: 'it returns false'. Refute it at one input. -/
def vectorBytesWrong : ChangeSpec := { name := "vectorBytes", fn := fun _ => fun
  | [d1, d2, d3, d4] => { results := [.lit (.bool false)], args := [d1, d2, d3, d4] }
  | _ => none }
def VectorBytesWrongFalsely : Prop := vectorBytesRow.holds Try.pinned (OpenSpec.ofChange vectorBytesWrong)

/- THE SECOND FORM. 'bulk': how many values and letters a reading holds, each counted each time it is reached (what is shared counts as often as it is met; a slice's spare places count too). A statement '..UptoSaid' is the law's where the arguments, and the package variables that the reading takes, are together of bulk at most 1048576: NARROWER than '..Said'. Prove '..Said' where nothing that the law and all that it calls make is longer than what came in: it says more and counts as full. Else prove '..UptoSaid'. A law counts once. -/
mutual
def uptoBulk {H : Type} : DataW H → Nat
  | .lit (.string bytes) => bytes.length + 1
  | .lit _ => 1
  | .nil => 1
  | .ptr d => uptoBulk d + 1
  | .slice elems spare => uptoBulkAll elems + uptoBulkAll spare + 1
  | .agg parts => uptoBulkAll parts + 1
  | .iface _ d => uptoBulk d + 1
  | .map entries => uptoBulkEntries entries + 1
  | .held _ => 1
def uptoBulkAll {H : Type} : List (DataW H) → Nat
  | [] => 0
  | d :: r => uptoBulk d + uptoBulkAll r
def uptoBulkEntries {H : Type} : List (Lit × DataW H) → Nat
  | [] => 0
  | x :: r => uptoBulkEntry x + uptoBulkEntries r
def uptoBulkEntry {H : Type} : Lit × DataW H → Nat
  | (.string bytes, d) => bytes.length + uptoBulk d + 1
  | (_, d) => uptoBulk d + 1
 end
def uptoSmall : (H : Type) → List (DataW H) → Bool := fun _ ds => decide (uptoBulkAll ds ≤ 1048576)
def OpenSpec.upto (s : _root_.Go.ChangeSpec) : _root_.Go.OpenSpec := { _root_.Go.OpenSpec.ofChange s with cond := some uptoSmall }

/-- 'crannoglaw09.VectorNext', WHERE WHAT IT READS IS OF BULK AT MOST 1048576: true; the input reads as it did. -/
def vectorNextUptoRow : OpenClaim := { program := "ytdjmpedfeahajaa", sum := "4eb88a32912f7ebdfd12c6487a1ddd126ef16be298d9863f9b459a8b87d316e7", func := "crannog/crannoglaw09.VectorNext", spec := "vectorNext", apart := false, narrowed := true }
def VectorNextUptoSaid : Prop := vectorNextUptoRow.holds Try.pinned (OpenSpec.upto vectorNextSpec)

/-- 'crannoglaw09.VectorTwo', WHERE WHAT IT READS IS OF BULK AT MOST 1048576: true; the input reads as it did. -/
def vectorTwoUptoRow : OpenClaim := { program := "ytdjmpedfeahajaa", sum := "4eb88a32912f7ebdfd12c6487a1ddd126ef16be298d9863f9b459a8b87d316e7", func := "crannog/crannoglaw09.VectorTwo", spec := "vectorTwo", apart := false, narrowed := true }
def VectorTwoUptoSaid : Prop := vectorTwoUptoRow.holds Try.pinned (OpenSpec.upto vectorTwoSpec)

/-- 'crannoglaw09.VectorJoined', WHERE WHAT IT READS IS OF BULK AT MOST 1048576: true; the input reads as it did. -/
def vectorJoinedUptoRow : OpenClaim := { program := "ytdjmpedfeahajaa", sum := "4eb88a32912f7ebdfd12c6487a1ddd126ef16be298d9863f9b459a8b87d316e7", func := "crannog/crannoglaw09.VectorJoined", spec := "vectorJoined", apart := false, narrowed := true }
def VectorJoinedUptoSaid : Prop := vectorJoinedUptoRow.holds Try.pinned (OpenSpec.upto vectorJoinedSpec)

/-- 'crannoglaw09.VectorStamps', WHERE WHAT IT READS IS OF BULK AT MOST 1048576: true; the input reads as it did. -/
def vectorStampsUptoRow : OpenClaim := { program := "ytdjmpedfeahajaa", sum := "4eb88a32912f7ebdfd12c6487a1ddd126ef16be298d9863f9b459a8b87d316e7", func := "crannog/crannoglaw09.VectorStamps", spec := "vectorStamps", apart := false, narrowed := true }
def VectorStampsUptoSaid : Prop := vectorStampsUptoRow.holds Try.pinned (OpenSpec.upto vectorStampsSpec)

/-- 'crannoglaw09.VectorFresh', WHERE WHAT IT READS IS OF BULK AT MOST 1048576: true; the input reads as it did. -/
def vectorFreshUptoRow : OpenClaim := { program := "ytdjmpedfeahajaa", sum := "4eb88a32912f7ebdfd12c6487a1ddd126ef16be298d9863f9b459a8b87d316e7", func := "crannog/crannoglaw09.VectorFresh", spec := "vectorFresh", apart := false, narrowed := true }
def VectorFreshUptoSaid : Prop := vectorFreshUptoRow.holds Try.pinned (OpenSpec.upto vectorFreshSpec)

/-- 'crannoglaw09.VectorOrder', WHERE WHAT IT READS IS OF BULK AT MOST 1048576: true; the input reads as it did. -/
def vectorOrderUptoRow : OpenClaim := { program := "ytdjmpedfeahajaa", sum := "4eb88a32912f7ebdfd12c6487a1ddd126ef16be298d9863f9b459a8b87d316e7", func := "crannog/crannoglaw09.VectorOrder", spec := "vectorOrder", inPlace := ["internal/bytealg.Compare"], unfollowed := true, recurses := true, apart := false, narrowed := true }
def VectorOrderUptoSaid : Prop := vectorOrderUptoRow.holds Try.pinned (OpenSpec.upto vectorOrderSpec)

/-- 'crannoglaw01.OctetLeast', WHERE WHAT IT READS IS OF BULK AT MOST 1048576: true; the input reads as it did. -/
def octetLeastUptoRow : OpenClaim := { program := "ytdjmpedfeahajaa", sum := "4eb88a32912f7ebdfd12c6487a1ddd126ef16be298d9863f9b459a8b87d316e7", func := "crannog/crannoglaw01.OctetLeast", spec := "octetLeast", unfollowed := true, recurses := true, apart := false, narrowed := true }
def OctetLeastUptoSaid : Prop := octetLeastUptoRow.holds Try.pinned (OpenSpec.upto octetLeastSpec)

/-- 'crannoglaw01.OctetOrder', WHERE WHAT IT READS IS OF BULK AT MOST 1048576: true; the input reads as it did. -/
def octetOrderUptoRow : OpenClaim := { program := "ytdjmpedfeahajaa", sum := "4eb88a32912f7ebdfd12c6487a1ddd126ef16be298d9863f9b459a8b87d316e7", func := "crannog/crannoglaw01.OctetOrder", spec := "octetOrder", inPlace := ["internal/bytealg.Compare"], unfollowed := true, recurses := true, apart := false, narrowed := true }
def OctetOrderUptoSaid : Prop := octetOrderUptoRow.holds Try.pinned (OpenSpec.upto octetOrderSpec)

/-- 'crannoglaw01.OctetTexts', WHERE WHAT IT READS IS OF BULK AT MOST 1048576: true; the input reads as it did. -/
def octetTextsUptoRow : OpenClaim := { program := "ytdjmpedfeahajaa", sum := "4eb88a32912f7ebdfd12c6487a1ddd126ef16be298d9863f9b459a8b87d316e7", func := "crannog/crannoglaw01.OctetTexts", spec := "octetTexts", unfollowed := true, recurses := true, apart := false, narrowed := true }
def OctetTextsUptoSaid : Prop := octetTextsUptoRow.holds Try.pinned (OpenSpec.upto octetTextsSpec)

/-- 'crannoglaw01.OctetPuts', WHERE WHAT IT READS IS OF BULK AT MOST 1048576: true; the input reads as it did. -/
def octetPutsUptoRow : OpenClaim := { program := "ytdjmpedfeahajaa", sum := "4eb88a32912f7ebdfd12c6487a1ddd126ef16be298d9863f9b459a8b87d316e7", func := "crannog/crannoglaw01.OctetPuts", spec := "octetPuts", unfollowed := true, recurses := true, apart := false, narrowed := true }
def OctetPutsUptoSaid : Prop := octetPutsUptoRow.holds Try.pinned (OpenSpec.upto octetPutsSpec)

/-- 'crannoglaw01.OctetBack', WHERE WHAT IT READS IS OF BULK AT MOST 1048576: true; the input reads as it did. -/
def octetBackUptoRow : OpenClaim := { program := "ytdjmpedfeahajaa", sum := "4eb88a32912f7ebdfd12c6487a1ddd126ef16be298d9863f9b459a8b87d316e7", func := "crannog/crannoglaw01.OctetBack", spec := "octetBack", unfollowed := true, recurses := true, apart := false, narrowed := true }
def OctetBackUptoSaid : Prop := octetBackUptoRow.holds Try.pinned (OpenSpec.upto octetBackSpec)

/-- 'crannoglaw01.OctetNobody', WHERE WHAT IT READS IS OF BULK AT MOST 1048576: true; the input reads as it did. -/
def octetNobodyUptoRow : OpenClaim := { program := "ytdjmpedfeahajaa", sum := "4eb88a32912f7ebdfd12c6487a1ddd126ef16be298d9863f9b459a8b87d316e7", func := "crannog/crannoglaw01.OctetNobody", spec := "octetNobody", unfollowed := true, recurses := true, apart := false, narrowed := true }
def OctetNobodyUptoSaid : Prop := octetNobodyUptoRow.holds Try.pinned (OpenSpec.upto octetNobodySpec)

/-- 'crannoglaw01.OctetReads', WHERE WHAT IT READS IS OF BULK AT MOST 1048576: true; the input reads as it did. -/
def octetReadsUptoRow : OpenClaim := { program := "ytdjmpedfeahajaa", sum := "4eb88a32912f7ebdfd12c6487a1ddd126ef16be298d9863f9b459a8b87d316e7", func := "crannog/crannoglaw01.OctetReads", spec := "octetReads", unfollowed := true, recurses := true, apart := false, narrowed := true }
def OctetReadsUptoSaid : Prop := octetReadsUptoRow.holds Try.pinned (OpenSpec.upto octetReadsSpec)

/-- 'crannoglaw09.VectorBack', WHERE WHAT IT READS IS OF BULK AT MOST 1048576: true; the input reads as it did. -/
def vectorBackUptoRow : OpenClaim := { program := "ytdjmpedfeahajaa", sum := "4eb88a32912f7ebdfd12c6487a1ddd126ef16be298d9863f9b459a8b87d316e7", func := "crannog/crannoglaw09.VectorBack", spec := "vectorBack", unfollowed := true, recurses := true, apart := false, narrowed := true }
def VectorBackUptoSaid : Prop := vectorBackUptoRow.holds Try.pinned (OpenSpec.upto vectorBackSpec)

/-- 'crannoglaw09.VectorBytes', WHERE WHAT IT READS IS OF BULK AT MOST 1048576: true; the input reads as it did. -/
def vectorBytesUptoRow : OpenClaim := { program := "ytdjmpedfeahajaa", sum := "4eb88a32912f7ebdfd12c6487a1ddd126ef16be298d9863f9b459a8b87d316e7", func := "crannog/crannoglaw09.VectorBytes", spec := "vectorBytes", unfollowed := true, recurses := true, apart := false, narrowed := true }
def VectorBytesUptoSaid : Prop := vectorBytesUptoRow.holds Try.pinned (OpenSpec.upto vectorBytesSpec)

end Rows
end Go.Proofs.Ytdjmpedfeahajaa
