/- Plain laws: steps as lists of words, and back. No condition. -/
import Derived.Test.YtmcooenafgihkaaGreatDoorP6
set_option linter.unusedSimpArgs false
set_option linter.unusedVariables false
namespace Go.Proofs.YtmcooenafgihkaaGreatDoor

abbrev Bs := List UInt8
/-- A step. -/
structure StepR where
  kind : Int
  rep : Int
  vol : ByteArray
  dst : ByteArray
  n : Int
  keep : List Int
  ck : Int
  path : ByteArray
  cto : ByteArray
  off : Int
  cn : Int
  data : ByteArray
  time : Nat
def zeroR : StepR := ⟨0, 0, ⟨#[]⟩, ⟨#[]⟩, 0, [], 0, ⟨#[]⟩, ⟨#[]⟩, 0, 0, ⟨#[]⟩, 0⟩
/-- How calls and steps are said: a word, and what stands behind it. -/
def callF : List (Bs × Bs) := [([109, 107, 100, 105, 114], [110, 115]), ([99, 114, 101, 97, 116, 101], [110, 115]), ([108, 105, 110, 107], [116]), ([115, 121, 109, 108, 105, 110, 107], [116, 110, 115]), ([117, 110, 108, 105, 110, 107], []), ([114, 109, 100, 105, 114], []), ([114, 101, 110, 97, 109, 101], [116]), ([119, 114, 105, 116, 101], [111, 100]), ([116, 114, 117, 110, 99, 97, 116, 101], [110]), ([99, 104, 109, 111, 100], [110]), ([117, 116, 105, 109, 101], [115]), ([115, 101, 116, 120], [116, 100]), ([100, 101, 108, 120], [116]), ([114, 101, 97, 100], [111, 110]), ([108, 105, 115, 116], []), ([114, 101, 97, 100, 108, 105, 110, 107], []), ([115, 116, 97, 116], []), ([103, 101, 116, 120], [116]), ([108, 105, 115, 116, 120], [])]
def stepF : List (Bs × Bs) := [([99, 97, 108, 108], [114, 118, 99]), ([115, 110, 97, 112], [114, 118, 116]), ([99, 108, 111, 110, 101], [114, 118, 116]), ([100, 101, 108, 101, 116, 101], [114, 118]), ([99, 111, 109, 109, 105, 116], [114]), ([116, 105, 99, 107], [114]), ([100, 101, 108, 105, 118, 101, 114], [110]), ([100, 114, 111, 112], [110]), ([100, 111, 117, 98, 108, 101], [110]), ([99, 114, 97, 115, 104], [114, 107]), ([102, 117, 115, 101], [114, 110]), ([115, 116, 97, 114, 116], [114]), ([112, 114, 117, 110, 101], [114, 118])]
/-- The form of a kind. -/
def formAt (l : List (Bs × Bs)) (k : Int) : Option (Bs × Bs) := if k < 1 then none else l[(k - 1).toNat]?
/-- The words of a letter of a call. -/
def fldC (s : StepR) (c : UInt8) : Option (List Bs) := if c = 116 then some [wordL s.cto.data.toList] else if c = 111 then some [Lib.itoa s.off] else if c = 110 then some [Lib.itoa s.cn] else if c = 100 then some [wordL s.data.data.toList] else (timeL s.time).map fun t => [t]
/-- The words of letters, one behind the other. -/
def flds (f : UInt8 → Option (List Bs)) : Bs → Option (List Bs)
  | [] => some []
  | c :: cs => (f c).bind fun a => (flds f cs).map fun b => a ++ b
def calledL (s : StepR) : Option (List Bs) := match formAt callF s.ck with
  | none => none
  | some (w, cs) => (flds (fldC s) cs).map fun l => w :: wordL s.path.data.toList :: l
def fldS (s : StepR) (c : UInt8) : Option (List Bs) := if c = 114 then some [Lib.itoa s.rep] else if c = 118 then some [wordL s.vol.data.toList] else if c = 116 then some [wordL s.dst.data.toList] else if c = 110 then some [Lib.itoa s.n] else if c = 107 then some (s.keep.map Lib.itoa) else calledL s
/-- The words of a step. -/
def textW (s : StepR) : Option (List Bs) := match formAt stepF s.kind with
  | none => none
  | some (w, cs) => (flds (fldS s) cs).map fun l => w :: l
/-- The time of a word. -/
def timeU (w : Bs) : Option Nat := if w = [110, 111, 110, 101] then some 9221120237041090561 else if w = [110, 101, 118, 101, 114] then some 9218868437227405312 else if w = [101, 118, 101, 114] then some 18442240474082181120 else if w = [45, 48] then some 9223372036854775808 else
  (numL w).bind fun n => if -9007199254740992 ≤ n ∧ n ≤ 9007199254740992 then some (floatOfInt .f64 n) else none
/-- A call with what a word says for a letter. -/
def setC (s : StepR) (c : UInt8) (w : Bs) : Option StepR := if c = 116 then (unwordL w).map fun t => { s with cto := ⟨t.toArray⟩ } else if c = 111 then (numL w).map fun n => { s with off := n } else if c = 110 then (numL w).map fun n => { s with cn := n } else if c = 100 then (unwordL w).map fun t => { s with data := ⟨t.toArray⟩ } else (timeU w).map fun b => { s with time := b }
def runC : Bs → StepR → List Bs → Option (StepR × List Bs)
  | [], s, ws => some (s, ws)
  | _ :: _, _, [] => none
  | c :: cs, s, w :: ws => (setC s c w).bind fun s' => runC cs s' ws
/-- Where a word stands among forms. -/
def findF (l : List (Bs × Bs)) (w : Bs) : Option Nat := l.findIdx? fun f => f.1 == w
def argsAt (l : List (Bs × Bs)) (i : Nat) : Bs := (l.getD i ([], [])).2
/-- A call off words. -/
def callP (s : StepR) : List Bs → Option (StepR × List Bs)
  | [] => none
  | w :: ws => (findF callF w).bind fun i => match ws with
    | [] => none
    | p :: ws => (unwordL p).bind fun t => runC (argsAt callF i) { s with ck := (i : Int) + 1, path := ⟨t.toArray⟩ } ws
def numsL : List Bs → Option (List Int)
  | [] => some []
  | w :: ws => (numL w).bind fun n => (numsL ws).map fun l => n :: l
def setS (s : StepR) (c : UInt8) (w : Bs) : Option StepR := if c = 114 then (numL w).map fun n => { s with rep := n } else if c = 118 then (unwordL w).map fun t => { s with vol := ⟨t.toArray⟩ } else if c = 116 then (unwordL w).map fun t => { s with dst := ⟨t.toArray⟩ } else (numL w).map fun n => { s with n := n }
/-- A letter that takes one word. -/
def oneS (c : UInt8) : Bool := c == 114 || c == 118 || c == 116 || c == 110
def runS : Bs → StepR → List Bs → Option StepR
  | [], s, ws => if ws = [] then some s else none
  | c :: cs, s, ws => if oneS c = true then (match ws with
      | [] => none
      | w :: ws => (setS s c w).bind fun s' => runS cs s' ws)
    else if c = 107 then (numsL ws).bind fun l => runS cs { s with keep := s.keep ++ l } []
    else (callP s ws).bind fun x => runS cs x.1 x.2
/-- The step of words. -/
def stepP : List Bs → Option StepR
  | [] => none
  | w :: ws => (findF stepF w).bind fun i => runS (argsAt stepF i) { zeroR with kind := (i : Int) + 1 } ws
end Go.Proofs.YtmcooenafgihkaaGreatDoor
