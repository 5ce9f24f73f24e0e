/-
  DERIVED. GIVEN WITH THE SEED: THE CARDS: each row of YtaingleopdnkiaaDoorRows.lean that lists a variable, with what it lists TIED to the program's text (the seventh form; the later family's looks); each row that meets fmt, with fmt's text TOLD by the authors' own Lean function (tested against real Go, not proved from fmt's source: count such statements apart). THE CARD IS WHAT COUNTS. Prove the row's statement (the work); the ties are given (YtaingleopdnkiaaDoorTie.lean); close each card by the builder's one call (the guide's Derived/Test/ToyasCard.lean, 'card_holds'). Laid BY PROGRAM, IN A SANDBOX (cutbox-door.mjs). By AI agents, Wed Nov 11 2026. No macro, syntax, notation, axiom, sorry.
-/
import Derived.Test.YtaingleopdnkiaaDoorRows
import GoSem.ClaimSeven
namespace Go.Proofs.YtaingleopdnkiaaDoor
namespace Rows

/-- THE TIED CARD OF 'crannoglaw04.NamesOdd'. -/
def namesOddCard : Claim7 := { stood := { row := namesOddRow, standIns := [], harness := (true, "3ded5e986db1bf244aa65ef0f28abe53b1f7c3c0e45d028d18b6350e7d65feee"), looks := false }, kinds := [], alts := [], laidByText := true, laidKinds := [.data, .pinned], laidTests := true, laidLooks := .later }
def NamesOddCardSaid : Prop := Claim7.holds Tryd.pinned (.plain (OpenSpec.ofChange namesOddSpec)) namesOddCard

/-- THE TIED CARD OF 'crannoglaw04.NamesApart'. -/
def namesApartCard : Claim7 := { stood := { row := namesApartRow, standIns := [], harness := (true, "3ded5e986db1bf244aa65ef0f28abe53b1f7c3c0e45d028d18b6350e7d65feee"), looks := false }, kinds := [], alts := [], laidByText := true, laidKinds := [.data, .pinned], laidTests := true, laidLooks := .later }
def NamesApartCardSaid : Prop := Claim7.holds Tryd.pinned (.plain (OpenSpec.ofChange namesApartSpec)) namesApartCard

/-- THE TIED CARD OF 'crannoglaw04.NamesWithin'. -/
def namesWithinCard : Claim7 := { stood := { row := namesWithinRow, standIns := [], harness := (true, "3ded5e986db1bf244aa65ef0f28abe53b1f7c3c0e45d028d18b6350e7d65feee"), looks := false }, kinds := [], alts := [], laidByText := true, laidKinds := [.data, .pinned], laidTests := true, laidLooks := .later }
def NamesWithinCardSaid : Prop := Claim7.holds Tryd.pinned (.plain (OpenSpec.ofChange namesWithinSpec)) namesWithinCard

/-- THE TIED CARD OF 'crannoglaw04.NamesSplit'. -/
def namesSplitCard : Claim7 := { stood := { row := namesSplitRow, standIns := [], harness := (true, "3ded5e986db1bf244aa65ef0f28abe53b1f7c3c0e45d028d18b6350e7d65feee"), looks := false }, kinds := [], alts := [], laidByText := true, laidKinds := [.data, .pinned], laidTests := true, laidLooks := .later }
def NamesSplitCardSaid : Prop := Claim7.holds Tryd.pinned (.plain (OpenSpec.ofChange namesSplitSpec)) namesSplitCard

/-- THE TIED CARD OF 'crannoglaw04.NamesParents'. -/
def namesParentsCard : Claim7 := { stood := { row := namesParentsRow, standIns := [], harness := (true, "3ded5e986db1bf244aa65ef0f28abe53b1f7c3c0e45d028d18b6350e7d65feee"), looks := false }, kinds := [], alts := [], laidByText := true, laidKinds := [.data, .pinned], laidTests := true, laidLooks := .later }
def NamesParentsCardSaid : Prop := Claim7.holds Tryd.pinned (.plain (OpenSpec.ofChange namesParentsSpec)) namesParentsCard

/-- THE TIED CARD OF 'crannoglaw04.NamesBack'. -/
def namesBackCard : Claim7 := { stood := { row := namesBackRow, standIns := [], harness := (true, "3ded5e986db1bf244aa65ef0f28abe53b1f7c3c0e45d028d18b6350e7d65feee"), looks := false }, kinds := [], alts := [], laidByText := true, laidKinds := [.data, .pinned], laidTests := true, laidLooks := .later }
def NamesBackCardSaid : Prop := Claim7.holds Tryd.pinned (.plain (OpenSpec.ofChange namesBackSpec)) namesBackCard

/-- THE TIED CARD OF 'crannoglaw04.NamesJoin'. -/
def namesJoinCard : Claim7 := { stood := { row := namesJoinRow, standIns := [], harness := (true, "3ded5e986db1bf244aa65ef0f28abe53b1f7c3c0e45d028d18b6350e7d65feee"), looks := false }, kinds := [], alts := [], laidByText := true, laidKinds := [.data, .pinned], laidTests := true, laidLooks := .later }
def NamesJoinCardSaid : Prop := Claim7.holds Tryd.pinned (.plain (OpenSpec.ofChange namesJoinSpec)) namesJoinCard

/-- THE SECOND FORM's CARD OF 'crannoglaw04.NamesOdd'. -/
def namesOddUptoCard : Claim7 := { stood := { row := namesOddUptoRow, standIns := [], harness := (true, "3ded5e986db1bf244aa65ef0f28abe53b1f7c3c0e45d028d18b6350e7d65feee"), looks := false }, kinds := [], alts := [], laidByText := true, laidKinds := [.data, .pinned], laidTests := true, laidLooks := .later }
def NamesOddUptoCardSaid : Prop := Claim7.holds Tryd.pinned (.plain (OpenSpec.upto namesOddSpec)) namesOddUptoCard

/-- THE SECOND FORM's CARD OF 'crannoglaw04.NamesApart'. -/
def namesApartUptoCard : Claim7 := { stood := { row := namesApartUptoRow, standIns := [], harness := (true, "3ded5e986db1bf244aa65ef0f28abe53b1f7c3c0e45d028d18b6350e7d65feee"), looks := false }, kinds := [], alts := [], laidByText := true, laidKinds := [.data, .pinned], laidTests := true, laidLooks := .later }
def NamesApartUptoCardSaid : Prop := Claim7.holds Tryd.pinned (.plain (OpenSpec.upto namesApartSpec)) namesApartUptoCard

/-- THE SECOND FORM's CARD OF 'crannoglaw04.NamesWithin'. -/
def namesWithinUptoCard : Claim7 := { stood := { row := namesWithinUptoRow, standIns := [], harness := (true, "3ded5e986db1bf244aa65ef0f28abe53b1f7c3c0e45d028d18b6350e7d65feee"), looks := false }, kinds := [], alts := [], laidByText := true, laidKinds := [.data, .pinned], laidTests := true, laidLooks := .later }
def NamesWithinUptoCardSaid : Prop := Claim7.holds Tryd.pinned (.plain (OpenSpec.upto namesWithinSpec)) namesWithinUptoCard

/-- THE SECOND FORM's CARD OF 'crannoglaw04.NamesSplit'. -/
def namesSplitUptoCard : Claim7 := { stood := { row := namesSplitUptoRow, standIns := [], harness := (true, "3ded5e986db1bf244aa65ef0f28abe53b1f7c3c0e45d028d18b6350e7d65feee"), looks := false }, kinds := [], alts := [], laidByText := true, laidKinds := [.data, .pinned], laidTests := true, laidLooks := .later }
def NamesSplitUptoCardSaid : Prop := Claim7.holds Tryd.pinned (.plain (OpenSpec.upto namesSplitSpec)) namesSplitUptoCard

/-- THE SECOND FORM's CARD OF 'crannoglaw04.NamesParents'. -/
def namesParentsUptoCard : Claim7 := { stood := { row := namesParentsUptoRow, standIns := [], harness := (true, "3ded5e986db1bf244aa65ef0f28abe53b1f7c3c0e45d028d18b6350e7d65feee"), looks := false }, kinds := [], alts := [], laidByText := true, laidKinds := [.data, .pinned], laidTests := true, laidLooks := .later }
def NamesParentsUptoCardSaid : Prop := Claim7.holds Tryd.pinned (.plain (OpenSpec.upto namesParentsSpec)) namesParentsUptoCard

/-- THE SECOND FORM's CARD OF 'crannoglaw04.NamesBack'. -/
def namesBackUptoCard : Claim7 := { stood := { row := namesBackUptoRow, standIns := [], harness := (true, "3ded5e986db1bf244aa65ef0f28abe53b1f7c3c0e45d028d18b6350e7d65feee"), looks := false }, kinds := [], alts := [], laidByText := true, laidKinds := [.data, .pinned], laidTests := true, laidLooks := .later }
def NamesBackUptoCardSaid : Prop := Claim7.holds Tryd.pinned (.plain (OpenSpec.upto namesBackSpec)) namesBackUptoCard

/-- THE SECOND FORM's CARD OF 'crannoglaw04.NamesJoin'. -/
def namesJoinUptoCard : Claim7 := { stood := { row := namesJoinUptoRow, standIns := [], harness := (true, "3ded5e986db1bf244aa65ef0f28abe53b1f7c3c0e45d028d18b6350e7d65feee"), looks := false }, kinds := [], alts := [], laidByText := true, laidKinds := [.data, .pinned], laidTests := true, laidLooks := .later }
def NamesJoinUptoCardSaid : Prop := Claim7.holds Tryd.pinned (.plain (OpenSpec.upto namesJoinSpec)) namesJoinUptoCard
end Rows
end Go.Proofs.YtaingleopdnkiaaDoor
