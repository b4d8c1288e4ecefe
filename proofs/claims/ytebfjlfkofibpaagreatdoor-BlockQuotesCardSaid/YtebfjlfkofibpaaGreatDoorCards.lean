/-
  DERIVED. GIVEN WITH THE SEED: THE CARDS: each row of YtebfjlfkofibpaaGreatDoorRows.lean that lists a variable, with what it lists TIED to the program's text (the seventh form; the later family's looks); each row that meets fmt, with fmt's text TOLD by the authors' own Lean function (tested against real Go, not proved from fmt's source: count such statements apart). THE CARD IS WHAT COUNTS. Prove the row's statement (the work); the ties are given (YtebfjlfkofibpaaGreatDoorTie.lean); close each card by the builder's one call (the guide's Derived/Test/ToyasCard.lean, 'card_holds'). Laid BY PROGRAM, IN A SANDBOX (cutbox-door.mjs). By AI agents, Wed Nov 11 2026. No macro, syntax, notation, axiom, sorry.
-/
import Derived.Test.YtebfjlfkofibpaaGreatDoorRows
import GoSem.ClaimSeven
namespace Go.Proofs.YtebfjlfkofibpaaGreatDoor
namespace Rows

/-- THE TIED CARD OF 'tympanlaw25.BlockEnds'. -/
def blockEndsCard : Claim7 := { stood := { row := blockEndsRow, standIns := [], harness := (true, "dda042c3c2edd291a9fef709a4d28d72e63ddcb4d6c3b8acdffeff23b9c00021"), looks := true }, kinds := [], alts := [], laidByText := true, laidKinds := [.data, .data, .data, .data, .sentinel, .sentinel, .listed, .data, .pinned], laidTests := true, laidLooks := .later }
def BlockEndsCardSaid : Prop := Claim7.holds Tryz.pinned (.plain (OpenSpec.ofChange blockEndsSpec)) blockEndsCard

/-- THE TIED CARD OF 'tympanlaw25.BlockQuotes'. -/
def blockQuotesCard : Claim7 := { stood := { row := blockQuotesRow, standIns := [], harness := (true, "dda042c3c2edd291a9fef709a4d28d72e63ddcb4d6c3b8acdffeff23b9c00021"), looks := true }, kinds := [], alts := [], laidByText := true, laidKinds := [.data, .data, .data, .data, .sentinel, .sentinel, .listed, .data, .pinned], laidTests := true, laidLooks := .later }
def BlockQuotesCardSaid : Prop := Claim7.holds Tryz.pinned (.plain (OpenSpec.ofChange blockQuotesSpec)) blockQuotesCard

/-- THE TIED CARD OF 'tympanlaw25.BlockHolds'. -/
def blockHoldsCard : Claim7 := { stood := { row := blockHoldsRow, standIns := [], harness := (true, "dda042c3c2edd291a9fef709a4d28d72e63ddcb4d6c3b8acdffeff23b9c00021"), looks := true }, kinds := [], alts := [], laidByText := true, laidKinds := [.data, .data, .data, .data, .sentinel, .sentinel, .listed, .data, .pinned], laidTests := true, laidLooks := .later }
def BlockHoldsCardSaid : Prop := Claim7.holds Tryz.pinned (.plain (OpenSpec.ofChange blockHoldsSpec)) blockHoldsCard

/-- THE TIED CARD OF 'tympanlaw25.BlockPlain'. -/
def blockPlainCard : Claim7 := { stood := { row := blockPlainRow, standIns := [], harness := (true, "dda042c3c2edd291a9fef709a4d28d72e63ddcb4d6c3b8acdffeff23b9c00021"), looks := true }, kinds := [], alts := [], laidByText := true, laidKinds := [.data, .data, .data, .data, .sentinel, .sentinel, .listed, .data, .pinned], laidTests := true, laidLooks := .later }
def BlockPlainCardSaid : Prop := Claim7.holds Tryz.pinned (.plain (OpenSpec.ofChange blockPlainSpec)) blockPlainCard

/-- THE TIED CARD OF 'tympanlaw25.BlockFenced'. -/
def blockFencedCard : Claim7 := { stood := { row := blockFencedRow, standIns := [], harness := (true, "dda042c3c2edd291a9fef709a4d28d72e63ddcb4d6c3b8acdffeff23b9c00021"), looks := true }, kinds := [], alts := [], laidByText := true, laidKinds := [.data, .data, .data, .data, .sentinel, .sentinel, .listed, .data, .pinned], laidTests := true, laidLooks := .later }
def BlockFencedCardSaid : Prop := Claim7.holds Tryz.pinned (.plain (OpenSpec.ofChange blockFencedSpec)) blockFencedCard

/-- THE SECOND FORM's CARD OF 'tympanlaw25.BlockEnds'. -/
def blockEndsUptoCard : Claim7 := { stood := { row := blockEndsUptoRow, standIns := [], harness := (true, "dda042c3c2edd291a9fef709a4d28d72e63ddcb4d6c3b8acdffeff23b9c00021"), looks := true }, kinds := [], alts := [], laidByText := true, laidKinds := [.data, .data, .data, .data, .sentinel, .sentinel, .listed, .data, .pinned], laidTests := true, laidLooks := .later }
def BlockEndsUptoCardSaid : Prop := Claim7.holds Tryz.pinned (.plain (OpenSpec.upto blockEndsSpec)) blockEndsUptoCard

/-- THE SECOND FORM's CARD OF 'tympanlaw25.BlockQuotes'. -/
def blockQuotesUptoCard : Claim7 := { stood := { row := blockQuotesUptoRow, standIns := [], harness := (true, "dda042c3c2edd291a9fef709a4d28d72e63ddcb4d6c3b8acdffeff23b9c00021"), looks := true }, kinds := [], alts := [], laidByText := true, laidKinds := [.data, .data, .data, .data, .sentinel, .sentinel, .listed, .data, .pinned], laidTests := true, laidLooks := .later }
def BlockQuotesUptoCardSaid : Prop := Claim7.holds Tryz.pinned (.plain (OpenSpec.upto blockQuotesSpec)) blockQuotesUptoCard

/-- THE SECOND FORM's CARD OF 'tympanlaw25.BlockHolds'. -/
def blockHoldsUptoCard : Claim7 := { stood := { row := blockHoldsUptoRow, standIns := [], harness := (true, "dda042c3c2edd291a9fef709a4d28d72e63ddcb4d6c3b8acdffeff23b9c00021"), looks := true }, kinds := [], alts := [], laidByText := true, laidKinds := [.data, .data, .data, .data, .sentinel, .sentinel, .listed, .data, .pinned], laidTests := true, laidLooks := .later }
def BlockHoldsUptoCardSaid : Prop := Claim7.holds Tryz.pinned (.plain (OpenSpec.upto blockHoldsSpec)) blockHoldsUptoCard

/-- THE SECOND FORM's CARD OF 'tympanlaw25.BlockPlain'. -/
def blockPlainUptoCard : Claim7 := { stood := { row := blockPlainUptoRow, standIns := [], harness := (true, "dda042c3c2edd291a9fef709a4d28d72e63ddcb4d6c3b8acdffeff23b9c00021"), looks := true }, kinds := [], alts := [], laidByText := true, laidKinds := [.data, .data, .data, .data, .sentinel, .sentinel, .listed, .data, .pinned], laidTests := true, laidLooks := .later }
def BlockPlainUptoCardSaid : Prop := Claim7.holds Tryz.pinned (.plain (OpenSpec.upto blockPlainSpec)) blockPlainUptoCard

/-- THE SECOND FORM's CARD OF 'tympanlaw25.BlockFenced'. -/
def blockFencedUptoCard : Claim7 := { stood := { row := blockFencedUptoRow, standIns := [], harness := (true, "dda042c3c2edd291a9fef709a4d28d72e63ddcb4d6c3b8acdffeff23b9c00021"), looks := true }, kinds := [], alts := [], laidByText := true, laidKinds := [.data, .data, .data, .data, .sentinel, .sentinel, .listed, .data, .pinned], laidTests := true, laidLooks := .later }
def BlockFencedUptoCardSaid : Prop := Claim7.holds Tryz.pinned (.plain (OpenSpec.upto blockFencedSpec)) blockFencedUptoCard
end Rows
end Go.Proofs.YtebfjlfkofibpaaGreatDoor
