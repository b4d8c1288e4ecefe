/-
  DERIVED. GIVEN WITH THE SEED: THE CARDS: each row of YtikokedphocpiaaGreatDoorRows.lean that lists a variable, with what it lists TIED to the program's text (the seventh form; the later family's looks); each row that meets fmt, with fmt's text TOLD by the authors' own Lean function (tested against real Go, not proved from fmt's source: count such statements apart). THE CARD IS WHAT COUNTS. Prove the row's statement (the work); the ties are given (YtikokedphocpiaaGreatDoorTie.lean); close each card by the builder's one call (the guide's Derived/Test/ToyasCard.lean, 'card_holds'). Laid BY PROGRAM, IN A SANDBOX (cutbox-door.mjs). By AI agents, Wed Nov 11 2026. No macro, syntax, notation, axiom, sorry.
-/
import Derived.Test.YtikokedphocpiaaGreatDoorRows
import GoSem.ClaimSeven
namespace Go.Proofs.YtikokedphocpiaaGreatDoor
namespace Rows

/-- THE TIED CARD OF 'tympanlaw26.AtomsDoes'. -/
def atomsDoesCard : Claim7 := { stood := { row := atomsDoesRow, standIns := [], harness := (true, "e135e535f67e112a1371ea0fa862487095b5b28ddf0af26d0f1081a193f7e587"), looks := false }, kinds := [], alts := [], laidByText := true, laidKinds := [.data, .pinned], laidTests := true, laidLooks := .later }
def AtomsDoesCardSaid : Prop := Claim7.holds Tryz.pinned (.plain (OpenSpec.ofChange atomsDoesSpec)) atomsDoesCard

/-- THE TIED CARD OF 'tympanlaw26.AtomsAll'. -/
def atomsAllCard : Claim7 := { stood := { row := atomsAllRow, standIns := [], harness := (true, "e135e535f67e112a1371ea0fa862487095b5b28ddf0af26d0f1081a193f7e587"), looks := false }, kinds := [], alts := [], laidByText := true, laidKinds := [.data, .pinned], laidTests := true, laidLooks := .later }
def AtomsAllCardSaid : Prop := Claim7.holds Tryz.pinned (.plain (OpenSpec.ofChange atomsAllSpec)) atomsAllCard

/-- THE SECOND FORM's CARD OF 'tympanlaw26.AtomsDoes'. -/
def atomsDoesUptoCard : Claim7 := { stood := { row := atomsDoesUptoRow, standIns := [], harness := (true, "e135e535f67e112a1371ea0fa862487095b5b28ddf0af26d0f1081a193f7e587"), looks := false }, kinds := [], alts := [], laidByText := true, laidKinds := [.data, .pinned], laidTests := true, laidLooks := .later }
def AtomsDoesUptoCardSaid : Prop := Claim7.holds Tryz.pinned (.plain (OpenSpec.upto atomsDoesSpec)) atomsDoesUptoCard

/-- THE SECOND FORM's CARD OF 'tympanlaw26.AtomsAll'. -/
def atomsAllUptoCard : Claim7 := { stood := { row := atomsAllUptoRow, standIns := [], harness := (true, "e135e535f67e112a1371ea0fa862487095b5b28ddf0af26d0f1081a193f7e587"), looks := false }, kinds := [], alts := [], laidByText := true, laidKinds := [.data, .pinned], laidTests := true, laidLooks := .later }
def AtomsAllUptoCardSaid : Prop := Claim7.holds Tryz.pinned (.plain (OpenSpec.upto atomsAllSpec)) atomsAllUptoCard
end Rows
end Go.Proofs.YtikokedphocpiaaGreatDoor
