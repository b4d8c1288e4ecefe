/-
  DERIVED. GIVEN WITH THE SEED: THE CARDS: each row of YtjhfmdfihbkcaaaGreatDoorRows.lean that lists a variable, with what it lists TIED to the program's text (the seventh form; the later family's looks); each row that meets fmt, with fmt's text TOLD by the authors' own Lean function (tested against real Go, not proved from fmt's source: count such statements apart). THE CARD IS WHAT COUNTS. Prove the row's statement (the work); the ties are given (YtjhfmdfihbkcaaaGreatDoorTie.lean); close each card by the builder's one call (the guide's Derived/Test/ToyasCard.lean, 'card_holds'). Laid BY PROGRAM, IN A SANDBOX (cutbox-door.mjs). By AI agents, Wed Nov 11 2026. No macro, syntax, notation, axiom, sorry.
-/
import Derived.Test.YtjhfmdfihbkcaaaGreatDoorRows
import GoSem.ClaimSeven
namespace Go.Proofs.YtjhfmdfihbkcaaaGreatDoor
namespace Rows

/-- THE TIED CARD OF 'tympanlaw22.LeafOne'. -/
def leafOneCard : Claim7 := { stood := { row := leafOneRow, standIns := [], harness := (true, "43fe29308f131337943fe7153aa9f29dca5becac3de6496634d64fd4b1cb2a0d"), looks := true }, kinds := [], alts := [], laidByText := true, laidKinds := [.data, .data, .data, .data, .sentinel, .sentinel, .listed, .data, .pinned], laidTests := true, laidLooks := .later }
def LeafOneCardSaid : Prop := Claim7.holds Tryz.pinned (.plain (OpenSpec.ofChange leafOneSpec)) leafOneCard

/-- THE SECOND FORM's CARD OF 'tympanlaw22.LeafOne'. -/
def leafOneUptoCard : Claim7 := { stood := { row := leafOneUptoRow, standIns := [], harness := (true, "43fe29308f131337943fe7153aa9f29dca5becac3de6496634d64fd4b1cb2a0d"), looks := true }, kinds := [], alts := [], laidByText := true, laidKinds := [.data, .data, .data, .data, .sentinel, .sentinel, .listed, .data, .pinned], laidTests := true, laidLooks := .later }
def LeafOneUptoCardSaid : Prop := Claim7.holds Tryz.pinned (.plain (OpenSpec.upto leafOneSpec)) leafOneUptoCard
end Rows
end Go.Proofs.YtjhfmdfihbkcaaaGreatDoor
