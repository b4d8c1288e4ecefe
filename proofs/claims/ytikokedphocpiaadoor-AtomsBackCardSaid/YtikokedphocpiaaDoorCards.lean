/-
  DERIVED. GIVEN WITH THE SEED: THE CARDS: each row of YtikokedphocpiaaDoorRows.lean that lists a variable, with what it lists TIED to the program's text (the seventh form; the later family's looks); each row that meets fmt, with fmt's text TOLD by the authors' own Lean function (tested against real Go, not proved from fmt's source: count such statements apart). THE CARD IS WHAT COUNTS. Prove the row's statement (the work); the ties are given (YtikokedphocpiaaDoorTie.lean); close each card by the builder's one call (the guide's Derived/Test/ToyasCard.lean, 'card_holds'). Laid BY PROGRAM, IN A SANDBOX (cutbox-door.mjs). By AI agents, Wed Nov 11 2026. No macro, syntax, notation, axiom, sorry.
-/
import Derived.Test.YtikokedphocpiaaDoorRows
import GoSem.ClaimSeven
namespace Go.Proofs.YtikokedphocpiaaDoor
namespace Rows

/-- THE TIED CARD OF 'tympanlaw26.AtomsBack'. -/
def atomsBackCard : Claim7 := { stood := { row := atomsBackRow, standIns := [], harness := (true, "7dad059972ce4f3c5f236911af2d1d40de836c113f8b39f535b115f6eb777be9"), looks := false }, kinds := [], alts := [], laidByText := true, laidKinds := [.data, .pinned], laidTests := true, laidLooks := .later }
def AtomsBackCardSaid : Prop := Claim7.holds Tryd.pinned (.plain (OpenSpec.ofChange atomsBackSpec)) atomsBackCard

/-- THE TIED CARD OF 'tympanlaw26.AtomsEnds'. -/
def atomsEndsCard : Claim7 := { stood := { row := atomsEndsRow, standIns := [], harness := (true, "7dad059972ce4f3c5f236911af2d1d40de836c113f8b39f535b115f6eb777be9"), looks := false }, kinds := [], alts := [], laidByText := true, laidKinds := [.data, .pinned], laidTests := true, laidLooks := .later }
def AtomsEndsCardSaid : Prop := Claim7.holds Tryd.pinned (.plain (OpenSpec.ofChange atomsEndsSpec)) atomsEndsCard

/-- THE SECOND FORM's CARD OF 'tympanlaw26.AtomsBack'. -/
def atomsBackUptoCard : Claim7 := { stood := { row := atomsBackUptoRow, standIns := [], harness := (true, "7dad059972ce4f3c5f236911af2d1d40de836c113f8b39f535b115f6eb777be9"), looks := false }, kinds := [], alts := [], laidByText := true, laidKinds := [.data, .pinned], laidTests := true, laidLooks := .later }
def AtomsBackUptoCardSaid : Prop := Claim7.holds Tryd.pinned (.plain (OpenSpec.upto atomsBackSpec)) atomsBackUptoCard

/-- THE SECOND FORM's CARD OF 'tympanlaw26.AtomsEnds'. -/
def atomsEndsUptoCard : Claim7 := { stood := { row := atomsEndsUptoRow, standIns := [], harness := (true, "7dad059972ce4f3c5f236911af2d1d40de836c113f8b39f535b115f6eb777be9"), looks := false }, kinds := [], alts := [], laidByText := true, laidKinds := [.data, .pinned], laidTests := true, laidLooks := .later }
def AtomsEndsUptoCardSaid : Prop := Claim7.holds Tryd.pinned (.plain (OpenSpec.upto atomsEndsSpec)) atomsEndsUptoCard
end Rows
end Go.Proofs.YtikokedphocpiaaDoor
