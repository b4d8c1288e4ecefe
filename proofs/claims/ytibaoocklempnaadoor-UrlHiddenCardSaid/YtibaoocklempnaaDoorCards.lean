/-
  DERIVED. GIVEN WITH THE SEED: THE CARDS: each row of YtibaoocklempnaaDoorRows.lean that lists a variable, with what it lists TIED to the program's text (the seventh form; the later family's looks); each row that meets fmt, with fmt's text TOLD by the authors' own Lean function (tested against real Go, not proved from fmt's source: count such statements apart). THE CARD IS WHAT COUNTS. Prove the row's statement (the work); the ties are given (YtibaoocklempnaaDoorTie.lean); close each card by the builder's one call (the guide's Derived/Test/ToyasCard.lean, 'card_holds'). Laid BY PROGRAM, IN A SANDBOX (cutbox-door.mjs). By AI agents, Wed Nov 11 2026. No macro, syntax, notation, axiom, sorry.
-/
import Derived.Test.YtibaoocklempnaaDoorRows
import GoSem.ClaimSeven
namespace Go.Proofs.YtibaoocklempnaaDoor
namespace Rows

/-- THE TIED CARD OF 'tympanlaw04.UrlHidden'. -/
def urlHiddenCard : Claim7 := { stood := { row := urlHiddenRow, standIns := [], harness := (true, "9eacebafa0d8453fba4c94834ba5b29fbdc1120883151778f79939d2fbbe19fa"), looks := true }, kinds := [], alts := [], laidByText := true, laidKinds := [.data, .pinned], laidTests := true, laidLooks := .later }
def UrlHiddenCardSaid : Prop := Claim7.holds Tryd.pinned (.plain (OpenSpec.ofChange urlHiddenSpec)) urlHiddenCard

/-- THE SECOND FORM's CARD OF 'tympanlaw04.UrlHidden'. -/
def urlHiddenUptoCard : Claim7 := { stood := { row := urlHiddenUptoRow, standIns := [], harness := (true, "9eacebafa0d8453fba4c94834ba5b29fbdc1120883151778f79939d2fbbe19fa"), looks := true }, kinds := [], alts := [], laidByText := true, laidKinds := [.data, .pinned], laidTests := true, laidLooks := .later }
def UrlHiddenUptoCardSaid : Prop := Claim7.holds Tryd.pinned (.plain (OpenSpec.upto urlHiddenSpec)) urlHiddenUptoCard
end Rows
end Go.Proofs.YtibaoocklempnaaDoor
