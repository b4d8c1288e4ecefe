/-
  DERIVED. GIVEN WITH THE SEED: THE CARDS: each row of YtbcfhpomclkccaaDoorRows.lean that lists a variable, with what it lists TIED to the program's text (the seventh form; the later family's looks); each row that meets fmt, with fmt's text TOLD by the authors' own Lean function (tested against real Go, not proved from fmt's source: count such statements apart). THE CARD IS WHAT COUNTS. Prove the row's statement (the work); the ties are given (YtbcfhpomclkccaaDoorTie.lean); close each card by the builder's one call (the guide's Derived/Test/ToyasCard.lean, 'card_holds'). Laid BY PROGRAM, IN A SANDBOX (cutbox-door.mjs). By AI agents, Wed Nov 11 2026. No macro, syntax, notation, axiom, sorry.
-/
import Derived.Test.YtbcfhpomclkccaaDoorRows
import GoSem.ClaimSeven
namespace Go.Proofs.YtbcfhpomclkccaaDoor
namespace Rows

/-- THE TIED CARD OF 'tympanlaw23.RefsNorms'. -/
def refsNormsCard : Claim7 := { stood := { row := refsNormsRow, standIns := [], harness := (true, "b86e63c6ebdb9a0d82fd1c2d76113cff6e46215341fb1f6bf18be187a700b9af"), looks := false }, kinds := [], alts := [], laidByText := true, laidKinds := [.data, .pinned], laidTests := true, laidLooks := .later }
def RefsNormsCardSaid : Prop := Claim7.holds Tryd.pinned (.plain (OpenSpec.ofChange refsNormsSpec)) refsNormsCard

/-- THE TIED CARD OF 'tympanlaw23.RefsDefines'. -/
def refsDefinesCard : Claim7 := { stood := { row := refsDefinesRow, standIns := [], harness := (true, "b86e63c6ebdb9a0d82fd1c2d76113cff6e46215341fb1f6bf18be187a700b9af"), looks := false }, kinds := [], alts := [], laidByText := true, laidKinds := [.data, .pinned], laidTests := true, laidLooks := .later }
def RefsDefinesCardSaid : Prop := Claim7.holds Tryd.pinned (.plain (OpenSpec.ofChange refsDefinesSpec)) refsDefinesCard

/-- THE TIED CARD OF 'tympanlaw23.RefsBack'. -/
def refsBackCard : Claim7 := { stood := { row := refsBackRow, standIns := [], harness := (true, "b86e63c6ebdb9a0d82fd1c2d76113cff6e46215341fb1f6bf18be187a700b9af"), looks := false }, kinds := [], alts := [], laidByText := true, laidKinds := [.data, .pinned], laidTests := true, laidLooks := .later }
def RefsBackCardSaid : Prop := Claim7.holds Tryd.pinned (.plain (OpenSpec.ofChange refsBackSpec)) refsBackCard

/-- THE TIED CARD OF 'tympanlaw23.RefsLabels'. -/
def refsLabelsCard : Claim7 := { stood := { row := refsLabelsRow, standIns := [], harness := (true, "b86e63c6ebdb9a0d82fd1c2d76113cff6e46215341fb1f6bf18be187a700b9af"), looks := false }, kinds := [], alts := [], laidByText := true, laidKinds := [.data, .pinned], laidTests := true, laidLooks := .later }
def RefsLabelsCardSaid : Prop := Claim7.holds Tryd.pinned (.plain (OpenSpec.ofChange refsLabelsSpec)) refsLabelsCard

/-- THE SECOND FORM's CARD OF 'tympanlaw23.RefsNorms'. -/
def refsNormsUptoCard : Claim7 := { stood := { row := refsNormsUptoRow, standIns := [], harness := (true, "b86e63c6ebdb9a0d82fd1c2d76113cff6e46215341fb1f6bf18be187a700b9af"), looks := false }, kinds := [], alts := [], laidByText := true, laidKinds := [.data, .pinned], laidTests := true, laidLooks := .later }
def RefsNormsUptoCardSaid : Prop := Claim7.holds Tryd.pinned (.plain (OpenSpec.upto refsNormsSpec)) refsNormsUptoCard

/-- THE SECOND FORM's CARD OF 'tympanlaw23.RefsDefines'. -/
def refsDefinesUptoCard : Claim7 := { stood := { row := refsDefinesUptoRow, standIns := [], harness := (true, "b86e63c6ebdb9a0d82fd1c2d76113cff6e46215341fb1f6bf18be187a700b9af"), looks := false }, kinds := [], alts := [], laidByText := true, laidKinds := [.data, .pinned], laidTests := true, laidLooks := .later }
def RefsDefinesUptoCardSaid : Prop := Claim7.holds Tryd.pinned (.plain (OpenSpec.upto refsDefinesSpec)) refsDefinesUptoCard

/-- THE SECOND FORM's CARD OF 'tympanlaw23.RefsBack'. -/
def refsBackUptoCard : Claim7 := { stood := { row := refsBackUptoRow, standIns := [], harness := (true, "b86e63c6ebdb9a0d82fd1c2d76113cff6e46215341fb1f6bf18be187a700b9af"), looks := false }, kinds := [], alts := [], laidByText := true, laidKinds := [.data, .pinned], laidTests := true, laidLooks := .later }
def RefsBackUptoCardSaid : Prop := Claim7.holds Tryd.pinned (.plain (OpenSpec.upto refsBackSpec)) refsBackUptoCard

/-- THE SECOND FORM's CARD OF 'tympanlaw23.RefsLabels'. -/
def refsLabelsUptoCard : Claim7 := { stood := { row := refsLabelsUptoRow, standIns := [], harness := (true, "b86e63c6ebdb9a0d82fd1c2d76113cff6e46215341fb1f6bf18be187a700b9af"), looks := false }, kinds := [], alts := [], laidByText := true, laidKinds := [.data, .pinned], laidTests := true, laidLooks := .later }
def RefsLabelsUptoCardSaid : Prop := Claim7.holds Tryd.pinned (.plain (OpenSpec.upto refsLabelsSpec)) refsLabelsUptoCard
end Rows
end Go.Proofs.YtbcfhpomclkccaaDoor
