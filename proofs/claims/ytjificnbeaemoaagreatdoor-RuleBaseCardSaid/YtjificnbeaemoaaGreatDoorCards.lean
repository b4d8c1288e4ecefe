/-
  DERIVED. GIVEN WITH THE SEED: THE CARDS: each row of YtjificnbeaemoaaGreatDoorRows.lean that lists a variable, with what it lists TIED to the program's text (the seventh form; the later family's looks); each row that meets fmt, with fmt's text TOLD by the authors' own Lean function (tested against real Go, not proved from fmt's source: count such statements apart). THE CARD IS WHAT COUNTS. Prove the row's statement (the work); the ties are given (YtjificnbeaemoaaGreatDoorTie.lean); close each card by the builder's one call (the guide's Derived/Test/ToyasCard.lean, 'card_holds'). Laid BY PROGRAM, IN A SANDBOX (cutbox-door.mjs). By AI agents, Wed Nov 11 2026. No macro, syntax, notation, axiom, sorry.
-/
import Derived.Test.YtjificnbeaemoaaGreatDoorRows
import GoSem.ClaimSeven
namespace Go.Proofs.YtjificnbeaemoaaGreatDoor
namespace Rows

/-- THE TIED CARD OF 'tympanlaw05.RuleChecks'. -/
def ruleChecksCard : Claim7 := { stood := { row := ruleChecksRow, standIns := [], harness := (true, "d2bf5689de31fc4b5ee503c474fa13bda09b123802f6b6c519f1d0e468d0ebe6"), looks := true }, kinds := [], alts := [], laidByText := true, laidKinds := [.data, .listed, .data, .pinned], laidTests := true, laidLooks := .later }
def RuleChecksCardSaid : Prop := Claim7.holds Tryz.pinned (.plain (OpenSpec.ofChange ruleChecksSpec)) ruleChecksCard

/-- THE TIED CARD OF 'tympanlaw05.RuleBase'. -/
def ruleBaseCard : Claim7 := { stood := { row := ruleBaseRow, standIns := [], harness := (true, "d2bf5689de31fc4b5ee503c474fa13bda09b123802f6b6c519f1d0e468d0ebe6"), looks := true }, kinds := [], alts := [], laidByText := true, laidKinds := [.data, .listed, .data, .pinned], laidTests := true, laidLooks := .later }
def RuleBaseCardSaid : Prop := Claim7.holds Tryz.pinned (.plain (OpenSpec.ofChange ruleBaseSpec)) ruleBaseCard

/-- THE TIED CARD OF 'tympanlaw05.RuleOrder'. -/
def ruleOrderCard : Claim7 := { stood := { row := ruleOrderRow, standIns := [], harness := (true, "d2bf5689de31fc4b5ee503c474fa13bda09b123802f6b6c519f1d0e468d0ebe6"), looks := true }, kinds := [], alts := [], laidByText := true, laidKinds := [.data, .listed, .data, .pinned], laidTests := true, laidLooks := .later }
def RuleOrderCardSaid : Prop := Claim7.holds Tryz.pinned (.plain (OpenSpec.ofChange ruleOrderSpec)) ruleOrderCard

/-- THE TIED CARD OF 'tympanlaw05.RuleLess'. -/
def ruleLessCard : Claim7 := { stood := { row := ruleLessRow, standIns := [], harness := (true, "d2bf5689de31fc4b5ee503c474fa13bda09b123802f6b6c519f1d0e468d0ebe6"), looks := true }, kinds := [], alts := [], laidByText := true, laidKinds := [.data, .listed, .data, .pinned], laidTests := true, laidLooks := .later }
def RuleLessCardSaid : Prop := Claim7.holds Tryz.pinned (.plain (OpenSpec.ofChange ruleLessSpec)) ruleLessCard

/-- THE SECOND FORM's CARD OF 'tympanlaw05.RuleChecks'. -/
def ruleChecksUptoCard : Claim7 := { stood := { row := ruleChecksUptoRow, standIns := [], harness := (true, "d2bf5689de31fc4b5ee503c474fa13bda09b123802f6b6c519f1d0e468d0ebe6"), looks := true }, kinds := [], alts := [], laidByText := true, laidKinds := [.data, .listed, .data, .pinned], laidTests := true, laidLooks := .later }
def RuleChecksUptoCardSaid : Prop := Claim7.holds Tryz.pinned (.plain (OpenSpec.upto ruleChecksSpec)) ruleChecksUptoCard

/-- THE SECOND FORM's CARD OF 'tympanlaw05.RuleBase'. -/
def ruleBaseUptoCard : Claim7 := { stood := { row := ruleBaseUptoRow, standIns := [], harness := (true, "d2bf5689de31fc4b5ee503c474fa13bda09b123802f6b6c519f1d0e468d0ebe6"), looks := true }, kinds := [], alts := [], laidByText := true, laidKinds := [.data, .listed, .data, .pinned], laidTests := true, laidLooks := .later }
def RuleBaseUptoCardSaid : Prop := Claim7.holds Tryz.pinned (.plain (OpenSpec.upto ruleBaseSpec)) ruleBaseUptoCard

/-- THE SECOND FORM's CARD OF 'tympanlaw05.RuleOrder'. -/
def ruleOrderUptoCard : Claim7 := { stood := { row := ruleOrderUptoRow, standIns := [], harness := (true, "d2bf5689de31fc4b5ee503c474fa13bda09b123802f6b6c519f1d0e468d0ebe6"), looks := true }, kinds := [], alts := [], laidByText := true, laidKinds := [.data, .listed, .data, .pinned], laidTests := true, laidLooks := .later }
def RuleOrderUptoCardSaid : Prop := Claim7.holds Tryz.pinned (.plain (OpenSpec.upto ruleOrderSpec)) ruleOrderUptoCard

/-- THE SECOND FORM's CARD OF 'tympanlaw05.RuleLess'. -/
def ruleLessUptoCard : Claim7 := { stood := { row := ruleLessUptoRow, standIns := [], harness := (true, "d2bf5689de31fc4b5ee503c474fa13bda09b123802f6b6c519f1d0e468d0ebe6"), looks := true }, kinds := [], alts := [], laidByText := true, laidKinds := [.data, .listed, .data, .pinned], laidTests := true, laidLooks := .later }
def RuleLessUptoCardSaid : Prop := Claim7.holds Tryz.pinned (.plain (OpenSpec.upto ruleLessSpec)) ruleLessUptoCard
end Rows
end Go.Proofs.YtjificnbeaemoaaGreatDoor
