/-
  DERIVED. GIVEN WITH THE SEED: THE CARDS: each row of YtdkjenbncmedbaaGreatDoorRows.lean that lists a variable, with what it lists TIED to the program's text (the seventh form; the later family's looks); each row that meets fmt, with fmt's text TOLD by the authors' own Lean function (tested against real Go, not proved from fmt's source: count such statements apart). THE CARD IS WHAT COUNTS. Prove the row's statement (the work); the ties are given (YtdkjenbncmedbaaGreatDoorTie.lean); close each card by the builder's one call (the guide's Derived/Test/ToyasCard.lean, 'card_holds'). Laid BY PROGRAM, IN A SANDBOX (cutbox-door.mjs). By AI agents, Wed Nov 11 2026. No macro, syntax, notation, axiom, sorry.
-/
import Derived.Test.YtdkjenbncmedbaaGreatDoorRows
import GoSem.ClaimSeven
namespace Go.Proofs.YtdkjenbncmedbaaGreatDoor
namespace Rows

/-- THE TIED CARD OF 'tympanlaw05.RuleOrder'. -/
def ruleOrderCard : Claim7 := { stood := { row := ruleOrderRow, standIns := [], harness := (true, "ae7798dc94f84edd0da6cbad8b8cf4c5a4d9301043a034668238d0605e9a3e0b"), looks := true }, kinds := [], alts := [], laidByText := true, laidKinds := [.data, .listed, .data, .pinned], laidTests := true, laidLooks := .later }
def RuleOrderCardSaid : Prop := Claim7.holds Tryz.pinned (.plain (OpenSpec.ofChange ruleOrderSpec)) ruleOrderCard

/-- THE TIED CARD OF 'tympanlaw20.CleanDoes'. -/
def cleanDoesCard : Claim7 := { stood := { row := cleanDoesRow, standIns := [], harness := (true, "ae7798dc94f84edd0da6cbad8b8cf4c5a4d9301043a034668238d0605e9a3e0b"), looks := true }, kinds := [], alts := [], laidByText := true, laidKinds := [.data, .listed, .data, .pinned], laidTests := true, laidLooks := .later }
def CleanDoesCardSaid : Prop := Claim7.holds Tryz.pinned (.plain (OpenSpec.ofChange cleanDoesSpec)) cleanDoesCard

/-- THE TIED CARD OF 'tympanlaw20.CleanRights'. -/
def cleanRightsCard : Claim7 := { stood := { row := cleanRightsRow, standIns := [], harness := (true, "ae7798dc94f84edd0da6cbad8b8cf4c5a4d9301043a034668238d0605e9a3e0b"), looks := true }, kinds := [], alts := [], laidByText := true, laidKinds := [.data, .listed, .data, .pinned], laidTests := true, laidLooks := .later }
def CleanRightsCardSaid : Prop := Claim7.holds Tryz.pinned (.plain (OpenSpec.ofChange cleanRightsSpec)) cleanRightsCard

/-- THE TIED CARD OF 'tympanlaw20.CleanTwice'. -/
def cleanTwiceCard : Claim7 := { stood := { row := cleanTwiceRow, standIns := [], harness := (true, "ae7798dc94f84edd0da6cbad8b8cf4c5a4d9301043a034668238d0605e9a3e0b"), looks := true }, kinds := [], alts := [], laidByText := true, laidKinds := [.data, .listed, .data, .pinned], laidTests := true, laidLooks := .later }
def CleanTwiceCardSaid : Prop := Claim7.holds Tryz.pinned (.plain (OpenSpec.ofChange cleanTwiceSpec)) cleanTwiceCard

/-- THE TIED CARD OF 'tympanlaw20.CleanLess'. -/
def cleanLessCard : Claim7 := { stood := { row := cleanLessRow, standIns := [], harness := (true, "ae7798dc94f84edd0da6cbad8b8cf4c5a4d9301043a034668238d0605e9a3e0b"), looks := true }, kinds := [], alts := [], laidByText := true, laidKinds := [.data, .listed, .data, .pinned], laidTests := true, laidLooks := .later }
def CleanLessCardSaid : Prop := Claim7.holds Tryz.pinned (.plain (OpenSpec.ofChange cleanLessSpec)) cleanLessCard

/-- THE TIED CARD OF 'tympanlaw20.CleanNothing'. -/
def cleanNothingCard : Claim7 := { stood := { row := cleanNothingRow, standIns := [], harness := (true, "ae7798dc94f84edd0da6cbad8b8cf4c5a4d9301043a034668238d0605e9a3e0b"), looks := true }, kinds := [], alts := [], laidByText := true, laidKinds := [.data, .listed, .data, .pinned], laidTests := true, laidLooks := .later }
def CleanNothingCardSaid : Prop := Claim7.holds Tryz.pinned (.plain (OpenSpec.ofChange cleanNothingSpec)) cleanNothingCard

/-- THE SECOND FORM's CARD OF 'tympanlaw05.RuleOrder'. -/
def ruleOrderUptoCard : Claim7 := { stood := { row := ruleOrderUptoRow, standIns := [], harness := (true, "ae7798dc94f84edd0da6cbad8b8cf4c5a4d9301043a034668238d0605e9a3e0b"), looks := true }, kinds := [], alts := [], laidByText := true, laidKinds := [.data, .listed, .data, .pinned], laidTests := true, laidLooks := .later }
def RuleOrderUptoCardSaid : Prop := Claim7.holds Tryz.pinned (.plain (OpenSpec.upto ruleOrderSpec)) ruleOrderUptoCard

/-- THE SECOND FORM's CARD OF 'tympanlaw20.CleanDoes'. -/
def cleanDoesUptoCard : Claim7 := { stood := { row := cleanDoesUptoRow, standIns := [], harness := (true, "ae7798dc94f84edd0da6cbad8b8cf4c5a4d9301043a034668238d0605e9a3e0b"), looks := true }, kinds := [], alts := [], laidByText := true, laidKinds := [.data, .listed, .data, .pinned], laidTests := true, laidLooks := .later }
def CleanDoesUptoCardSaid : Prop := Claim7.holds Tryz.pinned (.plain (OpenSpec.upto cleanDoesSpec)) cleanDoesUptoCard

/-- THE SECOND FORM's CARD OF 'tympanlaw20.CleanRights'. -/
def cleanRightsUptoCard : Claim7 := { stood := { row := cleanRightsUptoRow, standIns := [], harness := (true, "ae7798dc94f84edd0da6cbad8b8cf4c5a4d9301043a034668238d0605e9a3e0b"), looks := true }, kinds := [], alts := [], laidByText := true, laidKinds := [.data, .listed, .data, .pinned], laidTests := true, laidLooks := .later }
def CleanRightsUptoCardSaid : Prop := Claim7.holds Tryz.pinned (.plain (OpenSpec.upto cleanRightsSpec)) cleanRightsUptoCard

/-- THE SECOND FORM's CARD OF 'tympanlaw20.CleanTwice'. -/
def cleanTwiceUptoCard : Claim7 := { stood := { row := cleanTwiceUptoRow, standIns := [], harness := (true, "ae7798dc94f84edd0da6cbad8b8cf4c5a4d9301043a034668238d0605e9a3e0b"), looks := true }, kinds := [], alts := [], laidByText := true, laidKinds := [.data, .listed, .data, .pinned], laidTests := true, laidLooks := .later }
def CleanTwiceUptoCardSaid : Prop := Claim7.holds Tryz.pinned (.plain (OpenSpec.upto cleanTwiceSpec)) cleanTwiceUptoCard

/-- THE SECOND FORM's CARD OF 'tympanlaw20.CleanLess'. -/
def cleanLessUptoCard : Claim7 := { stood := { row := cleanLessUptoRow, standIns := [], harness := (true, "ae7798dc94f84edd0da6cbad8b8cf4c5a4d9301043a034668238d0605e9a3e0b"), looks := true }, kinds := [], alts := [], laidByText := true, laidKinds := [.data, .listed, .data, .pinned], laidTests := true, laidLooks := .later }
def CleanLessUptoCardSaid : Prop := Claim7.holds Tryz.pinned (.plain (OpenSpec.upto cleanLessSpec)) cleanLessUptoCard

/-- THE SECOND FORM's CARD OF 'tympanlaw20.CleanNothing'. -/
def cleanNothingUptoCard : Claim7 := { stood := { row := cleanNothingUptoRow, standIns := [], harness := (true, "ae7798dc94f84edd0da6cbad8b8cf4c5a4d9301043a034668238d0605e9a3e0b"), looks := true }, kinds := [], alts := [], laidByText := true, laidKinds := [.data, .listed, .data, .pinned], laidTests := true, laidLooks := .later }
def CleanNothingUptoCardSaid : Prop := Claim7.holds Tryz.pinned (.plain (OpenSpec.upto cleanNothingSpec)) cleanNothingUptoCard
end Rows
end Go.Proofs.YtdkjenbncmedbaaGreatDoor
