/-
  DERIVED. GIVEN WITH THE SEED: THE CARDS: each row of YtibaoocklempnaaGreatDoorRows.lean that lists a variable, with what it lists TIED to the program's text (the seventh form; the later family's looks); each row that meets fmt, with fmt's text TOLD by the authors' own Lean function (tested against real Go, not proved from fmt's source: count such statements apart). THE CARD IS WHAT COUNTS. Prove the row's statement (the work); the ties are given (YtibaoocklempnaaGreatDoorTie.lean); close each card by the builder's one call (the guide's Derived/Test/ToyasCard.lean, 'card_holds'). Laid BY PROGRAM, IN A SANDBOX (cutbox-door.mjs). By AI agents, Wed Nov 11 2026. No macro, syntax, notation, axiom, sorry.
-/
import Derived.Test.YtibaoocklempnaaGreatDoorRows
import GoSem.ClaimSeven
namespace Go.Proofs.YtibaoocklempnaaGreatDoor
namespace Rows

/-- THE TIED CARD OF 'tympanlaw04.UrlStrips'. -/
def urlStripsCard : Claim7 := { stood := { row := urlStripsRow, standIns := [], harness := (true, "bd7bcaf7e39ed33f8a3fde5404d1f61bfc60cca8c865912cf5985525f2e835d6"), looks := true }, kinds := [], alts := [], laidByText := true, laidKinds := [.data, .pinned], laidTests := true, laidLooks := .later }
def UrlStripsCardSaid : Prop := Claim7.holds Tryz.pinned (.plain (OpenSpec.ofChange urlStripsSpec)) urlStripsCard

/-- THE TIED CARD OF 'tympanlaw04.UrlSchemes'. -/
def urlSchemesCard : Claim7 := { stood := { row := urlSchemesRow, standIns := [], harness := (true, "bd7bcaf7e39ed33f8a3fde5404d1f61bfc60cca8c865912cf5985525f2e835d6"), looks := true }, kinds := [], alts := [], laidByText := true, laidKinds := [.data, .pinned], laidTests := true, laidLooks := .later }
def UrlSchemesCardSaid : Prop := Claim7.holds Tryz.pinned (.plain (OpenSpec.ofChange urlSchemesSpec)) urlSchemesCard

/-- THE TIED CARD OF 'tympanlaw04.UrlEscapes'. -/
def urlEscapesCard : Claim7 := { stood := { row := urlEscapesRow, standIns := [], harness := (true, "bd7bcaf7e39ed33f8a3fde5404d1f61bfc60cca8c865912cf5985525f2e835d6"), looks := true }, kinds := [], alts := [], laidByText := true, laidKinds := [.data, .pinned], laidTests := true, laidLooks := .later }
def UrlEscapesCardSaid : Prop := Claim7.holds Tryz.pinned (.plain (OpenSpec.ofChange urlEscapesSpec)) urlEscapesCard

/-- THE TIED CARD OF 'tympanlaw04.UrlSafe'. -/
def urlSafeCard : Claim7 := { stood := { row := urlSafeRow, standIns := [], harness := (true, "bd7bcaf7e39ed33f8a3fde5404d1f61bfc60cca8c865912cf5985525f2e835d6"), looks := true }, kinds := [], alts := [], laidByText := true, laidKinds := [.data, .pinned], laidTests := true, laidLooks := .later }
def UrlSafeCardSaid : Prop := Claim7.holds Tryz.pinned (.plain (OpenSpec.ofChange urlSafeSpec)) urlSafeCard

/-- THE TIED CARD OF 'tympanlaw04.UrlBack'. -/
def urlBackCard : Claim7 := { stood := { row := urlBackRow, standIns := [], harness := (true, "bd7bcaf7e39ed33f8a3fde5404d1f61bfc60cca8c865912cf5985525f2e835d6"), looks := true }, kinds := [], alts := [], laidByText := true, laidKinds := [.data, .pinned], laidTests := true, laidLooks := .later }
def UrlBackCardSaid : Prop := Claim7.holds Tryz.pinned (.plain (OpenSpec.ofChange urlBackSpec)) urlBackCard

/-- THE TIED CARD OF 'tympanlaw30.LowerInlines'. -/
def lowerInlinesCard : Claim7 := { stood := { row := lowerInlinesRow, standIns := [], harness := (true, "bd7bcaf7e39ed33f8a3fde5404d1f61bfc60cca8c865912cf5985525f2e835d6"), looks := true }, kinds := [], alts := [], laidByText := true, laidKinds := [.data, .data, .data], laidTests := true, laidLooks := .later }
def LowerInlinesCardSaid : Prop := Claim7.holds Tryz.pinned (.plain (OpenSpec.ofChange lowerInlinesSpec)) lowerInlinesCard

/-- THE TIED CARD OF 'tympanlaw30.LowerTexts'. -/
def lowerTextsCard : Claim7 := { stood := { row := lowerTextsRow, standIns := [], harness := (true, "bd7bcaf7e39ed33f8a3fde5404d1f61bfc60cca8c865912cf5985525f2e835d6"), looks := true }, kinds := [], alts := [], laidByText := true, laidKinds := [.data, .data, .data], laidTests := true, laidLooks := .later }
def LowerTextsCardSaid : Prop := Claim7.holds Tryz.pinned (.plain (OpenSpec.ofChange lowerTextsSpec)) lowerTextsCard

/-- THE TIED CARD OF 'tympanlaw30.LowerParts'. -/
def lowerPartsCard : Claim7 := { stood := { row := lowerPartsRow, standIns := [], harness := (true, "bd7bcaf7e39ed33f8a3fde5404d1f61bfc60cca8c865912cf5985525f2e835d6"), looks := true }, kinds := [], alts := [], laidByText := true, laidKinds := [.data, .data, .data], laidTests := true, laidLooks := .later }
def LowerPartsCardSaid : Prop := Claim7.holds Tryz.pinned (.plain (OpenSpec.ofChange lowerPartsSpec)) lowerPartsCard

/-- THE TIED CARD OF 'tympanlaw05.RuleChecks'. -/
def ruleChecksCard : Claim7 := { stood := { row := ruleChecksRow, standIns := [], harness := (true, "bd7bcaf7e39ed33f8a3fde5404d1f61bfc60cca8c865912cf5985525f2e835d6"), looks := true }, kinds := [], alts := [], laidByText := true, laidKinds := [.data, .listed, .data, .pinned], laidTests := true, laidLooks := .later }
def RuleChecksCardSaid : Prop := Claim7.holds Tryz.pinned (.plain (OpenSpec.ofChange ruleChecksSpec)) ruleChecksCard

/-- THE TIED CARD OF 'tympanlaw05.RuleBase'. -/
def ruleBaseCard : Claim7 := { stood := { row := ruleBaseRow, standIns := [], harness := (true, "bd7bcaf7e39ed33f8a3fde5404d1f61bfc60cca8c865912cf5985525f2e835d6"), looks := true }, kinds := [], alts := [], laidByText := true, laidKinds := [.data, .listed, .data, .pinned], laidTests := true, laidLooks := .later }
def RuleBaseCardSaid : Prop := Claim7.holds Tryz.pinned (.plain (OpenSpec.ofChange ruleBaseSpec)) ruleBaseCard

/-- THE TIED CARD OF 'tympanlaw05.RuleOrder'. -/
def ruleOrderCard : Claim7 := { stood := { row := ruleOrderRow, standIns := [], harness := (true, "bd7bcaf7e39ed33f8a3fde5404d1f61bfc60cca8c865912cf5985525f2e835d6"), looks := true }, kinds := [], alts := [], laidByText := true, laidKinds := [.data, .listed, .data, .pinned], laidTests := true, laidLooks := .later }
def RuleOrderCardSaid : Prop := Claim7.holds Tryz.pinned (.plain (OpenSpec.ofChange ruleOrderSpec)) ruleOrderCard

/-- THE TIED CARD OF 'tympanlaw05.RuleLess'. -/
def ruleLessCard : Claim7 := { stood := { row := ruleLessRow, standIns := [], harness := (true, "bd7bcaf7e39ed33f8a3fde5404d1f61bfc60cca8c865912cf5985525f2e835d6"), looks := true }, kinds := [], alts := [], laidByText := true, laidKinds := [.data, .listed, .data, .pinned], laidTests := true, laidLooks := .later }
def RuleLessCardSaid : Prop := Claim7.holds Tryz.pinned (.plain (OpenSpec.ofChange ruleLessSpec)) ruleLessCard

/-- THE SECOND FORM's CARD OF 'tympanlaw04.UrlStrips'. -/
def urlStripsUptoCard : Claim7 := { stood := { row := urlStripsUptoRow, standIns := [], harness := (true, "bd7bcaf7e39ed33f8a3fde5404d1f61bfc60cca8c865912cf5985525f2e835d6"), looks := true }, kinds := [], alts := [], laidByText := true, laidKinds := [.data, .pinned], laidTests := true, laidLooks := .later }
def UrlStripsUptoCardSaid : Prop := Claim7.holds Tryz.pinned (.plain (OpenSpec.upto urlStripsSpec)) urlStripsUptoCard

/-- THE SECOND FORM's CARD OF 'tympanlaw04.UrlSchemes'. -/
def urlSchemesUptoCard : Claim7 := { stood := { row := urlSchemesUptoRow, standIns := [], harness := (true, "bd7bcaf7e39ed33f8a3fde5404d1f61bfc60cca8c865912cf5985525f2e835d6"), looks := true }, kinds := [], alts := [], laidByText := true, laidKinds := [.data, .pinned], laidTests := true, laidLooks := .later }
def UrlSchemesUptoCardSaid : Prop := Claim7.holds Tryz.pinned (.plain (OpenSpec.upto urlSchemesSpec)) urlSchemesUptoCard

/-- THE SECOND FORM's CARD OF 'tympanlaw04.UrlEscapes'. -/
def urlEscapesUptoCard : Claim7 := { stood := { row := urlEscapesUptoRow, standIns := [], harness := (true, "bd7bcaf7e39ed33f8a3fde5404d1f61bfc60cca8c865912cf5985525f2e835d6"), looks := true }, kinds := [], alts := [], laidByText := true, laidKinds := [.data, .pinned], laidTests := true, laidLooks := .later }
def UrlEscapesUptoCardSaid : Prop := Claim7.holds Tryz.pinned (.plain (OpenSpec.upto urlEscapesSpec)) urlEscapesUptoCard

/-- THE SECOND FORM's CARD OF 'tympanlaw04.UrlSafe'. -/
def urlSafeUptoCard : Claim7 := { stood := { row := urlSafeUptoRow, standIns := [], harness := (true, "bd7bcaf7e39ed33f8a3fde5404d1f61bfc60cca8c865912cf5985525f2e835d6"), looks := true }, kinds := [], alts := [], laidByText := true, laidKinds := [.data, .pinned], laidTests := true, laidLooks := .later }
def UrlSafeUptoCardSaid : Prop := Claim7.holds Tryz.pinned (.plain (OpenSpec.upto urlSafeSpec)) urlSafeUptoCard

/-- THE SECOND FORM's CARD OF 'tympanlaw04.UrlBack'. -/
def urlBackUptoCard : Claim7 := { stood := { row := urlBackUptoRow, standIns := [], harness := (true, "bd7bcaf7e39ed33f8a3fde5404d1f61bfc60cca8c865912cf5985525f2e835d6"), looks := true }, kinds := [], alts := [], laidByText := true, laidKinds := [.data, .pinned], laidTests := true, laidLooks := .later }
def UrlBackUptoCardSaid : Prop := Claim7.holds Tryz.pinned (.plain (OpenSpec.upto urlBackSpec)) urlBackUptoCard

/-- THE SECOND FORM's CARD OF 'tympanlaw30.LowerInlines'. -/
def lowerInlinesUptoCard : Claim7 := { stood := { row := lowerInlinesUptoRow, standIns := [], harness := (true, "bd7bcaf7e39ed33f8a3fde5404d1f61bfc60cca8c865912cf5985525f2e835d6"), looks := true }, kinds := [], alts := [], laidByText := true, laidKinds := [.data, .data, .data], laidTests := true, laidLooks := .later }
def LowerInlinesUptoCardSaid : Prop := Claim7.holds Tryz.pinned (.plain (OpenSpec.upto lowerInlinesSpec)) lowerInlinesUptoCard

/-- THE SECOND FORM's CARD OF 'tympanlaw30.LowerTexts'. -/
def lowerTextsUptoCard : Claim7 := { stood := { row := lowerTextsUptoRow, standIns := [], harness := (true, "bd7bcaf7e39ed33f8a3fde5404d1f61bfc60cca8c865912cf5985525f2e835d6"), looks := true }, kinds := [], alts := [], laidByText := true, laidKinds := [.data, .data, .data], laidTests := true, laidLooks := .later }
def LowerTextsUptoCardSaid : Prop := Claim7.holds Tryz.pinned (.plain (OpenSpec.upto lowerTextsSpec)) lowerTextsUptoCard

/-- THE SECOND FORM's CARD OF 'tympanlaw30.LowerParts'. -/
def lowerPartsUptoCard : Claim7 := { stood := { row := lowerPartsUptoRow, standIns := [], harness := (true, "bd7bcaf7e39ed33f8a3fde5404d1f61bfc60cca8c865912cf5985525f2e835d6"), looks := true }, kinds := [], alts := [], laidByText := true, laidKinds := [.data, .data, .data], laidTests := true, laidLooks := .later }
def LowerPartsUptoCardSaid : Prop := Claim7.holds Tryz.pinned (.plain (OpenSpec.upto lowerPartsSpec)) lowerPartsUptoCard

/-- THE SECOND FORM's CARD OF 'tympanlaw05.RuleChecks'. -/
def ruleChecksUptoCard : Claim7 := { stood := { row := ruleChecksUptoRow, standIns := [], harness := (true, "bd7bcaf7e39ed33f8a3fde5404d1f61bfc60cca8c865912cf5985525f2e835d6"), looks := true }, kinds := [], alts := [], laidByText := true, laidKinds := [.data, .listed, .data, .pinned], laidTests := true, laidLooks := .later }
def RuleChecksUptoCardSaid : Prop := Claim7.holds Tryz.pinned (.plain (OpenSpec.upto ruleChecksSpec)) ruleChecksUptoCard

/-- THE SECOND FORM's CARD OF 'tympanlaw05.RuleBase'. -/
def ruleBaseUptoCard : Claim7 := { stood := { row := ruleBaseUptoRow, standIns := [], harness := (true, "bd7bcaf7e39ed33f8a3fde5404d1f61bfc60cca8c865912cf5985525f2e835d6"), looks := true }, kinds := [], alts := [], laidByText := true, laidKinds := [.data, .listed, .data, .pinned], laidTests := true, laidLooks := .later }
def RuleBaseUptoCardSaid : Prop := Claim7.holds Tryz.pinned (.plain (OpenSpec.upto ruleBaseSpec)) ruleBaseUptoCard

/-- THE SECOND FORM's CARD OF 'tympanlaw05.RuleOrder'. -/
def ruleOrderUptoCard : Claim7 := { stood := { row := ruleOrderUptoRow, standIns := [], harness := (true, "bd7bcaf7e39ed33f8a3fde5404d1f61bfc60cca8c865912cf5985525f2e835d6"), looks := true }, kinds := [], alts := [], laidByText := true, laidKinds := [.data, .listed, .data, .pinned], laidTests := true, laidLooks := .later }
def RuleOrderUptoCardSaid : Prop := Claim7.holds Tryz.pinned (.plain (OpenSpec.upto ruleOrderSpec)) ruleOrderUptoCard

/-- THE SECOND FORM's CARD OF 'tympanlaw05.RuleLess'. -/
def ruleLessUptoCard : Claim7 := { stood := { row := ruleLessUptoRow, standIns := [], harness := (true, "bd7bcaf7e39ed33f8a3fde5404d1f61bfc60cca8c865912cf5985525f2e835d6"), looks := true }, kinds := [], alts := [], laidByText := true, laidKinds := [.data, .listed, .data, .pinned], laidTests := true, laidLooks := .later }
def RuleLessUptoCardSaid : Prop := Claim7.holds Tryz.pinned (.plain (OpenSpec.upto ruleLessSpec)) ruleLessUptoCard
end Rows
end Go.Proofs.YtibaoocklempnaaGreatDoor
