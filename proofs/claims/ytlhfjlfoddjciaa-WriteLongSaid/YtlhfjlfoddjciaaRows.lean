/-
  NARROWER THAN 'FOR EVERY INPUT', by the rows' own cells (each row's printed sentence says how): WriteDoes: loops · WriteParts: loops.
  DERIVED. THE GIVEN ROWS OF THIS SEAT. 4 by the template 'for every input the law returns true; each argument reads behind the call as it read before'; 0 by the template 'total and deterministic' (their statements: YtlhfjlfoddjciaaTotals.lean).
  GIVEN WITH THE SEED: the statements are not yours to turn. If you find one false, say at which input.
  Laid BY PROGRAM, IN A SANDBOX (cutbox-rows.mjs): the forced cells as the released guide's own fill.sh prints them over the translation 97483f29ba3254b2… (all of the seat's roots in one cut). By AI agents, Wed Nov 11 2026. No macro, syntax, notation, axiom, sorry.
-/
import Derived.Test.YtlhfjlfoddjciaaChecked
import GoSem.Claim
import GoSem.ClaimJoined
import GoSem.ClaimMapViews
import Derived.JoinedTies
import Derived.KernelRfl
namespace Go.Proofs.Ytlhfjlfoddjciaa
/- THE CELL 'sum', in the pinned program and in every row, IS THE sha256 OF THE DUMP (.gsa) THAT YtlhfjlfoddjciaaProg.lean LOADS. Nothing in Lean hashes anything: it is a label: what it is worth is what the hold of that sum in a sandbox is worth. -/
noncomputable def Try.pinned : Pinned := { name := "ytlhfjlfoddjciaa", sum := "97483f29ba3254b2421da1a9be7c2a2569e522c94a07019c38c4f61d7f609960", checked := Try.checked }
namespace Rows
def none {H : Type} : Left H := { results := [], args := [] }

/-- 'tympanlaw19.WriteDoes': WHATEVER THE INPUT: true; the input reads as it did. -/
def writeDoesSpec : ChangeSpec := { name := "writeDoes", fn := fun _ => fun
  | [d] => { results := [.lit (.bool true)], args := [d] }
  | _ => none }
def writeDoesRow : OpenClaim := { program := "ytlhfjlfoddjciaa", sum := "97483f29ba3254b2421da1a9be7c2a2569e522c94a07019c38c4f61d7f609960", func := "tympan/tympanlaw19.WriteDoes", spec := "writeDoes", inPlace := ["internal/abi.NoEscape", "internal/bytealg.IndexByteString", "internal/bytealg.IndexString"], recurses := true, named := ["internal/bytealg.MaxLen"], loops := true, apart := false }
def WriteDoesSaid : Prop := writeDoesRow.holds Try.pinned (OpenSpec.ofChange writeDoesSpec)

/-- ITS FALSE NEIGHBOUR: 'it returns false'. Refute it at one input. -/
def writeDoesWrong : ChangeSpec := { name := "writeDoes", fn := fun _ => fun
  | [d] => { results := [.lit (.bool false)], args := [d] }
  | _ => none }
def WriteDoesWrongFalsely : Prop := writeDoesRow.holds Try.pinned (OpenSpec.ofChange writeDoesWrong)

/-- 'tympanlaw19.WriteTexts': WHATEVER THE INPUT: true; the input reads as it did. -/
def writeTextsSpec : ChangeSpec := { name := "writeTexts", fn := fun _ => fun
  | [d] => { results := [.lit (.bool true)], args := [d] }
  | _ => none }
def writeTextsRow : OpenClaim := { program := "ytlhfjlfoddjciaa", sum := "97483f29ba3254b2421da1a9be7c2a2569e522c94a07019c38c4f61d7f609960", func := "tympan/tympanlaw19.WriteTexts", spec := "writeTexts", inPlace := ["internal/abi.NoEscape", "internal/bytealg.IndexByteString", "internal/bytealg.IndexString"], recurses := true, named := ["internal/bytealg.MaxLen"], apart := false }
def WriteTextsSaid : Prop := writeTextsRow.holds Try.pinned (OpenSpec.ofChange writeTextsSpec)

/-- ITS FALSE NEIGHBOUR: 'it returns false'. Refute it at one input. -/
def writeTextsWrong : ChangeSpec := { name := "writeTexts", fn := fun _ => fun
  | [d] => { results := [.lit (.bool false)], args := [d] }
  | _ => none }
def WriteTextsWrongFalsely : Prop := writeTextsRow.holds Try.pinned (OpenSpec.ofChange writeTextsWrong)

/-- 'tympanlaw19.WriteParts': WHATEVER THE INPUT: true; the input reads as it did. -/
def writePartsSpec : ChangeSpec := { name := "writeParts", fn := fun _ => fun
  | [d1, d2] => { results := [.lit (.bool true)], args := [d1, d2] }
  | _ => none }
def writePartsRow : OpenClaim := { program := "ytlhfjlfoddjciaa", sum := "97483f29ba3254b2421da1a9be7c2a2569e522c94a07019c38c4f61d7f609960", func := "tympan/tympanlaw19.WriteParts", spec := "writeParts", inPlace := ["internal/abi.NoEscape", "internal/bytealg.IndexByteString", "internal/bytealg.IndexString"], recurses := true, named := ["internal/bytealg.MaxLen"], loops := true, apart := false }
def WritePartsSaid : Prop := writePartsRow.holds Try.pinned (OpenSpec.ofChange writePartsSpec)

/-- ITS FALSE NEIGHBOUR: 'it returns false'. Refute it at one input. -/
def writePartsWrong : ChangeSpec := { name := "writeParts", fn := fun _ => fun
  | [d1, d2] => { results := [.lit (.bool false)], args := [d1, d2] }
  | _ => none }
def WritePartsWrongFalsely : Prop := writePartsRow.holds Try.pinned (OpenSpec.ofChange writePartsWrong)

/-- 'tympanlaw19.WriteLong': WHATEVER THE INPUT: true; the input reads as it did. -/
def writeLongSpec : ChangeSpec := { name := "writeLong", fn := fun _ => fun
  | [d1, d2] => { results := [.lit (.bool true)], args := [d1, d2] }
  | _ => none }
def writeLongRow : OpenClaim := { program := "ytlhfjlfoddjciaa", sum := "97483f29ba3254b2421da1a9be7c2a2569e522c94a07019c38c4f61d7f609960", func := "tympan/tympanlaw19.WriteLong", spec := "writeLong", inPlace := ["internal/abi.NoEscape", "internal/bytealg.IndexByteString", "internal/bytealg.IndexString"], recurses := true, named := ["internal/bytealg.MaxLen"], apart := false }
def WriteLongSaid : Prop := writeLongRow.holds Try.pinned (OpenSpec.ofChange writeLongSpec)

/-- ITS FALSE NEIGHBOUR: 'it returns false'. Refute it at one input. -/
def writeLongWrong : ChangeSpec := { name := "writeLong", fn := fun _ => fun
  | [d1, d2] => { results := [.lit (.bool false)], args := [d1, d2] }
  | _ => none }
def WriteLongWrongFalsely : Prop := writeLongRow.holds Try.pinned (OpenSpec.ofChange writeLongWrong)

/- THE SECOND FORM. 'bulk': how many values and letters a reading holds, each counted each time it is reached (what is shared counts as often as it is met; a slice's spare places count too). A statement '..UptoSaid' is the law's where the arguments, and the package variables that the reading takes, are together of bulk at most 1048576: NARROWER than '..Said'. Prove '..Said' where nothing that the law and all that it calls make is longer than what came in: it says more and counts as full. Else prove '..UptoSaid'. A law counts once. -/
mutual
def uptoBulk {H : Type} : DataW H → Nat
  | .lit (.string bytes) => bytes.length + 1
  | .lit _ => 1
  | .nil => 1
  | .ptr d => uptoBulk d + 1
  | .slice elems spare => uptoBulkAll elems + uptoBulkAll spare + 1
  | .agg parts => uptoBulkAll parts + 1
  | .iface _ d => uptoBulk d + 1
  | .map entries => uptoBulkEntries entries + 1
  | .held _ => 1
def uptoBulkAll {H : Type} : List (DataW H) → Nat
  | [] => 0
  | d :: r => uptoBulk d + uptoBulkAll r
def uptoBulkEntries {H : Type} : List (Lit × DataW H) → Nat
  | [] => 0
  | x :: r => uptoBulkEntry x + uptoBulkEntries r
def uptoBulkEntry {H : Type} : Lit × DataW H → Nat
  | (.string bytes, d) => bytes.length + uptoBulk d + 1
  | (_, d) => uptoBulk d + 1
 end
def uptoSmall : (H : Type) → List (DataW H) → Bool := fun _ ds => decide (uptoBulkAll ds ≤ 1048576)
def OpenSpec.upto (s : _root_.Go.ChangeSpec) : _root_.Go.OpenSpec := { _root_.Go.OpenSpec.ofChange s with cond := some uptoSmall }

/-- 'tympanlaw19.WriteDoes', WHERE WHAT IT READS IS OF BULK AT MOST 1048576: true; the input reads as it did. -/
def writeDoesUptoRow : OpenClaim := { program := "ytlhfjlfoddjciaa", sum := "97483f29ba3254b2421da1a9be7c2a2569e522c94a07019c38c4f61d7f609960", func := "tympan/tympanlaw19.WriteDoes", spec := "writeDoes", inPlace := ["internal/abi.NoEscape", "internal/bytealg.IndexByteString", "internal/bytealg.IndexString"], recurses := true, named := ["internal/bytealg.MaxLen"], loops := true, apart := false, narrowed := true }
def WriteDoesUptoSaid : Prop := writeDoesUptoRow.holds Try.pinned (OpenSpec.upto writeDoesSpec)

/-- 'tympanlaw19.WriteTexts', WHERE WHAT IT READS IS OF BULK AT MOST 1048576: true; the input reads as it did. -/
def writeTextsUptoRow : OpenClaim := { program := "ytlhfjlfoddjciaa", sum := "97483f29ba3254b2421da1a9be7c2a2569e522c94a07019c38c4f61d7f609960", func := "tympan/tympanlaw19.WriteTexts", spec := "writeTexts", inPlace := ["internal/abi.NoEscape", "internal/bytealg.IndexByteString", "internal/bytealg.IndexString"], recurses := true, named := ["internal/bytealg.MaxLen"], apart := false, narrowed := true }
def WriteTextsUptoSaid : Prop := writeTextsUptoRow.holds Try.pinned (OpenSpec.upto writeTextsSpec)

/-- 'tympanlaw19.WriteParts', WHERE WHAT IT READS IS OF BULK AT MOST 1048576: true; the input reads as it did. -/
def writePartsUptoRow : OpenClaim := { program := "ytlhfjlfoddjciaa", sum := "97483f29ba3254b2421da1a9be7c2a2569e522c94a07019c38c4f61d7f609960", func := "tympan/tympanlaw19.WriteParts", spec := "writeParts", inPlace := ["internal/abi.NoEscape", "internal/bytealg.IndexByteString", "internal/bytealg.IndexString"], recurses := true, named := ["internal/bytealg.MaxLen"], loops := true, apart := false, narrowed := true }
def WritePartsUptoSaid : Prop := writePartsUptoRow.holds Try.pinned (OpenSpec.upto writePartsSpec)

/-- 'tympanlaw19.WriteLong', WHERE WHAT IT READS IS OF BULK AT MOST 1048576: true; the input reads as it did. -/
def writeLongUptoRow : OpenClaim := { program := "ytlhfjlfoddjciaa", sum := "97483f29ba3254b2421da1a9be7c2a2569e522c94a07019c38c4f61d7f609960", func := "tympan/tympanlaw19.WriteLong", spec := "writeLong", inPlace := ["internal/abi.NoEscape", "internal/bytealg.IndexByteString", "internal/bytealg.IndexString"], recurses := true, named := ["internal/bytealg.MaxLen"], apart := false, narrowed := true }
def WriteLongUptoSaid : Prop := writeLongUptoRow.holds Try.pinned (OpenSpec.upto writeLongSpec)

end Rows
end Go.Proofs.Ytlhfjlfoddjciaa
