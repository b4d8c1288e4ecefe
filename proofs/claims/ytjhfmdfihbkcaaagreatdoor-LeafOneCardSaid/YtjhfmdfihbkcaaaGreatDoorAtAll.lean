/- atoms.word, atoms.all: do all bytes of a text meet a test that reads nothing. -/
import Derived.Test.YtjhfmdfihbkcaaaGreatDoorAtEsc
import Derived.Shelf.GgClosure.Gives
namespace Go.Proofs.YtjhfmdfihbkcaaaGreatDoor
open Go.RowKit

def wordB (b : UInt8) : Bool := letter b || digit b
/-- A function of a byte that reads nothing and answers p. -/
def Says (g : Nat) (p : UInt8 → Bool) : Prop := ∀ (b : UInt8) (w : World), Calls Tryz.prog g #[.int .u8 (b.toNat : Int)] w (RB w (p b))
def allB (p : UInt8 → Bool) (l : List UInt8) : Bool := l.all p
theorem take_all (l : List UInt8) (p : UInt8 → Bool) (k : Nat) (hk : k < l.length) : (l.take (k + 1)).all p = ((l.take k).all p && p l[k]) := by
  rw [List.take_succ_eq_append_getElem hk, List.all_append]
  simp
def inB (l : List UInt8) (b : UInt8) : Bool := wordB b || decide (0 ≤ Lib.indexByte l b)
def restB (b : UInt8) : Bool := decide (32 < b.toNat) && !(b == 60)
def hostB (b : UInt8) : Bool := wordB b || b == 45
end Go.Proofs.YtjhfmdfihbkcaaaGreatDoor
