/- atoms.Code's row: how many backquotes stand at a place. -/
import Derived.Test.YtjhfmdfihbkcaaaGreatDoorAtEsc
import Derived.Test.YtjhfmdfihbkcaaaGreatDoorShelf
import Derived.Lib.TrimByte
import Derived.Deep.QuietTactic
import Derived.IntWalk
namespace Go.Proofs.YtjhfmdfihbkcaaaGreatDoor
open Go.RowKit

def rowN (l : List UInt8) (k : Nat) : Nat := ((l.drop k).takeWhile (· == 96)).length
theorem rowN_le (l : List UInt8) (k : Nat) : rowN l k ≤ l.length - k := by
  unfold rowN
  have := List.IsPrefix.length_le (List.takeWhile_prefix (p := (· == 96)) (l := l.drop k))
  rw [List.length_drop] at this
  exact this
theorem trim_row (l : List UInt8) (k : Nat) : (Lib.trimLeftB (l.drop k) 96).length + rowN l k = (l.drop k).length := by
  unfold rowN Lib.trimLeftB
  have h := congrArg List.length (List.takeWhile_append_dropWhile (p := fun b : UInt8 => b == 96) (l := l.drop k))
  rw [List.length_append] at h
  omega
theorem ext_drop (s : ByteArray) (k : Nat) : (s.extract k s.size).data.toList = s.data.toList.drop k := by
  have hl : s.data.toList.length = s.size := Array.length_toList
  rw [Lib.extract_data, List.take_of_length_le (by rw [List.length_drop]; omega)]
def IntD (w : World) (n : Int) (e : Ending) (w' : World) : Prop := e = .returned (.int .i64 n) ∧ ∃ d, w' = w.drewN d
end Go.Proofs.YtjhfmdfihbkcaaaGreatDoor
