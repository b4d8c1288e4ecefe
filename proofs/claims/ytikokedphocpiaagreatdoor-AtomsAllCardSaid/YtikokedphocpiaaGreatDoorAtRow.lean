/- atoms.Code's row: how many backquotes stand at a place. -/
import Derived.Test.YtikokedphocpiaaGreatDoorAtEsc
import Derived.Test.YtikokedphocpiaaGreatDoorShelf
import Derived.Lib.TrimByte
import Derived.Deep.QuietTactic
import Derived.IntWalk
namespace Go.Proofs.YtikokedphocpiaaGreatDoor
open Go.RowKit

def rowN (l : List UInt8) (k : Nat) : Nat := ((l.drop k).takeWhile (· == 96)).length
theorem rowN_le (l : List UInt8) (k : Nat) : rowN l k ≤ l.length - k := by
  unfold rowN
  have := List.IsPrefix.length_le (List.takeWhile_prefix (p := (· == 96)) (l := l.drop k))
  rw [List.length_drop] at this
  exact this
theorem trim_row (l : List UInt8) (k : Nat) : (Lib.trimLeftB (l.drop k) 96).length + rowN l k = (l.drop k).length := by
  unfold rowN Lib.trimLeftB
  have h := congrArg List.length (List.takeWhile_append_dropWhile (p := fun b : UInt8 => b == 96) (l := l.drop k))
  rw [List.length_append] at h
  omega
theorem ext_drop (s : ByteArray) (k : Nat) : (s.extract k s.size).data.toList = s.data.toList.drop k := by
  have hl : s.data.toList.length = s.size := Array.length_toList
  rw [Lib.extract_data, List.take_of_length_le (by rw [List.length_drop]; omega)]
def IntD (w : World) (n : Int) (e : Ending) (w' : World) : Prop := e = .returned (.int .i64 n) ∧ ∃ d, w' = w.drewN d

set_option maxHeartbeats 1000000 in
set_option maxRecDepth 100000 in
theorem row_any (s : ByteArray) (k : Nat) (b : Nat) (w : World) (hs : s.size ≤ 1099511627776) (hk : k ≤ s.size) (hb : w.cell? ⟨b, 0, none⟩ = some (.string s)) :
    Calls Tryz.prog 18 #[.int .i64 (k : Int), .pointer (some ⟨b, 0, none⟩)] w (IntD w (rowN s.data.toList k)) := by
  have hl : s.data.toList.length = s.size := Array.length_toList
  have htr := trim_row s.data.toList k
  have hle := rowN_le s.data.toList k
  have hex := ext_drop s k
  obtain ⟨X, hX⟩ : ∃ X, s.extract k s.size = X := ⟨_, rfl⟩
  obtain ⟨Y, hY⟩ : ∃ Y : ByteArray, (⟨(Lib.trimLeftB X.data.toList 96).toArray⟩ : ByteArray) = Y := ⟨_, rfl⟩
  rw [hX] at hex
  have hYs : (Y.size : Int) = (s.size : Int) - k - rowN s.data.toList k := by
    have e1 : Y.size = (Lib.trimLeftB X.data.toList 96).length := by rw [← hY]; rfl
    rw [hex] at e1
    rw [List.length_drop, hl] at htr
    omega
  have hki : (k : Int) ≤ (s.size : Int) := by omega
  have htl := Tryz.strings_TrimLeft_one X 96 (by decide)
  rw [hY] at htl
  have HTL := Lib.hid htl
  have HYS := Lib.hid hYs
  have HX := Lib.hid hX
  have hw1 : IntKind.i64.wrap ((s.size : Int) - (k : Int)) = (s.size : Int) - k := IntWalk.i64_in _ (by omega)
  have hw2 : IntKind.i64.wrap ((s.size : Int) - (k : Int) - (Y.size : Int)) = (rowN s.data.toList k : Int) := by
    rw [IntWalk.i64_in _ (by omega)]
    omega
  clear htr hex hY hYs htl hl hX
  go_enter Tryz.func18, Tryz.ntmps18
  go_wp2
  go_quiet ((go_at_call 19; rw [HX.out]; exact Calls.quiet_of_same (HTL.out _)))
  go_wp2
  go_ret
  exact ⟨rfl, _, rfl⟩
end Go.Proofs.YtikokedphocpiaaGreatDoor
