/- atoms.Escape: what a backslash at a place stands for. -/
import Derived.Test.YtjhfmdfihbkcaaaGreatDoorByte
import Derived.BigQuiet
import Derived.WalkSpells
import Derived.Lib.Hide
namespace Go.Proofs.YtjhfmdfihbkcaaaGreatDoor
open Go.RowKit

def signB (b : UInt8) : Bool := decide (32 < b.toNat) && decide (b.toNat < 127) && !letter b && !digit b
/-- What a backslash at i stands for. -/
def escAt (l : List UInt8) (i : Int) : Option UInt8 := if 0 ≤ i then (if l[i.toNat]? = some 92 then (match l[i.toNat + 1]? with
    | some c => if signB c || c == 10 then some c else none
    | none => none) else none) else none
theorem ext_list (s : ByteArray) (k : Nat) (h : k < s.size) : (s.extract k (k + 1)).data.toList = [s[k]] := by
  have hl : s.data.toList.length = s.size := Array.length_toList
  rw [Lib.extract_data, Nat.add_sub_cancel_left, List.drop_eq_getElem_cons (by omega)]
  rfl
theorem str_mk (X : ByteArray) (l : List UInt8) (h : X.data.toList = l) : X = ⟨l.toArray⟩ := by
  subst h
  rfl
theorem ext_one (s : ByteArray) (k : Nat) (h : k < s.size) : s.extract k (k + 1) = ⟨#[s[k]]⟩ := str_mk _ _ (ext_list s k h)
theorem get_list (s : ByteArray) (k : Nat) (h : k < s.size) : s.data.toList[k]? = some s[k] := by
  rw [List.getElem?_eq_getElem (by simpa using h)]; rfl
theorem get_none (s : ByteArray) (k : Nat) (h : ¬ k < s.size) : s.data.toList[k]? = none := List.getElem?_eq_none (by simpa using h)

def SN (w : World) (x : ByteArray) (n : Int) (e : Ending) (w' : World) : Prop := e = .returned (.tuple #[.string x, .int .i64 n]) ∧ w = w'
/-- atoms.Escape. -/
def escOut (o : Option UInt8) : ByteArray × Int := match o with
  | some c => (⟨#[c]⟩, 2)
  | none => (⟨#[]⟩, 0)
end Go.Proofs.YtjhfmdfihbkcaaaGreatDoor
