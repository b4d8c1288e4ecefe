/- atoms.HTML: how long is the markup at a place of a text? -/
import Derived.Test.YtikokedphocpiaaGreatDoorAtTag
import Derived.Test.YtikokedphocpiaaGreatDoorAtRepl
namespace Go.Proofs.YtikokedphocpiaaGreatDoor
open Go.RowKit

def declB (l : List UInt8) : Bool := match l with
  | a :: b :: c :: _ => a == 60 && b == 33 && letter c
  | _ => false
def htmlS (l : List UInt8) (i : Nat) : List (ByteArray × ByteArray) → Nat
  | [] => 0
  | (a, b) :: r => if (Lib.hasPrefix l a.data.toList && (!(a.data.toList == [60, 33]) || declB l)) = true then
      (if Lib.index (Lib.trimPrefix l a.data.toList) b.data.toList < 0 then 0 else i + a.size + (Lib.index (Lib.trimPrefix l a.data.toList) b.data.toList).toNat + b.size)
    else htmlS l i r
def htmlPs : List (ByteArray × ByteArray) := [(⟨#[60, 33, 45, 45, 62]⟩, ⟨#[]⟩), (⟨#[60, 33, 45, 45, 45, 62]⟩, ⟨#[]⟩), (⟨#[60, 33, 45, 45]⟩, ⟨#[45, 45, 62]⟩), (⟨#[60, 63]⟩, ⟨#[63, 62]⟩), (⟨#[60, 33, 91, 67, 68, 65, 84, 65, 91]⟩, ⟨#[93, 93, 62]⟩), (⟨#[60, 33]⟩, ⟨#[62]⟩)]
def htmlC (l : List UInt8) (i : Nat) : Nat := if 0 < tagN l then i + tagN l else htmlS l i htmlPs
def htmlAt (l : List UInt8) (i : Int) : Nat := if 0 ≤ i ∧ i < l.length then htmlC (l.drop i.toNat) i.toNat else 0
set_option maxHeartbeats 1000000 in
set_option maxRecDepth 100000 in
theorem html_no (s : ByteArray) (i : Int) (w : World) (_ : s.size ≤ 1099511627) (_ : -9223372036854775808 ≤ i ∧ i ≤ 9223372036854775807) (h : i < 0 ∨ (s.size : Int) ≤ i) :
    Calls Tryz.prog 13 #[.string s, .int .i64 i] w (RIb w 0) := by
  by_cases h0 : i < 0
  · have z0 : decide (i < 0) = true := by simpa using h0
    clear h h0
    go_enter Tryz.func13, Tryz.ntmps13
    go_wp2
    go_ret
    exact ⟨rfl, Below.refl _ _⟩
  · have z0 : decide (i < 0) = false := by simpa using h0
    have h1 : (s.size : Int) ≤ i := by rcases h with h | h; exact absurd h h0; exact h
    have z1 : decide ((s.size : Int) ≤ i) = true := by simpa using h1
    clear h h0 h1
    go_enter Tryz.func13, Tryz.ntmps13
    go_wp2
    go_ret
    exact ⟨rfl, Below.refl _ _⟩
set_option maxHeartbeats 4000000 in
set_option maxRecDepth 100000 in
theorem html_tag (s : ByteArray) (i : Nat) (w : World) (hs : s.size ≤ 1099511627) (hi : i < s.size) (hlen : tagN (s.data.toList.drop i) ≤ s.size) (h : 0 < tagN (s.data.toList.drop i)) :
    Calls Tryz.prog 13 #[.string s, .int .i64 (i : Int)] w (RIb w (htmlC (s.data.toList.drop i) i : Nat)) := by
  have z1 : decide (s.size ≤ i) = false := by simp; omega
  have hki : (i : Int) < (s.size : Int) := by omega
  have hki1 : (i : Int) ≤ (s.size : Int) := by omega
  obtain ⟨X, hX⟩ : ∃ X, s.extract i s.size = X := ⟨_, rfl⟩
  have hex := ext_drop s i
  rw [hX] at hex
  have hXs : X.size ≤ s.size := by rw [← hX, ByteArray.size_extract]; omega
  have hT := fun w' => tag_any X w' (by omega)
  rw [← hex] at h hlen ⊢
  have hv : ((htmlC X.data.toList i : Nat) : Int) = (i : Int) + (tagN X.data.toList : Int) := by unfold htmlC; rw [if_pos h]; omega
  rw [hv]
  obtain ⟨n, hn⟩ : ∃ n, tagN X.data.toList = n := ⟨_, rfl⟩
  rw [hn] at hT h hlen ⊢
  have HT := Lib.hid hT
  have HX := Lib.hid hX
  have zn : decide ((0 : Int) < (n : Int)) = true := by simp; omega
  clear hT hX hex hv hn
  go_enter Tryz.func13, Tryz.ntmps13
  go_wp2_with fail
  rw [HX.out]
  refine Calls.mono (HT.out _) ?_
  rintro e w1 ⟨rfl, b1⟩
  go_wp2
  go_ret
  exact ⟨rfl, b1⟩
end Go.Proofs.YtikokedphocpiaaGreatDoor
