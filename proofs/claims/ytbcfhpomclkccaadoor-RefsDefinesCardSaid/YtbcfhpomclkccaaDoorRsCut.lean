/- strings.Cut at one byte. -/
import Derived.Test.YtbcfhpomclkccaaDoorRsGap
import Derived.IntWalk
namespace Go.Proofs.YtbcfhpomclkccaaDoor
open Go.RowKit

theorem indexByte_spec (l : List UInt8) (c : UInt8) : (Lib.indexByte l c = -1 ∧ ∀ j : Nat, l[j]? ≠ some c) ∨ ∃ a : Nat, Lib.indexByte l c = (a : Int) ∧ l[a]? = some c ∧ ∀ j : Nat, j < a → l[j]? ≠ some c := by
  induction l with
  | nil => exact .inl ⟨rfl, fun j => by simp⟩
  | cons b l ih =>
    unfold Lib.indexByte
    by_cases hb : b = c
    · subst hb
      refine .inr ⟨0, by simp, rfl, fun j hj => by omega⟩
    · have hb' : (b == c) = false := by simpa using hb
      rw [hb']
      rcases ih with ⟨h1, h2⟩ | ⟨a, h1, h2, h3⟩
      · refine .inl ⟨by simp [h1], fun j => ?_⟩
        cases j with
        | zero => simpa using hb
        | succ j => simpa using h2 j
      · refine .inr ⟨a + 1, ?_, by simpa using h2, fun j hj => ?_⟩
        · have hne : ((Lib.indexByte l c) == (-1 : Int)) = false := by rw [h1, beq_eq_false_iff_ne]; omega
          rw [hne, h1]
          simp
        · cases j with
          | zero => simpa using hb
          | succ j => simpa using h3 j (by omega)
/-- What stands ahead of a byte, behind it, and whether it is there. -/
def cutS (s : ByteArray) (c : UInt8) : ByteArray × ByteArray × Bool := if Lib.indexByte s.data.toList c < 0 then (s, ⟨#[]⟩, false) else (s.extract 0 (Lib.indexByte s.data.toList c).toNat, s.extract ((Lib.indexByte s.data.toList c).toNat + 1) s.size, true)
def CutR (w : World) (x : ByteArray × ByteArray × Bool) (e : Ending) (w' : World) : Prop := e = .returned (.tuple #[.string x.1, .string x.2.1, .bool x.2.2]) ∧ ∃ d, w' = w.drewN d
set_option maxRecDepth 100000 in
theorem slcut_any (s : ByteArray) (c : UInt8) (w : World) (hs : s.size ≤ 1099511627776) : Calls Tryd.prog 93 #[.string s, .string ⟨#[c]⟩] w (CutR w (cutS s c)) := by
  have hl : s.data.toList.length = s.size := Array.length_toList
  obtain ⟨x, hx⟩ : ∃ x, cutS s c = x := ⟨_, rfl⟩
  rw [hx]
  unfold cutS at hx
  have HI := Lib.hid (Tryd.stringslite_Index_one s c w)
  rcases indexByte_spec s.data.toList c with ⟨h1, _⟩ | ⟨a, h1, h2, _⟩
  · rw [h1] at HI hx
    rw [if_pos (by decide)] at hx
    have HX := Lib.hid hx
    clear h1 hx hl
    go_enter Tryd.func93, Tryd.ntmps93
    go_wp2_with fail
    refine Calls.mono HI.out ?_
    rintro e w1 ⟨rfl, hw1⟩
    rw [hw1]
    clear hw1
    go_wp2
    go_ret3
    rw [← HX.out]
    exact ⟨rfl, 0, rfl⟩
  · have ha := (List.getElem?_eq_some_iff.1 h2).1
    rw [h1] at HI hx
    rw [if_neg (by omega), Int.toNat_natCast] at hx
    have HX := Lib.hid hx
    have h3 : (a : Int) ≤ (s.size : Int) := by omega
    have h4 : (a : Int) + 1 ≤ (s.size : Int) := by omega
    have h5 : (0 : Int) ≤ (a : Int) := by omega
    have h6 : a ≤ s.size := by omega
    have h7 : a + 1 ≤ s.size := by omega
    have h8 : IntKind.i64.wrap ((a : Int) + 1) = (a : Int) + 1 := IntWalk.i64_in _ (by omega)
    have h9 : (0 : Int) ≤ (a : Int) + 1 := by omega
    have h10 : ((a : Int) + 1).toNat = a + 1 := by omega
    clear h1 hx h2 hl ha
    go_enter Tryd.func93, Tryd.ntmps93
    go_wp2_with fail
    refine Calls.mono HI.out ?_
    rintro e w1 ⟨rfl, hw1⟩
    rw [hw1]
    clear hw1
    go_wp2_with fail
    go_quiet (fail)
    go_wp2
    go_ret3
    rw [← HX.out]
    exact ⟨rfl, _, rfl⟩
theorem cut_any (s : ByteArray) (c : UInt8) (w : World) (hs : s.size ≤ 1099511627776) : Calls Tryd.prog 65 #[.string s, .string ⟨#[c]⟩] w (CutR w (cutS s c)) := by
  have HC := Lib.hid (slcut_any s c w hs)
  obtain ⟨⟨x1, x2, x3⟩, hx⟩ : ∃ x, cutS s c = x := ⟨_, rfl⟩
  rw [hx] at HC ⊢
  clear hx
  go_enter Tryd.func65, Tryd.ntmps65
  go_wp2_with fail
  refine Calls.mono HC.out ?_
  rintro e w1 ⟨rfl, d, rfl⟩
  go_wp2
  go_ret3
  exact ⟨rfl, _, rfl⟩
end Go.Proofs.YtbcfhpomclkccaaDoor
