/- refs.Dest: its closure, and what it reads, plainly. -/
import Derived.Test.YtbcfhpomclkccaaDoorRsUn
namespace Go.Proofs.YtbcfhpomclkccaaDoor
open Go.RowKit

def noNlLt (b : UInt8) : Bool := (b != 10) && (b != 60)
set_option maxRecDepth 100000 in
theorem dest1_any (b : UInt8) (w : World) : Calls Tryd.prog 51 #[.int .u8 (b.toNat : Int)] w (RB w (noNlLt b)) := by
  obtain ⟨q, hq⟩ : ∃ q, (b != 10) = q := ⟨_, rfl⟩
  obtain ⟨r, hr⟩ : ∃ r, (b != 60) = r := ⟨_, rfl⟩
  have hv : noNlLt b = (q && r) := by unfold noNlLt; rw [hq, hr]
  rw [hv]
  have hq2 : ((b.toNat : Int) != 10) = q := by rw [show ((b.toNat : Int) != 10) = (b != 10) from bnec b 10]; exact hq
  have hr2 : ((b.toNat : Int) != 60) = r := by rw [show ((b.toNat : Int) != 60) = (b != 60) from bnec b 60]; exact hr
  clear hq hr hv
  cases q
  · go_enter Tryd.func51, Tryd.ntmps51
    go_wp2
    go_ret
    exact ⟨rfl, rfl⟩
  · go_enter Tryd.func51, Tryd.ntmps51
    go_wp2
    go_ret
    exact ⟨rfl, rfl⟩
/-- How far a destination goes without its brackets: where it ends and how many parentheses are open; none: too many. -/
def bareF (l : List UInt8) : Nat → Nat → Nat → Option (Nat × Nat)
  | 0, i, o => some (i, o)
  | f + 1, i, o => match l[i]? with
    | none => some (i, o)
    | some b =>
      if stepL l i = 2 then bareF l f (i + 2) o
      else if b == 40 && o == 32 then none
      else if b == 40 then bareF l f (i + 1) (o + 1)
      else if b == 41 && decide (0 < o) then bareF l f (i + 1) (o - 1)
      else if decide (b.toNat ≤ 32) || b == 127 || b == 41 then some (i, o)
      else bareF l f (i + 1) o
end Go.Proofs.YtbcfhpomclkccaaDoor
