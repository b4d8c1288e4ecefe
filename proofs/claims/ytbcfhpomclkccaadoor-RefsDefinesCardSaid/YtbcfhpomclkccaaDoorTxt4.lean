/- The reference's Text: what a law takes of it. -/
import Derived.Test.YtbcfhpomclkccaaDoorTxt3
namespace Go.Proofs.YtbcfhpomclkccaaDoor
open Go.RowKit

theorem SlU8.later {w w' : World} {v : Value} {l : List UInt8} (h : SlU8 w v l) (hb : Below w.heap.size w w') : SlU8 w' v l := by
  obtain ⟨A, m, c, rfl, hm, hc, h⟩ := h
  refine ⟨A, m, c, rfl, hm, hc, fun h0 => ?_⟩
  obtain ⟨b, off, e, hlt, hbo⟩ := h h0
  exact ⟨b, off, e, Nat.lt_of_lt_of_le hlt hb.size, fun j hj => (hb.cell (p := ⟨b, off + j, none⟩) hlt).trans (hbo j hj)⟩
def StrE (w : World) (x : ByteArray) (e : Ending) (w' : World) : Prop := e = .returned (.string x) ∧ Below w.heap.size w w'
end Go.Proofs.YtbcfhpomclkccaaDoor
