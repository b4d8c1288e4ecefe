/- Bytes that are appended one by one; class.Lower and the reference's Lower. -/
import Derived.Test.YtbcfhpomclkccaaDoorByte
import Derived.Maps.AppendAt
import Derived.OwnWalk
import Derived.Laws.IdiomStrings
import Derived.Deep.AppendLies
import Derived.Deep.Draws
namespace Go.Proofs.YtbcfhpomclkccaaDoor
open Go.RowKit

def u8c (b : UInt8) : Value := .int .u8 (b.toNat : Int)
theorem acc_byte : (Tryd.prog.info? 5).map (fun i => (i.zero, i.size, i.bytes)) = some (some (.int .u8 0), 1, 1) := by kernel_rfl
/-- v is a row of the call's own that holds the bytes acc. -/
def Acc (w : World) (v : Value) (acc : List UInt8) (wr : World) : Prop := wr.ownsRow w.heap.size 5 1 v acc.length (acc.map u8c) ∧ Below w.heap.size w wr
theorem Acc.start (w : World) : Acc w (.slice none 0 0) [] w := ⟨World.ownsRow_nil _ _ _ _, Below.refl _ _⟩
theorem Acc.slice {w wr : World} {v : Value} {acc : List UInt8} (h : Acc w v acc wr) : ∃ A m c, v = .slice A m c := by
  rcases h.1.2 with ⟨rfl, _⟩ | ⟨g, cap, cur, rfl, _⟩
  · exact ⟨_, _, _, rfl⟩
  · exact ⟨_, _, _, rfl⟩
theorem Acc.below {w wr : World} {v : Value} {acc : List UInt8} (h : Acc w v acc wr) : Below w.heap.size w wr := h.2
theorem Acc.drewN {w wr : World} {v : Value} {acc : List UInt8} (h : Acc w v acc wr) (n : Nat) : Acc w v acc (wr.drewN n) := ⟨h.1, ⟨h.2.os, h.2.tape, h.2.output, h.2.size, h.2.block⟩⟩
theorem Acc.drew {w wr : World} {v : Value} {acc : List UInt8} (h : Acc w v acc wr) : Acc w v acc wr.drew := ⟨h.1, h.2.drew⟩
/-- Behind a call that makes memory alone. -/
theorem Acc.later {w wr w' : World} {v : Value} {acc : List UInt8} (h : Acc w v acc wr) (hb : Below wr.heap.size wr w') : Acc w v acc w' :=
  ⟨h.1.kept (row := none) ⟨hb.os, hb.tape, hb.output, hb.size, fun i hi _ => hb.block i hi⟩ (by
    cases hv : v.ownBlock with
    | none => exact .inl rfl
    | some k => exact .inr (by simp)), h.2.trans (hb.mono h.2.size)⟩
theorem Acc.alloc {w wr : World} {v : Value} {acc : List UInt8} (h : Acc w v acc wr) (o : Obj) : Acc w v acc (wr.alloc o) := ⟨h.1.alloc o, h.2.alloc h.2.size o⟩
/-- Behind the append. -/
theorem Acc.step {w wr W1 : World} {v v' : Value} {acc xs : List UInt8} {n : Nat} {vs : List Value} (h : Acc w v acc wr) (hg : wr.grownBy W1 v.ownBlock) (ho : W1.ownsRow w.heap.size 5 1 v' n vs) (hn : n = (acc ++ xs).length) (hv : vs = (acc ++ xs).map u8c) : Acc w v' (acc ++ xs) W1 := by
  subst hn hv
  exact ⟨ho, h.2.grown hg h.2.size (fun k hk => (h.1.lt k hk).1)⟩
theorem Acc.string {w wr : World} {v : Value} {acc : List UInt8} (h : Acc w v acc wr) : (convert 22 9 v).run Tryd.prog wr = .ok (.string ⟨acc.toArray⟩) wr := by
  rcases h.1.2 with ⟨rfl, hx⟩ | ⟨g, cap, cur, rfl, _⟩
  · have : acc = [] := List.eq_nil_of_length_eq_zero hx
    subst this
    exact run_convert_bytes_nil wr 22 5 Tryd.underlying22 Tryd.underlying5 0 0 9 Tryd.underlying9
  · refine run_convert_bytes_back (P := Tryd.prog) wr 22 9 5 ⟨g, 0, none⟩ cap acc Tryd.underlying22 Tryd.underlying5 Tryd.underlying9 ?_
    intro j hj
    exact h.1.cells (g := g) rfl j _ (by rw [List.getElem?_map, List.getElem?_eq_getElem hj]; rfl)
theorem one_cell_u8 (l : List UInt8) : ∀ u ∈ l.map u8c, u.oneCell' = true := by
  intro u hu
  obtain ⟨b, _, rfl⟩ := List.mem_map.1 hu
  rfl

def StrR (w : World) (l : List UInt8) (e : Ending) (w' : World) : Prop := e = .returned (.string ⟨l.toArray⟩) ∧ Below w.heap.size w w'
def lowerL (l : List UInt8) : List UInt8 := l.map small
def AccW (w : World) (f : Nat → List UInt8) (n : Nat) (v i : Value) (wr : World) : Prop := ∃ k : Nat, i = .int .i64 k ∧ k ≤ n ∧ Acc w v (f k) wr

theorem u8_add (n k : Nat) (h : n + k < 256) : IntKind.u8.wrap ((n : Int) + (k : Int)) = (n : Int) + k := by
  rw [IntKind.wrap_u8]; omega
end Go.Proofs.YtbcfhpomclkccaaDoor
