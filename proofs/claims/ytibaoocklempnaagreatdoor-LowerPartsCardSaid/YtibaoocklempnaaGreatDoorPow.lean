/- strconv's table of powers of ten, as a block that stays; strconv.Itoa over it. -/
import Derived.Test.YtibaoocklempnaaGreatDoorBlkLen
import Derived.Test.YtibaoocklempnaaGreatDoorLShelf
import Derived.Lib.LaidTab
namespace Go.Proofs.YtibaoocklempnaaGreatDoor
open Go.RowKit

def Pow (w : World) : Prop := ∃ t r, w.heap[5]? = some (.cells (Lib.pow10Tab.map fun z => Value.int .u64 z).toArray t r)
theorem pow_name : Tryz.prog.globalNamed "internal/strconv.uint64pow10" = some 5 := by kernel_rfl
theorem Pow.tab {w : World} (h : Pow w) : Lib.TabIs Tryz.prog w "internal/strconv.uint64pow10" .u64 Lib.pow10Tab := by
  obtain ⟨t, r, h⟩ := h
  unfold Lib.TabIs World.var?
  rw [pow_name, Option.bind_some, h]
theorem Pow.of_tab {w : World} (h : Lib.TabIs Tryz.prog w "internal/strconv.uint64pow10" .u64 Lib.pow10Tab) : Pow w := by
  unfold Lib.TabIs World.var? at h
  rw [pow_name, Option.bind_some] at h
  unfold Pow
  revert h
  cases w.heap[5]? with
  | none => intro h; cases h
  | some o =>
    cases o with
    | cells cs t r => intro h; cases h; exact ⟨t, r, rfl⟩
    | _ => intro h; cases h
/-- .. and it lies below B. -/
def PowB (B : Nat) (w : World) : Prop := Pow w ∧ 5 < B
theorem PowB.on {B : Nat} {w w' : World} (h : PowB B w) (hb : Below B w w') : PowB B w' := by
  obtain ⟨⟨t, r, h⟩, hB⟩ := h
  exact ⟨⟨t, r, (hb.block _ hB).trans h⟩, hB⟩
theorem PowB.mk' {w : World} (h : Pow w) : PowB w.heap.size w := by
  obtain ⟨t, r, h⟩ := h
  exact ⟨⟨t, r, h⟩, (Array.getElem?_eq_some_iff.1 h).1⟩
theorem PowB.alloc {B : Nat} {w : World} (h : PowB B w) (hB : B ≤ w.heap.size) (o : Obj) : PowB B (w.alloc o) := h.on ((Below.refl B w).alloc hB o)
theorem below_grow {B : Nat} {a w : World} (h : Below B a w) (hB : B ≤ w.heap.size) (os : Array Obj) : Below B a (Go.Sort.grow w os) :=
  ⟨h.os, h.tape, h.output, by show a.heap.size ≤ (w.heap ++ os).size; rw [Array.size_append]; have := h.size; omega, fun k hk => by
    show (w.heap ++ os)[k]? = _
    rw [Array.getElem?_append_left (by omega)]
    exact h.block k hk⟩
theorem itoa_any (n : Int) (h : I64 n) (w : World) (hp : Pow w) : Calls Tryz.prog 120 #[.int .i64 n] w (StrR w (Lib.itoa n)) := by
  refine Calls.mono (Tryz.strconv_Itoa n h.1 h.2 w hp.tab) ?_
  rintro e w' ⟨rfl, k, os, rfl⟩
  exact ⟨rfl, below_grow (row_drewN (Below.refl _ w) k) (Nat.le_refl _) os⟩
end Go.Proofs.YtibaoocklempnaaGreatDoor
