/- Package write's nodes, walked. -/
import Derived.Test.YtlhfjlfoddjciaaRefAll
import Derived.Test.YtlhfjlfoddjciaaWords
import Derived.Test.YtlhfjlfoddjciaaShelf
import Derived.StillTailTactics
import Derived.Deep.RegionWith
import Derived.Deep.RegionHeld3
namespace Go.Proofs.Ytlhfjlfoddjciaa
open Go.RowKit

def Glob (w : World) : Prop := ∃ m : Int, w.cell? ⟨0, 0, none⟩ = some (.int .i64 m)
theorem Glob.below {B : Nat} {w w' : World} (h : Glob w) (hb : Below B w w') (hB : 0 < B) : Glob w' := by
  obtain ⟨m, h⟩ := h
  exact ⟨m, (hb.cell (p := ⟨0, 0, none⟩) hB).trans h⟩
theorem Glob.alloc {w : World} (h : Glob w) (o : Obj) : Glob (w.alloc o) := by
  obtain ⟨m, h⟩ := h
  have := World.block_lt_of_cell? _ _ h
  exact ⟨m, (World.cell?_alloc_lt w o ⟨0, 0, none⟩ this).trans h⟩
theorem Glob.drewN {w : World} (h : Glob w) (d : Nat) : Glob (w.drewN d) := h
theorem Glob.pos {w : World} (h : Glob w) : 0 < w.heap.size := by obtain ⟨m, h⟩ := h; exact World.block_lt_of_cell? _ _ h

def hasSpace (name : ByteArray) : Bool := decide (0 ≤ Lib.indexByte name.data.toList 32)
def listedB (row : ByteArray) (space : Nat) (name : ByteArray) : Bool := decide (space = 0) && (!hasSpace name && Lib.contains row.data.toList (32 :: name.data.toList ++ [32]))
def ListedR (w : World) (b : Bool) (e : Ending) (w' : World) : Prop := e = .returned (.bool b) ∧ Below w.heap.size w w'

set_option maxHeartbeats 2000000 in
theorem listed_any (row : ByteArray) (kind space : Nat) (name text : ByteArray) (w : World) (A2 A3 : Option Addr) (m2 m3 c2 c3 : Nat) (hr : row.size ≤ 1000) (hG : Glob w) (hnm : name.size ≤ 1099511627776) :
    Calls Try.prog 27 #[.string row, .agg #[.int .u8 kind, .int .u8 space, .string name, .slice A2 m2 c2, .string text, .slice A3 m3 c3]] w (ListedR w (listedB row space name)) := by
  have hG1 := hG.alloc (.cells #[.int .u8 kind, .int .u8 space, .string name, .slice A2 m2 c2, .string text, .slice A3 m3 c3] 35)
  obtain ⟨m, hm⟩ := hG1
  have HM := Lib.hid hm
  clear hm hG
  by_cases hs0 : space = 0
  · have e0 : ((space : Int) == 0) = true := by simp [hs0]
    have HS0 := Lib.hid hs0
    clear hs0
    by_cases hsp : hasSpace name = true
    · have hsp1 : decide (0 ≤ Lib.indexByte name.data.toList 32) = true := hsp
      have HF : Hid (listedB row space name = false) := Lib.hid (by simp [listedB, hsp])
      clear hsp
      go_enter Try.func27, Try.ntmps27
      go_wp2_with (go_at_call 29; refine (Try.strings_Contains_one _ 32 _).mono ?_; rintro e w' ⟨rfl, rfl⟩)
      go_ret
      rw [HF.out]
      exact ⟨rfl, (Below.refl _ _).alloc (Nat.le_refl _) _⟩
    · have hsp0 : hasSpace name = false := by simpa using hsp
      have hsp1 : decide (0 ≤ Lib.indexByte name.data.toList 32) = false := hsp0
      have HF : Hid (listedB row space name = Lib.contains row.data.toList (32 :: name.data.toList ++ [32])) := Lib.hid (by simp [listedB, hsp0, HS0.out])
      clear hsp hsp0
      go_enter Try.func27, Try.ntmps27
      go_wp2_with fail
      refine Calls.mono (Try.strings_Contains_one _ 32 _) ?_
      rintro e w' ⟨rfl, rfl⟩
      go_wp2_with fail
      refine Calls.mono (Try.strings_Contains _ _ m _ (by omega) HM.out) ?_
      rintro e w' ⟨rfl, rfl⟩
      go_wp2
      go_ret
      rw [HF.out]
      refine ⟨?_, (Below.refl _ _).alloc (Nat.le_refl _) _⟩
      simp
  · have e0 : ((space : Int) == 0) = false := by simp; omega
    have HF : Hid (listedB row space name = false) := Lib.hid (by simp [listedB, hs0])
    clear hs0
    go_enter Try.func27, Try.ntmps27
    go_wp2
    go_ret
    rw [HF.out]
    exact ⟨rfl, (Below.refl _ _).alloc (Nat.le_refl _) _⟩
end Go.Proofs.Ytlhfjlfoddjciaa
