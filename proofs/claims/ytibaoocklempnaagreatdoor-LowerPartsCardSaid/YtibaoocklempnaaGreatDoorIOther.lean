/- lower's writer: an inline, whatever its kind. -/
import Derived.Test.YtibaoocklempnaaGreatDoorIKinds
namespace Go.Proofs.YtibaoocklempnaaGreatDoor
open Go.RowKit

set_option maxHeartbeats 1000000 in
set_option maxRecDepth 100000 in
theorem inline_other (B b : Nat) (acc : List UInt8) (kd : Nat) (tx dest title : ByteArray) (A : Option Addr) (m c : Nat) (w : World) (hB : Bld 83 B b acc w) (hn : kd = 0 ∨ 9 < kd) :
    Calls Tryz.prog 93 #[.pointer (some ⟨b, 0, none⟩), .agg #[.int .u8 kd, .string tx, .string dest, .string title, .slice A m c]] w (WrR w B b acc) := by
  have hBw : B ≤ w.heap.size := Nat.le_trans hB.le (Nat.le_of_lt hB.lt)
  have HBD := Lib.hid (hB.alloc (.cells #[.int .u8 kd, .string tx, .string dest, .string title, .slice A m c] 80))
  have hz : ∀ c : Nat, kd ≠ c → ((kd : Int) == (c : Int)) = false := fun c hc => by rw [beq_eq_false_iff_ne]; omega
  have z1 := hz 1 (by omega)
  have z2 := hz 2 (by omega)
  have z3 := hz 3 (by omega)
  have z4 := hz 4 (by omega)
  have z5 := hz 5 (by omega)
  have z6 := hz 6 (by omega)
  have z7 := hz 7 (by omega)
  have z8 := hz 8 (by omega)
  have z9 := hz 9 (by omega)
  clear hz hn hB
  go_enter Tryz.func93, Tryz.ntmps93
  go_wp2
  go_end0
  exact ⟨rfl, HBD.out, (Below.refl B w).alloc hBw _, (Kept.refl b w).alloc _⟩
end Go.Proofs.YtibaoocklempnaaGreatDoor
