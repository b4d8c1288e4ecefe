/- The reference's Escape. -/
import Derived.Test.YtdkjenbncmedbaaGreatDoorEscape
import Derived.Test.YtdkjenbncmedbaaGreatDoorAcc2
import Derived.Test.YtdkjenbncmedbaaGreatDoorRefScheme
namespace Go.Proofs.YtdkjenbncmedbaaGreatDoor
open Go.RowKit

def fineB0 (b : UInt8) : Bool := letter b || digit b
theorem fineB_eq (b : UInt8) : fineB b = (fineB0 b || fineL.contains b) := rfl
theorem fine_take (x : UInt8) (k : Nat) (hk : k < fineL.length) : (fineL.take (k + 1)).contains x = ((fineL.take k).contains x || fineL[k] == x) := by
  rw [List.take_succ_eq_append_getElem hk]
  rw [Bool.eq_iff_iff]
  simp only [List.contains_iff_mem, List.mem_append, List.mem_singleton, Bool.or_eq_true, beq_iff_eq]
  constructor
  · rintro (h | h)
    · exact .inl h
    · exact .inr h.symm
  · rintro (h | h)
    · exact .inl h
    · exact .inr h.symm
theorem fine_at (k : Nat) (h : k < (⟨#[45, 95, 46, 43, 33, 42, 39, 40, 41, 44, 37, 35, 64, 63, 61, 59, 58, 47, 38, 36, 126]⟩ : ByteArray).size) (h' : k < fineL.length) : (⟨#[45, 95, 46, 43, 33, 42, 39, 40, 41, 44, 37, 35, 64, 63, 61, 59, 58, 47, 38, 36, 126]⟩ : ByteArray)[k]'h = fineL[k] := rfl
theorem three_new (w : World) (a b : UInt8) : ∀ j u, ([37, a, b].map u8c)[j]? = some u → (w.alloc (.cells #[.int .u8 37, .int .u8 (a.toNat : Int), .int .u8 (b.toNat : Int)] 5)).drew.cell? ((⟨w.heap.size, 0, none⟩ : Addr).add j) = some u := by
  intro j u hu
  have e : (⟨w.heap.size, 0, none⟩ : Addr).add j = ⟨w.heap.size, j, none⟩ := by unfold Addr.add; split <;> simp_all
  have h : (w.alloc (.cells #[.int .u8 37, .int .u8 (a.toNat : Int), .int .u8 (b.toNat : Int)] 5)).drew.heap[w.heap.size]? = some (.cells ([37, a, b].map u8c).toArray 5 (0, 0)) := heap_alloc_new w _
  rw [e, cell_of_row _ _ j _ _ _ h, List.getElem?_toArray]
  exact hu
theorem u8_beq_iff (a b : UInt8) : ((a.toNat : Int) == (b.toNat : Int)) = (a == b) := by
  rw [Bool.eq_iff_iff, beq_iff_eq, beq_iff_eq]
  constructor
  · intro h; exact UInt8.toNat_inj.1 (by omega)
  · intro h; rw [h]
end Go.Proofs.YtdkjenbncmedbaaGreatDoor
