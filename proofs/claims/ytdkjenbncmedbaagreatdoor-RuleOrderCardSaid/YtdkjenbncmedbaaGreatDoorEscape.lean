/- url.Escape: an address with percent signs. -/
import Derived.Test.YtdkjenbncmedbaaGreatDoorScheme
import Derived.Test.YtdkjenbncmedbaaGreatDoorBld
namespace Go.Proofs.YtdkjenbncmedbaaGreatDoor
open Go.RowKit

def fineL : List UInt8 := [45, 95, 46, 43, 33, 42, 39, 40, 41, 44, 37, 35, 64, 63, 61, 59, 58, 47, 38, 36, 126]
def hexL : List UInt8 := [48, 49, 50, 51, 52, 53, 54, 55, 56, 57, 65, 66, 67, 68, 69, 70]
def fineB (b : UInt8) : Bool := letter b || digit b || fineL.contains b
def hexU (n : Nat) : UInt8 := hexL.getD n 0
def esc1 (b : UInt8) : List UInt8 := if fineB b then [b] else [37, hexU (b.toNat / 16), hexU (b.toNat % 16)]
def escape (l : List UInt8) : List UInt8 := (l.map esc1).flatten
theorem escape_take (l : List UInt8) (k : Nat) (hk : k < l.length) : escape (l.take (k + 1)) = escape (l.take k) ++ esc1 l[k] := by
  unfold escape
  rw [List.take_succ_eq_append_getElem hk, List.map_append, List.flatten_append]
  simp
theorem esc1_le (b : UInt8) : (esc1 b).length ≤ 3 := by unfold esc1; split <;> simp
theorem escape_le : ∀ l : List UInt8, (escape l).length ≤ 3 * l.length
  | [] => Nat.le_refl _
  | b :: l => by
    have := escape_le l
    have := esc1_le b
    have e : escape (b :: l) = esc1 b ++ escape l := rfl
    rw [e, List.length_append, List.length_cons]
    omega

theorem fine_mem (b : UInt8) : (0 ≤ Lib.indexByte (⟨#[45, 95, 46, 43, 33, 42, 39, 40, 41, 44, 37, 35, 64, 63, 61, 59, 58, 47, 38, 36, 126]⟩ : ByteArray).data.toList b) ↔ fineL.contains b = true := by
  rw [indexByte_has, List.contains_iff_mem]
  exact Iff.rfl
set_option maxRecDepth 100000 in
theorem and15 : ∀ x : Fin 256, bits .and .u8 ((x.val : Nat) : Int) 15 = ((x.val % 16 : Nat) : Int) := by decide
theorem hex_at (p : Nat) (h : p < (⟨#[48, 49, 50, 51, 52, 53, 54, 55, 56, 57, 65, 66, 67, 68, 69, 70]⟩ : ByteArray).size) : (⟨#[48, 49, 50, 51, 52, 53, 54, 55, 56, 57, 65, 66, 67, 68, 69, 70]⟩ : ByteArray)[p]'h = hexU p := by
  have h' : p < hexL.length := h
  have e : hexU p = hexL[p] := by unfold hexU; rw [List.getD, List.getElem?_eq_getElem h']; rfl
  rw [e]
  rfl
theorem conv3 (a b : UInt8) (W : World) (g c : Nat) (h0 : W.cell? ⟨g, 0, none⟩ = some (.int .u8 37)) (h1 : W.cell? ⟨g, 1, none⟩ = some (.int .u8 (a.toNat : Int))) (h2 : W.cell? ⟨g, 2, none⟩ = some (.int .u8 (b.toNat : Int))) :
    (convert 105 9 (.slice (some ⟨g, 0, none⟩) 3 c)).run Tryz.prog W = .ok (.string ⟨#[37, a, b]⟩) W := by
  refine run_convert_bytes_back (P := Tryz.prog) W 105 9 5 ⟨g, 0, none⟩ c [37, a, b] Tryz.underlying105 Tryz.underlying5 Tryz.underlying9 ?_
  intro j hj
  have e : (⟨g, 0, none⟩ : Addr).add j = ⟨g, j, none⟩ := by unfold Addr.add; split <;> simp_all
  rw [e]
  have hj3 : j = 0 ∨ j = 1 ∨ j = 2 := by simp at hj; omega
  rcases hj3 with rfl | rfl | rfl
  · exact h0
  · exact h1
  · exact h2
theorem bld_drew {T B b : Nat} {l : List UInt8} {w : World} (h : Bld T B b l w) : Bld T B b l w.drew := h
theorem bldB : BldT 171 := ⟨by kernel_rfl, by decide⟩
def EscW (l : List UInt8) (w : World) (i : Value) (wr : World) : Prop := ∃ k : Nat, i = .int .i64 k ∧ k ≤ l.length ∧ Bld 171 w.heap.size w.heap.size (escape (l.take k)) wr ∧ Below w.heap.size w wr
end Go.Proofs.YtdkjenbncmedbaaGreatDoor
