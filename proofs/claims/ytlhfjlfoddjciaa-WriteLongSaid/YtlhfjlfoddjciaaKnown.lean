/- 'known' of the laws: the chapter's example. -/
import Derived.Test.YtlhfjlfoddjciaaNode4
namespace Go.Proofs.Ytlhfjlfoddjciaa
open Go.RowKit

def exText : NodeD (List (NT 0)) := { kind := 2, space := 0, name := ⟨#[]⟩, attrs := [], text := ⟨#[49, 60, 50]⟩, kids := [] }
def exBr : NodeD (List (NT 0)) := { kind := 1, space := 0, name := ⟨#[98, 114]⟩, attrs := [], text := ⟨#[]⟩, kids := [] }
def exA : NodeD (List (NT 1)) := { kind := 1, space := 0, name := ⟨#[97]⟩, attrs := [⟨⟨#[104, 114, 101, 102]⟩, ⟨#[120, 34, 38]⟩⟩], text := ⟨#[]⟩, kids := [exText, exBr] }
def exL : List (NT 2) := [exA]
def exOut : List UInt8 := [60, 97, 32, 104, 114, 101, 102, 61, 34, 120, 38, 113, 117, 111, 116, 59, 38, 97, 109, 112, 59, 34, 62, 49, 38, 108, 116, 59, 50, 60, 98, 114, 62, 60, 47, 97, 62]

theorem inList_eq (l : List ByteArray) (s : ByteArray) : inList l s = l.any fun t => t.data.toList == s.data.toList := by
  unfold inList
  simp only [ByteArray.toList_eq]
theorem ex_void_a : isVoid 0 ⟨#[97]⟩ = false := by simp only [isVoid, inList_eq]; decide
theorem ex_bare_a : isBare 0 ⟨#[97]⟩ = false := by simp only [isBare, inList_eq]; decide
theorem ex_void_br : isVoid 0 ⟨#[98, 114]⟩ = true := by simp only [isVoid, inList_eq]; decide
theorem ex_frag : frag 2 false exL = exOut := by
  show rowOut (frag 1) false [exA] = exOut
  have h1 : frag 1 false exA.kids = [49, 38, 108, 116, 59, 50, 60, 98, 114, 62] := by
    show rowOut (frag 0) false [exText, exBr] = _
    simp only [rowOut, List.map_cons, List.map_nil, nodeOut, exText, exBr]
    rw [ex_void_br]
    decide
  simp only [rowOut, List.map_cons, List.map_nil, nodeOut]
  rw [show exA.space = 0 from rfl, show exA.name = ⟨#[97]⟩ from rfl, ex_void_a, ex_bare_a, h1]
  simp only [exA]
  decide
theorem ex_wt : wt 2 exL ≤ 1000000 := by
  show rowWt (wt 1) [exA] ≤ _
  have h1 : wt 1 exA.kids = 2 := by
    show rowWt (wt 0) [exText, exBr] = _
    decide
  simp only [rowWt, List.map_cons, List.map_nil, h1]
  decide

def exW1 (w : World) : World := w.alloc (.cells #[.string ⟨#[104, 114, 101, 102]⟩, .string ⟨#[120, 34, 38]⟩] 37)
def exW2 (w : World) : World := (exW1 w).alloc (.cells #[.int .u8 2, .int .u8 0, .string ⟨#[]⟩, .slice none 0 0, .string ⟨#[49, 60, 50]⟩, .slice none 0 0, .int .u8 1, .int .u8 0, .string ⟨#[98, 114]⟩, .slice none 0 0, .string ⟨#[]⟩, .slice none 0 0] 35)
def exW3 (w : World) : World := (exW2 w).alloc (.cells #[.int .u8 1, .int .u8 0, .string ⟨#[97]⟩, .slice (some ⟨w.heap.size, 0, none⟩) 1 1, .string ⟨#[]⟩, .slice (some ⟨w.heap.size + 1, 0, none⟩) 2 2] 35)

theorem exA_at (w : World) : NodesAt 2 (exW3 w) (fun k => k < (exW3 w).heap.size) (.slice (some ⟨w.heap.size + 2, 0, none⟩) 1 1) exL := by
  have z1 : (exW1 w).heap.size = w.heap.size + 1 := by simp [exW1]
  have z2 : (exW2 w).heap.size = w.heap.size + 2 := by simp [exW2, z1]
  have z3 : (exW3 w).heap.size = w.heap.size + 3 := by simp [exW3, z2]
  have b3 : Box (exW3 w) (w.heap.size + 2) 35 #[.int .u8 1, .int .u8 0, .string ⟨#[97]⟩, .slice (some ⟨w.heap.size, 0, none⟩) 1 1, .string ⟨#[]⟩, .slice (some ⟨w.heap.size + 1, 0, none⟩) 2 2] := by
    have := Box.new (exW2 w) 35 #[.int .u8 1, .int .u8 0, .string ⟨#[97]⟩, .slice (some ⟨w.heap.size, 0, none⟩) 1 1, .string ⟨#[]⟩, .slice (some ⟨w.heap.size + 1, 0, none⟩) 2 2]
    rw [z2] at this
    exact this
  have b2 : Box (exW3 w) (w.heap.size + 1) 35 #[.int .u8 2, .int .u8 0, .string ⟨#[]⟩, .slice none 0 0, .string ⟨#[49, 60, 50]⟩, .slice none 0 0, .int .u8 1, .int .u8 0, .string ⟨#[98, 114]⟩, .slice none 0 0, .string ⟨#[]⟩, .slice none 0 0] := by
    have h : Box (exW2 w) (w.heap.size + 1) 35 #[.int .u8 2, .int .u8 0, .string ⟨#[]⟩, .slice none 0 0, .string ⟨#[49, 60, 50]⟩, .slice none 0 0, .int .u8 1, .int .u8 0, .string ⟨#[98, 114]⟩, .slice none 0 0, .string ⟨#[]⟩, .slice none 0 0] := by
      have := Box.new (exW1 w) 35 #[.int .u8 2, .int .u8 0, .string ⟨#[]⟩, .slice none 0 0, .string ⟨#[49, 60, 50]⟩, .slice none 0 0, .int .u8 1, .int .u8 0, .string ⟨#[98, 114]⟩, .slice none 0 0, .string ⟨#[]⟩, .slice none 0 0]
      rw [z1] at this
      exact this
    exact h.below ((Below.refl _ _).alloc (Nat.le_refl _) _) (by omega)
  have b1 : Box (exW3 w) w.heap.size 37 #[.string ⟨#[104, 114, 101, 102]⟩, .string ⟨#[120, 34, 38]⟩] := by
    have h1 : Box (exW1 w) w.heap.size 37 #[.string ⟨#[104, 114, 101, 102]⟩, .string ⟨#[120, 34, 38]⟩] := Box.new w 37 _
    have h2 : Box (exW2 w) w.heap.size 37 #[.string ⟨#[104, 114, 101, 102]⟩, .string ⟨#[120, 34, 38]⟩] := h1.below ((Below.refl _ _).alloc (Nat.le_refl _) _) (by omega)
    exact h2.below ((Below.refl _ _).alloc (Nat.le_refl _) _) (by omega)
  have noA : AttrsAt (exW3 w) (fun k => k < (exW3 w).heap.size) (.slice none 0 0) [] := ⟨none, 0, rfl, by simp, by simp, by simp⟩
  have hA : AttrsAt (exW3 w) (fun k => k < (exW3 w).heap.size) (.slice (some ⟨w.heap.size, 0, none⟩) 1 1) exA.attrs := by
    refine ⟨some ⟨w.heap.size, 0, none⟩, 1, rfl, by decide, fun _ => ⟨_, rfl, by show w.heap.size < _; omega⟩, fun i x hx => ?_⟩
    match i, hx with
    | 0, hx =>
      have hx : some (⟨⟨#[104, 114, 101, 102]⟩, ⟨#[120, 34, 38]⟩⟩ : AttrD) = some x := hx
      cases hx
      refine ⟨_, _, rfl, fun j u hu => ?_, rfl, by decide, by decide⟩
      rw [add_of_add]
      rw [Nat.zero_mul, Nat.zero_add]
      exact box_lie b1 j u (by simpa [attrCells] using hu)
  have hK : NodesAt 1 (exW3 w) (fun k => k < (exW3 w).heap.size) (.slice (some ⟨w.heap.size + 1, 0, none⟩) 2 2) exA.kids := by
    refine ⟨some ⟨w.heap.size + 1, 0, none⟩, 2, rfl, by decide, fun _ => ⟨_, rfl, by show w.heap.size + 1 < _; omega⟩, fun i x hx => ?_⟩
    match i, hx with
    | 0, hx =>
      have hx : some exText = some x := hx
      cases hx
      refine ⟨_, [.int .u8 2, .int .u8 0, .string ⟨#[]⟩, .slice none 0 0, .string ⟨#[49, 60, 50]⟩, .slice none 0 0], rfl, fun j u hu => ?_, .slice none 0 0, .slice none 0 0, rfl, noA, nodes_zero _ _ _, by decide, by decide, by decide, by decide⟩
      rw [add_of_add, Nat.zero_mul, Nat.zero_add]
      have hj := (List.getElem?_eq_some_iff.1 hu).1
      refine box_lie b2 j u ?_
      match j, hj, hu with
      | 0, _, hu => exact hu
      | 1, _, hu => exact hu
      | 2, _, hu => exact hu
      | 3, _, hu => exact hu
      | 4, _, hu => exact hu
      | 5, _, hu => exact hu
    | 1, hx =>
      have hx : some exBr = some x := hx
      cases hx
      refine ⟨_, [.int .u8 1, .int .u8 0, .string ⟨#[98, 114]⟩, .slice none 0 0, .string ⟨#[]⟩, .slice none 0 0], rfl, fun j u hu => ?_, .slice none 0 0, .slice none 0 0, rfl, noA, nodes_zero _ _ _, by decide, by decide, by decide, by decide⟩
      rw [add_of_add]
      have hj := (List.getElem?_eq_some_iff.1 hu).1
      refine box_lie b2 (1 * 6 + j) u ?_
      match j, hj, hu with
      | 0, _, hu => exact hu
      | 1, _, hu => exact hu
      | 2, _, hu => exact hu
      | 3, _, hu => exact hu
      | 4, _, hu => exact hu
      | 5, _, hu => exact hu
  refine ⟨some ⟨w.heap.size + 2, 0, none⟩, 1, rfl, by decide, fun _ => ⟨_, rfl, by show w.heap.size + 2 < _; omega⟩, fun i x hx => ?_⟩
  match i, hx with
  | 0, hx =>
    have hx : some exA = some x := hx
    cases hx
    refine ⟨_, [.int .u8 1, .int .u8 0, .string ⟨#[97]⟩, .slice (some ⟨w.heap.size, 0, none⟩) 1 1, .string ⟨#[]⟩, .slice (some ⟨w.heap.size + 1, 0, none⟩) 2 2], rfl, fun j u hu => ?_, _, _, rfl, hA, hK, by decide, by decide, by decide, by decide⟩
    rw [add_of_add, Nat.zero_mul, Nat.zero_add]
    exact box_lie b3 j u (by simpa using hu)

set_option maxHeartbeats 2000000 in
set_option maxRecDepth 100000 in
theorem known_any (w : World) (hG : Glob w) : Calls Try.prog 10 #[] w (Yes w) := by
  have hat := exA_at w
  have hG3 : Glob (exW3 w) := ((hG.alloc _).alloc _).alloc _
  have hf := fragment_any 2 _ exL _ (exW3 w) (fun _ h => h) hG3 hat ex_wt
  rw [ex_frag] at hf
  have HF := Lib.hid hf
  clear hf hat hG3 hG
  have hb3 : Below w.heap.size w (exW3 w) := (((Below.refl _ w).alloc (Nat.le_refl _) _).alloc (by simp) _).alloc (by simp; omega) _
  have HB3 := Lib.hid hb3
  clear hb3
  have ht : esc false (⟨#[194, 160, 34]⟩ : ByteArray).data.toList = [38, 110, 98, 115, 112, 59, 34] := by decide
  have HT := Lib.hid ht
  clear ht
  go_enter Try.func10, Try.ntmps10
  go_wp2_with fail
  refine Calls.mono HF.out ?_
  rintro e w1 ⟨rfl, b1⟩
  go_wp2_with fail
  refine Calls.mono (text_any _ _ (by decide)) ?_
  rintro e w2 ⟨rfl, b2⟩
  rw [HT.out]
  go_wp2
  go_ret
  exact ⟨rfl, (HB3.out.trans (b1.mono HB3.out.size)).trans (b2.mono (Nat.le_trans HB3.out.size b1.size))⟩
end Go.Proofs.Ytlhfjlfoddjciaa
