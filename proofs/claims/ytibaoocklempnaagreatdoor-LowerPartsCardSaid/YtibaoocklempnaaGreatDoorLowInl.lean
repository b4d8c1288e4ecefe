/- lower.Inlines: a text of inlines. -/
import Derived.Test.YtibaoocklempnaaGreatDoorInlines
namespace Go.Proofs.YtibaoocklempnaaGreatDoor
open Go.RowKit

set_option maxHeartbeats 1000000 in
set_option maxRecDepth 100000 in
theorem lowInlines_any (n : Nat) (v : Value) (l : List (IT n)) (S : Nat → Prop) (w : World) (h : InlsAt n w S v l) (hS : ∀ k, S k → k < w.heap.size) (hw : iwt n l ≤ 1000000) :
    Calls Tryz.prog 27 #[v] w (StrR w (inlOut n l)) := by
  have hle := inlOut_le n l
  have hF := Bld.fresh 83 w
  have hat := InlsAt.keep (w' := w.alloc (.cells #[.pointer none, .slice none 0 0] 83)) (fun k hk => Below.heap_alloc _ _ _ (hS k hk)) n h
  have hc := inlines_any n v l S (w.alloc (.cells #[.pointer none, .slice none 0 0] 83)) w.heap.size w.heap.size [] hat hS hF hw (by simp; omega)
  have hbl : Below w.heap.size w (w.alloc (.cells #[.pointer none, .slice none 0 0] 83)) := (Below.refl _ _).alloc (Nat.le_refl _) _
  obtain ⟨A, m, c, rfl⟩ := h.shape
  have HC := Lib.hid hc
  have HBL := Lib.hid hbl
  clear hle hF hat hc hbl h hS
  go_enter Tryz.func27, Tryz.ntmps27
  go_wp2_with fail
  refine Calls.mono HC.out ?_
  rintro e w1 ⟨rfl, h1, b1, k1⟩
  have hz := b1.size
  rw [List.nil_append] at h1
  have H1 := Lib.hid h1
  have HB1 := Lib.hid b1
  clear h1 b1 k1
  go_wp2_with fail
  refine Calls.mono (bld_String 83 w.heap.size w.heap.size _ _ H1.out (by simp at hz; omega)) ?_
  rintro e w2 ⟨rfl, h2, b2, k2⟩
  have HB2 := Lib.hid b2
  clear h2 b2 k2
  go_wp2
  go_ret
  exact ⟨rfl, HBL.out.trans (HB1.out.trans HB2.out)⟩
end Go.Proofs.YtibaoocklempnaaGreatDoor
