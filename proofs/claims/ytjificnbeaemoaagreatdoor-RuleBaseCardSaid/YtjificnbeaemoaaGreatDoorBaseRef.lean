/- tympanref05.Base: the literal policy. -/
import Derived.Test.YtjificnbeaemoaaGreatDoorSameP
import Derived.Test.YtjificnbeaemoaaGreatDoorLentP
namespace Go.Proofs.YtjificnbeaemoaaGreatDoor
open Go.RowKit

theorem four_rows (w : World) (x0 : Array Value) (t0 : TypeId) (x1 : Array Value) (t1 : TypeId) (x2 : Array Value) (t2 : TypeId) (x3 : Array Value) (t3 : TypeId) :
    ((((w.alloc (.cells x0 t0)).alloc (.cells x1 t1)).alloc (.cells x2 t2)).alloc (.cells x3 t3)).heap[w.heap.size]? = some (.cells x0 t0 (0, 0)) ∧ ((((w.alloc (.cells x0 t0)).alloc (.cells x1 t1)).alloc (.cells x2 t2)).alloc (.cells x3 t3)).heap[w.heap.size + 1]? = some (.cells x1 t1 (0, 0)) ∧
    ((((w.alloc (.cells x0 t0)).alloc (.cells x1 t1)).alloc (.cells x2 t2)).alloc (.cells x3 t3)).heap[w.heap.size + 1 + 1]? = some (.cells x2 t2 (0, 0)) ∧ ((((w.alloc (.cells x0 t0)).alloc (.cells x1 t1)).alloc (.cells x2 t2)).alloc (.cells x3 t3)).heap[w.heap.size + 1 + 1 + 1]? = some (.cells x3 t3 (0, 0)) ∧
    Below w.heap.size w ((((w.alloc (.cells x0 t0)).alloc (.cells x1 t1)).alloc (.cells x2 t2)).alloc (.cells x3 t3)) := by
  have n1 : (w.alloc (.cells x0 t0)).heap.size = w.heap.size + 1 := by simp
  have n2 : ((w.alloc (.cells x0 t0)).alloc (.cells x1 t1)).heap.size = w.heap.size + 1 + 1 := by simp
  have n3 : (((w.alloc (.cells x0 t0)).alloc (.cells x1 t1)).alloc (.cells x2 t2)).heap.size = w.heap.size + 1 + 1 + 1 := by simp
  refine ⟨?_, ?_, ?_, ?_, ?_⟩
  · rw [Below.heap_alloc _ _ _ (by omega), Below.heap_alloc _ _ _ (by omega), Below.heap_alloc _ _ _ (by omega)]
    exact heap_alloc_new w _
  · rw [Below.heap_alloc _ _ _ (by omega), Below.heap_alloc _ _ _ (by omega), ← n1]
    exact heap_alloc_new _ _
  · rw [Below.heap_alloc _ _ _ (by omega), ← n2]
    exact heap_alloc_new _ _
  · rw [← n3]
    exact heap_alloc_new _ _
  · exact ((((Below.refl _ w).alloc (Nat.le_refl _) _).alloc (by omega) _).alloc (by omega) _).alloc (by omega) _
theorem lit_pol {w : World} {v : Value} (h : ∃ vE vA vS, v = .agg #[vE, vA, vS] ∧ SlS w vE baseE ∧ SlA w vA baseA ∧ SlS w vS baseS) : PolAt w v baseE baseA baseS :=
  ⟨h, by rw [baseE_len]; decide, by rw [baseA_len]; decide, by decide, fun x hx => by have := List.all_eq_true.1 sizes_e x hx; simp at this; unfold maxLen; omega, fun x hx => by have := List.all_eq_true.1 sizes_a x hx; simp at this; unfold maxLen; omega, fun x hx => by have := List.all_eq_true.1 sizes_s x hx; simp at this; unfold maxLen; omega⟩
def PolR (w : World) (E : List ByteArray) (A : Prs) (S : List ByteArray) (e : Ending) (w' : World) : Prop := ∃ v, e = .returned v ∧ PolAt w' v E A S ∧ Below w.heap.size w w'
set_option maxHeartbeats 4000000 in
set_option maxRecDepth 100000 in
theorem refbase_any (w : World) : Calls Tryz.prog 14 #[] w (PolR w baseE baseA baseS) := by
  go_enter Tryz.func14, Tryz.ntmps14
  go_wp2_with fail
  generalize hx0 : (#[.slice (some ⟨w.heap.size + 1, 0, none⟩) 26 26, .slice (some ⟨w.heap.size + 1 + 1, 0, none⟩) 9 9, .slice (some ⟨w.heap.size + 1 + 1 + 1, 0, none⟩) 3 3] : Array Value) = x0
  obtain ⟨W, hW⟩ : ∃ W, (((w.alloc (.cells x0 25)).alloc (.cells (baseE.map Value.string).toArray 9)).alloc (.cells (baseA.map pairCs).flatten.toArray 36)).alloc (.cells (baseS.map Value.string).toArray 9) = W := ⟨_, rfl⟩
  obtain ⟨g0, g1, g2, g3, hb⟩ := four_rows w x0 25 (baseE.map Value.string).toArray 9 (baseA.map pairCs).flatten.toArray 36 (baseS.map Value.string).toArray 9
  rw [hW] at g0 g1 g2 g3 hb
  show bodyPost _ _ _ _ _ ((((w.alloc (.cells x0 25)).alloc (.cells (baseE.map Value.string).toArray 9)).alloc (.cells (baseA.map pairCs).flatten.toArray 36)).alloc (.cells (baseS.map Value.string).toArray 9))
  rw [hW]
  subst hx0
  refine bodyPost_ret (results_cell_row rfl _ W w.heap.size _ _ _ _ rfl g0 Tryz.underlying25 rfl (by kernel_rfl)) rfl ?_
  have sE : SlS W (.slice (some ⟨w.heap.size + 1, 0, none⟩) 26 26) baseE := sl_own g1 (by decide) (by simp [baseE_len]) (by rw [Nat.mul_one]; exact List.take_of_length_le (by simp [baseE_len]))
  have sA : SlA W (.slice (some ⟨w.heap.size + 1 + 1, 0, none⟩) 9 9) baseA := sl_own g2 (by decide) (pairCs_len _) (List.take_of_length_le (by rw [pairCs_len]; exact Nat.le_refl _))
  have sS : SlS W (.slice (some ⟨w.heap.size + 1 + 1 + 1, 0, none⟩) 3 3) baseS := sl_own g3 (by decide) (by simp; decide) (by rw [Nat.mul_one]; exact List.take_of_length_le (by simp; decide))
  exact ⟨_, rfl, lit_pol ⟨_, _, _, rfl, sE, sA, sS⟩, hb⟩
end Go.Proofs.YtjificnbeaemoaaGreatDoor
