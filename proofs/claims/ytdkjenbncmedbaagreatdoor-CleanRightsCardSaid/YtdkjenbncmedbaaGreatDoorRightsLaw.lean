/- CleanRights. -/
import Derived.Test.YtdkjenbncmedbaaGreatDoorRfRight
namespace Go.Proofs.YtdkjenbncmedbaaGreatDoor
open Go.RowKit

set_option maxHeartbeats 4000000 in
set_option maxRecDepth 100000 in
theorem refright_zero (E : List ByteArray) (A : Prs) (S : List ByteArray) : RefRightC E A S 0 := by
  intro vE vA vS vl l S0 w0 w hc hv hS hb hwt
  obtain ⟨Al, c, rfl⟩ := hv.none_
  obtain ⟨wa, hwa⟩ : ∃ wa, w.alloc (.cells #[vE, vA, vS] 25) = wa := ⟨_, rfl⟩
  have hba : Below w.heap.size w wa := by rw [← hwa]; exact (Below.refl _ w).alloc (Nat.le_refl _) _
  have HBA := Lib.hid hba; have HWA := Lib.hid hwa
  clear hc hv hS hb hwt hba hwa
  go_enter Tryz.func21, Tryz.ntmps21
  go_upto_region 1 with fail
  rw [HWA.out]
  go_wp2_with fail
  go_loopw [5] (fun i wr => i = .int .i64 0 ∧ wr = wa) (fun _ _ => 0)
  case atStart => exact ⟨rfl, rfl⟩
  case round =>
    obtain ⟨rfl, rfl⟩ := hrel
    go_wp2
    go_ret
    exact ⟨rfl, HBA.out⟩
theorem refright_all (E : List ByteArray) (A : Prs) (S : List ByteArray) : ∀ n, RefRightC E A S n
  | 0 => refright_zero E A S
  | n + 1 => refright_step E A S n (refright_all E A S n)
theorem s_tri {a b c d : Prop} (s : a ∧ b ∧ c ∧ d) : d := s.2.2.2
set_option maxHeartbeats 4000000 in
set_option maxRecDepth 100000 in
theorem rights_law (n : Nat) (vl v : Value) (l : List (NT n)) (E : List ByteArray) (A : Prs) (S : List ByteArray) (w : World) (h : NodesAt n w (fun k => k < w.heap.size) vl l) (hp : PolAt w v E A S) (ht : SpTab w) (hG : Glob w) : Calls Tryz.prog 5 #[vl, v] w (Yes w) := by
  obtain ⟨vE, vA, vS, rfl, _, _, _⟩ := hp.is
  obtain ⟨Al, m, c, rfl⟩ := h.shape
  obtain ⟨wa, hwa⟩ : ∃ wa, w.alloc (.cells #[vE, vA, vS] 25) = wa := ⟨_, rfl⟩
  have hba : Below w.heap.size w wa := by rw [← hwa]; exact (Below.refl _ w).alloc (Nat.le_refl _) _
  have hna : wa.heap[w.heap.size]? = some (.cells #[vE, vA, vS] 25 (0, 0)) := by rw [← hwa]; exact heap_alloc_new _ _
  have hza : w.heap.size < wa.heap.size := lt_block hna
  have hcells : ∀ w' : World, Below wa.heap.size wa w' → (w'.cell? ⟨w.heap.size, 0, none⟩ = some vE ∧ w'.cell? ⟨w.heap.size, 1, none⟩ = some vA ∧ w'.cell? ⟨w.heap.size, 2, none⟩ = some vS ∧ Below wa.heap.size wa w') := fun w' hb' => by
    have q := fun i => cell_of_row w' w.heap.size i _ _ _ ((hb'.block _ hza).trans hna)
    exact ⟨q 0, q 1, q 2, hb'⟩
  have HCe := Lib.hid hcells; have HBA := Lib.hid hba; have HWA := Lib.hid hwa
  have hha : NodesAt n wa (fun k => k < w.heap.size) _ l := h.keep fun j hj => hba.block j hj
  have HHv := Lib.hid (heavy_any n _ vE vA vS l E A S (fun k => k < w.heap.size) wa hha (fun k hk => Nat.lt_trans hk hza) (hp.later hba))
  have HKn := Lib.hid fun (w' : World) (hb : Below wa.heap.size wa w') => known_any20 w' (ht.later (below_on hba hb)) (hG.later (below_on hba hb))
  have hC : Ctx w vE vA vS E A S := ⟨hp, hG, ht⟩
  have HR1 := Lib.hid fun (w' : World) (hb : Below wa.heap.size wa w') (hw : wt n l ≤ 100000) => right_all E A S n vE vA vS _ l _ w w' hC h (fun _ h => h) (below_on hba hb) hw
  have HR2 := Lib.hid fun (w' : World) (hb : Below wa.heap.size wa w') (hw : wt n l ≤ 100000) => refright_all E A S n vE vA vS _ l _ w w' hC h (fun _ h => h) (below_on hba hb) hw
  obtain ⟨rb, hrb⟩ : ∃ rb, rightN E A S n l = rb := ⟨_, rfl⟩
  rw [hrb] at HR1 HR2
  obtain ⟨p0, p1, p2, _⟩ := HCe.out wa (Below.refl _ _)
  clear h hp ht hG hba hna hcells hwa hha hC hrb
  go_enter Tryz.func5, Tryz.ntmps5
  go_upto_region 1 with fail
  rw [HWA.out]
  go_wp2_with fail
  refine Calls.mono HHv.out ?_
  rintro e w1 ⟨hv, rfl, b1, hle⟩
  have HB1 := Lib.hid b1
  clear b1
  cases hv with
  | true =>
    go_wp2
    go_ret
    exact ⟨rfl, below_on HBA.out HB1.out⟩
  | false =>
    have hw := (hle rfl).1
    have hw5 : wt n l ≤ 100000 := by omega
    clear hle
    have HS1 := Lib.hid (HCe.out w1 HB1.out)
    go_wp2_with fail
    go_region_held3 (fun w' => w'.cell? ⟨w.heap.size, 0, none⟩ = some vE ∧ w'.cell? ⟨w.heap.size, 1, none⟩ = some vA ∧ w'.cell? ⟨w.heap.size, 2, none⟩ = some vS ∧ Below wa.heap.size wa w') (first | assumption | exact HS1.out | (with_reducible exact HCe.out _ (Below.drew HB1.out)) | (with_reducible exact HCe.out _ (Below.drew (s_tri (by assumption)))) | (with_reducible exact HCe.out _ (below_on (s_tri (by assumption)) (by assumption)))) (first
      | (go_at_call 18; (with_reducible refine Calls.mono (HKn.out _ (s_tri (by assumption))) ?_); rintro e w2 ⟨rfl, b2⟩)
      | (go_at_call 20; (with_reducible refine Calls.mono (HR1.out _ (s_tri (by assumption)) hw5) ?_); rintro e w3 ⟨rfl, b3⟩)
      | (go_at_call 21; (with_reducible refine Calls.mono (HR2.out _ (s_tri (by assumption)) hw5) ?_); rintro e w4 ⟨rfl, b4⟩))
    all_goals
      have hb4 := s_tri (by assumption)
      have HB4 := Lib.hid hb4
      clear hb4
      go_wp2
      go_ret
      exact ⟨by cases rb <;> rfl, below_on HBA.out HB4.out⟩
end Go.Proofs.YtdkjenbncmedbaaGreatDoor
