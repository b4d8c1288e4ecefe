/- tympanlaw20.heavy; CleanTwice. -/
import Derived.Test.YtdkjenbncmedbaaGreatDoorPolCnt5
import Derived.Test.YtdkjenbncmedbaaGreatDoorNodLent
import Derived.Test.YtdkjenbncmedbaaGreatDoorKnown20
namespace Go.Proofs.YtdkjenbncmedbaaGreatDoor
open Go.RowKit

def HeavyR (w : World) (m : Nat) (E : List ByteArray) (A : Prs) (S : List ByteArray) (e : Ending) (w' : World) : Prop := ∃ b, e = .returned (.bool b) ∧ Below w.heap.size w w' ∧ (b = false → m ≤ 500 ∧ E.length ≤ 500 ∧ A.length ≤ 500 ∧ S.length ≤ 500)
set_option maxHeartbeats 4000000 in
set_option maxRecDepth 100000 in
theorem heavy_any (n : Nat) (vl vE vA vS : Value) (l : List (NT n)) (E : List ByteArray) (A : Prs) (S : List ByteArray) (S0 : Nat → Prop) (w : World) (h : NodesAt n w S0 vl l) (hS : ∀ k, S0 k → k < w.heap.size) (hp : PolAt w (.agg #[vE, vA, vS]) E A S) : Calls Tryz.prog 13 #[vl, .agg #[vE, vA, vS]] w (HeavyR w (wt n l) E A S) := by
  obtain ⟨Al, m, c, rfl⟩ := h.shape
  obtain ⟨wa, hwa⟩ : ∃ wa, w.alloc (.cells #[vE, vA, vS] 25) = wa := ⟨_, rfl⟩
  have hba : Below w.heap.size w wa := by rw [← hwa]; exact (Below.refl _ w).alloc (Nat.le_refl _) _
  have hna : wa.heap[w.heap.size]? = some (.cells #[vE, vA, vS] 25 (0, 0)) := by rw [← hwa]; exact heap_alloc_new _ _
  have hza : w.heap.size < wa.heap.size := lt_block hna
  have HN := Lib.hid (nodes_cnt n _ l 0 500 S0 wa (h.keep fun j hj => hba.block j (hS j hj)) (by decide) (by decide) (by decide) (by decide))
  have HP := Lib.hid fun (w' : World) (hb : Below wa.heap.size wa w') => polcnt_any5 (.agg #[vE, vA, vS]) E A S w' (hp.later (below_on hba hb)) _ rfl
  have hcells : ∀ w' : World, Below wa.heap.size wa w' → (w'.cell? ⟨w.heap.size, 0, none⟩ = some vE ∧ w'.cell? ⟨w.heap.size, 1, none⟩ = some vA ∧ w'.cell? ⟨w.heap.size, 2, none⟩ = some vS) := fun w' hb' => by
    have q := fun i => cell_of_row w' w.heap.size i _ _ _ ((hb'.block _ hza).trans hna)
    exact ⟨q 0, q 1, q 2⟩
  have HCe := Lib.hid hcells; have HBA := Lib.hid hba; have HWA := Lib.hid hwa
  clear h hS hp hba hna hcells hwa
  go_enter Tryz.func13, Tryz.ntmps13
  go_upto_region 1 with fail
  rw [HWA.out]
  go_wp2_with fail
  refine Calls.mono HN.out ?_
  rintro e w1 ⟨r, rfl, ⟨c1, c2, c3, c4⟩, d, rfl⟩
  have hb1 : Below wa.heap.size wa (wa.drewN d) := below_drewN (Below.refl _ _) d
  obtain ⟨p0, p1, p2⟩ := HCe.out _ hb1
  have HB1 := Lib.hid hb1
  clear hb1
  by_cases hr : 500 < r
  · have hd : decide ((500 : Int) < r) = true := decide_eq_true hr
    go_wp2
    go_ret
    exact ⟨true, rfl, below_on HBA.out HB1.out, fun h => by cases h⟩
  · have hd : decide ((500 : Int) < r) = false := decide_eq_false hr
    have hw : wt n l ≤ 500 := by have := c3 (by omega); omega
    clear c1 c2 c3 c4
    go_wp2_with fail
    refine Calls.mono (HP.out _ HB1.out) ?_
    rintro e w2 ⟨r2, rfl, l1, l2, b2⟩
    have HB2 := Lib.hid (below_on HB1.out b2)
    have hk : r2 ≤ 500 → E.length ≤ 500 ∧ A.length ≤ 500 ∧ S.length ≤ 500 := fun h => by omega
    clear b2 l1 l2
    by_cases hr2 : 500 < r2
    · have hd2 : decide ((500 : Int) < r2) = true := decide_eq_true hr2
      go_wp2
      go_ret
      exact ⟨true, rfl, below_on HBA.out HB2.out, fun h => by cases h⟩
    · have hd2 : decide ((500 : Int) < r2) = false := decide_eq_false hr2
      have hk2 := hk (by omega)
      go_wp2
      go_ret
      exact ⟨false, rfl, below_on HBA.out HB2.out, fun _ => ⟨hw, hk2⟩⟩
theorem kids_wt (E : List ByteArray) (A : Prs) (S : List ByteArray) (n D g : Nat) (x : Pl) (l : List (NT n)) : wt D (kidsN E A S n D g x l) ≤ wt n l := by
  cases D with
  | zero => exact Nat.zero_le _
  | succ D =>
    have := cl_wt E A S n D g x l []
    have h0 : wt (D + 1) ([] : List (NT (D + 1))) = 0 := rfl
    show wt (D + 1) (cl E A S n D g x l []) ≤ _
    omega
set_option maxHeartbeats 4000000 in
set_option maxRecDepth 100000 in
theorem twice_law (n : Nat) (vl v : Value) (l : List (NT n)) (E : List ByteArray) (A : Prs) (S : List ByteArray) (w : World) (h : NodesAt n w (fun k => k < w.heap.size) vl l) (hp : PolAt w v E A S) (ht : SpTab w) (hG : Glob w) : Calls Tryz.prog 6 #[vl, v] w (Yes w) := by
  obtain ⟨vE, vA, vS, rfl, _, _, _⟩ := hp.is
  obtain ⟨Al, m, c, rfl⟩ := h.shape
  obtain ⟨wa, hwa⟩ : ∃ wa, w.alloc (.cells #[vE, vA, vS] 25) = wa := ⟨_, rfl⟩
  have hba : Below w.heap.size w wa := by rw [← hwa]; exact (Below.refl _ w).alloc (Nat.le_refl _) _
  have hna : wa.heap[w.heap.size]? = some (.cells #[vE, vA, vS] 25 (0, 0)) := by rw [← hwa]; exact heap_alloc_new _ _
  have hza : w.heap.size < wa.heap.size := lt_block hna
  have hcells : ∀ w' : World, Below wa.heap.size wa w' → (w'.cell? ⟨w.heap.size, 0, none⟩ = some vE ∧ w'.cell? ⟨w.heap.size, 1, none⟩ = some vA ∧ w'.cell? ⟨w.heap.size, 2, none⟩ = some vS) := fun w' hb' => by
    have q := fun i => cell_of_row w' w.heap.size i _ _ _ ((hb'.block _ hza).trans hna)
    exact ⟨q 0, q 1, q 2⟩
  have HCe := Lib.hid hcells; have HBA := Lib.hid hba; have HWA := Lib.hid hwa
  have hha : NodesAt n wa (fun k => k < w.heap.size) _ l := h.keep fun j hj => hba.block j hj
  have HHv := Lib.hid (heavy_any n _ vE vA vS l E A S (fun k => k < w.heap.size) wa hha (fun k hk => Nat.lt_trans hk hza) (hp.later hba))
  have HKn := Lib.hid fun (w' : World) (hb : Below wa.heap.size wa w') => known_any20 w' (ht.later (below_on hba hb)) (hG.later (below_on hba hb))
  have HC := Lib.hid (show Ctx w vE vA vS E A S from ⟨hp, hG, ht⟩)
  have HH := Lib.hid h
  obtain ⟨p0, p1, p2⟩ := HCe.out wa (Below.refl _ _)
  clear h hp ht hG hba hna hcells hwa hha
  go_enter Tryz.func6, Tryz.ntmps6
  go_upto_region 1 with fail
  rw [HWA.out]
  go_wp2_with fail
  refine Calls.mono HHv.out ?_
  rintro e w1 ⟨hv, rfl, b1, hle⟩
  have HB1 := Lib.hid b1
  clear b1
  cases hv with
  | true =>
    go_wp2_with fail
    refine Calls.mono (HKn.out _ HB1.out) ?_
    rintro e w2 ⟨rfl, b2⟩
    have HB2 := Lib.hid (below_on HB1.out b2)
    clear b2
    go_wp2
    go_ret
    exact ⟨rfl, below_on HBA.out HB2.out⟩
  | false =>
    have hw := (hle rfl).1
    clear hle
    go_wp2_with fail
    refine Calls.mono (HKn.out _ HB1.out) ?_
    rintro e w2 ⟨rfl, b2⟩
    have hb2 := below_on HB1.out b2
    obtain ⟨p0, p1, p2⟩ := HCe.out w2 hb2
    have HB2 := Lib.hid hb2
    have HCl := Lib.hid (clean_any E A S n n vE vA vS _ l (fun k => k < w.heap.size) w w2 (Nat.le_refl _) HC.out HH.out (fun _ h => h) (below_on HBA.out hb2) (by omega))
    clear b2 hb2
    go_wp2_with fail
    refine Calls.mono HCl.out ?_
    rintro e w3 ⟨v3, rfl, hk3, b3⟩
    obtain ⟨A3, m3, c3, rfl⟩ := hk3.shape
    have hb3 := below_on HB2.out b3
    obtain ⟨p0, p1, p2⟩ := HCe.out w3 hb3
    have HB3 := Lib.hid hb3
    have hk3' : NodesAt n w3 (fun k => k < w3.heap.size) _ _ := NodesAt.mono (fun j hj => hj.2) n hk3
    have HK3 := Lib.hid hk3'
    have hc3 : Ctx w3 vE vA vS E A S := ⟨HC.out.pol.later (below_on HBA.out hb3), HC.out.glob.later (below_on HBA.out hb3), HC.out.sp.later (below_on HBA.out hb3)⟩
    have hw3 : wt n (kidsN E A S n n 0 zeroPl l) ≤ 100000 := by have := kids_wt E A S n n 0 zeroPl l; omega
    have hR := right_all E A S n vE vA vS _ _ (fun k => k < w3.heap.size) w3 w3 hc3 hk3' (fun _ h => h) (Below.refl _ _) hw3
    rw [kids_right] at hR
    have HR := Lib.hid hR
    have HC3 := Lib.hid hc3
    clear b3 hb3 hk3 hk3' hc3 hR
    go_wp2_with fail
    refine Calls.mono HR.out ?_
    rintro e w4 ⟨rfl, b4⟩
    have hb4 := below_on HB3.out b4
    obtain ⟨p0, p1, p2⟩ := HCe.out w4 hb4
    have HB4 := Lib.hid hb4
    have HB34 := Lib.hid b4
    have hC4 := clean_any E A S n n vE vA vS _ _ (fun k => k < w3.heap.size) w3 w4 (Nat.le_refl _) HC3.out HK3.out (fun _ h => h) b4 hw3
    rw [kids_two] at hC4
    have HC4 := Lib.hid hC4
    clear b4 hb4 hC4
    go_wp2_with fail
    refine Calls.mono HC4.out ?_
    rintro e w5 ⟨v5, rfl, hk5, b5⟩
    obtain ⟨A5, m5, c5, rfl⟩ := hk5.shape
    have hb5 := below_on HB4.out b5
    have hb35 := below_on HB34.out b5
    have HB5 := Lib.hid hb5
    have HSm := Lib.hid (same_nodes n _ _ _ (fun k => k < w5.heap.size) (fun k => k < w3.heap.size) w5 (NodesAt.mono (fun j hj => hj.2) n hk5) (HK3.out.keep fun j hj => hb35.block j hj) (fun _ h => h) (fun _ h => Nat.lt_of_lt_of_le h hb35.size))
    clear b5 hb5 hb35 hk5
    go_wp2_with fail
    refine Calls.mono HSm.out ?_
    rintro e w6 ⟨rfl, b6⟩
    have HB6 := Lib.hid (below_on HB5.out b6)
    clear b6
    go_wp2
    go_ret
    exact ⟨rfl, below_on HBA.out HB6.out⟩
end Go.Proofs.YtdkjenbncmedbaaGreatDoor
