/- CleanDoes. -/
import Derived.Test.YtdkjenbncmedbaaGreatDoorRfAl
import Derived.Test.YtdkjenbncmedbaaGreatDoorLentF
import Derived.Test.YtdkjenbncmedbaaGreatDoorHeavy
namespace Go.Proofs.YtdkjenbncmedbaaGreatDoor
open Go.RowKit

set_option maxHeartbeats 4000000 in
set_option maxRecDepth 100000 in
theorem refall_none (E : List ByteArray) (A : Prs) (S : List ByteArray) : RefAllC E A S 0 := by
  intro D base x vE vA vS v0 vl acc l S0 w0 w hn hp hv hS hb hb0s hbs0 ho hwt
  obtain ⟨Al, cl', rfl⟩ := hv.none_
  obtain ⟨A0, c0, rfl⟩ := ho.form
  obtain ⟨W, hW⟩ : ∃ W, (w.alloc (.cells #[vE, vA, vS] 25)).alloc (.cells #[.bool x.para, .bool x.link, .bool x.item, .bool x.pair, .bool x.head] 73) = W := ⟨_, rfl⟩
  have hbW : Below w.heap.size w W := by rw [← hW]; exact two_below _ _ _
  have HO := Lib.hid (show OutAt base D w (.slice A0 acc.length c0) (cl E A S 0 D 0 x l acc) from ho)
  have HW := Lib.hid hW; have HBW := Lib.hid hbW
  clear hp hv hS hb hwt hW hbW ho
  unfold Pl.rv
  go_enter Tryz.func44, Tryz.ntmps44
  go_wp2_with fail
  rw [HW.out]
  go_loopw [0, 11] (fun v i wr => v = .slice A0 acc.length c0 ∧ i = .int .i64 0 ∧ wr = W) (fun _ _ _ => 0)
  case atStart => exact ⟨rfl, rfl, rfl⟩
  case round =>
    obtain ⟨rfl, rfl, rfl⟩ := hrel
    go_wp2
    go_ret
    exact ⟨_, rfl, HO.out.later HBW.out, HBW.out.mono hbs0, Only.of_below HBW.out⟩
set_option maxHeartbeats 4000000 in
set_option maxRecDepth 100000 in
theorem refparts_none (E : List ByteArray) (A : Prs) (S : List ByteArray) : RefPartsC E A S 0 := by
  intro D g x vE vA vS vl vn l S0 w0 w hn hg1 hg3 hp hv hS hb hs hwt
  obtain ⟨Al, cl', rfl⟩ := hv.none_
  obtain ⟨nb, no, cn, rfl, _⟩ := hs
  rw [kids_none]
  obtain ⟨W, hW⟩ : ∃ W, (w.alloc (.cells #[vE, vA, vS] 25)).alloc (.cells #[.bool x.para, .bool x.link, .bool x.item, .bool x.pair, .bool x.head] 73) = W := ⟨_, rfl⟩
  have hbW : Below w.heap.size w W := by rw [← hW]; exact two_below _ _ _
  have HW := Lib.hid hW; have HBW := Lib.hid hbW
  clear hp hv hS hb hwt hW hbW
  unfold Pl.rv
  go_enter Tryz.func70, Tryz.ntmps70
  go_wp2_with fail
  rw [HW.out]
  go_loopw [9, 10] (fun v i wr => v = .slice none 0 0 ∧ i = .int .i64 0 ∧ wr = W) (fun _ _ _ => 0)
  case atStart => exact ⟨rfl, rfl, rfl⟩
  case round =>
    obtain ⟨rfl, rfl, rfl⟩ := hrel
    go_wp2
    go_ret
    exact ⟨_, rfl, nodes_nil _ _ _, HBW.out⟩
theorem refboth_all (E : List ByteArray) (A : Prs) (S : List ByteArray) : ∀ n, RefAllC E A S n ∧ RefPartsC E A S n
  | 0 => ⟨refall_none E A S, refparts_none E A S⟩
  | n + 1 => by
    obtain ⟨hA, hP⟩ := refboth_all E A S n
    exact ⟨all_step E A S n hA hP, parts_step E A S n hA hP⟩
set_option maxHeartbeats 4000000 in
set_option maxRecDepth 100000 in
theorem refclean_any (E : List ByteArray) (A : Prs) (S : List ByteArray) (n D : Nat) (vE vA vS vl : Value) (l : List (NT n)) (S0 : Nat → Prop) (w0 w : World) (hn : n ≤ D) (hp : PolAt w0 (.agg #[vE, vA, vS]) E A S) (hv : NodesAt n w0 S0 vl l) (hS : ∀ k, S0 k → k < w0.heap.size) (hb : Below w0.heap.size w0 w) (hwt : wt n l ≤ 100000) :
    Calls Tryz.prog 19 #[vl, .agg #[vE, vA, vS]] w (KidsR w D (kidsN E A S n D 0 zeroPl l)) := by
  obtain ⟨Al, ml, cl', rfl⟩ := hv.shape
  obtain ⟨W, hW⟩ : ∃ W, w.alloc (.cells #[vE, vA, vS] 25) = W := ⟨_, rfl⟩
  have hbW : Below w.heap.size w W := by rw [← hW]; exact (Below.refl _ w).alloc (Nat.le_refl _) _
  have hnW : W.heap[w.heap.size]? = some (.cells #[vE, vA, vS] 25 (0, 0)) := by rw [← hW]; exact heap_alloc_new _ _
  have pc := fun i => cell_of_row W w.heap.size i _ _ _ hnW
  have HC := Lib.hid (show Calls Tryz.prog 44 #[.slice none 0 0, .slice Al ml cl', .agg #[vE, vA, vS], .agg #[.bool false, .bool false, .bool false, .bool false, .bool false], .bool false] W (KidsR W D (kidsN E A S n D 0 zeroPl l)) from ref_inner E A S n (refboth_all E A S n).1 D zeroPl vE vA vS _ l S0 w0 W hn hp hv hS (below_on hb hbW) hwt)
  have HW := Lib.hid hW; have HBW := Lib.hid hbW
  clear hp hv hS hb hwt hW hbW hnW
  go_enter Tryz.func19, Tryz.ntmps19
  go_upto_region 1 with fail
  rw [HW.out]
  go_wp2_with fail
  refine Calls.mono HC.out ?_
  rintro e w1 ⟨v1, rfl, hk1, hb1⟩
  obtain ⟨A1, m1, c1, rfl⟩ := hk1.shape
  have hz := HBW.out.size
  have HK1 := Lib.hid hk1; have HB1 := Lib.hid hb1
  clear hk1 hb1
  go_wp2
  go_ret
  exact ⟨_, rfl, NodesAt.mono (fun j hj => ⟨by have := hj.1; omega, hj.2⟩) D HK1.out, below_on HBW.out HB1.out⟩
theorem FreeB.all {w : World} {k : Nat} (h : FreeB w k) (a : Addr) (e : a.block = k) : w.frozen? a = false := by
  have := h a.off
  unfold World.frozen? at this ⊢
  simp only at this ⊢
  rw [e]
  exact this
set_option maxHeartbeats 8000000 in
set_option maxRecDepth 100000 in
theorem does_law (n : Nat) (vl v : Value) (l : List (NT n)) (E : List ByteArray) (A : Prs) (S : List ByteArray) (w : World) (h : NodesAt n w (fun k => k < w.heap.size) vl l) (hp : PolAt w v E A S) (ht : SpTab w) (hG : Glob w) : Calls Tryz.prog 4 #[vl, v] w (Yes w) := by
  obtain ⟨vE, vA, vS, rfl, _, _, _⟩ := hp.is
  obtain ⟨Al, m, c, rfl⟩ := h.shape
  obtain ⟨wa, hwa⟩ : ∃ wa, w.alloc (.cells #[vE, vA, vS] 25) = wa := ⟨_, rfl⟩
  have hba : Below w.heap.size w wa := by rw [← hwa]; exact (Below.refl _ w).alloc (Nat.le_refl _) _
  have hna : wa.heap[w.heap.size]? = some (.cells #[vE, vA, vS] 25 (0, 0)) := by rw [← hwa]; exact heap_alloc_new _ _
  have hza : w.heap.size < wa.heap.size := lt_block hna
  have hcells : ∀ w' : World, Below wa.heap.size wa w' → (w'.cell? ⟨w.heap.size, 0, none⟩ = some vE ∧ w'.cell? ⟨w.heap.size, 1, none⟩ = some vA ∧ w'.cell? ⟨w.heap.size, 2, none⟩ = some vS) := fun w' hb' => by
    have q := fun i => cell_of_row w' w.heap.size i _ _ _ ((hb'.block _ hza).trans hna)
    exact ⟨q 0, q 1, q 2⟩
  have HCe := Lib.hid hcells; have HBA := Lib.hid hba; have HWA := Lib.hid hwa
  have hha : NodesAt n wa (fun k => k < w.heap.size) _ l := h.keep fun j hj => hba.block j hj
  have HHv := Lib.hid (heavy_any n _ vE vA vS l E A S (fun k => k < w.heap.size) wa hha (fun k hk => Nat.lt_trans hk hza) (hp.later hba))
  have HKn := Lib.hid fun (w' : World) (hb : Below wa.heap.size wa w') => known_any20 w' (ht.later (below_on hba hb)) (hG.later (below_on hba hb))
  have HCx := Lib.hid fun (w' : World) (hb : Below wa.heap.size wa w') => (show Ctx w' vE vA vS E A S from ⟨hp.later (below_on hba hb), hG.later (below_on hba hb), ht.later (below_on hba hb)⟩)
  have HH := Lib.hid h; have HP := Lib.hid hp
  obtain ⟨p0, p1, p2⟩ := HCe.out wa (Below.refl _ _)
  clear h hp ht hG hba hna hcells hwa hha
  go_enter Tryz.func4, Tryz.ntmps4
  go_upto_region 1 with fail
  rw [HWA.out]
  go_wp2_with fail
  refine Calls.mono HHv.out ?_
  rintro e w1 ⟨hv, rfl, b1, hle⟩
  have HB1 := Lib.hid b1
  clear b1
  cases hv with
  | true =>
    go_wp2
    go_ret
    exact ⟨rfl, below_on HBA.out HB1.out⟩
  | false =>
    have hw := (hle rfl).1
    have hw5 : wt n l ≤ 100000 := by omega
    have hz1 := HB1.out.size
    have hbw1 := below_on HBA.out HB1.out
    have HLe := Lib.hid (lentf_nodes n _ l (fun k => k < w.heap.size) w1 (HH.out.keep fun j hj => hbw1.block j hj) (fun k hk => by omega) (by omega))
    clear hle
    go_wp2_with fail
    refine Calls.mono HLe.out ?_
    rintro e w2 ⟨v2, rfl, b2, hn2⟩
    obtain ⟨A2, m2, c2, rfl⟩ := hn2.shape
    have hb2 := below_on HB1.out b2
    have hz2 := b2.size
    obtain ⟨p0, p1, p2⟩ := HCe.out w2 hb2
    have HN2 := Lib.hid hn2; have HB2 := Lib.hid hb2; have HB12 := Lib.hid b2
    have HCl := Lib.hid (clean_any E A S n n vE vA vS _ l (NewF w1 w2) w2 w2 (Nat.le_refl _) (HCx.out w2 hb2) hn2 (fun k hk => hk.1.2) (Below.refl _ _) hw5)
    clear b2 hb2 hn2 hbw1
    go_wp2_with fail
    refine Calls.mono HCl.out ?_
    rintro e w3 ⟨v3, rfl, hk3, b3⟩
    obtain ⟨A3, m3, c3, rfl⟩ := hk3.shape
    have hz3 := b3.size
    have HB3 := Lib.hid (below_on HB2.out b3); have HB23 := Lib.hid b3; have HK3 := Lib.hid hk3
    have HSm := Lib.hid (same_nodes n _ _ _ (NewF w1 w2) (fun k => k < w.heap.size) w3 (HN2.out.keep fun j hj => b3.block j hj.1.2) (HH.out.keep fun j hj => (below_on HBA.out (below_on HB2.out b3)).block j hj) (fun k hk => by have := hk.1.2; omega) (fun k hk => by omega))
    clear b3 hk3
    go_wp2_with fail
    refine Calls.mono HSm.out ?_
    rintro e w4 ⟨rfl, b4⟩
    have hz4 := b4.size
    have hb24 := below_on HB23.out b4
    have HSp := Lib.hid (spoil_any (NewF w1 w2) n _ w4 (NodesAt.sh (HN2.out.keep fun j hj => hb24.block j hj.1.2)) (fun a ha => (ha.2.same (hb24.block _ ha.1.2)).all a rfl))
    have HB34 := Lib.hid b4; have HB24 := Lib.hid hb24
    clear b4 hb24
    go_wp2_with fail
    refine Calls.mono HSp.out ?_
    rintro e w5 ⟨rfl, t5⟩
    have hz5 := t5.size
    have hb45 : Below w1.heap.size w4 w5 := ⟨t5.os, t5.tape, t5.output, by omega, fun j hj => t5.block j fun hs => by have := hs.1.1; omega⟩
    have hb5 : Below wa.heap.size wa w5 := ((HB1.out.trans (HB12.out.mono hz1)).trans (HB24.out.mono (by omega))).trans (hb45.mono hz1)
    have hk5 : NodesAt n w5 (New w2 w3) _ _ := HK3.out.keep fun j hj => (t5.block j fun hs => by have := hs.1.2; have := hj.1; omega).trans (HB34.out.block j hj.2)
    have HB5 := Lib.hid hb5; have HK5 := Lib.hid hk5
    clear t5 hb45 hb5 hk5
    go_wp2_with fail
    refine Calls.mono (HKn.out _ HB5.out) ?_
    rintro e w6 ⟨rfl, b6⟩
    have hb6 := below_on HB5.out b6
    obtain ⟨p0, p1, p2⟩ := HCe.out w6 hb6
    have hz6 := b6.size
    have HRc := Lib.hid (refclean_any E A S n n vE vA vS _ l (fun k => k < w.heap.size) w w6 (Nat.le_refl _) HP.out HH.out (fun _ h => h) (below_on HBA.out hb6) hw5)
    have HB6 := Lib.hid hb6; have HB56 := Lib.hid b6
    clear b6 hb6
    go_wp2_with fail
    refine Calls.mono HRc.out ?_
    rintro e w7 ⟨v7, rfl, hk7, b7⟩
    obtain ⟨A7, m7, c7, rfl⟩ := hk7.shape
    have hb57 := below_on HB56.out b7
    have hz7 := hb57.size
    have HSn := Lib.hid (same_nodes n _ _ _ (New w2 w3) (New w6 w7) w7 (HK5.out.keep fun j hj => hb57.block j (by have := hj.2; omega)) hk7 (fun k hk => by have := hk.2; omega) (fun k hk => hk.2))
    have HB7 := Lib.hid (below_on HB6.out b7)
    clear b7 hb57 hk7
    go_wp2_with fail
    refine Calls.mono HSn.out ?_
    rintro e w8 ⟨rfl, b8⟩
    have HB8 := Lib.hid (below_on HB7.out b8)
    clear b8
    go_wp2
    go_ret
    exact ⟨rfl, below_on HBA.out HB8.out⟩
end Go.Proofs.YtdkjenbncmedbaaGreatDoor
