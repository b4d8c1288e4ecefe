/- rule.Keeps. -/
import Derived.Test.YtdkjenbncmedbaaGreatDoorAddr
namespace Go.Proofs.YtdkjenbncmedbaaGreatDoor
open Go.RowKit

def keepsB (E : List ByteArray) (A : Prs) (S : List ByteArray) (el nm val : ByteArray) : Bool := hasS E el && (hasP A (el, nm) && (!addressB el nm || safe val.data.toList S))
theorem SlS.strs {w : World} {v : Value} {l : List ByteArray} (h : SlS w v l) : StrsAt (fun k => k < w.heap.size) w v l := by
  obtain ⟨A, c, e, _, _, hp⟩ := h
  refine ⟨A, c, e, fun h0 => ?_⟩
  obtain ⟨b, off, hA, hlt, hj⟩ := hp h0
  exact ⟨b, off, hA, hlt, fun j hjl => hj j _ (by simp [hjl, List.getD])⟩
set_option maxHeartbeats 4000000 in
set_option maxRecDepth 100000 in
theorem keeps_any (v : Value) (E : List ByteArray) (A : Prs) (S : List ByteArray) (el nm val : ByteArray) (w : World) (hp : PolAt w v E A S) (hG : Glob w) (hs : val.size ≤ 1000000000) : Calls Tryz.prog 11 #[v, .string el, .agg #[.string nm, .string val]] w (BoolR w (keepsB E A S el nm val)) := by
  obtain ⟨⟨vE, vA, vS, rfl, hE, hA, hS⟩, lE, lA, lS, _, _, _⟩ := hp
  obtain ⟨a1, c1, rfl, _, _⟩ := hE.open
  obtain ⟨a2, c2, rfl, _, _⟩ := hA.open
  obtain ⟨a3, c3, rfl, _, _⟩ := hS.open
  obtain ⟨W, hW⟩ : ∃ W, (w.alloc (.cells #[.slice a1 E.length c1, .slice a2 A.length c2, .slice a3 S.length c3] 25)).alloc (.cells #[.string nm, .string val] 27) = W := ⟨_, rfl⟩
  have hb0 : Below w.heap.size w W := by rw [← hW]; exact ((Below.refl _ w).alloc (Nat.le_refl _) _).alloc (by simp) _
  have g0 : W.heap[w.heap.size]? = some (.cells #[.slice a1 E.length c1, .slice a2 A.length c2, .slice a3 S.length c3] 25 (0, 0)) := by rw [← hW]; exact (Below.heap_alloc _ _ _ (by simp)).trans (heap_alloc_new w _)
  have g1 : W.heap[w.heap.size + 1]? = some (.cells #[.string nm, .string val] 27 (0, 0)) := by rw [← hW, show w.heap.size + 1 = (w.alloc (.cells #[.slice a1 E.length c1, .slice a2 A.length c2, .slice a3 S.length c3] 25)).heap.size by simp]; exact heap_alloc_new _ _
  have hz : w.heap.size + 1 < W.heap.size := by rw [← hW]; simp
  have HE := Lib.hid (hE.later hb0)
  have HA := Lib.hid (hA.later hb0)
  have HS := Lib.hid (hS.later hb0)
  have HG := Lib.hid (hG.later hb0)
  have HB0 := Lib.hid hb0
  have HW := Lib.hid hW
  have HH := Lib.hid (has_any (.slice a1 E.length c1) (.slice a2 A.length c2) (.slice a3 S.length c3) E el W HE.out lE)
  have hkv : keepsB E A S el nm val = (hasS E el && (hasP A (el, nm) && (!addressB el nm || safe val.data.toList S))) := rfl
  obtain ⟨x1, hx1⟩ : ∃ x1, hasS E el = x1 := ⟨_, rfl⟩
  rw [hx1] at HH
  rw [hkv, hx1]
  clear hE hA hS hG hb0 hW hkv hx1
  cases x1 with
  | false =>
    rw [Bool.false_and]
    go_enter Tryz.func11, Tryz.ntmps11
    go_wp2_with fail
    rw [HW.out]
    refine Calls.mono HH.out ?_
    rintro e w1 ⟨rfl, b1⟩
    have HB1 := Lib.hid (HB0.out.trans (b1.mono HB0.out.size))
    clear b1
    go_wp2
    go_ret
    exact ⟨rfl, HB1.out⟩
  | true =>
    rw [Bool.true_and]
    obtain ⟨x2, hx2⟩ : ∃ x2, hasP A (el, nm) = x2 := ⟨_, rfl⟩
    have HC := Lib.hid fun w' (hw' : Below W.heap.size W w') => hasP_call A (el, nm) _ w' (HA.out.later hw') lA
    rw [hx2] at HC ⊢
    clear hx2
    cases x2 with
    | false =>
      rw [Bool.false_and]
      go_enter Tryz.func11, Tryz.ntmps11
      go_wp2_with fail
      rw [HW.out]
      refine Calls.mono HH.out ?_
      rintro e w1 ⟨rfl, b1⟩
      have HB1 := Lib.hid b1
      have q0 := fun i => cell_of_row w1 w.heap.size i _ _ _ ((b1.block _ (by omega)).trans g0)
      have q1 := fun i => cell_of_row w1 (w.heap.size + 1) i _ _ _ ((b1.block _ (by omega)).trans g1)
      clear b1
      go_wp2_with fail
      refine Calls.mono (HC.out _ HB1.out) ?_
      rintro e w2 ⟨rfl, b2⟩
      have HB2 := Lib.hid (HB0.out.trans ((HB1.out.trans (b2.mono HB1.out.size)).mono HB0.out.size))
      clear b2 q0 q1
      go_wp2
      go_ret
      exact ⟨rfl, HB2.out⟩
    | true =>
      rw [Bool.true_and]
      obtain ⟨x3, hx3⟩ : ∃ x3, addressB el nm = x3 := ⟨_, rfl⟩
      have HAD := Lib.hid fun w' => address_any el nm w'
      rw [hx3] at HAD ⊢
      clear hx3
      cases x3 with
      | false =>
        go_enter Tryz.func11, Tryz.ntmps11
        go_wp2_with fail
        rw [HW.out]
        refine Calls.mono HH.out ?_
        rintro e w1 ⟨rfl, b1⟩
        have HB1 := Lib.hid b1
        have q0 := fun i => cell_of_row w1 w.heap.size i _ _ _ ((b1.block _ (by omega)).trans g0)
        have q1 := fun i => cell_of_row w1 (w.heap.size + 1) i _ _ _ ((b1.block _ (by omega)).trans g1)
        clear b1
        go_wp2_with fail
        refine Calls.mono (HC.out _ HB1.out) ?_
        rintro e w2 ⟨rfl, b2⟩
        have b2 := HB1.out.trans (b2.mono HB1.out.size)
        have q2 := fun i => cell_of_row w2 w.heap.size i _ _ _ ((b2.block _ (by omega)).trans g0)
        have q3 := fun i => cell_of_row w2 (w.heap.size + 1) i _ _ _ ((b2.block _ (by omega)).trans g1)
        have HB2 := Lib.hid (HB0.out.trans (b2.mono HB0.out.size))
        clear b2 q0 q1
        go_wp2_with fail
        refine Calls.mono (HAD.out _) ?_
        rintro e w3 ⟨rfl, rfl⟩
        go_wp2
        go_ret
        exact ⟨rfl, HB2.out⟩
      | true =>
        have HSF := Lib.hid fun w' (hw' : Below W.heap.size W w') => safe_any val _ S w' (HG.out.later hw') hs (HS.out.later hw').strs lS
        go_enter Tryz.func11, Tryz.ntmps11
        go_wp2_with fail
        rw [HW.out]
        refine Calls.mono HH.out ?_
        rintro e w1 ⟨rfl, b1⟩
        have HB1 := Lib.hid b1
        have q0 := fun i => cell_of_row w1 w.heap.size i _ _ _ ((b1.block _ (by omega)).trans g0)
        have q1 := fun i => cell_of_row w1 (w.heap.size + 1) i _ _ _ ((b1.block _ (by omega)).trans g1)
        clear b1
        go_wp2_with fail
        refine Calls.mono (HC.out _ HB1.out) ?_
        rintro e w2 ⟨rfl, b2⟩
        have b2 := HB1.out.trans (b2.mono HB1.out.size)
        have q2 := fun i => cell_of_row w2 w.heap.size i _ _ _ ((b2.block _ (by omega)).trans g0)
        have q3 := fun i => cell_of_row w2 (w.heap.size + 1) i _ _ _ ((b2.block _ (by omega)).trans g1)
        have HB2 := Lib.hid b2
        clear b2 q0 q1
        go_wp2_with fail
        refine Calls.mono (HAD.out _) ?_
        rintro e w3 ⟨rfl, rfl⟩
        go_wp2_with fail
        refine Calls.mono (HSF.out _ HB2.out) ?_
        rintro e w4 ⟨rfl, b4⟩
        have HB4 := Lib.hid (HB0.out.trans ((HB2.out.trans (b4.mono HB2.out.size)).mono HB0.out.size))
        clear b4
        go_wp2
        go_ret
        exact ⟨by rw [Bool.not_true, Bool.false_or]; rfl, HB4.out⟩
end Go.Proofs.YtdkjenbncmedbaaGreatDoor
