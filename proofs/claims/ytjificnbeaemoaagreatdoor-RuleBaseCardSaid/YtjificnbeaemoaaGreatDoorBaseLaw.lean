/- tympanlaw05.RuleBase answers true. -/
import Derived.Test.YtjificnbeaemoaaGreatDoorBaseRef
import Derived.Deep.RegionWith
import Derived.Deep.DeepCutAuto
namespace Go.Proofs.YtjificnbeaemoaaGreatDoor
open Go.RowKit

def RowN (n : Nat) (t : TypeId) (w : World) (b : Nat) : Prop := ∃ x : Array Value, w.heap[b]? = some (.cells x t (0, 0)) ∧ n ≤ x.size
theorem RowN.set {n : Nat} {t : TypeId} {w : World} {b : Nat} (h : RowN n t w b) (c o : Nat) (v : Value) : RowN n t (w.setCell ⟨c, o, none⟩ v) b := by
  obtain ⟨x, hx, hn⟩ := h
  by_cases hcb : b = c
  · subst hcb
    exact ⟨_, Joins.block_setCell hx (i := o) v, by simpa using hn⟩
  · exact ⟨x, (Below.heap_setCell _ _ _ _ hcb).trans hx, hn⟩
theorem RowN.below {n : Nat} {t : TypeId} {w w' : World} {b : Nat} (h : RowN n t w b) (hb : Below w.heap.size w w') : RowN n t w' b := by
  obtain ⟨x, hx, hn⟩ := h
  exact ⟨x, (hb.block _ (Array.getElem?_eq_some_iff.1 hx).1).trans hx, hn⟩
theorem RowN.cell {n : Nat} {t : TypeId} {w : World} {b : Nat} (h : RowN n t w b) (k : Nat) (hk : k < n) : ∃ u, w.cell? ⟨b, k, none⟩ = some u ∧ w.frozen? ⟨b, k, none⟩ = false := by
  obtain ⟨x, hx, hn⟩ := h
  refine ⟨x[k]'(by omega), ?_, by simp [World.frozen?, hx]⟩
  rw [cell_of_row w b k _ _ _ hx]
  exact Array.getElem?_eq_getElem (by omega)
def Spo (w : World) (lo bp bE bA bS : Nat) (pv : Array Value) (wr : World) : Prop :=
  wr.heap[bp]? = some (.cells pv 25 (0, 0)) ∧ RowN 26 9 wr bE ∧ RowN 18 36 wr bA ∧ RowN 3 9 wr bS ∧ Below lo w wr
theorem Spo.set {w : World} {lo bp bE bA bS : Nat} {pv : Array Value} {wr : World} (h : Spo w lo bp bE bA bS pv wr) (c o : Nat) (v : Value) (hc : bp ≠ c) (hl : lo ≤ c) : Spo w lo bp bE bA bS pv (wr.setCell ⟨c, o, none⟩ v) :=
  ⟨(Below.heap_setCell _ _ _ _ hc).trans h.1, h.2.1.set _ _ _, h.2.2.1.set _ _ _, h.2.2.2.1.set _ _ _, h.2.2.2.2.setCell hl _⟩
theorem Spo.below {w : World} {lo bp bE bA bS : Nat} {pv : Array Value} {wr wx : World} (h : Spo w lo bp bE bA bS pv wr) (hl : lo ≤ wr.heap.size) (hb : Below wr.heap.size wr wx) : Spo w lo bp bE bA bS pv wx :=
  ⟨(hb.block _ (Array.getElem?_eq_some_iff.1 h.1).1).trans h.1, h.2.1.below hb, h.2.2.1.below hb, h.2.2.2.1.below hb, h.2.2.2.2.trans (hb.mono hl)⟩
def SpoW (w : World) (lo bp bE bA bS : Nat) (pv : Array Value) (n : Nat) (v : Value) (wr : World) : Prop := ∃ k : Nat, v = .int .i64 k ∧ k ≤ n ∧ Spo w lo bp bE bA bS pv wr
theorem zero_add_addr (b k : Nat) : (⟨b, 0, none⟩ : Addr).add k = ⟨b, k, none⟩ := by rw [add_off, Nat.zero_add]
theorem row_len {w : World} {b : Nat} {x : Array Value} {t : TypeId} (h : w.heap[b]? = some (.cells x t (0, 0))) : b < w.heap.size := (Array.getElem?_eq_some_iff.1 h).1
set_option maxHeartbeats 8000000 in
set_option maxRecDepth 100000 in
theorem base_law (w : World) (ht : SpTab w) (hG : Glob w) : Calls Tryz.prog 4 #[] w (Yes w) := by
  have HKN := Lib.hid fun w' (hb : Below w.heap.size w w') => known_any w' (ht.later hb) (hG.later hb)
  have HBA := Lib.hid fun w' (hb : Below w.heap.size w w') => base_any w' (ht.later hb) (hG.later hb)
  clear ht hG
  go_enter Tryz.func4, Tryz.ntmps4
  go_wp2_with fail
  refine Calls.mono (HBA.out w (Below.refl _ _)) ?_
  rintro e w1 ⟨v, rfl, hown, b1⟩
  have HP := Lib.hid (base_pol hown)
  obtain ⟨bE, bA, bS, cE, cA, cS, xE, xA, xS, rfl, r1, r2, r3, l1, l2, l3, _, _, _, _, _, _, n1, n2, n3, _⟩ := hown.is
  rw [baseE_len, baseA_len, show baseS.length = 3 from rfl] at HP
  rw [baseE_len] at n1
  rw [baseA_len] at n2
  have n3' : 3 ≤ xS.size := n3
  obtain ⟨pv, hpv⟩ : ∃ pv : Array Value, (#[.slice (some ⟨bE, 0, none⟩) 26 cE, .slice (some ⟨bA, 0, none⟩) 9 cA, .slice (some ⟨bS, 0, none⟩) 3 cS] : Array Value) = pv := ⟨_, rfl⟩
  rw [baseE_len, baseA_len, show baseS.length = 3 from rfl]
  obtain ⟨W1, hW1⟩ : ∃ W1, w1.alloc (.cells #[.slice (some ⟨bE, 0, none⟩) 26 cE, .slice (some ⟨bA, 0, none⟩) 9 cA, .slice (some ⟨bS, 0, none⟩) 3 cS] 25) = W1 := ⟨_, rfl⟩
  have bW : Below w1.heap.size w1 W1 := by rw [← hW1]; exact (Below.refl _ w1).alloc (Nat.le_refl _) _
  have g1 : W1.heap[w1.heap.size]? = some (.cells #[.slice (some ⟨bE, 0, none⟩) 26 cE, .slice (some ⟨bA, 0, none⟩) 9 cA, .slice (some ⟨bS, 0, none⟩) 3 cS] 25 (0, 0)) := by rw [← hW1]; exact heap_alloc_new w1 _
  have hSp : Spo w w.heap.size w1.heap.size bE bA bS #[.slice (some ⟨bE, 0, none⟩) 26 cE, .slice (some ⟨bA, 0, none⟩) 9 cA, .slice (some ⟨bS, 0, none⟩) 3 cS] W1 :=
    ⟨g1, ⟨xE, (bW.block _ (row_len r1)).trans r1, n1⟩, ⟨xA, (bW.block _ (row_len r2)).trans r2, n2⟩, ⟨xS, (bW.block _ (row_len r3)).trans r3, n3'⟩, b1.trans (bW.mono b1.size)⟩
  have HSp := Lib.hid hSp
  have HW1 := Lib.hid hW1
  have HBW := Lib.hid bW
  have ne1 := Nat.ne_of_gt (row_len r1); have ne2 := Nat.ne_of_gt (row_len r2); have ne3 := Nat.ne_of_gt (row_len r3)
  have NE1 := Lib.hid ne1; have NE2 := Lib.hid ne2; have NE3 := Lib.hid ne3
  have LE1 := Lib.hid l1; have LE2 := Lib.hid l2; have LE3 := Lib.hid l3
  have ZW := Lib.hid (show w.heap.size ≤ W1.heap.size from Nat.le_trans b1.size bW.size)
  have hle1 : w.heap.size ≤ w1.heap.size := b1.size
  have G1 := Lib.hid g1
  have q1 := fun i => cell_of_row W1 w1.heap.size i _ _ _ g1
  clear hSp hW1 bW hown r1 r2 r3 l1 l2 l3 n1 n2 n3 n3' ne1 ne2 ne3 b1 hpv pv g1
  go_upto_region 2 with fail
  rw [HW1.out]
  go_cut [2] (fun s2 wx => s2 = .bool true ∧ Below W1.heap.size W1 wx)
  case first =>
    go_region_with (first
      | (go_at_call 14; refine Calls.mono (refbase_any _) ?_; rintro e w2 ⟨vr, rfl, hpr, b2⟩; have HR := Lib.hid hpr; obtain ⟨⟨rE, rA, rS, rfl, _⟩, _⟩ := hpr; have B2 := below_on (show Below W1.heap.size W1 _ by first | exact Below.refl _ _ | exact (Below.refl _ _).drew) b2; have q2 := fun i => cell_of_row w2 w1.heap.size i _ _ _ ((B2.block _ (row_len G1.out)).trans G1.out); have HB2 := Lib.hid B2; clear b2)
      | (go_at_call 12; refine Calls.mono (same_pol _ _ baseE baseA baseS _ (HP.out.later (HBW.out.trans ((show Below W1.heap.size W1 _ by first | exact HB2.out | exact HB2.out.drew).mono HBW.out.size))) (by first | exact HR.out | exact HR.out.later (Below.refl _ _).drew)) ?_; rintro e w3 ⟨rfl, b3⟩; have B3 := below_on (show Below W1.heap.size W1 _ by first | exact HB2.out | exact HB2.out.drew) b3))
    all_goals
      go_wp2_with fail
      go_meet
      exact ⟨rfl, by first | assumption | exact Below.drew (by assumption)⟩
  case rest =>
    obtain ⟨rfl, bc⟩ := hcut
    have HSc := Lib.hid (HSp.out.below ZW.out bc)
    clear bc q1
    go_wp2_with fail
    go_loopw [3] (fun v wr => SpoW w w.heap.size w1.heap.size bE bA bS #[.slice (some ⟨bE, 0, none⟩) 26 cE, .slice (some ⟨bA, 0, none⟩) 9 cA, .slice (some ⟨bS, 0, none⟩) 3 cS] 26 v wr) (fun v _ => 26 - (intOf v).toNat)
    case atStart => exact ⟨0, rfl, Nat.zero_le _, HSc.out⟩
    case round =>
      obtain ⟨k, rfl, hk, hs⟩ := hrel
      have HS := Lib.hid hs
      have q := fun i => cell_of_row wr w1.heap.size i _ _ _ hs.1
      clear hs
      by_cases hlt : k < 26
      · have hki : (k : Int) < 26 := by omega
        obtain ⟨u, hu, hf⟩ := HS.out.2.1.cell (k) (by omega)
        have hu1 : wr.cell? ((⟨bE, 0, none⟩ : Addr).add k) = some u := by rw [zero_add_addr]; exact hu
        have hf1 : wr.frozen? ((⟨bE, 0, none⟩ : Addr).add k) = false := by rw [zero_add_addr]; exact hf
        go_wp2
        go_roundw
        case rel => exact ⟨k + 1, by go_num, hlt, HS.out.set _ _ _ NE1.out LE1.out⟩
        case measure => simp [intOf]; omega
      · obtain rfl : k = 26 := by omega
        go_wp2_with fail
        go_loopw [4] (fun v wr => SpoW w w.heap.size w1.heap.size bE bA bS #[.slice (some ⟨bE, 0, none⟩) 26 cE, .slice (some ⟨bA, 0, none⟩) 9 cA, .slice (some ⟨bS, 0, none⟩) 3 cS] 9 v wr) (fun v _ => 9 - (intOf v).toNat)
        case atStart => exact ⟨0, rfl, Nat.zero_le _, HS.out⟩
        case round =>
          obtain ⟨k, rfl, hk, hs⟩ := hrel
          have HS := Lib.hid hs
          have q := fun i => cell_of_row wr w1.heap.size i _ _ _ hs.1
          clear hs
          by_cases hlt : k < 9
          · have hki : (k : Int) < 9 := by omega
            obtain ⟨u, hu, hf⟩ := HS.out.2.2.1.cell (k * 2 + 1) (by omega)
            have hu1 : wr.cell? (((⟨bA, 0, none⟩ : Addr).add (k * 2)).add 1) = some u := by rw [zero_add_addr, add_off]; exact hu
            have hf1 : wr.frozen? (((⟨bA, 0, none⟩ : Addr).add (k * 2)).add 1) = false := by rw [zero_add_addr, add_off]; exact hf
            go_wp2
            go_roundw
            case rel => exact ⟨k + 1, by go_num, hlt, HS.out.set _ _ _ NE2.out LE2.out⟩
            case measure => simp [intOf]; omega
          · obtain rfl : k = 9 := by omega
            go_wp2_with fail
            go_loopw [5] (fun v wr => SpoW w w.heap.size w1.heap.size bE bA bS #[.slice (some ⟨bE, 0, none⟩) 26 cE, .slice (some ⟨bA, 0, none⟩) 9 cA, .slice (some ⟨bS, 0, none⟩) 3 cS] 3 v wr) (fun v _ => 3 - (intOf v).toNat)
            case atStart => exact ⟨0, rfl, Nat.zero_le _, HS.out⟩
            case round =>
              obtain ⟨k, rfl, hk, hs⟩ := hrel
              have HS := Lib.hid hs
              have q := fun i => cell_of_row wr w1.heap.size i _ _ _ hs.1
              clear hs
              by_cases hlt : k < 3
              · have hki : (k : Int) < 3 := by omega
                obtain ⟨u, hu, hf⟩ := HS.out.2.2.2.1.cell (k) (by omega)
                have hu1 : wr.cell? ((⟨bS, 0, none⟩ : Addr).add k) = some u := by rw [zero_add_addr]; exact hu
                have hf1 : wr.frozen? ((⟨bS, 0, none⟩ : Addr).add k) = false := by rw [zero_add_addr]; exact hf
                go_wp2
                go_roundw
                case rel => exact ⟨k + 1, by go_num, hlt, HS.out.set _ _ _ NE3.out LE3.out⟩
                case measure => simp [intOf]; omega
              · obtain rfl : k = 3 := by omega
                have B0 := Lib.hid HS.out.2.2.2.2
                go_wp2_with fail
                refine Calls.mono (HKN.out _ B0.out) ?_
                rintro e w3 ⟨rfl, b3⟩
                have B3 := Lib.hid (below_on B0.out b3)
                clear b3
                go_wp2_with fail
                refine Calls.mono (HBA.out _ B3.out) ?_
                rintro e w4 ⟨v4, rfl, hown4, b4⟩
                have HP4 := Lib.hid (base_pol hown4)
                obtain ⟨_, _, _, _, _, _, _, _, _, rfl, _⟩ := hown4.is
                have B4 := Lib.hid (below_on B3.out b4)
                clear b4 hown4
                go_wp2_with fail
                refine Calls.mono (refbase_any w4) ?_
                rintro e w5 ⟨v5, rfl, hp5, b5⟩
                have HP5 := Lib.hid hp5
                obtain ⟨⟨_, _, _, rfl, _⟩, _⟩ := hp5
                have HP6 := Lib.hid (HP4.out.later b5)
                have B5 := Lib.hid (below_on B4.out b5)
                clear b5
                go_wp2_with fail
                refine Calls.mono (same_pol _ _ baseE baseA baseS w5 HP6.out HP5.out) ?_
                rintro e w6 ⟨rfl, b6⟩
                have B6 := Lib.hid (below_on B5.out b6)
                clear b6
                go_wp2
                go_ret
                exact ⟨rfl, B6.out⟩
end Go.Proofs.YtjificnbeaemoaaGreatDoor
