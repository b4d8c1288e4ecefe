/- tympanlaw05.RuleChecks answers true for every input. -/
import Derived.Test.YtjificnbeaemoaaGreatDoorRefChk2
import Derived.Test.YtjificnbeaemoaaGreatDoorSameP
namespace Go.Proofs.YtjificnbeaemoaaGreatDoor
open Go.RowKit

theorem errOf_conv (b : Bool) : IntKind.i64.wrap (errOf b) = errOf b := by cases b <;> rfl
set_option maxHeartbeats 8000000 in
set_option maxRecDepth 100000 in
theorem checks_law (v : Value) (E : List ByteArray) (A : Prs) (S : List ByteArray) (w : World) (hp : PolAt w v E A S) (ht : SpTab w) (hG : Glob w) : Calls Tryz.prog 3 #[v] w (Yes w) := by
  have HP := Lib.hid hp
  obtain ⟨⟨vE, vA, vS, rfl, _, _, _⟩, _⟩ := hp
  obtain ⟨W, hW⟩ : ∃ W, w.alloc (.cells #[vE, vA, vS] 25) = W := ⟨_, rfl⟩
  have B0 := Lib.hid (show Below w.heap.size w W by rw [← hW]; exact (Below.refl _ w).alloc (Nat.le_refl _) _)
  have G0 := Lib.hid (show W.heap[w.heap.size]? = some (.cells #[vE, vA, vS] 25 (0, 0)) by rw [← hW]; exact heap_alloc_new w _)
  have Z0 := Lib.hid (show w.heap.size < W.heap.size by rw [← hW]; simp)
  have HKN := Lib.hid fun w' (hb : Below w.heap.size w w') => known_any w' (ht.later hb) (hG.later hb)
  have HT := Lib.hid ht
  have HW := Lib.hid hW
  clear ht hG hW
  have p0 := fun i => cell_of_row W w.heap.size i _ _ _ G0.out
  go_enter Tryz.func3, Tryz.ntmps3
  go_upto_region 1 with fail
  rw [HW.out]
  go_wp2_with fail
  refine Calls.mono (much_any _ E A S W (HP.out.later B0.out)) ?_
  rintro e w1 ⟨b, rfl, hbl, b1⟩
  have B1 := Lib.hid (below_on B0.out b1)
  cases b with
  | true =>
    go_wp2
    go_ret
    exact ⟨rfl, B1.out⟩
  | false =>
    obtain ⟨lE, lA, lS⟩ := hbl rfl
    clear hbl
    have G1 := Lib.hid ((b1.block _ Z0.out).trans G0.out)
    have Z1 := Lib.hid (show w.heap.size < w1.heap.size from Nat.lt_of_lt_of_le Z0.out b1.size)
    have p1 := fun i => cell_of_row w1 w.heap.size i _ _ _ G1.out
    clear p0 b1
    go_wp2_with fail
    refine Calls.mono (lent_any _ E A S w1 (HP.out.later B1.out) lE lA lS) ?_
    rintro e w2 ⟨v2, rfl, hp2, b2⟩
    have B2 := Lib.hid (below_on B1.out b2)
    have G2 := Lib.hid ((b2.block _ Z1.out).trans G1.out)
    have Z2 := Lib.hid (show w.heap.size < w2.heap.size from Nat.lt_of_lt_of_le Z1.out b2.size)
    have HP2 := Lib.hid hp2
    obtain ⟨⟨qE, qA, qS, rfl, sE, sA, sS⟩, _⟩ := hp2
    obtain ⟨aE, cE, rfl, _, _⟩ := sE.open
    obtain ⟨aA, cA, rfl, _, _⟩ := sA.open
    obtain ⟨aS, cS, rfl, _, _⟩ := sS.open
    clear sE sA sS
    obtain ⟨W3, hW3⟩ : ∃ W3, w2.alloc (.cells #[.slice aE E.length cE, .slice aA A.length cA, .slice aS S.length cS] 25) = W3 := ⟨_, rfl⟩
    have b3 : Below w2.heap.size w2 W3 := by rw [← hW3]; exact (Below.refl _ w2).alloc (Nat.le_refl _) _
    have B3 := Lib.hid (below_on B2.out b3)
    have G3 := Lib.hid ((b3.block _ Z2.out).trans G2.out)
    have Q3 := Lib.hid (show W3.heap[w2.heap.size]? = some (.cells #[.slice aE E.length cE, .slice aA A.length cA, .slice aS S.length cS] 25 (0, 0)) by rw [← hW3]; exact heap_alloc_new w2 _)
    have Z3 := Lib.hid (show w2.heap.size < W3.heap.size by rw [← hW3]; simp)
    have HB3 := Lib.hid b3
    have HW3 := Lib.hid hW3
    clear b2 p1 hW3 b3
    go_upto_region 4 with fail
    rw [HW3.out]
    have q3 := fun i => cell_of_row W3 w2.heap.size i _ _ _ Q3.out
    obtain ⟨C, hC⟩ : ∃ C, checkB E A S = C := ⟨_, rfl⟩
    have HC := Lib.hid hC
    clear hC
    have hcall := check_any _ E A S W3 (HP2.out.later HB3.out) (HT.out.later B3.out)
    rw [HC.out] at hcall
    go_wp2_with fail
    refine Calls.mono hcall ?_
    rintro e w4 ⟨rfl, b4⟩
    have B4 := Lib.hid (below_on B3.out b4)
    have HB4 := Lib.hid (below_on HB3.out b4)
    have G4 := Lib.hid ((b4.block _ (Nat.lt_trans Z2.out Z3.out)).trans G3.out)
    have Q4 := Lib.hid ((b4.block _ Z3.out).trans Q3.out)
    have Z4 := Lib.hid (show w2.heap.size < w4.heap.size from Nat.lt_of_lt_of_le Z3.out b4.size)
    clear hcall q3 b4
    go_wp2_with fail
    refine Calls.mono (HKN.out _ B4.out) ?_
    rintro e w5 ⟨rfl, b5⟩
    have B5 := Lib.hid (below_on B4.out b5)
    have HB5 := Lib.hid (below_on HB4.out b5)
    have G5 := Lib.hid ((b5.block _ (Nat.lt_trans Z2.out Z4.out)).trans G4.out)
    have Q5 := Lib.hid ((b5.block _ Z4.out).trans Q4.out)
    have Z5 := Lib.hid (show w2.heap.size < w5.heap.size from Nat.lt_of_lt_of_le Z4.out b5.size)
    have p5 := fun i => cell_of_row w5 w.heap.size i _ _ _ G5.out
    have q5 := fun i => cell_of_row w5 w2.heap.size i _ _ _ Q5.out
    have hcall := refcheck_any _ E A S w5 (HP.out.later B5.out)
    rw [HC.out] at hcall
    have hcv := errOf_conv C
    clear b5
    go_wp2_with fail
    refine Calls.mono hcall ?_
    rintro e w6 ⟨rfl, b6⟩
    have B6 := Lib.hid (below_on B5.out b6)
    have HB6 := Lib.hid (below_on HB5.out b6)
    have p6 := fun i => cell_of_row w6 w.heap.size i _ _ _ ((b6.block _ (Nat.lt_trans Z2.out Z5.out)).trans G5.out)
    have q6 := fun i => cell_of_row w6 w2.heap.size i _ _ _ ((b6.block _ Z5.out).trans Q5.out)
    clear b6 hcall p5 q5
    go_wp2_with fail
    refine Calls.mono (same_pol _ _ E A S w6 (HP2.out.later HB6.out) (HP.out.later B6.out)) ?_
    rintro e w7 ⟨rfl, b7⟩
    have B7 := Lib.hid (below_on B6.out b7)
    clear b7
    go_wp2
    go_ret
    exact ⟨rfl, B7.out⟩
end Go.Proofs.YtjificnbeaemoaaGreatDoor
