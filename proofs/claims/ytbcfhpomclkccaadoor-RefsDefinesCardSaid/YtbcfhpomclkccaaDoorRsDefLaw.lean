/- The law on Define. -/
import Derived.Test.YtbcfhpomclkccaaDoorRsKn
import Derived.Test.YtbcfhpomclkccaaDoorRsRdf
import Derived.Test.YtbcfhpomclkccaaDoorTxt4
namespace Go.Proofs.YtbcfhpomclkccaaDoor
open Go.RowKit

set_option maxHeartbeats 4000000 in
set_option maxRecDepth 100000 in
theorem defines_law (v0 : Value) (la : List UInt8) (w : World) (h0 : SlU8 w v0 la) (hla : la.length ≤ 9223372036854775807) : Calls Tryd.prog 4 #[v0] w (BoolB w true) := by
  have HK := Lib.hid fun w' => known_any w'
  obtain ⟨A0, m0, c0, rfl, hm0, hc0, hh0⟩ := id h0
  have H0 := Lib.hid h0
  have HM0 := Lib.hid hm0
  have hm0b : m0 ≤ 9223372036854775807 := by omega
  clear h0 hh0 hla hm0
  by_cases g0 : 2500 < m0
  · have i0 : (2500 : Int) < (m0 : Int) := by omega
    go_enter Tryd.func4, Tryd.ntmps4
    go_wp2
    go_ret
    exact ⟨rfl, Below.refl _ w⟩
  · have i0 : ¬ (2500 : Int) < (m0 : Int) := by omega
    have HT0 := Lib.hid fun (w' : World) (hb : Below w.heap.size w w') => reftext_any (.slice A0 m0 c0) la w' (by have := HM0.out; omega) (H0.out.later hb)
    have hl0 := textL_len la
    have hm0' := HM0.out
    obtain ⟨s, hsd⟩ : ∃ s : ByteArray, s = ⟨(textL la).toArray⟩ := ⟨_, rfl⟩
    have hsl : s.data.toList = textL la := by rw [hsd]
    have hss : s.size = (textL la).length := by rw [← hsl]; exact (Array.length_toList).symm
    have HS := Lib.hid hsd
    have hsz : s.size ≤ 7500 := by omega
    have HDa := Lib.hid fun w' => define_any s w' (by omega)
    have HDb := Lib.hid fun w' => refdefine_any s w' (by omega)
    obtain ⟨⟨x1, x2, x3, n⟩, hX⟩ : ∃ X, defV s = X := ⟨_, rfl⟩
    rw [hX] at HDa HDb
    clear hX hsd hsl hss hl0 hm0'
    go_enter Tryd.func4, Tryd.ntmps4
    go_wp2_with fail
    refine Calls.mono (HT0.out _ (Below.refl _ w)) ?_
    rintro e w1 ⟨rfl, b1⟩
    have B1 := Lib.hid b1
    clear b1
    rw [← HS.out]
    go_wp2_with fail
    refine Calls.mono (HDa.out _) ?_
    rintro e w2 ⟨rfl, b2⟩
    have B2 := Lib.hid (below_on B1.out b2)
    clear b2
    have HX := Lib.hid (show Row3 (w2.alloc (.cells #[.string x1, .string x2, .string x3] 28)) w2.heap.size x1 x2 x3 from heap_alloc_new w2 _)
    go_wp2_with fail
    refine Calls.mono (HDb.out _) ?_
    rintro e w3 ⟨rfl, b3⟩
    have HX3 := Lib.hid (HX.out.later b3)
    have B3 := Lib.hid (below_on (B2.out.alloc B2.out.size _) b3)
    clear b3
    have HY := Lib.hid (show Row3 (w3.alloc (.cells #[.string x1, .string x2, .string x3] 28)) w3.heap.size x1 x2 x3 from heap_alloc_new w3 _)
    have hb4 : Below w3.heap.size w3 (w3.alloc (.cells #[.string x1, .string x2, .string x3] 28)) := (Below.refl _ w3).alloc (Nat.le_refl _) _
    have HX4 := Lib.hid (HX3.out.later hb4)
    clear hb4
    go_wp2_with fail
    refine Calls.mono (HK.out _) ?_
    rintro e w5 ⟨rfl, b5⟩
    have HX5 := Lib.hid (HX4.out.later b5)
    have HY5 := Lib.hid (HY.out.later b5)
    have B5 := Lib.hid (below_on (B3.out.alloc B3.out.size _) b5)
    clear b5
    have cx := fun i => cell_of_row w5 w2.heap.size i _ _ _ (show w5.heap[w2.heap.size]? = _ from HX5.out)
    have cy := fun i => cell_of_row w5 w3.heap.size i _ _ _ (show w5.heap[w3.heap.size]? = _ from HY5.out)
    go_wp2
    go_ret
    exact ⟨rfl, B5.out⟩
end Go.Proofs.YtbcfhpomclkccaaDoor
