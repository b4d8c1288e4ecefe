/- The law on Norm and Unescape. -/
import Derived.Test.YtbcfhpomclkccaaDoorRsKn
import Derived.Test.YtbcfhpomclkccaaDoorRsNmP
import Derived.Test.YtbcfhpomclkccaaDoorRsRnn
import Derived.Test.YtbcfhpomclkccaaDoorRsRd
import Derived.Test.YtbcfhpomclkccaaDoorTxt4
namespace Go.Proofs.YtbcfhpomclkccaaDoor
open Go.RowKit

set_option maxHeartbeats 4000000 in
set_option maxRecDepth 100000 in
theorem norms_law (v0 : Value) (la : List UInt8) (w : World) (h0 : SlU8 w v0 la) (hla : la.length ≤ 9223372036854775807) : Calls Tryd.prog 3 #[v0] w (BoolB w true) := by
  have HK := Lib.hid fun w' => known_any w'
  obtain ⟨A0, m0, c0, rfl, hm0, hc0, hh0⟩ := id h0
  have H0 := Lib.hid h0
  have HM0 := Lib.hid hm0
  have hm0b : m0 ≤ 9223372036854775807 := by omega
  clear h0 hh0 hla hm0
  by_cases g0 : 2500 < m0
  · have i0 : (2500 : Int) < (m0 : Int) := by omega
    go_enter Tryd.func3, Tryd.ntmps3
    go_wp2
    go_ret
    exact ⟨rfl, Below.refl _ w⟩
  · have i0 : ¬ (2500 : Int) < (m0 : Int) := by omega
    have HT0 := Lib.hid fun (w' : World) (hb : Below w.heap.size w w') => reftext_any (.slice A0 m0 c0) la w' (by have := HM0.out; omega) (H0.out.later hb)
    have hl0 := textL_len la
    have hm0' := HM0.out
    obtain ⟨s, hsd⟩ : ∃ s : ByteArray, s = ⟨(textL la).toArray⟩ := ⟨_, rfl⟩
    have hsl : s.data.toList = textL la := by rw [hsd]
    have hss : s.size = (textL la).length := by rw [← hsl]; exact (Array.length_toList).symm
    have HS := Lib.hid hsd
    have hsz : s.size ≤ 7500 := by omega
    have hll : s.data.toList.length = s.size := Array.length_toList
    have hnl := norm_len s.data.toList
    obtain ⟨N, hN⟩ : ∃ N : ByteArray, N = ⟨(normL s.data.toList).toArray⟩ := ⟨_, rfl⟩
    have hNl : N.data.toList = normL s.data.toList := by rw [hN]
    have hNs : N.size ≤ 40000 := by
      have : N.data.toList.length = N.size := Array.length_toList
      rw [hNl] at this
      omega
    have h2 : normL N.data.toList = normL s.data.toList := by rw [hNl, norm_two]
    obtain ⟨U, hU⟩ : ∃ U, unescB s = U := ⟨_, rfl⟩
    have HN := Lib.hid hN
    have HNa := Lib.hid fun w' => norm_any s w' (by omega)
    have HNb := Lib.hid fun w' => norm_any N w' (by omega)
    rw [h2] at HNb
    have HRa := Lib.hid fun w' => refnorm_any s w' (by omega)
    have HUa := Lib.hid fun w' => unesc_ret s (by omega) U hU w'
    have HUb := Lib.hid fun w' => refunesc_ret s (by omega) U hU w'
    clear hN hNl hNs h2 hU hsd hsl hss hl0 hm0' hnl hll
    go_enter Tryd.func3, Tryd.ntmps3
    go_wp2_with fail
    refine Calls.mono (HT0.out _ (Below.refl _ w)) ?_
    rintro e w1 ⟨rfl, b1⟩
    have B1 := Lib.hid b1
    clear b1
    rw [← HS.out]
    go_wp2_with fail
    refine Calls.mono (HNa.out _) ?_
    rintro e w2 ⟨rfl, b2⟩
    have B2 := Lib.hid (below_on B1.out b2)
    clear b2
    rw [← HN.out]
    go_wp2_with fail
    refine Calls.mono (HK.out _) ?_
    rintro e w3 ⟨rfl, b3⟩
    have B3 := Lib.hid (below_on B2.out b3)
    clear b3
    go_wp2_with fail
    refine Calls.mono (HRa.out _) ?_
    rintro e w4 ⟨rfl, b4⟩
    have B4 := Lib.hid (below_on B3.out b4)
    clear b4
    rw [← HN.out]
    go_wp2_with fail
    refine Calls.mono (HNb.out _) ?_
    rintro e w5 ⟨rfl, b5⟩
    have B5 := Lib.hid (below_on B4.out b5)
    clear b5
    rw [← HN.out]
    go_wp2_with fail
    refine Calls.mono (HUa.out _) ?_
    rintro e w6 ⟨rfl, b6⟩
    have B6 := Lib.hid (below_on B5.out b6)
    clear b6
    go_wp2_with fail
    refine Calls.mono (HUb.out _) ?_
    rintro e w7 ⟨rfl, b7⟩
    have B7 := Lib.hid (below_on B6.out b7)
    clear b7
    go_wp2
    go_ret
    exact ⟨rfl, B7.out⟩
end Go.Proofs.YtbcfhpomclkccaaDoor
