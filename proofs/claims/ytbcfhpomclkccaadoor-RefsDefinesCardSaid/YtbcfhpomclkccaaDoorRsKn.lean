/- The chapter's example: known is true. -/
import Derived.Test.YtbcfhpomclkccaaDoorRsDef
namespace Go.Proofs.YtbcfhpomclkccaaDoor
open Go.RowKit

set_option maxRecDepth 100000 in
theorem v_def1 : defV ⟨#[91, 97, 32, 98, 93, 58, 32, 60, 120, 32, 121, 62, 32, 39, 122, 39, 10, 99]⟩ = (⟨#[97, 32, 98]⟩, ⟨#[120, 32, 121]⟩, ⟨#[122]⟩, 17) := by decide +kernel
set_option maxRecDepth 100000 in
theorem v_def2 : defV ⟨#[91, 97, 93, 58, 32, 98, 32, 39, 99, 39, 32, 100]⟩ = (⟨#[]⟩, ⟨#[]⟩, ⟨#[]⟩, 0) := by decide +kernel
set_option maxRecDepth 100000 in
theorem v_dest : destV ⟨#[97, 40, 98, 41, 99, 41, 100]⟩ 0 = (⟨#[97, 40, 98, 41, 99]⟩, 5, true) := by decide +kernel
set_option maxRecDepth 100000 in
theorem v_norm : normL [32, 65, 32, 32, 195, 159] = [97, 32, 115, 115] := by decide +kernel
set_option maxRecDepth 100000 in
theorem v_unesc : unescF 10 ⟨#[92, 42, 92, 97, 38, 97, 109, 112, 59]⟩ = [42, 92, 97, 38] := by decide +kernel
theorem v_gap : gapI [32, 10, 32, 120] 0 = 3 := by decide +kernel
def BoolB (w : World) (b : Bool) (e : Ending) (w' : World) : Prop := e = .returned (.bool b) ∧ Below w.heap.size w w'
set_option maxHeartbeats 2000000 in
set_option maxRecDepth 100000 in
theorem known_any (w : World) : Calls Tryd.prog 9 #[] w (BoolB w true) := by
  have h1 := fun w' => define_any ⟨#[91, 97, 32, 98, 93, 58, 32, 60, 120, 32, 121, 62, 32, 39, 122, 39, 10, 99]⟩ w' (by decide)
  rw [v_def1] at h1
  have H1 := Lib.hid h1
  have h2 := fun w' => define_any ⟨#[91, 97, 93, 58, 32, 98, 32, 39, 99, 39, 32, 100]⟩ w' (by decide)
  rw [v_def2] at h2
  have H2 := Lib.hid h2
  have h3 := fun w' => dest_any ⟨#[97, 40, 98, 41, 99, 41, 100]⟩ 0 w' (by decide) (by decide)
  rw [v_dest] at h3
  have H3 := Lib.hid h3
  have h4 := fun w' => norm_any ⟨#[32, 65, 32, 32, 195, 159]⟩ w' (by decide)
  rw [show normL (⟨#[32, 65, 32, 32, 195, 159]⟩ : ByteArray).data.toList = [97, 32, 115, 115] from v_norm] at h4
  have H4 := Lib.hid h4
  have h5 := fun w' => unescape_any ⟨#[92, 42, 92, 97, 38, 97, 109, 112, 59]⟩ w' (by decide)
  rw [show unescF ((⟨#[92, 42, 92, 97, 38, 97, 109, 112, 59]⟩ : ByteArray).size + 1) ⟨#[92, 42, 92, 97, 38, 97, 109, 112, 59]⟩ = [42, 92, 97, 38] from v_unesc] at h5
  have H5 := Lib.hid h5
  have h6 := fun w' => gap_any ⟨#[32, 10, 32, 120]⟩ 0 w' (by decide) (by decide)
  rw [show gapI (⟨#[32, 10, 32, 120]⟩ : ByteArray).data.toList 0 = 3 from v_gap] at h6
  have H6 := Lib.hid h6
  clear h1 h2 h3 h4 h5 h6
  go_enter Tryd.func9, Tryd.ntmps9
  go_wp2_with fail
  refine Calls.mono (H1.out _) ?_
  rintro e w1 ⟨rfl, b1⟩
  have HB1 := Lib.hid b1
  have HR1 := Lib.hid (show Row3 (w1.alloc (.cells #[.string ⟨#[97, 32, 98]⟩, .string ⟨#[120, 32, 121]⟩, .string ⟨#[122]⟩] 28)) w1.heap.size ⟨#[97, 32, 98]⟩ ⟨#[120, 32, 121]⟩ ⟨#[122]⟩ from heap_alloc_new w1 _)
  clear b1
  go_wp2_with fail
  refine Calls.mono (H2.out _) ?_
  rintro e w2 ⟨rfl, b2⟩
  have HR2 := Lib.hid ((HR1.out.later b2).later ((Below.refl _ w2).alloc (Nat.le_refl _) (.cells #[.string ⟨#[]⟩, .string ⟨#[]⟩, .string ⟨#[]⟩] 28)))
  have HB2 := Lib.hid ((below_on (HB1.out.alloc HB1.out.size _) b2).alloc (below_on (HB1.out.alloc HB1.out.size _) b2).size (.cells #[.string ⟨#[]⟩, .string ⟨#[]⟩, .string ⟨#[]⟩] 28))
  clear b2
  go_wp2_with fail
  refine Calls.mono (H3.out _) ?_
  rintro e w3 ⟨rfl, b3⟩
  have HR3 := Lib.hid (HR2.out.later b3)
  have HB3 := Lib.hid (below_on HB2.out b3)
  clear b3
  have c3 := fun i => cell_of_row w3 w1.heap.size i _ _ _ (show w3.heap[w1.heap.size]? = _ from HR3.out)
  go_wp2_with fail
  refine Calls.mono (H4.out _) ?_
  rintro e w4 ⟨rfl, b4⟩
  have HB4 := Lib.hid (below_on HB3.out b4)
  clear b4
  go_wp2_with fail
  refine Calls.mono (H5.out _) ?_
  rintro e w5 ⟨rfl, b5⟩
  have HB5 := Lib.hid (below_on HB4.out b5)
  clear b5
  go_wp2_with fail
  refine Calls.mono (H6.out _) ?_
  rintro e w6 ⟨rfl, b6⟩
  have HB6 := Lib.hid (below_on HB5.out b6)
  clear b6
  go_wp2
  go_ret
  exact ⟨rfl, HB6.out⟩
end Go.Proofs.YtbcfhpomclkccaaDoor
