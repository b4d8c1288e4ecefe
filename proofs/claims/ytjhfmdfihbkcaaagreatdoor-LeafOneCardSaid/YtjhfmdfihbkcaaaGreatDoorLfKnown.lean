/- tympanlaw22.known: the chapter's examples hold. -/
import Derived.Test.YtjhfmdfihbkcaaaGreatDoorLfHtml
import Derived.Test.YtjhfmdfihbkcaaaGreatDoorLfList
import Derived.Test.YtjhfmdfihbkcaaaGreatDoorLfHead
import Derived.Test.YtjhfmdfihbkcaaaGreatDoorLfRule
namespace Go.Proofs.YtjhfmdfihbkcaaaGreatDoor
open Go.RowKit

def Yes (w : World) (e : Ending) (w' : World) : Prop := e = .returned (.bool true) ∧ Below w.heap.size w w'
theorem below_on {w a b : World} (h : Below w.heap.size w a) (k : Below a.heap.size a b) : Below w.heap.size w b := h.trans (k.mono h.size)
def MaxB (w : World) : Prop := ∃ m, w.cell? ⟨2, 0, none⟩ = some (.int .i64 m)
theorem MaxB.later {w w' : World} (h : MaxB w) (hb : Below w.heap.size w w') : MaxB w' := h.imp fun _ hm => cell_later hb hm
theorem ex_head1 : headLev [35, 35, 32, 97, 32, 35] = 2 := by decide +kernel
theorem ex_head2 : headText [35, 35, 32, 97, 32, 35] = [97] := by decide +kernel
theorem ex_rule1 : ruleB [42, 32, 42, 32, 42] = true := by decide +kernel
theorem ex_rule2 : ruleB [42, 42] = false := by decide +kernel
theorem ex_under : underN [61, 61, 32] = 1 := by decide +kernel
theorem ex_tag1 : tagN [60, 97, 32, 98, 61, 39, 99, 39, 32, 100, 62] = 11 := by decide +kernel
theorem ex_tag2 : tagN [60, 97, 32, 98, 61, 62] = 0 := by decide +kernel
theorem ex_html1 : htmlN [60, 100, 105, 118] = 6 := by decide +kernel
theorem ex_html2 : htmlN [60, 98, 62] = 7 := by decide +kernel
theorem ex_html3 : htmlN [60, 98, 62, 32, 120] = 0 := by decide +kernel
theorem kn_head (w : World) : Calls Tryz.prog 6 #[.string ⟨#[35, 35, 32, 97, 32, 35]⟩] w (HeadR w 2 [97]) := by
  have h := head_any ⟨#[35, 35, 32, 97, 32, 35]⟩ w (by decide)
  rwa [show (⟨#[35, 35, 32, 97, 32, 35]⟩ : ByteArray).data.toList = [35, 35, 32, 97, 32, 35] from rfl, ex_head1, ex_head2] at h
theorem kn_rule1 (w : World) : Calls Tryz.prog 5 #[.string ⟨#[42, 32, 42, 32, 42]⟩] w (RBw w true) := by
  have h := rule_any ⟨#[42, 32, 42, 32, 42]⟩ w (by decide)
  rwa [show (⟨#[42, 32, 42, 32, 42]⟩ : ByteArray).data.toList = [42, 32, 42, 32, 42] from rfl, ex_rule1] at h
theorem kn_rule2 (w : World) : Calls Tryz.prog 5 #[.string ⟨#[42, 42]⟩] w (RBw w false) := by
  have h := rule_any ⟨#[42, 42]⟩ w (by decide)
  rwa [show (⟨#[42, 42]⟩ : ByteArray).data.toList = [42, 42] from rfl, ex_rule2] at h
theorem kn_under (w : World) : Calls Tryz.prog 8 #[.string ⟨#[61, 61, 32]⟩] w (RIb w 1) := by
  have h := under_any ⟨#[61, 61, 32]⟩ w (by decide)
  rwa [show (⟨#[61, 61, 32]⟩ : ByteArray).data.toList = [61, 61, 32] from rfl, ex_under] at h
theorem kn_tag1 (w : World) : Calls Tryz.prog 9 #[.string ⟨#[60, 97, 32, 98, 61, 39, 99, 39, 32, 100, 62]⟩] w (RIb w 11) := by
  have h := tag_any ⟨#[60, 97, 32, 98, 61, 39, 99, 39, 32, 100, 62]⟩ w (by decide)
  rwa [show (⟨#[60, 97, 32, 98, 61, 39, 99, 39, 32, 100, 62]⟩ : ByteArray).data.toList = [60, 97, 32, 98, 61, 39, 99, 39, 32, 100, 62] from rfl, ex_tag1] at h
theorem kn_tag2 (w : World) : Calls Tryz.prog 9 #[.string ⟨#[60, 97, 32, 98, 61, 62]⟩] w (RIb w 0) := by
  have h := tag_any ⟨#[60, 97, 32, 98, 61, 62]⟩ w (by decide)
  rwa [show (⟨#[60, 97, 32, 98, 61, 62]⟩ : ByteArray).data.toList = [60, 97, 32, 98, 61, 62] from rfl, ex_tag2] at h
theorem kn_html1 (w : World) (ht : SpTab w) : Calls Tryz.prog 11 #[.string ⟨#[60, 100, 105, 118]⟩] w (RIb w 6) := by
  have h := html_any ⟨#[60, 100, 105, 118]⟩ w (by decide) ht
  rwa [show (⟨#[60, 100, 105, 118]⟩ : ByteArray).data.toList = [60, 100, 105, 118] from rfl, ex_html1] at h
theorem kn_html2 (w : World) (ht : SpTab w) : Calls Tryz.prog 11 #[.string ⟨#[60, 98, 62]⟩] w (RIb w 7) := by
  have h := html_any ⟨#[60, 98, 62]⟩ w (by decide) ht
  rwa [show (⟨#[60, 98, 62]⟩ : ByteArray).data.toList = [60, 98, 62] from rfl, ex_html2] at h
theorem kn_html3 (w : World) (ht : SpTab w) : Calls Tryz.prog 11 #[.string ⟨#[60, 98, 62, 32, 120]⟩] w (RIb w 0) := by
  have h := html_any ⟨#[60, 98, 62, 32, 120]⟩ w (by decide) ht
  rwa [show (⟨#[60, 98, 62, 32, 120]⟩ : ByteArray).data.toList = [60, 98, 62, 32, 120] from rfl, ex_html3] at h
set_option maxHeartbeats 4000000 in
set_option maxRecDepth 100000 in
theorem known_any (w : World) (hm : MaxB w) (ht : SpTab w) : Calls Tryz.prog 4 #[] w (Yes w) := by
  have HM := Lib.hid hm
  have HT := Lib.hid ht
  clear hm ht
  go_enter Tryz.func4, Tryz.ntmps4
  go_wp2_with fail
  refine Calls.mono (kn_head _) ?_
  rintro e w1 ⟨rfl, b1⟩
  have HB1 := Lib.hid b1
  clear b1
  go_wp2_with fail
  refine Calls.mono (list_yes _) ?_
  rintro e w2 ⟨rfl, b2⟩
  have HB2 := Lib.hid (below_on HB1.out b2)
  clear b2
  go_wp2_with fail
  refine Calls.mono (list_no _) ?_
  rintro e w3 ⟨rfl, b3⟩
  have g3 : w3.heap[w2.heap.size]? = some (.cells #[.int .u8 46, .int .i64 12, .int .i64 3] 33 (0, 0)) := (b3.block _ (by simp)).trans (heap_alloc_new w2 _)
  have HB3 := Lib.hid (below_on (HB2.out.alloc HB2.out.size _) b3)
  have HG3 := Lib.hid g3
  clear b3 g3
  go_wp2_with fail
  refine Calls.mono (kn_rule1 _) ?_
  rintro e w4 ⟨rfl, b4⟩
  have HB4 := Lib.hid (below_on (HB3.out.alloc HB3.out.size _) b4)
  have HG4 := Lib.hid ((b4.block _ (by have := (Array.getElem?_eq_some_iff.1 HG3.out).1; simp; omega)).trans ((Below.heap_alloc w3 _ _ ((Array.getElem?_eq_some_iff.1 HG3.out).1)).trans HG3.out))
  clear b4 HG3
  go_wp2_with fail
  refine Calls.mono (kn_rule2 _) ?_
  rintro e w5 ⟨rfl, b5⟩
  have HB5 := Lib.hid (below_on HB4.out b5)
  have HG5 := Lib.hid ((b5.block _ ((Array.getElem?_eq_some_iff.1 HG4.out).1)).trans HG4.out)
  clear b5 HG4
  go_wp2_with fail
  refine Calls.mono (kn_under _) ?_
  rintro e w6 ⟨rfl, b6⟩
  have HB6 := Lib.hid (below_on HB5.out b6)
  have HG6 := Lib.hid ((b6.block _ ((Array.getElem?_eq_some_iff.1 HG5.out).1)).trans HG5.out)
  clear b6 HG5
  have q1 := fun i => cell_of_row w6 w2.heap.size i _ _ _ HG6.out
  go_wp2_with fail
  refine Calls.mono (kn_tag1 _) ?_
  rintro e w7 ⟨rfl, b7⟩
  have HB7 := Lib.hid (below_on HB6.out b7)
  clear b7 q1
  go_wp2_with fail
  refine Calls.mono (kn_tag2 _) ?_
  rintro e w8 ⟨rfl, b8⟩
  have HB8 := Lib.hid (below_on HB7.out b8)
  clear b8
  go_wp2_with fail
  refine Calls.mono (kn_html1 _ (HT.out.later HB8.out)) ?_
  rintro e w9 ⟨rfl, b9⟩
  have HB9 := Lib.hid (below_on HB8.out b9)
  clear b9
  go_wp2_with fail
  refine Calls.mono (kn_html2 _ (HT.out.later HB9.out)) ?_
  rintro e w10 ⟨rfl, b10⟩
  have HB10 := Lib.hid (below_on HB9.out b10)
  clear b10
  go_wp2_with fail
  refine Calls.mono (kn_html3 _ (HT.out.later HB10.out)) ?_
  rintro e w11 ⟨rfl, b11⟩
  have HB11 := Lib.hid (below_on HB10.out b11)
  clear b11
  obtain ⟨m, hm⟩ := HM.out.later HB11.out
  have HM2 := Lib.hid hm
  clear hm
  go_wp2_with fail
  refine Calls.mono (ends_ex _ m HM2.out) ?_
  rintro e w12 ⟨rfl, b12⟩
  have HB12 := Lib.hid (below_on HB11.out b12)
  clear b12
  go_wp2
  go_ret
  exact ⟨rfl, HB12.out⟩
end Go.Proofs.YtjhfmdfihbkcaaaGreatDoor
