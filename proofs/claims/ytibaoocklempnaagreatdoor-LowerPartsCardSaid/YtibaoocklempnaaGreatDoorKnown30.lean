/- tympanlaw30.known: the chapter's examples hold. -/
import Derived.Test.YtibaoocklempnaaGreatDoorBlkE
namespace Go.Proofs.YtibaoocklempnaaGreatDoor
open Go.RowKit

def Yes (w : World) (e : Ending) (w' : World) : Prop := e = .returned (.bool true) ∧ Below w.heap.size w w'
theorem Box.alloc {w : World} {g : Nat} {t : TypeId} {cs : Array Value} (h : Box w g t cs) (o : Obj) : Box (w.alloc o) g t cs := h.below ((Below.refl w.heap.size w).alloc (Nat.le_refl _) o) h.lt
theorem Box.new' {w : World} {g : Nat} {t : TypeId} {cs : Array Value} (h : w.heap.size = g) : Box (w.alloc (.cells cs t)) g t cs := by
  subst h
  exact Box.new w t cs
def W7 (w : World) : World := (((((((w.alloc (.cells #[.int .u8 1, .string ⟨#[97]⟩, .string ⟨#[]⟩, .string ⟨#[]⟩, .slice none 0 0] 80)).alloc (.cells #[.int .u8 5, .int .i64 0, .int .u8 0, .int .i64 0, .bool false, .string ⟨#[]⟩, .string ⟨#[]⟩, .slice none 0 0, .slice none 0 0, .slice (some ⟨w.heap.size, 0, none⟩) 1 1] 41)).alloc (.cells #[.int .u8 5, .int .i64 0, .int .u8 0, .int .i64 0, .bool false, .string ⟨#[]⟩, .string ⟨#[]⟩, .slice none 0 0, .slice none 0 0, .slice (some ⟨w.heap.size, 0, none⟩) 1 1] 41)).alloc (.cells #[.int .u8 4, .int .i64 0, .int .u8 0, .int .i64 0, .bool false, .string ⟨#[]⟩, .string ⟨#[]⟩, .slice none 0 0, .slice (some ⟨w.heap.size + 1 + 1, 0, none⟩) 1 1, .slice none 0 0] 41)).alloc (.cells #[.int .u8 3, .int .i64 0, .int .u8 45, .int .i64 0, .bool true, .string ⟨#[]⟩, .string ⟨#[]⟩, .slice none 0 0, .slice (some ⟨w.heap.size + 1 + 1 + 1, 0, none⟩) 1 1, .slice none 0 0] 41)).alloc (.cells #[.int .u8 1, .string ⟨#[60]⟩, .string ⟨#[]⟩, .string ⟨#[]⟩, .slice none 0 0] 80)).alloc (.cells #[.int .u8 5, .string ⟨#[]⟩, .string ⟨#[97, 34, 98]⟩, .string ⟨#[]⟩, .slice (some ⟨w.heap.size + 1 + 1 + 1 + 1 + 1, 0, none⟩) 1 1] 80))
theorem cap_one (g : Nat) : CapOk (.slice (some ⟨g, 0, none⟩) 1 1) := fun A m c e => by cases e; exact ⟨Nat.le_refl _, by decide, fun h => by cases h⟩
theorem cap_nil : CapOk (.slice none 0 0) := fun A m c e => by cases e; exact ⟨Nat.le_refl _, by decide, fun _ => rfl⟩
structure Seven (w W : World) : Prop where
  b0 : Box W w.heap.size 80 #[.int .u8 1, .string ⟨#[97]⟩, .string ⟨#[]⟩, .string ⟨#[]⟩, .slice none 0 0]
  b1 : Box W (w.heap.size + 1) 41 #[.int .u8 5, .int .i64 0, .int .u8 0, .int .i64 0, .bool false, .string ⟨#[]⟩, .string ⟨#[]⟩, .slice none 0 0, .slice none 0 0, .slice (some ⟨w.heap.size, 0, none⟩) 1 1]
  b2 : Box W (w.heap.size + 1 + 1) 41 #[.int .u8 5, .int .i64 0, .int .u8 0, .int .i64 0, .bool false, .string ⟨#[]⟩, .string ⟨#[]⟩, .slice none 0 0, .slice none 0 0, .slice (some ⟨w.heap.size, 0, none⟩) 1 1]
  b3 : Box W (w.heap.size + 1 + 1 + 1) 41 #[.int .u8 4, .int .i64 0, .int .u8 0, .int .i64 0, .bool false, .string ⟨#[]⟩, .string ⟨#[]⟩, .slice none 0 0, .slice (some ⟨w.heap.size + 1 + 1, 0, none⟩) 1 1, .slice none 0 0]
  b4 : Box W (w.heap.size + 1 + 1 + 1 + 1) 41 #[.int .u8 3, .int .i64 0, .int .u8 45, .int .i64 0, .bool true, .string ⟨#[]⟩, .string ⟨#[]⟩, .slice none 0 0, .slice (some ⟨w.heap.size + 1 + 1 + 1, 0, none⟩) 1 1, .slice none 0 0]
  b5 : Box W (w.heap.size + 1 + 1 + 1 + 1 + 1) 80 #[.int .u8 1, .string ⟨#[60]⟩, .string ⟨#[]⟩, .string ⟨#[]⟩, .slice none 0 0]
  b6 : Box W (w.heap.size + 1 + 1 + 1 + 1 + 1 + 1) 80 #[.int .u8 5, .string ⟨#[]⟩, .string ⟨#[97, 34, 98]⟩, .string ⟨#[]⟩, .slice (some ⟨w.heap.size + 1 + 1 + 1 + 1 + 1, 0, none⟩) 1 1]
  bl : Below w.heap.size w W
  sz : w.heap.size + 7 ≤ W.heap.size
theorem seven_new (w : World) : Seven w ((((((((w.alloc (.cells #[.int .u8 1, .string ⟨#[97]⟩, .string ⟨#[]⟩, .string ⟨#[]⟩, .slice none 0 0] 80)).alloc (.cells #[.int .u8 5, .int .i64 0, .int .u8 0, .int .i64 0, .bool false, .string ⟨#[]⟩, .string ⟨#[]⟩, .slice none 0 0, .slice none 0 0, .slice (some ⟨w.heap.size, 0, none⟩) 1 1] 41)).alloc (.cells #[.int .u8 5, .int .i64 0, .int .u8 0, .int .i64 0, .bool false, .string ⟨#[]⟩, .string ⟨#[]⟩, .slice none 0 0, .slice none 0 0, .slice (some ⟨w.heap.size, 0, none⟩) 1 1] 41)).alloc (.cells #[.int .u8 4, .int .i64 0, .int .u8 0, .int .i64 0, .bool false, .string ⟨#[]⟩, .string ⟨#[]⟩, .slice none 0 0, .slice (some ⟨w.heap.size + 1 + 1, 0, none⟩) 1 1, .slice none 0 0] 41)).alloc (.cells #[.int .u8 3, .int .i64 0, .int .u8 45, .int .i64 0, .bool true, .string ⟨#[]⟩, .string ⟨#[]⟩, .slice none 0 0, .slice (some ⟨w.heap.size + 1 + 1 + 1, 0, none⟩) 1 1, .slice none 0 0] 41)).alloc (.cells #[.int .u8 1, .string ⟨#[60]⟩, .string ⟨#[]⟩, .string ⟨#[]⟩, .slice none 0 0] 80)).alloc (.cells #[.int .u8 5, .string ⟨#[]⟩, .string ⟨#[97, 34, 98]⟩, .string ⟨#[]⟩, .slice (some ⟨w.heap.size + 1 + 1 + 1 + 1 + 1, 0, none⟩) 1 1] 80))) where
  b0 := ((((((Box.new' rfl).alloc _).alloc _).alloc _).alloc _).alloc _).alloc _
  b1 := (((((Box.new' (by simp)).alloc _).alloc _).alloc _).alloc _).alloc _
  b2 := ((((Box.new' (by simp)).alloc _).alloc _).alloc _).alloc _
  b3 := (((Box.new' (by simp)).alloc _).alloc _).alloc _
  b4 := ((Box.new' (by simp)).alloc _).alloc _
  b5 := (Box.new' (by simp)).alloc _
  b6 := Box.new' (by simp)
  bl := (((((((Below.refl _ w).alloc (Nat.le_refl _) _).alloc (by simp) _).alloc (by simp; omega) _).alloc (by simp; omega) _).alloc (by simp; omega) _).alloc (by simp; omega) _).alloc (by simp; omega) _
  sz := by simp
theorem Seven.later {w W W' : World} (h : Seven w W) (hb : Below W.heap.size W W') : Seven w W' where
  b0 := h.b0.below hb h.b0.lt
  b1 := h.b1.below hb h.b1.lt
  b2 := h.b2.below hb h.b2.lt
  b3 := h.b3.below hb h.b3.lt
  b4 := h.b4.below hb h.b4.lt
  b5 := h.b5.below hb h.b5.lt
  b6 := h.b6.below hb h.b6.lt
  bl := h.bl.trans (hb.mono h.bl.size)
  sz := Nat.le_trans h.sz hb.size
theorem Seven.link {w W : World} (h : Seven w W) : InlsAt 2 W (fun k => k < w.heap.size + 7) (.slice (some ⟨w.heap.size + 1 + 1 + 1 + 1 + 1 + 1, 0, none⟩) 1 1) ([linkX] : List (InlD (List (IT 1)))) :=
  inlsAt_one (n := 1) linkX _ h.b6 (by show _ < _; omega) (inlsAt_one (n := 0) txtLt _ h.b5 (by show _ < _; omega) (inls_nil 0 _ _ 0) (by decide) (by decide) (by decide) (by decide)) (by decide) (by decide) (by decide) (by decide)
theorem Seven.para {w W : World} (h : Seven w W) : BlkAt 1 W (fun k => k < w.heap.size + 7) [.int .u8 5, .int .i64 0, .int .u8 0, .int .i64 0, .bool false, .string ⟨#[]⟩, .string ⟨#[]⟩, .slice none 0 0, .slice none 0 0, .slice (some ⟨w.heap.size, 0, none⟩) 1 1] paraB :=
  ⟨_, _, _, rfl, bytes_nil _ _ 0, blks_nil 0 _ _ 0, inlsAt_one (n := 0) txtA _ h.b0 (by show _ < _; omega) (inls_nil 0 _ _ 0) (by decide) (by decide) (by decide) (by decide), by decide, by decide, by decide, by decide, cap_nil, by decide⟩
theorem Seven.list {w W : World} (h : Seven w W) : BlkAt 3 W (fun k => k < w.heap.size + 7) [.int .u8 3, .int .i64 0, .int .u8 45, .int .i64 0, .bool true, .string ⟨#[]⟩, .string ⟨#[]⟩, .slice none 0 0, .slice (some ⟨w.heap.size + 1 + 1 + 1, 0, none⟩) 1 1, .slice none 0 0] listB :=
  ⟨_, _, _, rfl, bytes_nil _ _ 0, blksAt_one (n := 1) itemB _ _ _ h.b3 (by show _ < _; omega) ⟨_, _, _, rfl, bytes_nil _ _ 0, blksAt_one (n := 0) paraB _ _ _ h.b2 (by show _ < _; omega) h.para, inls_nil 0 _ _ 0, by decide, by decide, by decide, by decide, cap_one _, by decide⟩, inls_nil 0 _ _ 0, by decide, by decide, by decide, by decide, cap_one _, by decide⟩
theorem does_para : BDoes 1 paraB := bdoes_5 (n := 0) paraB rfl
theorem does_list : BDoes 3 listB := bdoes_3 (n := 2) listB rfl (fun y hy => by
    obtain rfl : y = itemB := List.mem_singleton.1 hy
    exact bdoes_4 (n := 1) itemB rfl fun z hz => by
      obtain rfl : z = paraB := List.mem_singleton.1 hz
      exact does_para) (fun y hy => by
    obtain rfl : y = itemB := List.mem_singleton.1 hy
    exact cdoes (n := 1) itemB fun z hz => by
      obtain rfl : z = paraB := List.mem_singleton.1 hz
      exact does_para)

set_option maxHeartbeats 2000000 in
set_option maxRecDepth 100000 in
theorem known_any (w : World) (hP : Pow w) : Calls Tryz.prog 28 #[] w (Yes w) := by
  have hs := seven_new w
  have hp := ((PowB.mk' hP).on hs.bl).1
  have HS := Lib.hid hs
  have HP := Lib.hid hp
  clear hs hP hp
  go_enter Tryz.func28, Tryz.ntmps28
  go_wp2_with fail
  refine Calls.mono (lowInlines_any 2 _ ([linkX] : List (InlD (List (IT 1)))) (fun k => k < w.heap.size + 7) _ HS.out.link (fun k hk => by have := HS.out.sz; omega) (by decide)) ?_
  rintro e w1 ⟨rfl, b1⟩
  rw [ex_link]
  have HS1 := Lib.hid (HS.out.later b1)
  have HP1 := Lib.hid ((PowB.mk' HP.out).on b1).1
  clear b1
  have y := HS1.out.b4
  have y0 := y.cell 0
  have y1 := y.cell 1
  have y2 := y.cell 2
  have y3 := y.cell 3
  have y4 := y.cell 4
  have y5 := y.cell 5
  have y6 := y.cell 6
  have y7 := y.cell 7
  have y8 := y.cell 8
  have y9 := y.cell 9
  simp only [List.getElem?_toArray, List.getElem?_cons_succ, List.getElem?_cons_zero] at y0 y1 y2 y3 y4 y5 y6 y7 y8 y9
  clear y
  go_wp2_with fail
  refine Calls.mono (html_blk (n := 3) listB does_list (fun k => k < w.heap.size + 7) _ HS1.out.list (fun k hk => by have := HS1.out.sz; omega) HP1.out (by decide)) ?_
  rintro e w2 ⟨rfl, b2⟩
  rw [show (outs 3).blk listB = [60, 117, 108, 62, 10, 60, 108, 105, 62, 97, 60, 47, 108, 105, 62, 10, 60, 47, 117, 108, 62, 10] from ex_list]
  have HS2 := Lib.hid (HS1.out.later b2)
  have HP2 := Lib.hid ((PowB.mk' HP1.out).on b2).1
  clear b2 y0 y1 y2 y3 y4 y5 y6 y7 y8 y9
  have y := HS2.out.b1
  have y0 := y.cell 0
  have y1 := y.cell 1
  have y2 := y.cell 2
  have y3 := y.cell 3
  have y4 := y.cell 4
  have y5 := y.cell 5
  have y6 := y.cell 6
  have y7 := y.cell 7
  have y8 := y.cell 8
  have y9 := y.cell 9
  simp only [List.getElem?_toArray, List.getElem?_cons_succ, List.getElem?_cons_zero] at y0 y1 y2 y3 y4 y5 y6 y7 y8 y9
  clear y
  go_wp2_with fail
  refine Calls.mono (html_blk (n := 1) paraB does_para (fun k => k < w.heap.size + 7) _ HS2.out.para (fun k hk => by have := HS2.out.sz; omega) HP2.out (by decide)) ?_
  rintro e w3 ⟨rfl, b3⟩
  rw [show (outs 1).blk paraB = [60, 112, 62, 97, 60, 47, 112, 62, 10] from ex_para]
  have HS3 := Lib.hid (HS2.out.later b3)
  clear b3 y0 y1 y2 y3 y4 y5 y6 y7 y8 y9
  go_wp2
  go_ret
  exact ⟨rfl, HS3.out.bl⟩
end Go.Proofs.YtibaoocklempnaaGreatDoor
