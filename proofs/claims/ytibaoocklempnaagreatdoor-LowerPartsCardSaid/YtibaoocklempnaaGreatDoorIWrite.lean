/- lower's writer: a name around inlines, a link. -/
import Derived.Test.YtibaoocklempnaaGreatDoorIOut
namespace Go.Proofs.YtibaoocklempnaaGreatDoor
open Go.RowKit

/-- What is asked of the inlines within: they write kout. -/
def KidC (v : Value) (kout : List UInt8) (w : World) (B b : Nat) : Prop :=
  ∀ (wr : World) (acc : List UInt8), Bld 83 B b acc wr → Below B w wr → acc.length + kout.length ≤ 1000000000000 → Calls Tryz.prog 64 #[.pointer (some ⟨b, 0, none⟩), v] wr (WrR wr B b (acc ++ kout))

set_option maxHeartbeats 1000000 in
set_option maxRecDepth 100000 in
theorem around_any (B b : Nat) (acc kout : List UInt8) (name : ByteArray) (A : Option Addr) (m c : Nat) (w : World) (hB : Bld 83 B b acc w) (hk : KidC (.slice A m c) kout w B b) (hlen : acc.length + (aroundOut name kout).length ≤ 1000000000000) :
    Calls Tryz.prog 117 #[.pointer (some ⟨b, 0, none⟩), .string name, .slice A m c] w (WrR w B b (acc ++ aroundOut name kout)) := by
  have hl : acc.length + ((cat [⟨#[60]⟩, name, ⟨#[62]⟩]).length + kout.length + (cat [⟨#[60, 47]⟩, name, ⟨#[62]⟩]).length) ≤ 1000000000000 := by
    unfold aroundOut at hlen
    rw [List.length_append, List.length_append] at hlen
    exact hlen
  have HB := Lib.hid hB
  have HK := Lib.hid hk
  have HL := Lib.hid hl
  clear hB hk hlen hl
  go_enter Tryz.func117, Tryz.ntmps117
  go_wp2_with fail
  refine Calls.mono (puts_new B b acc [⟨#[60]⟩, name, ⟨#[62]⟩] w HB.out (by simp) (by have := HL.out; omega)) ?_
  rintro e w1 ⟨rfl, h1, b1, k1⟩
  have H1 := Lib.hid h1
  have HB1 := Lib.hid b1
  have HK1 := Lib.hid k1
  clear h1 b1 k1
  go_wp2_with fail
  refine Calls.mono (HK.out w1 _ H1.out HB1.out (by have := HL.out; rw [List.length_append]; omega)) ?_
  rintro e w2 ⟨rfl, h2, b2, k2⟩
  have H2 := Lib.hid h2
  have HB2 := Lib.hid b2
  have HK2 := Lib.hid k2
  clear h2 b2 k2
  go_wp2_with fail
  refine Calls.mono (puts_new B b _ [⟨#[60, 47]⟩, name, ⟨#[62]⟩] w2 H2.out (by simp) (by have := HL.out; rw [List.length_append, List.length_append]; omega)) ?_
  rintro e w3 ⟨rfl, h3, b3, k3⟩
  have H3 := Lib.hid h3
  have HB3 := Lib.hid b3
  have HK3 := Lib.hid k3
  clear h3 b3 k3
  go_wp2
  go_end0
  refine ⟨rfl, ?_, HB1.out.trans (HB2.out.trans HB3.out), HK1.out.trans (HK2.out.trans HK3.out)⟩
  have h := H3.out
  unfold aroundOut
  simpa only [List.append_assoc] using h

set_option maxHeartbeats 4000000 in
set_option maxRecDepth 100000 in
theorem link_any (B b : Nat) (acc kout : List UInt8) (kd : Int) (tx dest title : ByteArray) (A : Option Addr) (m c : Nat) (w : World) (hB : Bld 83 B b acc w) (hk : KidC (.slice A m c) kout w B b)
    (hd : dest.size ≤ 10000000) (ht : title.size ≤ 10000000) (hlen : acc.length + (linkOut dest title kout).length ≤ 1000000000000) :
    Calls Tryz.prog 118 #[.pointer (some ⟨b, 0, none⟩), .agg #[.int .u8 kd, .string tx, .string dest, .string title, .slice A m c]] w (WrR w B b (acc ++ linkOut dest title kout)) := by
  have hb := hB.lt
  have hBw : B ≤ w.heap.size := Nat.le_trans hB.le (Nat.le_of_lt hB.lt)
  obtain ⟨T, hT⟩ : ∃ T, cs (escape dest.data.toList) = T := ⟨_, rfl⟩
  have hTl : T.data.toList = escape dest.data.toList := by rw [← hT]; rfl
  have hTs : T.size ≤ 30000000 := by
    have := escape_le dest.data.toList
    rw [← len_list, hTl]
    rw [len_list] at this
    omega
  have hl : acc.length + ((cat [⟨#[60, 97, 32, 104, 114, 101, 102, 61, 34]⟩, cs (lowT T.data.toList), ⟨#[34]⟩]).length + (titleOut title).length + (cat [⟨#[62]⟩]).length + kout.length + (cat [⟨#[60, 47, 97, 62]⟩]).length) ≤ 1000000000000 := by
    unfold linkOut at hlen
    rw [← hTl] at hlen
    rw [List.length_append, List.length_append, List.length_append, List.length_append] at hlen
    exact hlen
  have HBX := Lib.hid (Box.new w 80 #[.int .u8 kd, .string tx, .string dest, .string title, .slice A m c])
  have HB := Lib.hid hB
  have HK := Lib.hid hk
  have HL := Lib.hid hl
  have HTL := Lib.hid hTl
  have HT := Lib.hid hT
  clear hB hk hlen hl hTl hT
  go_enter Tryz.func118, Tryz.ntmps118
  go_wp2_with fail
  refine Calls.mono (escape_any dest _ (by omega)) ?_
  rintro e w1 ⟨rfl, b1⟩
  have hz1 := b1.size
  simp only [World.size_alloc] at hz1
  have HB1 := Lib.hid b1
  clear b1
  rw [show (⟨(escape dest.data.toList).toArray⟩ : ByteArray) = T from HT.out]
  go_wp2_with fail
  refine Calls.mono (lowText_any T _ (by omega)) ?_
  rintro e w2 ⟨rfl, b2⟩
  have hz2 := b2.size
  have HB2 := Lib.hid b2
  clear b2
  have hb2 : Bld 83 B b acc w2 := ((HB.out.alloc _).below HB1.out).below HB2.out
  have hbl2 : Below B w w2 := (((Below.refl B w).alloc hBw _).trans (HB1.out.mono (by simp; omega))).trans (HB2.out.mono (by omega))
  have hkp2 : Kept b w w2 := (((Kept.refl b w).alloc _).trans (Kept.of_below HB1.out)).trans (Kept.of_below HB2.out)
  have hbx2 := (HBX.out.below HB1.out (by simp)).below HB2.out (by omega)
  have HBD2 := Lib.hid hb2
  have HBL2 := Lib.hid hbl2
  have HKP2 := Lib.hid hkp2
  have HBX2 := Lib.hid hbx2
  clear hb2 hbl2 hkp2 hbx2
  go_wp2_with fail
  refine Calls.mono (puts_new B b acc [⟨#[60, 97, 32, 104, 114, 101, 102, 61, 34]⟩, cs (lowT T.data.toList), ⟨#[34]⟩] w2 HBD2.out (by simp) (by have := HL.out; omega)) ?_
  rintro e w3 ⟨rfl, h3, b3, k3⟩
  have hbx3 := Kept.box HBX2.out k3 (by omega) (by decide)
  have x3 := hbx3.cell 3
  simp only [List.getElem?_toArray, List.getElem?_cons_succ, List.getElem?_cons_zero] at x3
  have HBX3 := Lib.hid hbx3
  have HBD3 := Lib.hid h3
  have HBL3 := Lib.hid (HBL2.out.trans b3)
  have HKP3 := Lib.hid (HKP2.out.trans k3)
  clear hbx3 h3 b3 k3
  go_wp2_with fail
  refine Calls.mono (title_any B b _ title w3 HBD3.out (by have := HL.out; have := titleOut_le title; rw [List.length_append]; omega)) ?_
  rintro e w4 ⟨rfl, h4, b4, k4⟩
  have hbx4 := Kept.box HBX3.out k4 (by omega) (by decide)
  have HBX4 := Lib.hid hbx4
  have HBD4 := Lib.hid h4
  have HBL4 := Lib.hid (HBL3.out.trans b4)
  have HKP4 := Lib.hid (HKP3.out.trans k4)
  clear hbx4 h4 b4 k4 x3
  go_wp2_with fail
  refine Calls.mono (puts_new B b _ [⟨#[62]⟩] w4 HBD4.out (by simp) (by have := HL.out; rw [List.length_append, List.length_append]; omega)) ?_
  rintro e w5 ⟨rfl, h5, b5, k5⟩
  have hbx5 := Kept.box HBX4.out k5 (by omega) (by decide)
  have x4 := hbx5.cell 4
  simp only [List.getElem?_toArray, List.getElem?_cons_succ, List.getElem?_cons_zero] at x4
  have HBD5 := Lib.hid h5
  have HBL5 := Lib.hid (HBL4.out.trans b5)
  have HKP5 := Lib.hid (HKP4.out.trans k5)
  clear hbx5 h5 b5 k5
  go_wp2_with fail
  refine Calls.mono (HK.out w5 _ HBD5.out HBL5.out (by have := HL.out; rw [List.length_append, List.length_append, List.length_append]; omega)) ?_
  rintro e w6 ⟨rfl, h6, b6, k6⟩
  have HBD6 := Lib.hid h6
  have HBL6 := Lib.hid (HBL5.out.trans b6)
  have HKP6 := Lib.hid (HKP5.out.trans k6)
  clear h6 b6 k6 x4
  go_wp2_with fail
  refine Calls.mono (puts_new B b _ [⟨#[60, 47, 97, 62]⟩] w6 HBD6.out (by simp) (by have := HL.out; rw [List.length_append, List.length_append, List.length_append, List.length_append]; omega)) ?_
  rintro e w7 ⟨rfl, h7, b7, k7⟩
  have HBD7 := Lib.hid h7
  have HBL7 := Lib.hid (HBL6.out.trans b7)
  have HKP7 := Lib.hid (HKP6.out.trans k7)
  clear h7 b7 k7
  go_wp2
  go_end0
  refine ⟨rfl, ?_, HBL7.out, HKP7.out⟩
  have h := HBD7.out
  unfold linkOut
  rw [← HTL.out]
  simpa only [List.append_assoc] using h
end Go.Proofs.YtibaoocklempnaaGreatDoor
