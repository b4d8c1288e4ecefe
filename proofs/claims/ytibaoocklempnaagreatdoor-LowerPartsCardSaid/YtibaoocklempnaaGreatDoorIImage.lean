/- lower's writer: an image. -/
import Derived.Test.YtibaoocklempnaaGreatDoorIWrite
import Derived.Deep.DeepCutAuto
import Derived.Deep.RegionWith
namespace Go.Proofs.YtibaoocklempnaaGreatDoor
open Go.RowKit

/-- What is asked of the inlines within an image: they say pout. -/
def PlC (v : Value) (pout : List UInt8) (w : World) (B : Nat) : Prop :=
  ∀ wr : World, Below B w wr → Calls Tryz.prog 30 #[v] wr fun e w' => e = .returned (.string ⟨pout.toArray⟩) ∧ Below wr.heap.size wr w'

set_option maxHeartbeats 4000000 in
set_option maxRecDepth 100000 in
theorem image_any (B b : Nat) (acc pout : List UInt8) (kd : Int) (tx dest title : ByteArray) (A : Option Addr) (m c : Nat) (w : World) (hB : Bld 83 B b acc w) (hk : PlC (.slice A m c) pout w B)
    (hd : dest.size ≤ 10000000) (ht : title.size ≤ 10000000) (hp : pout.length ≤ 10000000) (hlen : acc.length + (imageOut dest title pout).length ≤ 1000000000000) :
    Calls Tryz.prog 119 #[.pointer (some ⟨b, 0, none⟩), .agg #[.int .u8 kd, .string tx, .string dest, .string title, .slice A m c]] w (WrR w B b (acc ++ imageOut dest title pout)) := by
  have hb := hB.lt
  have hBw : B ≤ w.heap.size := Nat.le_trans hB.le (Nat.le_of_lt hB.lt)
  obtain ⟨T, hT⟩ : ∃ T, cs (escape dest.data.toList) = T := ⟨_, rfl⟩
  obtain ⟨P, hP⟩ : ∃ P, cs pout = P := ⟨_, rfl⟩
  have hTl : T.data.toList = escape dest.data.toList := by rw [← hT]; rfl
  have hPl : P.data.toList = pout := by rw [← hP]; rfl
  have hTs : T.size ≤ 30000000 := by
    have := escape_le dest.data.toList
    rw [← len_list, hTl]
    rw [len_list] at this
    omega
  have hPs : P.size ≤ 10000000 := by rw [← len_list, hPl]; exact hp
  have hl : acc.length + ((cat [⟨#[60, 105, 109, 103, 32, 115, 114, 99, 61, 34]⟩, cs (lowT T.data.toList), ⟨#[34, 32, 97, 108, 116, 61, 34]⟩, cs (lowT P.data.toList), ⟨#[34]⟩]).length + (titleOut title).length + (cat [⟨#[32, 47, 62]⟩]).length) ≤ 1000000000000 := by
    unfold imageOut at hlen
    rw [← hTl, ← hPl] at hlen
    rw [List.length_append, List.length_append] at hlen
    exact hlen
  have HBX := Lib.hid (Box.new w 80 #[.int .u8 kd, .string tx, .string dest, .string title, .slice A m c])
  have HB := Lib.hid hB
  have HK := Lib.hid hk
  have HL := Lib.hid hl
  have HTL := Lib.hid hTl
  have HPL := Lib.hid hPl
  have HT := Lib.hid (show (⟨(escape dest.data.toList).toArray⟩ : ByteArray) = T from hT)
  have HP := Lib.hid (show (⟨pout.toArray⟩ : ByteArray) = P from hP)
  clear hB hk hlen hl hTl hT hPl hP hp
  go_enter Tryz.func119, Tryz.ntmps119
  go_upto_region 1 with fail
  go_cut [] (fun w1 => Bld 83 B b (acc ++ cat [⟨#[60, 105, 109, 103, 32, 115, 114, 99, 61, 34]⟩, cs (lowT T.data.toList), ⟨#[34, 32, 97, 108, 116, 61, 34]⟩, cs (lowT P.data.toList), ⟨#[34]⟩]) w1 ∧ Below B w w1 ∧ Kept b (w.alloc (.cells #[.int .u8 kd, .string tx, .string dest, .string title, .slice A m c] 80)) w1)
  case first =>
    go_region_with (first
      | (go_at_call 20
         refine Calls.mono (escape_any dest _ (by omega)) ?_
         rintro e w1 ⟨rfl, b1⟩
         have hz1 : w.heap.size + 1 ≤ w1.heap.size := by
           have hq := b1.size
           simpa using hq
         have hbx1 := (show Box (World.drew (w.alloc (.cells #[.int .u8 kd, .string tx, .string dest, .string title, .slice A m c] 80))) w.heap.size 80 _ from HBX.out).below b1 (by show w.heap.size < (w.alloc _).heap.size; simp)
         have x14 := hbx1.cell 4
         simp only [List.getElem?_toArray, List.getElem?_cons_succ, List.getElem?_cons_zero] at x14
         have HBX1 := Lib.hid hbx1
         have HB1 := Lib.hid b1
         clear b1 hbx1
         rw [HT.out])
      | (go_at_call_of 33 T
         refine Calls.mono (lowText_any T _ (by omega)) ?_
         rintro e w2 ⟨rfl, b2⟩
         have hz2 := b2.size
         have hbx2 := HBX1.out.below b2 (by omega)
         have x24 := hbx2.cell 4
         simp only [List.getElem?_toArray, List.getElem?_cons_succ, List.getElem?_cons_zero] at x24
         have hbl2 : Below B w w2 := (((Below.refl B w).alloc hBw _).drew.trans (HB1.out.mono (by simp; omega))).trans (b2.mono (by omega))
         have hkp2 : Kept b (w.alloc (.cells #[.int .u8 kd, .string tx, .string dest, .string title, .slice A m c] 80)) w2 := (Kept.refl _ _).drew.trans ((Kept.of_below HB1.out).trans (Kept.of_below b2))
         have hbd2 := (((HB.out.alloc _).drew).below HB1.out).below b2
         have HBL2 := Lib.hid hbl2
         have HKP2 := Lib.hid hkp2
         have HBD2 := Lib.hid hbd2
         clear b2 hbx2 hbl2 hkp2 hbd2)
      | (go_at_call 30
         refine Calls.mono (HK.out _ HBL2.out) ?_
         rintro e w3 ⟨rfl, b3⟩
         have hz3 := b3.size
         have HB3 := Lib.hid b3
         clear b3
         rw [HP.out])
      | (go_at_call_of 33 P
         refine Calls.mono (lowText_any P _ (by omega)) ?_
         rintro e w4 ⟨rfl, b4⟩
         have hz4 := b4.size
         have HB4 := Lib.hid b4
         clear b4)
      | (go_at_call 101
         refine Calls.mono (puts_new B b acc [⟨#[60, 105, 109, 103, 32, 115, 114, 99, 61, 34]⟩, cs (lowT T.data.toList), ⟨#[34, 32, 97, 108, 116, 61, 34]⟩, cs (lowT P.data.toList), ⟨#[34]⟩] _ ((HBD2.out.below HB3.out).below HB4.out) (by simp) (by have := HL.out; omega)) ?_
         rintro e w5 ⟨rfl, h5, b5, k5⟩))
    all_goals
      go_wp2_with fail
      go_meet
      exact ⟨h5, ((HBL2.out.trans (HB3.out.mono (by omega))).trans (HB4.out.mono (by omega))).trans b5, (HKP2.out.trans ((Kept.of_below HB3.out).trans (Kept.of_below HB4.out))).trans k5⟩
  obtain ⟨h3, b3, k3⟩ := hcut
  obtain ⟨w3, rfl⟩ : ∃ w3 : World, w3 = wc := ⟨_, rfl⟩
  have hbx3 := Kept.box HBX.out k3 (by omega) (by decide)
  have x3 := hbx3.cell 3
  simp only [List.getElem?_toArray, List.getElem?_cons_succ, List.getElem?_cons_zero] at x3
  have HBD3 := Lib.hid h3
  have HBL3 := Lib.hid b3
  have HKP3 := Lib.hid (((Kept.refl b w).alloc _).trans k3)
  clear hbx3 h3 b3 k3
  go_wp2_with fail
  refine Calls.mono (title_any B b _ title w3 HBD3.out (by have := HL.out; have := titleOut_le title; rw [List.length_append]; omega)) ?_
  rintro e w4 ⟨rfl, h4, b4, k4⟩
  have HBD4 := Lib.hid h4
  have HBL4 := Lib.hid (HBL3.out.trans b4)
  have HKP4 := Lib.hid (HKP3.out.trans k4)
  clear h4 b4 k4 x3
  go_wp2_with fail
  refine Calls.mono (puts_new B b _ [⟨#[32, 47, 62]⟩] w4 HBD4.out (by simp) (by have := HL.out; rw [List.length_append, List.length_append]; omega)) ?_
  rintro e w5 ⟨rfl, h5, b5, k5⟩
  have HBD5 := Lib.hid h5
  have HBL5 := Lib.hid (HBL4.out.trans b5)
  have HKP5 := Lib.hid (HKP4.out.trans k5)
  clear h5 b5 k5
  go_wp2
  go_end0
  refine ⟨rfl, ?_, HBL5.out, HKP5.out⟩
  have h := HBD5.out
  unfold imageOut
  rw [← HTL.out, ← HPL.out]
  simpa only [List.append_assoc] using h
end Go.Proofs.YtibaoocklempnaaGreatDoor
