/- lower.Inlines: inlines as HTML. -/
import Derived.Test.YtibaoocklempnaaGreatDoorIImage
namespace Go.Proofs.YtibaoocklempnaaGreatDoor
open Go.RowKit

def inlK (kd : Nat) (tx dest title : ByteArray) (k p : List UInt8) : List UInt8 :=
  if kd = 1 then cat [cs (lowT tx.data.toList)]
  else if kd = 2 then cat [⟨#[60, 99, 111, 100, 101, 62]⟩, cs (lowT tx.data.toList), ⟨#[60, 47, 99, 111, 100, 101, 62]⟩]
  else if kd = 3 then aroundOut ⟨#[101, 109]⟩ k
  else if kd = 4 then aroundOut ⟨#[115, 116, 114, 111, 110, 103]⟩ k
  else if kd = 5 then linkOut dest title k
  else if kd = 6 then imageOut dest title p
  else if kd = 7 then cat [tx]
  else if kd = 8 then cat [⟨#[10]⟩]
  else if kd = 9 then cat [⟨#[60, 98, 114, 32, 47, 62, 10]⟩]
  else []
theorem inl1_K {K : Type} (f p : K → List UInt8) (x : InlD K) : inl1 f p x = inlK x.kind x.text x.dest x.title (f x.kids) (p x.kids) := rfl
theorem KidC.on {v : Value} {kout : List UInt8} {w w' : World} {B b : Nat} (h : KidC v kout w B b) (hb : Below B w w') : KidC v kout w' B b := fun wr acc h1 h2 h3 => h wr acc h1 (hb.trans h2) h3
theorem PlC.on {v : Value} {pout : List UInt8} {w w' : World} {B : Nat} (h : PlC v pout w B) (hb : Below B w w') : PlC v pout w' B := fun wr h2 => h wr (hb.trans h2)

theorem puts_at (B b g : Nat) (acc : List UInt8) (ss : List ByteArray) (w : World) (hg : g = w.heap.size) (hB : Bld 83 B b acc w) (hn : ss.length ≤ 1000) (hlen : acc.length + (cat ss).length ≤ 140737488355328) :
    Calls Tryz.prog 101 #[.pointer (some ⟨b, 0, none⟩), .slice (some ⟨g, 0, none⟩) ss.length ss.length] (w.alloc (.cells (ss.map Value.string).toArray 9)) (WrR w B b (acc ++ cat ss)) := by
  subst hg
  exact puts_new B b acc ss w hB hn hlen

set_option maxHeartbeats 1000000 in
set_option maxRecDepth 100000 in
theorem inline_1 (B b : Nat) (acc : List UInt8) (tx dest title : ByteArray) (A : Option Addr) (m c : Nat) (w : World) (hB : Bld 83 B b acc w)
    (hx : tx.size ≤ 10000000) (hlen : acc.length + (cat [cs (lowT tx.data.toList)]).length ≤ 1000000000000) :
    Calls Tryz.prog 93 #[.pointer (some ⟨b, 0, none⟩), .agg #[.int .u8 (1 : Nat), .string tx, .string dest, .string title, .slice A m c]] w (WrR w B b (acc ++ cat [cs (lowT tx.data.toList)])) := by
  have hb := hB.lt
  have hBw : B ≤ w.heap.size := Nat.le_trans hB.le (Nat.le_of_lt hB.lt)
  have HBD := Lib.hid (hB.alloc (.cells #[.int .u8 (1 : Nat), .string tx, .string dest, .string title, .slice A m c] 80))
  have hbl : Below B w (w.alloc (.cells #[.int .u8 (1 : Nat), .string tx, .string dest, .string title, .slice A m c] 80)) := (Below.refl B w).alloc hBw _
  have hkp : Kept b w (w.alloc (.cells #[.int .u8 (1 : Nat), .string tx, .string dest, .string title, .slice A m c] 80)) := (Kept.refl b w).alloc _
  have HBL := Lib.hid hbl
  have HKP := Lib.hid hkp
  clear hB hbl hkp
  have HL := Lib.hid hlen
  clear hlen
  go_enter Tryz.func93, Tryz.ntmps93
  go_wp2_with fail
  refine Calls.mono (lowText_any tx _ (by omega)) ?_
  rintro e w1 ⟨rfl, b1⟩
  have hz := b1.size
  simp only [World.size_alloc] at hz
  have HB1 := Lib.hid b1
  clear b1
  go_wp2_with fail
  refine Calls.mono (puts_new B b acc [cs (lowT tx.data.toList)] w1 (HBD.out.below HB1.out) (by simp) (by have := HL.out; omega)) ?_
  rintro e w2 ⟨rfl, h2, b2, k2⟩
  have H2 := Lib.hid h2
  have HB2 := Lib.hid b2
  have HK2 := Lib.hid k2
  clear h2 b2 k2
  go_wp2
  go_end0
  exact ⟨rfl, H2.out, (HBL.out.trans (HB1.out.mono (by simp; omega))).trans HB2.out, (HKP.out.trans (Kept.of_below HB1.out)).trans HK2.out⟩

set_option maxHeartbeats 1000000 in
set_option maxRecDepth 100000 in
theorem inline_2 (B b : Nat) (acc : List UInt8) (tx dest title : ByteArray) (A : Option Addr) (m c : Nat) (w : World) (hB : Bld 83 B b acc w)
    (hx : tx.size ≤ 10000000) (hlen : acc.length + (cat [⟨#[60, 99, 111, 100, 101, 62]⟩, cs (lowT tx.data.toList), ⟨#[60, 47, 99, 111, 100, 101, 62]⟩]).length ≤ 1000000000000) :
    Calls Tryz.prog 93 #[.pointer (some ⟨b, 0, none⟩), .agg #[.int .u8 (2 : Nat), .string tx, .string dest, .string title, .slice A m c]] w (WrR w B b (acc ++ cat [⟨#[60, 99, 111, 100, 101, 62]⟩, cs (lowT tx.data.toList), ⟨#[60, 47, 99, 111, 100, 101, 62]⟩])) := by
  have hb := hB.lt
  have hBw : B ≤ w.heap.size := Nat.le_trans hB.le (Nat.le_of_lt hB.lt)
  have HBD := Lib.hid (hB.alloc (.cells #[.int .u8 (2 : Nat), .string tx, .string dest, .string title, .slice A m c] 80))
  have hbl : Below B w (w.alloc (.cells #[.int .u8 (2 : Nat), .string tx, .string dest, .string title, .slice A m c] 80)) := (Below.refl B w).alloc hBw _
  have hkp : Kept b w (w.alloc (.cells #[.int .u8 (2 : Nat), .string tx, .string dest, .string title, .slice A m c] 80)) := (Kept.refl b w).alloc _
  have HBL := Lib.hid hbl
  have HKP := Lib.hid hkp
  clear hB hbl hkp
  have HL := Lib.hid hlen
  clear hlen
  go_enter Tryz.func93, Tryz.ntmps93
  go_wp2_with fail
  refine Calls.mono (lowText_any tx _ (by omega)) ?_
  rintro e w1 ⟨rfl, b1⟩
  have hz := b1.size
  simp only [World.size_alloc] at hz
  have HB1 := Lib.hid b1
  clear b1
  go_wp2_with fail
  refine Calls.mono (puts_new B b acc [⟨#[60, 99, 111, 100, 101, 62]⟩, cs (lowT tx.data.toList), ⟨#[60, 47, 99, 111, 100, 101, 62]⟩] w1 (HBD.out.below HB1.out) (by simp) (by have := HL.out; omega)) ?_
  rintro e w2 ⟨rfl, h2, b2, k2⟩
  have H2 := Lib.hid h2
  have HB2 := Lib.hid b2
  have HK2 := Lib.hid k2
  clear h2 b2 k2
  go_wp2
  go_end0
  exact ⟨rfl, H2.out, (HBL.out.trans (HB1.out.mono (by simp; omega))).trans HB2.out, (HKP.out.trans (Kept.of_below HB1.out)).trans HK2.out⟩

set_option maxHeartbeats 1000000 in
set_option maxRecDepth 100000 in
theorem inline_3 (B b : Nat) (acc kout : List UInt8) (tx dest title : ByteArray) (A : Option Addr) (m c : Nat) (w : World) (hB : Bld 83 B b acc w) (hk : KidC (.slice A m c) kout w B b)
    (hlen : acc.length + (aroundOut ⟨#[101, 109]⟩ kout).length ≤ 1000000000000) :
    Calls Tryz.prog 93 #[.pointer (some ⟨b, 0, none⟩), .agg #[.int .u8 (3 : Nat), .string tx, .string dest, .string title, .slice A m c]] w (WrR w B b (acc ++ aroundOut ⟨#[101, 109]⟩ kout)) := by
  have hb := hB.lt
  have hBw : B ≤ w.heap.size := Nat.le_trans hB.le (Nat.le_of_lt hB.lt)
  have HBD := Lib.hid (hB.alloc (.cells #[.int .u8 (3 : Nat), .string tx, .string dest, .string title, .slice A m c] 80))
  have hbl : Below B w (w.alloc (.cells #[.int .u8 (3 : Nat), .string tx, .string dest, .string title, .slice A m c] 80)) := (Below.refl B w).alloc hBw _
  have hkp : Kept b w (w.alloc (.cells #[.int .u8 (3 : Nat), .string tx, .string dest, .string title, .slice A m c] 80)) := (Kept.refl b w).alloc _
  have HK := Lib.hid (hk.on hbl)
  have HBL := Lib.hid hbl
  have HKP := Lib.hid hkp
  clear hB hk hbl hkp
  have HL := Lib.hid hlen
  clear hlen
  go_enter Tryz.func93, Tryz.ntmps93
  go_wp2_with fail
  refine Calls.mono (around_any B b acc kout ⟨#[101, 109]⟩ A m c _ HBD.out HK.out HL.out) ?_
  rintro e w2 ⟨rfl, h2, b2, k2⟩
  have H2 := Lib.hid h2
  have HB2 := Lib.hid b2
  have HK2 := Lib.hid k2
  clear h2 b2 k2
  go_wp2
  go_end0
  exact ⟨rfl, H2.out, HBL.out.trans HB2.out, HKP.out.trans HK2.out⟩

set_option maxHeartbeats 1000000 in
set_option maxRecDepth 100000 in
theorem inline_4 (B b : Nat) (acc kout : List UInt8) (tx dest title : ByteArray) (A : Option Addr) (m c : Nat) (w : World) (hB : Bld 83 B b acc w) (hk : KidC (.slice A m c) kout w B b)
    (hlen : acc.length + (aroundOut ⟨#[115, 116, 114, 111, 110, 103]⟩ kout).length ≤ 1000000000000) :
    Calls Tryz.prog 93 #[.pointer (some ⟨b, 0, none⟩), .agg #[.int .u8 (4 : Nat), .string tx, .string dest, .string title, .slice A m c]] w (WrR w B b (acc ++ aroundOut ⟨#[115, 116, 114, 111, 110, 103]⟩ kout)) := by
  have hb := hB.lt
  have hBw : B ≤ w.heap.size := Nat.le_trans hB.le (Nat.le_of_lt hB.lt)
  have HBD := Lib.hid (hB.alloc (.cells #[.int .u8 (4 : Nat), .string tx, .string dest, .string title, .slice A m c] 80))
  have hbl : Below B w (w.alloc (.cells #[.int .u8 (4 : Nat), .string tx, .string dest, .string title, .slice A m c] 80)) := (Below.refl B w).alloc hBw _
  have hkp : Kept b w (w.alloc (.cells #[.int .u8 (4 : Nat), .string tx, .string dest, .string title, .slice A m c] 80)) := (Kept.refl b w).alloc _
  have HK := Lib.hid (hk.on hbl)
  have HBL := Lib.hid hbl
  have HKP := Lib.hid hkp
  clear hB hk hbl hkp
  have HL := Lib.hid hlen
  clear hlen
  go_enter Tryz.func93, Tryz.ntmps93
  go_wp2_with fail
  refine Calls.mono (around_any B b acc kout ⟨#[115, 116, 114, 111, 110, 103]⟩ A m c _ HBD.out HK.out HL.out) ?_
  rintro e w2 ⟨rfl, h2, b2, k2⟩
  have H2 := Lib.hid h2
  have HB2 := Lib.hid b2
  have HK2 := Lib.hid k2
  clear h2 b2 k2
  go_wp2
  go_end0
  exact ⟨rfl, H2.out, HBL.out.trans HB2.out, HKP.out.trans HK2.out⟩

set_option maxHeartbeats 1000000 in
set_option maxRecDepth 100000 in
theorem inline_5 (B b : Nat) (acc kout : List UInt8) (tx dest title : ByteArray) (A : Option Addr) (m c : Nat) (w : World) (hB : Bld 83 B b acc w) (hk : KidC (.slice A m c) kout w B b)
    (hd : dest.size ≤ 10000000) (ht : title.size ≤ 10000000) (hlen : acc.length + (linkOut dest title kout).length ≤ 1000000000000) :
    Calls Tryz.prog 93 #[.pointer (some ⟨b, 0, none⟩), .agg #[.int .u8 (5 : Nat), .string tx, .string dest, .string title, .slice A m c]] w (WrR w B b (acc ++ linkOut dest title kout)) := by
  have hb := hB.lt
  have hBw : B ≤ w.heap.size := Nat.le_trans hB.le (Nat.le_of_lt hB.lt)
  have HBD := Lib.hid (hB.alloc (.cells #[.int .u8 (5 : Nat), .string tx, .string dest, .string title, .slice A m c] 80))
  have hbl : Below B w (w.alloc (.cells #[.int .u8 (5 : Nat), .string tx, .string dest, .string title, .slice A m c] 80)) := (Below.refl B w).alloc hBw _
  have hkp : Kept b w (w.alloc (.cells #[.int .u8 (5 : Nat), .string tx, .string dest, .string title, .slice A m c] 80)) := (Kept.refl b w).alloc _
  have HK := Lib.hid (hk.on hbl)
  have HBL := Lib.hid hbl
  have HKP := Lib.hid hkp
  clear hB hk hbl hkp
  have HL := Lib.hid hlen
  clear hlen
  go_enter Tryz.func93, Tryz.ntmps93
  go_wp2_with fail
  refine Calls.mono (link_any B b acc kout _ tx dest title A m c _ HBD.out HK.out hd ht HL.out) ?_
  rintro e w2 ⟨rfl, h2, b2, k2⟩
  have H2 := Lib.hid h2
  have HB2 := Lib.hid b2
  have HK2 := Lib.hid k2
  clear h2 b2 k2
  go_wp2
  go_end0
  exact ⟨rfl, H2.out, HBL.out.trans HB2.out, HKP.out.trans HK2.out⟩

set_option maxHeartbeats 1000000 in
set_option maxRecDepth 100000 in
theorem inline_6 (B b : Nat) (acc pout : List UInt8) (tx dest title : ByteArray) (A : Option Addr) (m c : Nat) (w : World) (hB : Bld 83 B b acc w) (hp : PlC (.slice A m c) pout w B)
    (hd : dest.size ≤ 10000000) (ht : title.size ≤ 10000000) (hpl : pout.length ≤ 10000000) (hlen : acc.length + (imageOut dest title pout).length ≤ 1000000000000) :
    Calls Tryz.prog 93 #[.pointer (some ⟨b, 0, none⟩), .agg #[.int .u8 (6 : Nat), .string tx, .string dest, .string title, .slice A m c]] w (WrR w B b (acc ++ imageOut dest title pout)) := by
  have hb := hB.lt
  have hBw : B ≤ w.heap.size := Nat.le_trans hB.le (Nat.le_of_lt hB.lt)
  have HBD := Lib.hid (hB.alloc (.cells #[.int .u8 (6 : Nat), .string tx, .string dest, .string title, .slice A m c] 80))
  have hbl : Below B w (w.alloc (.cells #[.int .u8 (6 : Nat), .string tx, .string dest, .string title, .slice A m c] 80)) := (Below.refl B w).alloc hBw _
  have hkp : Kept b w (w.alloc (.cells #[.int .u8 (6 : Nat), .string tx, .string dest, .string title, .slice A m c] 80)) := (Kept.refl b w).alloc _
  have HP := Lib.hid (hp.on hbl)
  have HBL := Lib.hid hbl
  have HKP := Lib.hid hkp
  clear hB hp hbl hkp
  have HL := Lib.hid hlen
  clear hlen
  go_enter Tryz.func93, Tryz.ntmps93
  go_wp2_with fail
  refine Calls.mono (image_any B b acc pout _ tx dest title A m c _ HBD.out HP.out hd ht hpl HL.out) ?_
  rintro e w2 ⟨rfl, h2, b2, k2⟩
  have H2 := Lib.hid h2
  have HB2 := Lib.hid b2
  have HK2 := Lib.hid k2
  clear h2 b2 k2
  go_wp2
  go_end0
  exact ⟨rfl, H2.out, HBL.out.trans HB2.out, HKP.out.trans HK2.out⟩

set_option maxHeartbeats 1000000 in
set_option maxRecDepth 100000 in
theorem inline_7 (B b : Nat) (acc : List UInt8) (tx dest title : ByteArray) (A : Option Addr) (m c : Nat) (w : World) (hB : Bld 83 B b acc w)
    (hlen : acc.length + (cat [tx]).length ≤ 1000000000000) :
    Calls Tryz.prog 93 #[.pointer (some ⟨b, 0, none⟩), .agg #[.int .u8 (7 : Nat), .string tx, .string dest, .string title, .slice A m c]] w (WrR w B b (acc ++ cat [tx])) := by
  have hb := hB.lt
  have hBw : B ≤ w.heap.size := Nat.le_trans hB.le (Nat.le_of_lt hB.lt)
  have HBD := Lib.hid (hB.alloc (.cells #[.int .u8 (7 : Nat), .string tx, .string dest, .string title, .slice A m c] 80))
  have hbl : Below B w (w.alloc (.cells #[.int .u8 (7 : Nat), .string tx, .string dest, .string title, .slice A m c] 80)) := (Below.refl B w).alloc hBw _
  have hkp : Kept b w (w.alloc (.cells #[.int .u8 (7 : Nat), .string tx, .string dest, .string title, .slice A m c] 80)) := (Kept.refl b w).alloc _
  have HBL := Lib.hid hbl
  have HKP := Lib.hid hkp
  clear hB hbl hkp
  have HL := Lib.hid hlen
  clear hlen
  go_enter Tryz.func93, Tryz.ntmps93
  go_wp2_with fail
  refine Calls.mono (puts_at B b (w.heap.size + 1) acc [tx] _ (by simp) HBD.out (by simp) (by have := HL.out; omega)) ?_
  rintro e w2 ⟨rfl, h2, b2, k2⟩
  have H2 := Lib.hid h2
  have HB2 := Lib.hid b2
  have HK2 := Lib.hid k2
  clear h2 b2 k2
  go_wp2
  go_end0
  exact ⟨rfl, H2.out, HBL.out.trans HB2.out, HKP.out.trans HK2.out⟩

set_option maxHeartbeats 1000000 in
set_option maxRecDepth 100000 in
theorem inline_8 (B b : Nat) (acc : List UInt8) (tx dest title : ByteArray) (A : Option Addr) (m c : Nat) (w : World) (hB : Bld 83 B b acc w)
    (hlen : acc.length + (cat [⟨#[10]⟩]).length ≤ 1000000000000) :
    Calls Tryz.prog 93 #[.pointer (some ⟨b, 0, none⟩), .agg #[.int .u8 (8 : Nat), .string tx, .string dest, .string title, .slice A m c]] w (WrR w B b (acc ++ cat [⟨#[10]⟩])) := by
  have hb := hB.lt
  have hBw : B ≤ w.heap.size := Nat.le_trans hB.le (Nat.le_of_lt hB.lt)
  have HBD := Lib.hid (hB.alloc (.cells #[.int .u8 (8 : Nat), .string tx, .string dest, .string title, .slice A m c] 80))
  have hbl : Below B w (w.alloc (.cells #[.int .u8 (8 : Nat), .string tx, .string dest, .string title, .slice A m c] 80)) := (Below.refl B w).alloc hBw _
  have hkp : Kept b w (w.alloc (.cells #[.int .u8 (8 : Nat), .string tx, .string dest, .string title, .slice A m c] 80)) := (Kept.refl b w).alloc _
  have HBL := Lib.hid hbl
  have HKP := Lib.hid hkp
  clear hB hbl hkp
  have HL := Lib.hid hlen
  clear hlen
  go_enter Tryz.func93, Tryz.ntmps93
  go_wp2_with fail
  refine Calls.mono (puts_at B b (w.heap.size + 1) acc [⟨#[10]⟩] _ (by simp) HBD.out (by simp) (by have := HL.out; omega)) ?_
  rintro e w2 ⟨rfl, h2, b2, k2⟩
  have H2 := Lib.hid h2
  have HB2 := Lib.hid b2
  have HK2 := Lib.hid k2
  clear h2 b2 k2
  go_wp2
  go_end0
  exact ⟨rfl, H2.out, HBL.out.trans HB2.out, HKP.out.trans HK2.out⟩

set_option maxHeartbeats 1000000 in
set_option maxRecDepth 100000 in
theorem inline_9 (B b : Nat) (acc : List UInt8) (tx dest title : ByteArray) (A : Option Addr) (m c : Nat) (w : World) (hB : Bld 83 B b acc w)
    (hlen : acc.length + (cat [⟨#[60, 98, 114, 32, 47, 62, 10]⟩]).length ≤ 1000000000000) :
    Calls Tryz.prog 93 #[.pointer (some ⟨b, 0, none⟩), .agg #[.int .u8 (9 : Nat), .string tx, .string dest, .string title, .slice A m c]] w (WrR w B b (acc ++ cat [⟨#[60, 98, 114, 32, 47, 62, 10]⟩])) := by
  have hb := hB.lt
  have hBw : B ≤ w.heap.size := Nat.le_trans hB.le (Nat.le_of_lt hB.lt)
  have HBD := Lib.hid (hB.alloc (.cells #[.int .u8 (9 : Nat), .string tx, .string dest, .string title, .slice A m c] 80))
  have hbl : Below B w (w.alloc (.cells #[.int .u8 (9 : Nat), .string tx, .string dest, .string title, .slice A m c] 80)) := (Below.refl B w).alloc hBw _
  have hkp : Kept b w (w.alloc (.cells #[.int .u8 (9 : Nat), .string tx, .string dest, .string title, .slice A m c] 80)) := (Kept.refl b w).alloc _
  have HBL := Lib.hid hbl
  have HKP := Lib.hid hkp
  clear hB hbl hkp
  have HL := Lib.hid hlen
  clear hlen
  go_enter Tryz.func93, Tryz.ntmps93
  go_wp2_with fail
  refine Calls.mono (puts_at B b (w.heap.size + 1) acc [⟨#[60, 98, 114, 32, 47, 62, 10]⟩] _ (by simp) HBD.out (by simp) (by have := HL.out; omega)) ?_
  rintro e w2 ⟨rfl, h2, b2, k2⟩
  have H2 := Lib.hid h2
  have HB2 := Lib.hid b2
  have HK2 := Lib.hid k2
  clear h2 b2 k2
  go_wp2
  go_end0
  exact ⟨rfl, H2.out, HBL.out.trans HB2.out, HKP.out.trans HK2.out⟩
end Go.Proofs.YtibaoocklempnaaGreatDoor
