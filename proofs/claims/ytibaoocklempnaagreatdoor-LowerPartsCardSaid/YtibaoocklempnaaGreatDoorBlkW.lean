/- lower's writer: a paragraph, a head, a quote, an item, a code. -/
import Derived.Test.YtibaoocklempnaaGreatDoorPow
namespace Go.Proofs.YtibaoocklempnaaGreatDoor
open Go.RowKit

/-- What is asked of the blocks within: they write kout. -/
def KidsC (v : Value) (kout : List UInt8) (w : World) (B b : Nat) : Prop :=
  ∀ (wr : World) (acc : List UInt8), Bld 83 B b acc wr → Below B w wr → acc.length + kout.length ≤ 1000000000000 → Calls Tryz.prog 94 #[.pointer (some ⟨b, 0, none⟩), v] wr (WrR wr B b (acc ++ kout))
theorem KidsC.on {v : Value} {kout : List UInt8} {w w' : World} {B b : Nat} (h : KidsC v kout w B b) (hb : Below B w w') : KidsC v kout w' B b := fun wr acc h1 h2 h3 => h wr acc h1 (hb.trans h2) h3

set_option maxHeartbeats 1000000 in
set_option maxRecDepth 100000 in
theorem para_any (B b : Nat) (acc io : List UInt8) (kd mk : Nat) (lv st : Int) (tg : Bool) (inf tx : ByteArray) (A1 A2 A3 : Option Addr) (m1 m2 m3 c1 c2 c3 : Nat) (w : World) (hB : Bld 83 B b acc w) (hk : KidC (.slice A3 m3 c3) io w B b) (hlen : acc.length + (paraOut io).length ≤ 1000000000000) :
    Calls Tryz.prog 98 #[.pointer (some ⟨b, 0, none⟩), .agg #[.int .u8 kd, .int .i64 lv, .int .u8 mk, .int .i64 st, .bool tg, .string inf, .string tx, .slice A1 m1 c1, .slice A2 m2 c2, .slice A3 m3 c3]] w (WrR w B b (acc ++ paraOut io)) := by
  have hBw : B ≤ w.heap.size := Nat.le_trans hB.le (Nat.le_of_lt hB.lt)
  have HBD := Lib.hid (hB.alloc (.cells #[.int .u8 kd, .int .i64 lv, .int .u8 mk, .int .i64 st, .bool tg, .string inf, .string tx, .slice A1 m1 c1, .slice A2 m2 c2, .slice A3 m3 c3] 41))
  have hbl : Below B w (w.alloc (.cells #[.int .u8 kd, .int .i64 lv, .int .u8 mk, .int .i64 st, .bool tg, .string inf, .string tx, .slice A1 m1 c1, .slice A2 m2 c2, .slice A3 m3 c3] 41)) := (Below.refl B w).alloc hBw _
  have hkp : Kept b w (w.alloc (.cells #[.int .u8 kd, .int .i64 lv, .int .u8 mk, .int .i64 st, .bool tg, .string inf, .string tx, .slice A1 m1 c1, .slice A2 m2 c2, .slice A3 m3 c3] 41)) := (Kept.refl b w).alloc _
  have hl : acc.length + ((aroundOut ⟨#[112]⟩ io).length + (cat [⟨#[10]⟩]).length) ≤ 1000000000000 := by
    unfold paraOut at hlen
    rw [List.length_append] at hlen
    exact hlen
  have HK := Lib.hid (hk.on hbl)
  have HBL := Lib.hid hbl
  have HKP := Lib.hid hkp
  have HL := Lib.hid hl
  clear hB hk hbl hkp hlen hl
  go_enter Tryz.func98, Tryz.ntmps98
  go_wp2_with fail
  refine Calls.mono (around_any B b acc io ⟨#[112]⟩ A3 m3 c3 _ HBD.out HK.out (by have := HL.out; omega)) ?_
  rintro e w1 ⟨rfl, h1, b1, k1⟩
  have H1 := Lib.hid h1
  have HB1 := Lib.hid b1
  have HK1 := Lib.hid k1
  clear h1 b1 k1
  go_wp2_with fail
  refine Calls.mono (puts_new B b _ [⟨#[10]⟩] w1 H1.out (by simp) (by have := HL.out; rw [List.length_append]; omega)) ?_
  rintro e w2 ⟨rfl, h2, b2, k2⟩
  have H2 := Lib.hid h2
  have HB2 := Lib.hid b2
  have HK2 := Lib.hid k2
  clear h2 b2 k2
  go_wp2
  go_end0
  refine ⟨rfl, ?_, HBL.out.trans (HB1.out.trans HB2.out), HKP.out.trans (HK1.out.trans HK2.out)⟩
  have h := H2.out
  unfold paraOut
  simpa only [List.append_assoc] using h

set_option maxHeartbeats 1000000 in
set_option maxRecDepth 100000 in
theorem quote_any (B b : Nat) (acc ko : List UInt8) (kd mk : Nat) (lv st : Int) (tg : Bool) (inf tx : ByteArray) (A1 A2 A3 : Option Addr) (m1 m2 m3 c1 c2 c3 : Nat) (w : World) (hB : Bld 83 B b acc w) (hk : KidsC (.slice A2 m2 c2) ko w B b) (hlen : acc.length + (quoteOut ko).length ≤ 1000000000000) :
    Calls Tryz.prog 95 #[.pointer (some ⟨b, 0, none⟩), .agg #[.int .u8 kd, .int .i64 lv, .int .u8 mk, .int .i64 st, .bool tg, .string inf, .string tx, .slice A1 m1 c1, .slice A2 m2 c2, .slice A3 m3 c3]] w (WrR w B b (acc ++ quoteOut ko)) := by
  have hb := hB.lt
  have hBw : B ≤ w.heap.size := Nat.le_trans hB.le (Nat.le_of_lt hB.lt)
  have HBX := Lib.hid (Box.new w 41 #[.int .u8 kd, .int .i64 lv, .int .u8 mk, .int .i64 st, .bool tg, .string inf, .string tx, .slice A1 m1 c1, .slice A2 m2 c2, .slice A3 m3 c3])
  have HBD := Lib.hid (hB.alloc (.cells #[.int .u8 kd, .int .i64 lv, .int .u8 mk, .int .i64 st, .bool tg, .string inf, .string tx, .slice A1 m1 c1, .slice A2 m2 c2, .slice A3 m3 c3] 41))
  have hbl : Below B w (w.alloc (.cells #[.int .u8 kd, .int .i64 lv, .int .u8 mk, .int .i64 st, .bool tg, .string inf, .string tx, .slice A1 m1 c1, .slice A2 m2 c2, .slice A3 m3 c3] 41)) := (Below.refl B w).alloc hBw _
  have hkp : Kept b w (w.alloc (.cells #[.int .u8 kd, .int .i64 lv, .int .u8 mk, .int .i64 st, .bool tg, .string inf, .string tx, .slice A1 m1 c1, .slice A2 m2 c2, .slice A3 m3 c3] 41)) := (Kept.refl b w).alloc _
  have hl : acc.length + ((cat [⟨#[60, 98, 108, 111, 99, 107, 113, 117, 111, 116, 101, 62, 10]⟩]).length + ko.length + (cat [⟨#[60, 47, 98, 108, 111, 99, 107, 113, 117, 111, 116, 101, 62, 10]⟩]).length) ≤ 1000000000000 := by
    unfold quoteOut at hlen
    rw [List.length_append, List.length_append] at hlen
    exact hlen
  have HK := Lib.hid (hk.on hbl)
  have HBL := Lib.hid hbl
  have HKP := Lib.hid hkp
  have HL := Lib.hid hl
  clear hB hk hbl hkp hlen hl
  go_enter Tryz.func95, Tryz.ntmps95
  go_wp2_with fail
  refine Calls.mono (puts_at B b _ acc [⟨#[60, 98, 108, 111, 99, 107, 113, 117, 111, 116, 101, 62, 10]⟩] _ (by simp) HBD.out (by simp) (by have := HL.out; omega)) ?_
  rintro e w1 ⟨rfl, h1, b1, k1⟩
  have hbx1 := Kept.box HBX.out k1 (by omega) (by decide)
  have x8 := hbx1.cell 8
  simp only [List.getElem?_toArray, List.getElem?_cons_succ, List.getElem?_cons_zero] at x8
  have H1 := Lib.hid h1
  have HB1 := Lib.hid b1
  have HK1 := Lib.hid k1
  clear h1 b1 k1 hbx1
  go_wp2_with fail
  refine Calls.mono (HK.out w1 _ H1.out HB1.out (by have := HL.out; rw [List.length_append]; omega)) ?_
  rintro e w2 ⟨rfl, h2, b2, k2⟩
  have H2 := Lib.hid h2
  have HB2 := Lib.hid b2
  have HK2 := Lib.hid k2
  clear h2 b2 k2 x8
  go_wp2_with fail
  refine Calls.mono (puts_new B b _ [⟨#[60, 47, 98, 108, 111, 99, 107, 113, 117, 111, 116, 101, 62, 10]⟩] w2 H2.out (by simp) (by have := HL.out; rw [List.length_append, List.length_append]; omega)) ?_
  rintro e w3 ⟨rfl, h3, b3, k3⟩
  have H3 := Lib.hid h3
  have HB3 := Lib.hid b3
  have HK3 := Lib.hid k3
  clear h3 b3 k3
  go_wp2
  go_end0
  refine ⟨rfl, ?_, HBL.out.trans (HB1.out.trans (HB2.out.trans HB3.out)), HKP.out.trans (HK1.out.trans (HK2.out.trans HK3.out))⟩
  have h := H3.out
  unfold quoteOut
  simpa only [List.append_assoc] using h

set_option maxHeartbeats 2000000 in
set_option maxRecDepth 100000 in
theorem item_any (B b : Nat) (acc ko : List UInt8) (kd mk : Nat) (lv st : Int) (tg : Bool) (inf tx : ByteArray) (A1 A2 A3 : Option Addr) (m1 m2 m3 c1 c2 c3 : Nat) (w : World) (hB : Bld 83 B b acc w) (hm2 : m2 ≤ 9223372036854775807) (hk : KidsC (.slice A2 m2 c2) ko w B b) (hlen : acc.length + (cat [⟨#[60, 108, 105, 62]⟩] ++ (if 0 < m2 then cat [⟨#[10]⟩] else []) ++ ko ++ cat [⟨#[60, 47, 108, 105, 62, 10]⟩]).length ≤ 1000000000000) :
    Calls Tryz.prog 97 #[.pointer (some ⟨b, 0, none⟩), .agg #[.int .u8 kd, .int .i64 lv, .int .u8 mk, .int .i64 st, .bool tg, .string inf, .string tx, .slice A1 m1 c1, .slice A2 m2 c2, .slice A3 m3 c3]] w (WrR w B b (acc ++ (cat [⟨#[60, 108, 105, 62]⟩] ++ (if 0 < m2 then cat [⟨#[10]⟩] else []) ++ ko ++ cat [⟨#[60, 47, 108, 105, 62, 10]⟩]))) := by
  have hb := hB.lt
  have hBw : B ≤ w.heap.size := Nat.le_trans hB.le (Nat.le_of_lt hB.lt)
  have HBX := Lib.hid (Box.new w 41 #[.int .u8 kd, .int .i64 lv, .int .u8 mk, .int .i64 st, .bool tg, .string inf, .string tx, .slice A1 m1 c1, .slice A2 m2 c2, .slice A3 m3 c3])
  have HBD := Lib.hid (hB.alloc (.cells #[.int .u8 kd, .int .i64 lv, .int .u8 mk, .int .i64 st, .bool tg, .string inf, .string tx, .slice A1 m1 c1, .slice A2 m2 c2, .slice A3 m3 c3] 41))
  have hbl : Below B w (w.alloc (.cells #[.int .u8 kd, .int .i64 lv, .int .u8 mk, .int .i64 st, .bool tg, .string inf, .string tx, .slice A1 m1 c1, .slice A2 m2 c2, .slice A3 m3 c3] 41)) := (Below.refl B w).alloc hBw _
  have hkp : Kept b w (w.alloc (.cells #[.int .u8 kd, .int .i64 lv, .int .u8 mk, .int .i64 st, .bool tg, .string inf, .string tx, .slice A1 m1 c1, .slice A2 m2 c2, .slice A3 m3 c3] 41)) := (Kept.refl b w).alloc _
  have HK := Lib.hid (hk.on hbl)
  have HBL := Lib.hid hbl
  have HKP := Lib.hid hkp
  clear hB hk hbl hkp
  by_cases h0 : 0 < m2
  · rw [if_pos h0] at hlen ⊢
    have hl : acc.length + ((cat [⟨#[60, 108, 105, 62]⟩]).length + (cat [⟨#[10]⟩]).length + ko.length + (cat [⟨#[60, 47, 108, 105, 62, 10]⟩]).length) ≤ 1000000000000 := by
      rw [List.length_append, List.length_append, List.length_append] at hlen
      exact hlen
    have HL := Lib.hid hl
    have hgt : decide ((0 : Int) < (m2 : Int)) = true := by simpa using h0
    clear hlen hl
    go_enter Tryz.func97, Tryz.ntmps97
    go_wp2_with fail
    refine Calls.mono (puts_at B b _ acc [⟨#[60, 108, 105, 62]⟩] _ (by simp) HBD.out (by simp) (by have := HL.out; omega)) ?_
    rintro e w1 ⟨rfl, h1, b1, k1⟩
    have hbx1 := Kept.box HBX.out k1 (by omega) (by decide)
    have x8 := hbx1.cell 8
    simp only [List.getElem?_toArray, List.getElem?_cons_succ, List.getElem?_cons_zero] at x8
    have HBX1 := Lib.hid hbx1
    have H1 := Lib.hid h1
    have HB1 := Lib.hid b1
    have HK1 := Lib.hid k1
    clear h1 b1 k1 hbx1
    go_wp2_with fail
    refine Calls.mono (puts_new B b _ [⟨#[10]⟩] w1 H1.out (by simp) (by have := HL.out; rw [List.length_append]; omega)) ?_
    rintro e w2 ⟨rfl, h2, b2, k2⟩
    have hbx2 := Kept.box HBX1.out k2 (by omega) (by decide)
    have y8 := hbx2.cell 8
    simp only [List.getElem?_toArray, List.getElem?_cons_succ, List.getElem?_cons_zero] at y8
    have H2 := Lib.hid h2
    have HB2 := Lib.hid b2
    have HK2 := Lib.hid k2
    clear h2 b2 k2 x8 hbx2
    go_wp2_with fail
    refine Calls.mono (HK.out w2 _ H2.out (HB1.out.trans HB2.out) (by have := HL.out; rw [List.length_append, List.length_append]; omega)) ?_
    rintro e w3 ⟨rfl, h3, b3, k3⟩
    have H3 := Lib.hid h3
    have HB3 := Lib.hid b3
    have HK3 := Lib.hid k3
    clear h3 b3 k3 y8
    go_wp2_with fail
    refine Calls.mono (puts_new B b _ [⟨#[60, 47, 108, 105, 62, 10]⟩] w3 H3.out (by simp) (by have := HL.out; rw [List.length_append, List.length_append, List.length_append]; omega)) ?_
    rintro e w4 ⟨rfl, h4, b4, k4⟩
    have H4 := Lib.hid h4
    have HB4 := Lib.hid b4
    have HK4 := Lib.hid k4
    clear h4 b4 k4
    go_wp2
    go_end0
    refine ⟨rfl, ?_, HBL.out.trans (HB1.out.trans (HB2.out.trans (HB3.out.trans HB4.out))), HKP.out.trans (HK1.out.trans (HK2.out.trans (HK3.out.trans HK4.out)))⟩
    have h := H4.out
    simpa only [List.append_assoc] using h
  · rw [if_neg h0] at hlen ⊢
    obtain rfl : m2 = 0 := by omega
    have hl : acc.length + ((cat [⟨#[60, 108, 105, 62]⟩]).length + ko.length + (cat [⟨#[60, 47, 108, 105, 62, 10]⟩]).length) ≤ 1000000000000 := by
      rw [List.length_append, List.length_append, List.length_append, List.length_nil] at hlen
      exact hlen
    have HL := Lib.hid hl
    clear hlen hl h0
    go_enter Tryz.func97, Tryz.ntmps97
    go_wp2_with fail
    refine Calls.mono (puts_at B b _ acc [⟨#[60, 108, 105, 62]⟩] _ (by simp) HBD.out (by simp) (by have := HL.out; omega)) ?_
    rintro e w1 ⟨rfl, h1, b1, k1⟩
    have hbx1 := Kept.box HBX.out k1 (by omega) (by decide)
    have x8 := hbx1.cell 8
    simp only [List.getElem?_toArray, List.getElem?_cons_succ, List.getElem?_cons_zero] at x8
    have H1 := Lib.hid h1
    have HB1 := Lib.hid b1
    have HK1 := Lib.hid k1
    clear h1 b1 k1 hbx1
    go_wp2_with fail
    refine Calls.mono (HK.out w1 _ H1.out HB1.out (by have := HL.out; rw [List.length_append]; omega)) ?_
    rintro e w3 ⟨rfl, h3, b3, k3⟩
    have H3 := Lib.hid h3
    have HB3 := Lib.hid b3
    have HK3 := Lib.hid k3
    clear h3 b3 k3 x8
    go_wp2_with fail
    refine Calls.mono (puts_new B b _ [⟨#[60, 47, 108, 105, 62, 10]⟩] w3 H3.out (by simp) (by have := HL.out; rw [List.length_append, List.length_append]; omega)) ?_
    rintro e w4 ⟨rfl, h4, b4, k4⟩
    have H4 := Lib.hid h4
    have HB4 := Lib.hid b4
    have HK4 := Lib.hid k4
    clear h4 b4 k4
    go_wp2
    go_end0
    refine ⟨rfl, ?_, HBL.out.trans (HB1.out.trans (HB3.out.trans HB4.out)), HKP.out.trans (HK1.out.trans (HK3.out.trans HK4.out))⟩
    have h := H4.out
    simpa only [List.append_assoc, List.append_nil] using h
end Go.Proofs.YtibaoocklempnaaGreatDoor
