/- lower's writer: a block that is a document, a quote, an item, HTML, a rule, or of no kind. -/
import Derived.Test.YtibaoocklempnaaGreatDoorBlkD
namespace Go.Proofs.YtibaoocklempnaaGreatDoor
open Go.RowKit

theorem kidsc_of {n : Nat} {v : Value} {l : List (BT n)} {S : Nat → Prop} {w : World} {B b : Nat} (hAll : ∀ x ∈ l, BDoes n x) (h : BlksAt n w S v l) (hS : ∀ k, S k → k < B) (hP : PowB B w) (hw : bwt n l ≤ 1000000) : KidsC v (blksOut n l) w B b := fun w' acc h1 h2 h3 =>
  blocks_any n v l hAll S w' B b acc (BlksAt.keep (fun j hj => h2.block j (hS j hj)) n h) hS h1 (hP.on h2) hw h3

def itemO (m : Nat) (ko : List UInt8) : List UInt8 := cat [⟨#[60, 108, 105, 62]⟩] ++ (if 0 < m then cat [⟨#[10]⟩] else []) ++ ko ++ cat [⟨#[60, 47, 108, 105, 62, 10]⟩]
theorem item_one (B b : Nat) (acc ko : List UInt8) (kd mk : Nat) (lv st : Int) (tg : Bool) (inf tx : ByteArray) (A1 A2 A3 : Option Addr) (m1 m2 m3 c1 c2 c3 : Nat) (w : World) (hB : Bld 83 B b acc w) (hm2 : m2 ≤ 9223372036854775807) (hk : KidsC (.slice A2 m2 c2) ko w B b) (hlen : acc.length + (itemO m2 ko).length ≤ 1000000000000) :
    Calls Tryz.prog 97 #[.pointer (some ⟨b, 0, none⟩), .agg #[.int .u8 kd, .int .i64 lv, .int .u8 mk, .int .i64 st, .bool tg, .string inf, .string tx, .slice A1 m1 c1, .slice A2 m2 c2, .slice A3 m3 c3]] w (WrR w B b (acc ++ itemO m2 ko)) := item_any B b acc ko kd mk lv st tg inf tx A1 A2 A3 m1 m2 m3 c1 c2 c3 w hB hm2 hk hlen

set_option maxHeartbeats 1000000 in
set_option maxRecDepth 100000 in
theorem block_1 (B b : Nat) (acc ko : List UInt8) (mk : Nat) (lv st : Int) (tg : Bool) (inf tx : ByteArray) (A1 A2 A3 : Option Addr) (m1 m2 m3 c1 c2 c3 : Nat) (w : World) (hB : Bld 83 B b acc w) (hk : KidsC (.slice A2 m2 c2) ko w B b) (hlen : acc.length + (ko).length ≤ 1000000000000) :
    Calls Tryz.prog 66 #[.pointer (some ⟨b, 0, none⟩), .agg #[.int .u8 (1 : Nat), .int .i64 lv, .int .u8 mk, .int .i64 st, .bool tg, .string inf, .string tx, .slice A1 m1 c1, .slice A2 m2 c2, .slice A3 m3 c3]] w (WrR w B b (acc ++ (ko))) := by
  have hBw : B ≤ w.heap.size := Nat.le_trans hB.le (Nat.le_of_lt hB.lt)
  have HBD := Lib.hid (hB.alloc (.cells #[.int .u8 (1 : Nat), .int .i64 lv, .int .u8 mk, .int .i64 st, .bool tg, .string inf, .string tx, .slice A1 m1 c1, .slice A2 m2 c2, .slice A3 m3 c3] 41))
  have hbl : Below B w (w.alloc (.cells #[.int .u8 (1 : Nat), .int .i64 lv, .int .u8 mk, .int .i64 st, .bool tg, .string inf, .string tx, .slice A1 m1 c1, .slice A2 m2 c2, .slice A3 m3 c3] 41)) := (Below.refl B w).alloc hBw _
  have hkp : Kept b w (w.alloc (.cells #[.int .u8 (1 : Nat), .int .i64 lv, .int .u8 mk, .int .i64 st, .bool tg, .string inf, .string tx, .slice A1 m1 c1, .slice A2 m2 c2, .slice A3 m3 c3] 41)) := (Kept.refl b w).alloc _
  have HK := Lib.hid (hk.on hbl)
  have HBL := Lib.hid hbl
  have HKP := Lib.hid hkp
  have HL := Lib.hid hlen
  clear hB hk hbl hkp hlen
  go_enter Tryz.func66, Tryz.ntmps66
  go_wp2_with fail
  refine Calls.mono (HK.out _ acc HBD.out (Below.refl _ _) HL.out) ?_
  rintro e w1 ⟨rfl, h1, b1, k1⟩
  have H1 := Lib.hid h1
  have HB1 := Lib.hid b1
  have HK1 := Lib.hid k1
  clear h1 b1 k1
  go_wp2
  go_end0
  exact ⟨rfl, H1.out, HBL.out.trans HB1.out, HKP.out.trans HK1.out⟩

set_option maxHeartbeats 1000000 in
set_option maxRecDepth 100000 in
theorem block_2 (B b : Nat) (acc ko : List UInt8) (mk : Nat) (lv st : Int) (tg : Bool) (inf tx : ByteArray) (A1 A2 A3 : Option Addr) (m1 m2 m3 c1 c2 c3 : Nat) (w : World) (hB : Bld 83 B b acc w) (hk : KidsC (.slice A2 m2 c2) ko w B b) (hlen : acc.length + (quoteOut ko).length ≤ 1000000000000) :
    Calls Tryz.prog 66 #[.pointer (some ⟨b, 0, none⟩), .agg #[.int .u8 (2 : Nat), .int .i64 lv, .int .u8 mk, .int .i64 st, .bool tg, .string inf, .string tx, .slice A1 m1 c1, .slice A2 m2 c2, .slice A3 m3 c3]] w (WrR w B b (acc ++ (quoteOut ko))) := by
  have hBw : B ≤ w.heap.size := Nat.le_trans hB.le (Nat.le_of_lt hB.lt)
  have HBD := Lib.hid (hB.alloc (.cells #[.int .u8 (2 : Nat), .int .i64 lv, .int .u8 mk, .int .i64 st, .bool tg, .string inf, .string tx, .slice A1 m1 c1, .slice A2 m2 c2, .slice A3 m3 c3] 41))
  have hbl : Below B w (w.alloc (.cells #[.int .u8 (2 : Nat), .int .i64 lv, .int .u8 mk, .int .i64 st, .bool tg, .string inf, .string tx, .slice A1 m1 c1, .slice A2 m2 c2, .slice A3 m3 c3] 41)) := (Below.refl B w).alloc hBw _
  have hkp : Kept b w (w.alloc (.cells #[.int .u8 (2 : Nat), .int .i64 lv, .int .u8 mk, .int .i64 st, .bool tg, .string inf, .string tx, .slice A1 m1 c1, .slice A2 m2 c2, .slice A3 m3 c3] 41)) := (Kept.refl b w).alloc _
  have HK := Lib.hid (hk.on hbl)
  have HBL := Lib.hid hbl
  have HKP := Lib.hid hkp
  have HL := Lib.hid hlen
  clear hB hk hbl hkp hlen
  go_enter Tryz.func66, Tryz.ntmps66
  go_wp2_with fail
  refine Calls.mono (quote_any B b acc ko _ mk lv st tg inf tx A1 A2 A3 m1 m2 m3 c1 c2 c3 _ HBD.out HK.out HL.out) ?_
  rintro e w1 ⟨rfl, h1, b1, k1⟩
  have H1 := Lib.hid h1
  have HB1 := Lib.hid b1
  have HK1 := Lib.hid k1
  clear h1 b1 k1
  go_wp2
  go_end0
  exact ⟨rfl, H1.out, HBL.out.trans HB1.out, HKP.out.trans HK1.out⟩

set_option maxHeartbeats 1000000 in
set_option maxRecDepth 100000 in
theorem block_4 (B b : Nat) (acc ko : List UInt8) (mk : Nat) (lv st : Int) (tg : Bool) (inf tx : ByteArray) (A1 A2 A3 : Option Addr) (m1 m2 m3 c1 c2 c3 : Nat) (w : World) (hB : Bld 83 B b acc w) (hm2 : m2 ≤ 9223372036854775807) (hk : KidsC (.slice A2 m2 c2) ko w B b) (hlen : acc.length + (itemO m2 ko).length ≤ 1000000000000) :
    Calls Tryz.prog 66 #[.pointer (some ⟨b, 0, none⟩), .agg #[.int .u8 (4 : Nat), .int .i64 lv, .int .u8 mk, .int .i64 st, .bool tg, .string inf, .string tx, .slice A1 m1 c1, .slice A2 m2 c2, .slice A3 m3 c3]] w (WrR w B b (acc ++ (itemO m2 ko))) := by
  have hBw : B ≤ w.heap.size := Nat.le_trans hB.le (Nat.le_of_lt hB.lt)
  have HBD := Lib.hid (hB.alloc (.cells #[.int .u8 (4 : Nat), .int .i64 lv, .int .u8 mk, .int .i64 st, .bool tg, .string inf, .string tx, .slice A1 m1 c1, .slice A2 m2 c2, .slice A3 m3 c3] 41))
  have hbl : Below B w (w.alloc (.cells #[.int .u8 (4 : Nat), .int .i64 lv, .int .u8 mk, .int .i64 st, .bool tg, .string inf, .string tx, .slice A1 m1 c1, .slice A2 m2 c2, .slice A3 m3 c3] 41)) := (Below.refl B w).alloc hBw _
  have hkp : Kept b w (w.alloc (.cells #[.int .u8 (4 : Nat), .int .i64 lv, .int .u8 mk, .int .i64 st, .bool tg, .string inf, .string tx, .slice A1 m1 c1, .slice A2 m2 c2, .slice A3 m3 c3] 41)) := (Kept.refl b w).alloc _
  have HK := Lib.hid (hk.on hbl)
  have HBL := Lib.hid hbl
  have HKP := Lib.hid hkp
  have HL := Lib.hid hlen
  clear hB hk hbl hkp hlen
  go_enter Tryz.func66, Tryz.ntmps66
  go_wp2_with fail
  refine Calls.mono (item_one B b acc ko _ mk lv st tg inf tx A1 A2 A3 m1 m2 m3 c1 c2 c3 _ HBD.out hm2 HK.out HL.out) ?_
  rintro e w1 ⟨rfl, h1, b1, k1⟩
  have H1 := Lib.hid h1
  have HB1 := Lib.hid b1
  have HK1 := Lib.hid k1
  clear h1 b1 k1
  go_wp2
  go_end0
  exact ⟨rfl, H1.out, HBL.out.trans HB1.out, HKP.out.trans HK1.out⟩

set_option maxHeartbeats 1000000 in
set_option maxRecDepth 100000 in
theorem block_8 (B b : Nat) (acc : List UInt8) (mk : Nat) (lv st : Int) (tg : Bool) (inf tx : ByteArray) (A1 A2 A3 : Option Addr) (m1 m2 m3 c1 c2 c3 : Nat) (w : World) (hB : Bld 83 B b acc w) (hlen : acc.length + (cat [tx, ⟨#[10]⟩]).length ≤ 1000000000000) :
    Calls Tryz.prog 66 #[.pointer (some ⟨b, 0, none⟩), .agg #[.int .u8 (8 : Nat), .int .i64 lv, .int .u8 mk, .int .i64 st, .bool tg, .string inf, .string tx, .slice A1 m1 c1, .slice A2 m2 c2, .slice A3 m3 c3]] w (WrR w B b (acc ++ (cat [tx, ⟨#[10]⟩]))) := by
  have hBw : B ≤ w.heap.size := Nat.le_trans hB.le (Nat.le_of_lt hB.lt)
  have HBD := Lib.hid (hB.alloc (.cells #[.int .u8 (8 : Nat), .int .i64 lv, .int .u8 mk, .int .i64 st, .bool tg, .string inf, .string tx, .slice A1 m1 c1, .slice A2 m2 c2, .slice A3 m3 c3] 41))
  have hbl : Below B w (w.alloc (.cells #[.int .u8 (8 : Nat), .int .i64 lv, .int .u8 mk, .int .i64 st, .bool tg, .string inf, .string tx, .slice A1 m1 c1, .slice A2 m2 c2, .slice A3 m3 c3] 41)) := (Below.refl B w).alloc hBw _
  have hkp : Kept b w (w.alloc (.cells #[.int .u8 (8 : Nat), .int .i64 lv, .int .u8 mk, .int .i64 st, .bool tg, .string inf, .string tx, .slice A1 m1 c1, .slice A2 m2 c2, .slice A3 m3 c3] 41)) := (Kept.refl b w).alloc _
  have HBL := Lib.hid hbl
  have HKP := Lib.hid hkp
  have HL := Lib.hid hlen
  clear hB hbl hkp hlen
  go_enter Tryz.func66, Tryz.ntmps66
  go_wp2_with fail
  refine Calls.mono (puts_at B b _ acc [tx, ⟨#[10]⟩] _ (by simp) HBD.out (by simp) (by have := HL.out; omega)) ?_
  rintro e w1 ⟨rfl, h1, b1, k1⟩
  have H1 := Lib.hid h1
  have HB1 := Lib.hid b1
  have HK1 := Lib.hid k1
  clear h1 b1 k1
  go_wp2
  go_end0
  exact ⟨rfl, H1.out, HBL.out.trans HB1.out, HKP.out.trans HK1.out⟩

set_option maxHeartbeats 1000000 in
set_option maxRecDepth 100000 in
theorem block_9 (B b : Nat) (acc : List UInt8) (mk : Nat) (lv st : Int) (tg : Bool) (inf tx : ByteArray) (A1 A2 A3 : Option Addr) (m1 m2 m3 c1 c2 c3 : Nat) (w : World) (hB : Bld 83 B b acc w) (hlen : acc.length + (cat [⟨#[60, 104, 114, 32, 47, 62, 10]⟩]).length ≤ 1000000000000) :
    Calls Tryz.prog 66 #[.pointer (some ⟨b, 0, none⟩), .agg #[.int .u8 (9 : Nat), .int .i64 lv, .int .u8 mk, .int .i64 st, .bool tg, .string inf, .string tx, .slice A1 m1 c1, .slice A2 m2 c2, .slice A3 m3 c3]] w (WrR w B b (acc ++ (cat [⟨#[60, 104, 114, 32, 47, 62, 10]⟩]))) := by
  have hBw : B ≤ w.heap.size := Nat.le_trans hB.le (Nat.le_of_lt hB.lt)
  have HBD := Lib.hid (hB.alloc (.cells #[.int .u8 (9 : Nat), .int .i64 lv, .int .u8 mk, .int .i64 st, .bool tg, .string inf, .string tx, .slice A1 m1 c1, .slice A2 m2 c2, .slice A3 m3 c3] 41))
  have hbl : Below B w (w.alloc (.cells #[.int .u8 (9 : Nat), .int .i64 lv, .int .u8 mk, .int .i64 st, .bool tg, .string inf, .string tx, .slice A1 m1 c1, .slice A2 m2 c2, .slice A3 m3 c3] 41)) := (Below.refl B w).alloc hBw _
  have hkp : Kept b w (w.alloc (.cells #[.int .u8 (9 : Nat), .int .i64 lv, .int .u8 mk, .int .i64 st, .bool tg, .string inf, .string tx, .slice A1 m1 c1, .slice A2 m2 c2, .slice A3 m3 c3] 41)) := (Kept.refl b w).alloc _
  have HBL := Lib.hid hbl
  have HKP := Lib.hid hkp
  have HL := Lib.hid hlen
  clear hB hbl hkp hlen
  go_enter Tryz.func66, Tryz.ntmps66
  go_wp2_with fail
  refine Calls.mono (puts_at B b _ acc [⟨#[60, 104, 114, 32, 47, 62, 10]⟩] _ (by simp) HBD.out (by simp) (by have := HL.out; omega)) ?_
  rintro e w1 ⟨rfl, h1, b1, k1⟩
  have H1 := Lib.hid h1
  have HB1 := Lib.hid b1
  have HK1 := Lib.hid k1
  clear h1 b1 k1
  go_wp2
  go_end0
  exact ⟨rfl, H1.out, HBL.out.trans HB1.out, HKP.out.trans HK1.out⟩

set_option maxHeartbeats 1000000 in
set_option maxRecDepth 100000 in
theorem block_other (B b : Nat) (acc : List UInt8) (kd mk : Nat) (lv st : Int) (tg : Bool) (inf tx : ByteArray) (A1 A2 A3 : Option Addr) (m1 m2 m3 c1 c2 c3 : Nat) (w : World) (hB : Bld 83 B b acc w) (hn : kd = 0 ∨ 10 < kd) :
    Calls Tryz.prog 66 #[.pointer (some ⟨b, 0, none⟩), .agg #[.int .u8 kd, .int .i64 lv, .int .u8 mk, .int .i64 st, .bool tg, .string inf, .string tx, .slice A1 m1 c1, .slice A2 m2 c2, .slice A3 m3 c3]] w (WrR w B b acc) := by
  have hBw : B ≤ w.heap.size := Nat.le_trans hB.le (Nat.le_of_lt hB.lt)
  have HBD := Lib.hid (hB.alloc (.cells #[.int .u8 kd, .int .i64 lv, .int .u8 mk, .int .i64 st, .bool tg, .string inf, .string tx, .slice A1 m1 c1, .slice A2 m2 c2, .slice A3 m3 c3] 41))
  have hz : ∀ c : Nat, kd ≠ c → ((kd : Int) == (c : Int)) = false := fun c hc => by rw [beq_eq_false_iff_ne]; omega
  have z1 := hz 1 (by omega)
  have z2 := hz 2 (by omega)
  have z3 := hz 3 (by omega)
  have z4 := hz 4 (by omega)
  have z5 := hz 5 (by omega)
  have z6 := hz 6 (by omega)
  have z7 := hz 7 (by omega)
  have z8 := hz 8 (by omega)
  have z9 := hz 9 (by omega)
  have z10 := hz 10 (by omega)
  clear hz hn hB
  go_enter Tryz.func66, Tryz.ntmps66
  go_wp2
  go_end0
  exact ⟨rfl, HBD.out, (Below.refl B w).alloc hBw _, (Kept.refl b w).alloc _⟩

theorem bdoes_1 {n : Nat} (x : BlkD (List (BT n))) (hk : x.kind = 1) (hAll : ∀ y ∈ x.kids, BDoes n y) : BDoes (n + 1) x := by
  intro kd mk lv st tg inf tx A1 A2 A3 m1 m2 m3 c1 c2 c3 S w B b acc h hS hB hP hw hlen
  have p := BlkAt.parts h
  obtain rfl : kd = 1 := p.kd.trans hk
  obtain rfl := p.m2e
  obtain rfl := p.tx
  have h1 := (bw1_kids x).1
  have ho : (outs (n + 1)).blk x = blksOut n x.kids := by
    show blkK _ _ _ x = _
    unfold blkK
    simp only [hk]
    rfl
  rw [ho] at hlen ⊢
  exact block_1 B b acc _ _ _ _ _ _ _ _ _ _ _ _ _ _ _ _ w hB (kidsc_of hAll p.kids hS hP (by omega)) hlen
theorem bdoes_2 {n : Nat} (x : BlkD (List (BT n))) (hk : x.kind = 2) (hAll : ∀ y ∈ x.kids, BDoes n y) : BDoes (n + 1) x := by
  intro kd mk lv st tg inf tx A1 A2 A3 m1 m2 m3 c1 c2 c3 S w B b acc h hS hB hP hw hlen
  have p := BlkAt.parts h
  obtain rfl : kd = 2 := p.kd.trans hk
  obtain rfl := p.m2e
  obtain rfl := p.tx
  have h1 := (bw1_kids x).1
  have ho : (outs (n + 1)).blk x = quoteOut (blksOut n x.kids) := by
    show blkK _ _ _ x = _
    unfold blkK
    simp only [hk]
    rfl
  rw [ho] at hlen ⊢
  exact block_2 B b acc _ _ _ _ _ _ _ _ _ _ _ _ _ _ _ _ w hB (kidsc_of hAll p.kids hS hP (by omega)) hlen
theorem bdoes_4 {n : Nat} (x : BlkD (List (BT n))) (hk : x.kind = 4) (hAll : ∀ y ∈ x.kids, BDoes n y) : BDoes (n + 1) x := by
  intro kd mk lv st tg inf tx A1 A2 A3 m1 m2 m3 c1 c2 c3 S w B b acc h hS hB hP hw hlen
  have p := BlkAt.parts h
  obtain rfl : kd = 4 := p.kd.trans hk
  obtain rfl := p.m2e
  obtain rfl := p.tx
  have h1 := (bw1_kids x).1
  have ho : (outs (n + 1)).blk x = itemO x.kids.length (blksOut n x.kids) := by
    show blkK _ _ _ x = _
    unfold blkK
    simp only [hk]
    rfl
  rw [ho] at hlen ⊢
  exact block_4 B b acc _ _ _ _ _ _ _ _ _ _ _ _ _ _ _ _ w hB (by have := bwt_len n x.kids; omega) (kidsc_of hAll p.kids hS hP (by omega)) hlen
theorem bdoes_8 {n : Nat} (x : BlkD (List (BT n))) (hk : x.kind = 8) : BDoes (n + 1) x := by
  intro kd mk lv st tg inf tx A1 A2 A3 m1 m2 m3 c1 c2 c3 S w B b acc h hS hB hP hw hlen
  have p := BlkAt.parts h
  obtain rfl : kd = 8 := p.kd.trans hk
  obtain rfl := p.m2e
  obtain rfl := p.tx
  have ho : (outs (n + 1)).blk x = cat [x.text, ⟨#[10]⟩] := by
    show blkK _ _ _ x = _
    unfold blkK
    simp only [hk]
    rfl
  rw [ho] at hlen ⊢
  exact block_8 B b acc _ _ _ _ _ _ _ _ _ _ _ _ _ _ _ w hB hlen
theorem bdoes_9 {n : Nat} (x : BlkD (List (BT n))) (hk : x.kind = 9) : BDoes (n + 1) x := by
  intro kd mk lv st tg inf tx A1 A2 A3 m1 m2 m3 c1 c2 c3 S w B b acc h hS hB hP hw hlen
  have p := BlkAt.parts h
  obtain rfl : kd = 9 := p.kd.trans hk
  obtain rfl := p.m2e
  obtain rfl := p.tx
  have ho : (outs (n + 1)).blk x = cat [⟨#[60, 104, 114, 32, 47, 62, 10]⟩] := by
    show blkK _ _ _ x = _
    unfold blkK
    simp only [hk]
    rfl
  rw [ho] at hlen ⊢
  exact block_9 B b acc _ _ _ _ _ _ _ _ _ _ _ _ _ _ _ w hB hlen
end Go.Proofs.YtibaoocklempnaaGreatDoor
