/- lower's writer: every block, of any kind and depth. -/
import Derived.Test.YtibaoocklempnaaGreatDoorBlkE
import Derived.Test.YtibaoocklempnaaGreatDoorBlkF
import Derived.Test.YtibaoocklempnaaGreatDoorBlkT
namespace Go.Proofs.YtibaoocklempnaaGreatDoor
open Go.RowKit


set_option maxHeartbeats 1000000 in
set_option maxRecDepth 100000 in
theorem block_6 (B b : Nat) (acc io : List UInt8) (mk : Nat) (lv st : Int) (tg : Bool) (inf tx : ByteArray) (A1 A2 A3 : Option Addr) (m1 m2 m3 c1 c2 c3 : Nat) (w : World) (hB : Bld 83 B b acc w) (hk : KidC (.slice A3 m3 c3) io w B b) (hP : PowB B w) (hlv : I64 lv) (hlen : acc.length + (headOut lv io).length ≤ 1000000000000) :
    Calls Tryz.prog 66 #[.pointer (some ⟨b, 0, none⟩), .agg #[.int .u8 (6 : Nat), .int .i64 lv, .int .u8 mk, .int .i64 st, .bool tg, .string inf, .string tx, .slice A1 m1 c1, .slice A2 m2 c2, .slice A3 m3 c3]] w (WrR w B b (acc ++ (headOut lv io))) := by
  have hBw : B ≤ w.heap.size := Nat.le_trans hB.le (Nat.le_of_lt hB.lt)
  have HBD := Lib.hid (hB.alloc (.cells #[.int .u8 (6 : Nat), .int .i64 lv, .int .u8 mk, .int .i64 st, .bool tg, .string inf, .string tx, .slice A1 m1 c1, .slice A2 m2 c2, .slice A3 m3 c3] 41))
  have hbl : Below B w (w.alloc (.cells #[.int .u8 (6 : Nat), .int .i64 lv, .int .u8 mk, .int .i64 st, .bool tg, .string inf, .string tx, .slice A1 m1 c1, .slice A2 m2 c2, .slice A3 m3 c3] 41)) := (Below.refl B w).alloc hBw _
  have hkp : Kept b w (w.alloc (.cells #[.int .u8 (6 : Nat), .int .i64 lv, .int .u8 mk, .int .i64 st, .bool tg, .string inf, .string tx, .slice A1 m1 c1, .slice A2 m2 c2, .slice A3 m3 c3] 41)) := (Kept.refl b w).alloc _
  have HK := Lib.hid (hk.on hbl)
  have HP := Lib.hid (hP.on hbl)
  have HBL := Lib.hid hbl
  have HKP := Lib.hid hkp
  have HL := Lib.hid hlen
  clear hB hk hP hbl hkp hlen
  go_enter Tryz.func66, Tryz.ntmps66
  go_wp2_with fail
  refine Calls.mono (head_any B b acc io _ mk lv st tg inf tx A1 A2 A3 m1 m2 m3 c1 c2 c3 _ HBD.out HK.out HP.out hlv HL.out) ?_
  rintro e w1 ⟨rfl, h1, b1, k1⟩
  have H1 := Lib.hid h1
  have HB1 := Lib.hid b1
  have HK1 := Lib.hid k1
  clear h1 b1 k1
  go_wp2
  go_end0
  exact ⟨rfl, H1.out, HBL.out.trans HB1.out, HKP.out.trans HK1.out⟩

set_option maxHeartbeats 1000000 in
set_option maxRecDepth 100000 in
theorem block_7 (B b : Nat) (acc : List UInt8) (mk : Nat) (lv st : Int) (tg : Bool) (inf tx : ByteArray) (A1 A2 A3 : Option Addr) (m1 m2 m3 c1 c2 c3 : Nat) (w : World) (hB : Bld 83 B b acc w) (hi : inf.size ≤ 10000000) (ht : tx.size ≤ 10000000) (hlen : acc.length + (codeOut inf tx).length ≤ 1000000000000) :
    Calls Tryz.prog 66 #[.pointer (some ⟨b, 0, none⟩), .agg #[.int .u8 (7 : Nat), .int .i64 lv, .int .u8 mk, .int .i64 st, .bool tg, .string inf, .string tx, .slice A1 m1 c1, .slice A2 m2 c2, .slice A3 m3 c3]] w (WrR w B b (acc ++ (codeOut inf tx))) := by
  have hBw : B ≤ w.heap.size := Nat.le_trans hB.le (Nat.le_of_lt hB.lt)
  have HBD := Lib.hid (hB.alloc (.cells #[.int .u8 (7 : Nat), .int .i64 lv, .int .u8 mk, .int .i64 st, .bool tg, .string inf, .string tx, .slice A1 m1 c1, .slice A2 m2 c2, .slice A3 m3 c3] 41))
  have hbl : Below B w (w.alloc (.cells #[.int .u8 (7 : Nat), .int .i64 lv, .int .u8 mk, .int .i64 st, .bool tg, .string inf, .string tx, .slice A1 m1 c1, .slice A2 m2 c2, .slice A3 m3 c3] 41)) := (Below.refl B w).alloc hBw _
  have hkp : Kept b w (w.alloc (.cells #[.int .u8 (7 : Nat), .int .i64 lv, .int .u8 mk, .int .i64 st, .bool tg, .string inf, .string tx, .slice A1 m1 c1, .slice A2 m2 c2, .slice A3 m3 c3] 41)) := (Kept.refl b w).alloc _
  have HBL := Lib.hid hbl
  have HKP := Lib.hid hkp
  have HL := Lib.hid hlen
  clear hB hbl hkp hlen
  go_enter Tryz.func66, Tryz.ntmps66
  go_wp2_with fail
  refine Calls.mono (code_any B b acc _ mk lv st tg inf tx A1 A2 A3 m1 m2 m3 c1 c2 c3 _ HBD.out hi ht HL.out) ?_
  rintro e w1 ⟨rfl, h1, b1, k1⟩
  have H1 := Lib.hid h1
  have HB1 := Lib.hid b1
  have HK1 := Lib.hid k1
  clear h1 b1 k1
  go_wp2
  go_end0
  exact ⟨rfl, H1.out, HBL.out.trans HB1.out, HKP.out.trans HK1.out⟩

theorem tableO_small (n : Nat) (kd mk : Nat) (lv st : Int) (tg : Bool) (inf tx : ByteArray) (A1 A2 A3 : Option Addr) (m3 c1 c2 c3 : Nat) (al : List UInt8) (l : List (BT n)) (hRow : ∀ x ∈ l, RDoes n x) (S : Nat → Prop) (w : World) (B b : Nat) (acc : List UInt8)
    (hal : Row 1 OneByte w S (.slice A1 al.length c1) al) (h : BlksAt n w S (.slice A2 l.length c2) l) (hcap : l.length ≤ c2 ∧ c2 ≤ 9223372036854775807 ∧ (A2 = none → c2 = 0)) (hS : ∀ k, S k → k < B) (hB : Bld 83 B b acc w) (hP : PowB B w) (hw : bwt n l ≤ 1000000) (hlen : acc.length + (tableOut (outs n) al l).length ≤ 1000000000000) :
    Calls Tryz.prog 102 #[.pointer (some ⟨b, 0, none⟩), .agg #[.int .u8 kd, .int .i64 lv, .int .u8 mk, .int .i64 st, .bool tg, .string inf, .string tx, .slice A1 al.length c1, .slice A2 l.length c2, .slice A3 m3 c3]] w (WrR w B b (acc ++ tableOut (outs n) al l)) := by
  by_cases hsm : l.length ≤ 1
  · exact table_small n kd mk lv st tg inf tx A1 A2 A3 m3 c1 c2 c3 al l hRow S w B b acc hal h hcap hS hB hP hw hsm hlen
  · exact table_big n kd mk lv st tg inf tx A1 A2 A3 m3 c1 c2 c3 al l hRow S w B b acc hal h hcap hS hB hP hw (by omega) hlen

set_option maxHeartbeats 1000000 in
set_option maxRecDepth 100000 in
theorem block_10 (n : Nat) (mk : Nat) (lv st : Int) (tg : Bool) (inf tx : ByteArray) (A1 A2 A3 : Option Addr) (m3 c1 c2 c3 : Nat) (al : List UInt8) (l : List (BT n)) (hRow : ∀ x ∈ l, RDoes n x) (S : Nat → Prop) (w : World) (B b : Nat) (acc : List UInt8)
    (hal : Row 1 OneByte w S (.slice A1 al.length c1) al) (h : BlksAt n w S (.slice A2 l.length c2) l) (hcap : l.length ≤ c2 ∧ c2 ≤ 9223372036854775807 ∧ (A2 = none → c2 = 0)) (hS : ∀ k, S k → k < B) (hB : Bld 83 B b acc w) (hP : PowB B w) (hw : bwt n l ≤ 1000000) (hlen : acc.length + (tableOut (outs n) al l).length ≤ 1000000000000) :
    Calls Tryz.prog 66 #[.pointer (some ⟨b, 0, none⟩), .agg #[.int .u8 (10 : Nat), .int .i64 lv, .int .u8 mk, .int .i64 st, .bool tg, .string inf, .string tx, .slice A1 al.length c1, .slice A2 l.length c2, .slice A3 m3 c3]] w (WrR w B b (acc ++ tableOut (outs n) al l)) := by
  have hBw : B ≤ w.heap.size := Nat.le_trans hB.le (Nat.le_of_lt hB.lt)
  have HBD := Lib.hid (hB.alloc (.cells #[.int .u8 (10 : Nat), .int .i64 lv, .int .u8 mk, .int .i64 st, .bool tg, .string inf, .string tx, .slice A1 al.length c1, .slice A2 l.length c2, .slice A3 m3 c3] 41))
  have hbl : Below B w (w.alloc (.cells #[.int .u8 (10 : Nat), .int .i64 lv, .int .u8 mk, .int .i64 st, .bool tg, .string inf, .string tx, .slice A1 al.length c1, .slice A2 l.length c2, .slice A3 m3 c3] 41)) := (Below.refl B w).alloc hBw _
  have hkp : Kept b w (w.alloc (.cells #[.int .u8 (10 : Nat), .int .i64 lv, .int .u8 mk, .int .i64 st, .bool tg, .string inf, .string tx, .slice A1 al.length c1, .slice A2 l.length c2, .slice A3 m3 c3] 41)) := (Kept.refl b w).alloc _
  have HC := Lib.hid (tableO_small n (10 : Nat) mk lv st tg inf tx A1 A2 A3 m3 c1 c2 c3 al l hRow S _ B b acc (bytes_later hal hS hbl) (BlksAt.keep (fun j hj => hbl.block j (hS j hj)) n h) hcap hS HBD.out (hP.on hbl) hw hlen)
  have HBL := Lib.hid hbl
  have HKP := Lib.hid hkp
  clear hB hbl hkp hlen h hal hS hP hRow hcap
  go_enter Tryz.func66, Tryz.ntmps66
  go_wp2_with fail
  refine Calls.mono HC.out ?_
  rintro e w1 ⟨rfl, h1, b1, k1⟩
  have H1 := Lib.hid h1
  have HB1 := Lib.hid b1
  have HK1 := Lib.hid k1
  clear h1 b1 k1
  go_wp2
  go_end0
  exact ⟨rfl, H1.out, HBL.out.trans HB1.out, HKP.out.trans HK1.out⟩

theorem bdoes_6 {n : Nat} (x : BlkD (List (BT n))) (hk : x.kind = 6) : BDoes (n + 1) x := by
  intro kd mk lv st tg inf tx A1 A2 A3 m1 m2 m3 c1 c2 c3 S w B b acc h hS hB hP hw hlen
  have p := BlkAt.parts h
  obtain rfl : kd = 6 := p.kd.trans hk
  obtain rfl := p.lv
  have h1 := bw1_kids x
  have ho : (outs (n + 1)).blk x = headOut x.level (inlOut x.dep x.inl) := by
    show blkK _ _ _ x = _
    unfold blkK
    simp only [hk]
    rfl
  rw [ho] at hlen ⊢
  exact block_6 B b acc _ _ _ _ _ _ _ _ _ _ _ _ _ _ _ _ w hB (kidc_of p.inl hS (by omega)) hP x.lv64 hlen
theorem bdoes_7 {n : Nat} (x : BlkD (List (BT n))) (hk : x.kind = 7) : BDoes (n + 1) x := by
  intro kd mk lv st tg inf tx A1 A2 A3 m1 m2 m3 c1 c2 c3 S w B b acc h hS hB hP hw hlen
  have p := BlkAt.parts h
  obtain rfl : kd = 7 := p.kd.trans hk
  obtain rfl := p.inf
  obtain rfl := p.tx
  have h1 := bw1_kids x
  have ho : (outs (n + 1)).blk x = codeOut x.info x.text := by
    show blkK _ _ _ x = _
    unfold blkK
    simp only [hk]
    rfl
  rw [ho] at hlen ⊢
  exact block_7 B b acc _ _ _ _ _ _ _ _ _ _ _ _ _ _ _ w hB (by omega) (by omega) hlen
theorem bdoes_10 {n : Nat} (x : BlkD (List (BT n))) (hk : x.kind = 10) (hRow : ∀ y ∈ x.kids, RDoes n y) : BDoes (n + 1) x := by
  intro kd mk lv st tg inf tx A1 A2 A3 m1 m2 m3 c1 c2 c3 S w B b acc h hS hB hP hw hlen
  have p := BlkAt.parts h
  obtain rfl : kd = 10 := p.kd.trans hk
  obtain rfl := p.m1e
  obtain rfl := p.m2e
  have h1 := bw1_kids x
  have ho : (outs (n + 1)).blk x = tableOut (outs n) x.align x.kids := by
    show blkK _ _ _ x = _
    unfold blkK
    simp only [hk]
    rfl
  rw [ho] at hlen ⊢
  exact block_10 n _ _ _ _ _ _ _ _ _ _ _ _ _ x.align x.kids hRow S w B b acc p.al p.kids p.cap hS hB hP (by omega) hlen
theorem bdoes_other {n : Nat} (x : BlkD (List (BT n))) (hk : x.kind = 0 ∨ 10 < x.kind) : BDoes (n + 1) x := by
  intro kd mk lv st tg inf tx A1 A2 A3 m1 m2 m3 c1 c2 c3 S w B b acc h hS hB hP hw hlen
  have p := BlkAt.parts h
  have ho : (outs (n + 1)).blk x = [] := by
    show blkK _ _ _ x = _
    unfold blkK
    rw [if_neg (by omega), if_neg (by omega), if_neg (by omega), if_neg (by omega), if_neg (by omega), if_neg (by omega), if_neg (by omega), if_neg (by omega), if_neg (by omega), if_neg (by omega)]
  rw [ho, List.append_nil]
  exact block_other B b acc kd mk lv st tg inf tx A1 A2 A3 m1 m2 m3 c1 c2 c3 w hB (by rw [p.kd]; exact hk)
theorem rdoes {n : Nat} (x : BlkD (List (BT n))) : RDoes (n + 1) x := by
  intro name al A0 c0 kd mk lv st tg inf tx A1 A2 A3 m1 m2 m3 c1 c2 c3 S w B b acc hn hal h hS hB hP hw hlen
  have p := BlkAt.parts h
  have h1 := bw1_kids x
  by_cases hk : x.kind = 11
  · obtain rfl : kd = 11 := p.kd.trans hk
    obtain rfl := p.m2e
    have ho : (outs (n + 1)).row name al x = rowOut (kdOf n) (ioOf n) name al 11 x.kids := by
      show rowOut _ _ name al x.kind x.kids = _
      rw [hk]
    rw [ho] at hlen ⊢
    exact row_any n _ _ _ _ _ _ name A0 _ _ _ _ _ c0 _ _ _ al x.kids S w B b acc hal p.kids hS hB (by omega) hlen
  · have ho : (outs (n + 1)).row name al x = [] := by
      show rowOut _ _ name al x.kind x.kids = _
      unfold rowOut
      rw [if_neg hk]
    rw [ho, List.append_nil]
    exact row_not kd mk lv st tg inf tx name A0 A1 A2 A3 al.length m1 m2 m3 c0 c1 c2 c3 w B b acc hB (by rw [p.kd]; exact hk)
theorem all_does : ∀ n : Nat, (∀ x : BT n, BDoes n x) ∧ (∀ x : BT n, CDoes n x) ∧ (∀ x : BT n, RDoes n x)
  | 0 => ⟨fun x => Empty.elim x, fun x => Empty.elim x, fun x => Empty.elim x⟩
  | n + 1 => by
    obtain ⟨hB, hC, hR⟩ := all_does n
    refine ⟨fun x => ?_, fun x => cdoes (n := n) x fun y _ => hB y, fun x => rdoes (n := n) x⟩
    obtain ⟨q, hq⟩ : ∃ q, BlkD.kind x = q := ⟨_, rfl⟩
    by_cases k1 : q = 1
    · exact bdoes_1 (n := n) x (hq.trans k1) fun y _ => hB y
    by_cases k2 : q = 2
    · exact bdoes_2 (n := n) x (hq.trans k2) fun y _ => hB y
    by_cases k3 : q = 3
    · exact bdoes_3 (n := n) x (hq.trans k3) (fun y _ => hB y) fun y _ => hC y
    by_cases k4 : q = 4
    · exact bdoes_4 (n := n) x (hq.trans k4) fun y _ => hB y
    by_cases k5 : q = 5
    · exact bdoes_5 (n := n) x (hq.trans k5)
    by_cases k6 : q = 6
    · exact bdoes_6 (n := n) x (hq.trans k6)
    by_cases k7 : q = 7
    · exact bdoes_7 (n := n) x (hq.trans k7)
    by_cases k8 : q = 8
    · exact bdoes_8 (n := n) x (hq.trans k8)
    by_cases k9 : q = 9
    · exact bdoes_9 (n := n) x (hq.trans k9)
    by_cases k10 : q = 10
    · exact bdoes_10 (n := n) x (hq.trans k10) fun y _ => hR y
    exact bdoes_other (n := n) x (by rw [hq]; omega)
theorem blk_does (n : Nat) (x : BT n) : BDoes n x := (all_does n).1 x
end Go.Proofs.YtibaoocklempnaaGreatDoor
