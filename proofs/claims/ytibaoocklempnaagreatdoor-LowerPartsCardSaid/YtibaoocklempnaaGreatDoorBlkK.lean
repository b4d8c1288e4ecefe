/- lower's writer: a block that is a list, or a paragraph. -/
import Derived.Test.YtibaoocklempnaaGreatDoorBlkL
import Derived.Test.YtibaoocklempnaaGreatDoorBlkC
namespace Go.Proofs.YtibaoocklempnaaGreatDoor
open Go.RowKit

set_option maxHeartbeats 1000000 in
set_option maxRecDepth 100000 in
theorem block_5 (B b : Nat) (acc io : List UInt8) (mk : Nat) (lv st : Int) (tg : Bool) (inf tx : ByteArray) (A1 A2 A3 : Option Addr) (m1 m2 m3 c1 c2 c3 : Nat) (w : World) (hB : Bld 83 B b acc w) (hk : KidC (.slice A3 m3 c3) io w B b) (hlen : acc.length + (paraOut io).length ≤ 1000000000000) :
    Calls Tryz.prog 66 #[.pointer (some ⟨b, 0, none⟩), .agg #[.int .u8 (5 : Nat), .int .i64 lv, .int .u8 mk, .int .i64 st, .bool tg, .string inf, .string tx, .slice A1 m1 c1, .slice A2 m2 c2, .slice A3 m3 c3]] w (WrR w B b (acc ++ paraOut io)) := by
  have hBw : B ≤ w.heap.size := Nat.le_trans hB.le (Nat.le_of_lt hB.lt)
  have HBD := Lib.hid (hB.alloc (.cells #[.int .u8 (5 : Nat), .int .i64 lv, .int .u8 mk, .int .i64 st, .bool tg, .string inf, .string tx, .slice A1 m1 c1, .slice A2 m2 c2, .slice A3 m3 c3] 41))
  have hbl : Below B w (w.alloc (.cells #[.int .u8 (5 : Nat), .int .i64 lv, .int .u8 mk, .int .i64 st, .bool tg, .string inf, .string tx, .slice A1 m1 c1, .slice A2 m2 c2, .slice A3 m3 c3] 41)) := (Below.refl B w).alloc hBw _
  have hkp : Kept b w (w.alloc (.cells #[.int .u8 (5 : Nat), .int .i64 lv, .int .u8 mk, .int .i64 st, .bool tg, .string inf, .string tx, .slice A1 m1 c1, .slice A2 m2 c2, .slice A3 m3 c3] 41)) := (Kept.refl b w).alloc _
  have HK := Lib.hid (hk.on hbl)
  have HBL := Lib.hid hbl
  have HKP := Lib.hid hkp
  have HL := Lib.hid hlen
  clear hB hk hbl hkp hlen
  go_enter Tryz.func66, Tryz.ntmps66
  go_wp2_with fail
  refine Calls.mono (para_any B b acc io _ mk lv st tg inf tx A1 A2 A3 m1 m2 m3 c1 c2 c3 _ HBD.out HK.out HL.out) ?_
  rintro e w1 ⟨rfl, h1, b1, k1⟩
  have H1 := Lib.hid h1
  have HB1 := Lib.hid b1
  have HK1 := Lib.hid k1
  clear h1 b1 k1
  go_wp2
  go_end0
  exact ⟨rfl, H1.out, HBL.out.trans HB1.out, HKP.out.trans HK1.out⟩

set_option maxHeartbeats 1000000 in
set_option maxRecDepth 100000 in
theorem block_3 (n : Nat) (mk : Nat) (lv st : Int) (tg : Bool) (inf tx : ByteArray) (A1 A2 A3 : Option Addr) (m1 m3 c1 c2 c3 : Nat) (l : List (BT n)) (hAll : ∀ x ∈ l, BDoes n x) (hCls : ∀ x ∈ l, CDoes n x) (S : Nat → Prop) (w : World) (B b : Nat) (acc : List UInt8)
    (h : BlksAt n w S (.slice A2 l.length c2) l) (hS : ∀ k, S k → k < B) (hB : Bld 83 B b acc w) (hP : PowB B w) (hmk : mk < 256) (hst : I64 st) (hw : bwt n l ≤ 1000000) (hlen : acc.length + (listOut (outs n) (kdOf n) mk st tg l).length ≤ 1000000000000) :
    Calls Tryz.prog 66 #[.pointer (some ⟨b, 0, none⟩), .agg #[.int .u8 (3 : Nat), .int .i64 lv, .int .u8 mk, .int .i64 st, .bool tg, .string inf, .string tx, .slice A1 m1 c1, .slice A2 l.length c2, .slice A3 m3 c3]] w (WrR w B b (acc ++ listOut (outs n) (kdOf n) mk st tg l)) := by
  have hBw : B ≤ w.heap.size := Nat.le_trans hB.le (Nat.le_of_lt hB.lt)
  have HBD := Lib.hid (hB.alloc (.cells #[.int .u8 (3 : Nat), .int .i64 lv, .int .u8 mk, .int .i64 st, .bool tg, .string inf, .string tx, .slice A1 m1 c1, .slice A2 l.length c2, .slice A3 m3 c3] 41))
  have hbl : Below B w (w.alloc (.cells #[.int .u8 (3 : Nat), .int .i64 lv, .int .u8 mk, .int .i64 st, .bool tg, .string inf, .string tx, .slice A1 m1 c1, .slice A2 l.length c2, .slice A3 m3 c3] 41)) := (Below.refl B w).alloc hBw _
  have hkp : Kept b w (w.alloc (.cells #[.int .u8 (3 : Nat), .int .i64 lv, .int .u8 mk, .int .i64 st, .bool tg, .string inf, .string tx, .slice A1 m1 c1, .slice A2 l.length c2, .slice A3 m3 c3] 41)) := (Kept.refl b w).alloc _
  have HAT := Lib.hid (BlksAt.keep (fun j hj => hbl.block j (hS j hj)) n h)
  have HS := Lib.hid hS
  have HA := Lib.hid hAll
  have HC := Lib.hid hCls
  have HP := Lib.hid (hP.on hbl)
  have HST := Lib.hid hst
  have HBL := Lib.hid hbl
  have HKP := Lib.hid hkp
  have HL := Lib.hid hlen
  clear hB hbl hkp hlen h hS hAll hCls hP hst
  go_enter Tryz.func66, Tryz.ntmps66
  go_wp2_with fail
  refine Calls.mono (list_any n _ mk lv st tg inf tx A1 A2 A3 m1 m3 c1 c2 c3 l HA.out HC.out S _ B b acc HAT.out HS.out HBD.out HP.out hmk HST.out hw HL.out) ?_
  rintro e w1 ⟨rfl, h1, b1, k1⟩
  have H1 := Lib.hid h1
  have HB1 := Lib.hid b1
  have HK1 := Lib.hid k1
  clear h1 b1 k1
  go_wp2
  go_end0
  exact ⟨rfl, H1.out, HBL.out.trans HB1.out, HKP.out.trans HK1.out⟩
end Go.Proofs.YtibaoocklempnaaGreatDoor
