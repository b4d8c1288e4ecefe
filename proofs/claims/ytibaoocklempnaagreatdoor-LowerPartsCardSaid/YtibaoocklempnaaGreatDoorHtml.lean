/- lower.HTML, over what the writer's block gives; inlines and blocks that were laid one by one. -/
import Derived.Test.YtibaoocklempnaaGreatDoorBlkK
namespace Go.Proofs.YtibaoocklempnaaGreatDoor
open Go.RowKit

set_option maxHeartbeats 1000000 in
set_option maxRecDepth 100000 in
theorem html_any (kd mk : Nat) (lv st : Int) (tg : Bool) (inf tx : ByteArray) (A1 A2 A3 : Option Addr) (m1 m2 m3 c1 c2 c3 : Nat) (out : List UInt8) (w : World)
    (hc : Calls Tryz.prog 66 #[.pointer (some ⟨w.heap.size + 1, 0, none⟩), .agg #[.int .u8 kd, .int .i64 lv, .int .u8 mk, .int .i64 st, .bool tg, .string inf, .string tx, .slice A1 m1 c1, .slice A2 m2 c2, .slice A3 m3 c3]] ((w.alloc (.cells #[.int .u8 kd, .int .i64 lv, .int .u8 mk, .int .i64 st, .bool tg, .string inf, .string tx, .slice A1 m1 c1, .slice A2 m2 c2, .slice A3 m3 c3] 41)).alloc (.cells #[.pointer none, .slice none 0 0] 83)) (WrR ((w.alloc (.cells #[.int .u8 kd, .int .i64 lv, .int .u8 mk, .int .i64 st, .bool tg, .string inf, .string tx, .slice A1 m1 c1, .slice A2 m2 c2, .slice A3 m3 c3] 41)).alloc (.cells #[.pointer none, .slice none 0 0] 83)) (w.heap.size + 1) (w.heap.size + 1) out)) :
    Calls Tryz.prog 36 #[.agg #[.int .u8 kd, .int .i64 lv, .int .u8 mk, .int .i64 st, .bool tg, .string inf, .string tx, .slice A1 m1 c1, .slice A2 m2 c2, .slice A3 m3 c3]] w (StrR w out) := by
  have hbl : Below w.heap.size w ((w.alloc (.cells #[.int .u8 kd, .int .i64 lv, .int .u8 mk, .int .i64 st, .bool tg, .string inf, .string tx, .slice A1 m1 c1, .slice A2 m2 c2, .slice A3 m3 c3] 41)).alloc (.cells #[.pointer none, .slice none 0 0] 83)) := ((Below.refl _ _).alloc (Nat.le_refl _) _).alloc (by simp) _
  have HC := Lib.hid hc
  have HBL := Lib.hid hbl
  clear hc hbl
  go_enter Tryz.func36, Tryz.ntmps36
  go_wp2_with fail
  refine Calls.mono HC.out ?_
  rintro e w1 ⟨rfl, h1, b1, k1⟩
  have hz := b1.size
  simp at hz
  have H1 := Lib.hid h1
  have HB1 := Lib.hid b1
  clear h1 b1 k1
  go_wp2_with fail
  refine Calls.mono (bld_String 83 (w.heap.size + 1) (w.heap.size + 1) _ _ H1.out (by omega)) ?_
  rintro e w2 ⟨rfl, h2, b2, k2⟩
  have HB2 := Lib.hid b2
  clear h2 b2 k2
  go_wp2
  go_ret
  exact ⟨rfl, HBL.out.trans ((HB1.out.trans HB2.out).mono (Nat.le_succ _))⟩
theorem inlsAt_one {n g : Nat} {W : World} {S : Nat → Prop} (x : InlD (List (IT n))) (vk : Value) (h : Box W g 80 #[.int .u8 x.kind, .string x.text, .string x.dest, .string x.title, vk]) (hS : S g) (hk : InlsAt n W S vk x.kids)
    (h1 : x.text.size ≤ 9223372036854775807) (h2 : x.dest.size ≤ 9223372036854775807) (h3 : x.title.size ≤ 9223372036854775807) (h4 : x.kind < 256) : InlsAt (n + 1) W S (.slice (some ⟨g, 0, none⟩) 1 1) ([x] : List (InlD (List (IT n)))) := by
  refine ⟨some ⟨g, 0, none⟩, 1, rfl, by simp, fun _ => ⟨_, rfl, hS⟩, fun i y hy => ?_⟩
  match i, hy with
  | 0, hy =>
    obtain rfl : x = y := by simpa using hy
    exact ⟨_, _, rfl, fun j u hu => box_lie h j u (by simpa using hu), vk, rfl, hk, h1, h2, h3, h4⟩
theorem blksAt_one {n g : Nat} {W : World} {S : Nat → Prop} (x : BlkD (List (BT n))) (va vk vi : Value) (h : Box W g 41 #[.int .u8 x.kind, .int .i64 x.level, .int .u8 x.mark, .int .i64 x.start, .bool x.tight, .string x.info, .string x.text, va, vk, vi]) (hS : S g)
    (h0 : BlkIs (K := List (BT n)) (BlksAt n) W S [.int .u8 x.kind, .int .i64 x.level, .int .u8 x.mark, .int .i64 x.start, .bool x.tight, .string x.info, .string x.text, va, vk, vi] x) : BlksAt (n + 1) W S (.slice (some ⟨g, 0, none⟩) 1 1) ([x] : List (BlkD (List (BT n)))) := by
  refine ⟨some ⟨g, 0, none⟩, 1, rfl, by simp, fun _ => ⟨_, rfl, hS⟩, fun i y hy => ?_⟩
  match i, hy with
  | 0, hy =>
    obtain rfl : x = y := by simpa using hy
    exact ⟨_, _, rfl, fun j u hu => box_lie h j u (by simpa using hu), h0⟩
theorem bytes_nil (W : World) (S : Nat → Prop) (c : Nat) : Row 1 OneByte W S (.slice none 0 c) [] := ⟨none, c, rfl, Nat.zero_le _, fun h => absurd h (Nat.lt_irrefl 0), fun i x hx => by simp at hx⟩
theorem inls_nil (n : Nat) (W : World) (S : Nat → Prop) (c : Nat) : InlsAt n W S (.slice none 0 c) [] := by
  cases n <;> exact ⟨none, c, rfl, Nat.zero_le _, fun h => absurd h (Nat.lt_irrefl 0), fun i x hx => absurd (List.getElem?_eq_some_iff.1 hx).1 (Nat.not_lt_zero _)⟩
theorem blks_nil (n : Nat) (W : World) (S : Nat → Prop) (c : Nat) : BlksAt n W S (.slice none 0 c) [] := by
  cases n <;> exact ⟨none, c, rfl, Nat.zero_le _, fun h => absurd h (Nat.lt_irrefl 0), fun i x hx => absurd (List.getElem?_eq_some_iff.1 hx).1 (Nat.not_lt_zero _)⟩

theorem i64z : I64 0 := ⟨by decide, by decide⟩
def txtA : InlD (List (IT 0)) := ⟨1, ⟨#[97]⟩, ⟨#[]⟩, ⟨#[]⟩, []⟩
def txtLt : InlD (List (IT 0)) := ⟨1, ⟨#[60]⟩, ⟨#[]⟩, ⟨#[]⟩, []⟩
def linkX : InlD (List (IT 1)) := ⟨5, ⟨#[]⟩, ⟨#[97, 34, 98]⟩, ⟨#[]⟩, ([txtLt] : List (InlD (List (IT 0))))⟩
def paraB : BlkD (List (BT 0)) := ⟨5, 0, 0, 0, i64z, i64z, false, ⟨#[]⟩, ⟨#[]⟩, [], [], 1, ([txtA] : List (InlD (List (IT 0))))⟩
def itemB : BlkD (List (BT 1)) := ⟨4, 0, 0, 0, i64z, i64z, false, ⟨#[]⟩, ⟨#[]⟩, [], ([paraB] : List (BlkD (List (BT 0)))), 0, []⟩
def listB : BlkD (List (BT 2)) := ⟨3, 0, 45, 0, i64z, i64z, true, ⟨#[]⟩, ⟨#[]⟩, [], ([itemB] : List (BlkD (List (BT 1)))), 0, []⟩
theorem ex_link : inlOut 2 ([linkX] : List (InlD (List (IT 1)))) = [60, 97, 32, 104, 114, 101, 102, 61, 34, 97, 37, 50, 50, 98, 34, 62, 38, 108, 116, 59, 60, 47, 97, 62] := by decide +kernel
theorem ex_para : paraOut (inlOut 1 ([txtA] : List (InlD (List (IT 0))))) = [60, 112, 62, 97, 60, 47, 112, 62, 10] := by decide +kernel
theorem ex_list : listOut (outs 2) (kdOf 2) 45 0 true ([itemB] : List (BlkD (List (BT 1)))) = [60, 117, 108, 62, 10, 60, 108, 105, 62, 97, 60, 47, 108, 105, 62, 10, 60, 47, 117, 108, 62, 10] := by decide +kernel
end Go.Proofs.YtibaoocklempnaaGreatDoor
