/- lower's writer: what a block's data tell of its cells; a paragraph, a list, an item, of any depth. -/
import Derived.Test.YtibaoocklempnaaGreatDoorHtml
namespace Go.Proofs.YtibaoocklempnaaGreatDoor
open Go.RowKit

structure Parts (n : Nat) (w : World) (S : Nat → Prop) (x : BlkD (List (BT n))) (kd mk : Nat) (lv st : Int) (tg : Bool) (inf tx : ByteArray) (A1 A2 A3 : Option Addr) (m1 m2 m3 c1 c2 c3 : Nat) : Prop where
  kd : kd = x.kind
  lv : lv = x.level
  mrk : mk = x.mark
  st : st = x.start
  tg : tg = x.tight
  inf : inf = x.info
  tx : tx = x.text
  al : Row 1 OneByte w S (.slice A1 m1 c1) x.align
  kids : BlksAt n w S (.slice A2 m2 c2) x.kids
  inl : InlsAt x.dep w S (.slice A3 m3 c3) x.inl
  m1e : m1 = x.align.length
  m2e : m2 = x.kids.length
  infs : x.info.size ≤ 9223372036854775807
  txs : x.text.size ≤ 9223372036854775807
  mk2 : x.mark < 256
  cap : m2 ≤ c2 ∧ c2 ≤ 9223372036854775807 ∧ (A2 = none → c2 = 0)
  als : x.align.length ≤ 140737488355328
theorem BlkAt.parts {n : Nat} {w : World} {S : Nat → Prop} {x : BlkD (List (BT n))} {kd mk : Nat} {lv st : Int} {tg : Bool} {inf tx : ByteArray} {A1 A2 A3 : Option Addr} {m1 m2 m3 c1 c2 c3 : Nat} (h : BlkIs (BlksAt n) w S [.int .u8 kd, .int .i64 lv, .int .u8 mk, .int .i64 st, .bool tg, .string inf, .string tx, .slice A1 m1 c1, .slice A2 m2 c2, .slice A3 m3 c3] x) : Parts n w S x kd mk lv st tg inf tx A1 A2 A3 m1 m2 m3 c1 c2 c3 := by
  obtain ⟨va, vk, vi, e, ha, hk, hi, h1, h2, h3, h4, h5, h6⟩ := h
  have e := e
  simp only [List.cons.injEq, Value.int.injEq, Value.bool.injEq, Value.string.injEq, and_true, true_and] at e
  obtain ⟨e0, e1, e2, e3, e4, e5, e6, e7, e8, e9⟩ := e
  subst e7; subst e8; subst e9
  obtain ⟨_, _, e10, _⟩ := ha.shape
  obtain ⟨_, _, e11, _⟩ := hk.shape
  simp only [Value.slice.injEq] at e10 e11
  exact ⟨by omega, e1, by omega, e3, e4, e5, e6, ha, hk, hi, e10.2.1, e11.2.1, h1, h2, h4, h5 _ _ _ rfl, h6⟩
theorem bw1_kids {n : Nat} (x : BlkD (List (BT n))) : bwt n x.kids ≤ bw1 (n + 1) x ∧ iwt x.dep x.inl ≤ bw1 (n + 1) x ∧ x.text.size / 8 + x.info.size / 8 ≤ bw1 (n + 1) x := by
  have e : bw1 (n + 1) x = bwt1 (K := List (BT n)) (rowB (bw1 n)) x := rfl
  rw [e]
  unfold bwt1 bwt
  omega
theorem kidc_of {n : Nat} {v : Value} {l : List (IT n)} {S : Nat → Prop} {w : World} {B b : Nat} (h : InlsAt n w S v l) (hS : ∀ k, S k → k < B) (hw : iwt n l ≤ 1000000) : KidC v (inlOut n l) w B b := fun w' acc h1 h2 h3 =>
  inlines_any n v l S w' B b acc (InlsAt.keep (fun j hj => h2.block j (hS j hj)) n h) hS h1 hw h3
theorem bdoes_5 {n : Nat} (x : BlkD (List (BT n))) (hk : x.kind = 5) : BDoes (n + 1) x := by
  intro kd mk lv st tg inf tx A1 A2 A3 m1 m2 m3 c1 c2 c3 S w B b acc h hS hB hP hw hlen
  have p := BlkAt.parts h
  obtain rfl : kd = 5 := p.kd.trans hk
  have ho : (outs (n + 1)).blk x = paraOut (inlOut x.dep x.inl) := by
    show blkK _ _ _ x = _
    unfold blkK
    simp only [hk]
    rfl
  have h1 := (bw1_kids x).2.1
  rw [ho] at hlen ⊢
  exact block_5 B b acc _ _ _ _ _ _ _ _ _ _ _ _ _ _ _ _ w hB (kidc_of p.inl hS (by omega)) hlen
theorem cdoes {n : Nat} (x : BlkD (List (BT n))) (hAll : ∀ y ∈ x.kids, BDoes n y) : CDoes (n + 1) x := by
  intro kd mk lv st tg inf tx A1 A2 A3 m1 m2 m3 c1 c2 c3 S w B b acc h hS hB hP hw hlen
  have p := BlkAt.parts h
  obtain rfl := p.m2e
  have h1 := (bw1_kids x).1
  exact close_any n _ _ _ _ _ _ _ _ _ _ _ _ _ _ _ x.kids hAll S w B b acc p.kids hS hB hP (by omega) hlen
theorem bdoes_3 {n : Nat} (x : BlkD (List (BT n))) (hk : x.kind = 3) (hAll : ∀ y ∈ x.kids, BDoes n y) (hCls : ∀ y ∈ x.kids, CDoes n y) : BDoes (n + 1) x := by
  intro kd mk lv st tg inf tx A1 A2 A3 m1 m2 m3 c1 c2 c3 S w B b acc h hS hB hP hw hlen
  have p := BlkAt.parts h
  obtain rfl : kd = 3 := p.kd.trans hk
  obtain rfl := p.m2e
  obtain rfl := p.mrk
  obtain rfl := p.st
  obtain rfl := p.tg
  have h1 := (bw1_kids x).1
  have ho : (outs (n + 1)).blk x = listOut (outs n) (kdOf n) x.mark x.start x.tight x.kids := by
    show blkK _ _ _ x = _
    unfold blkK
    simp only [hk]
    rfl
  rw [ho] at hlen ⊢
  exact block_3 n _ _ _ _ _ _ _ _ _ _ _ _ _ _ x.kids hAll hCls S w B b acc p.kids hS hB hP p.mk2 x.st64 (by omega) hlen

/-- lower.HTML of a block that is written. -/
theorem html_blk {n : Nat} {kd mk : Nat} {lv st : Int} {tg : Bool} {inf tx : ByteArray} {A1 A2 A3 : Option Addr} {m1 m2 m3 c1 c2 c3 : Nat} (x : BT n) (hx : BDoes n x) (S : Nat → Prop) (w : World) (h : BlkAt n w S [.int .u8 kd, .int .i64 lv, .int .u8 mk, .int .i64 st, .bool tg, .string inf, .string tx, .slice A1 m1 c1, .slice A2 m2 c2, .slice A3 m3 c3] x) (hS : ∀ k, S k → k < w.heap.size) (hP : Pow w) (hw : bw1 n x ≤ 1000000) :
    Calls Tryz.prog 36 #[.agg #[.int .u8 kd, .int .i64 lv, .int .u8 mk, .int .i64 st, .bool tg, .string inf, .string tx, .slice A1 m1 c1, .slice A2 m2 c2, .slice A3 m3 c3]] w (StrR w ((outs n).blk x)) := by
  have hl := blk_le n x
  have hbl : Below w.heap.size w ((w.alloc (.cells #[.int .u8 kd, .int .i64 lv, .int .u8 mk, .int .i64 st, .bool tg, .string inf, .string tx, .slice A1 m1 c1, .slice A2 m2 c2, .slice A3 m3 c3] 41)).alloc (.cells #[.pointer none, .slice none 0 0] 83)) := ((Below.refl _ _).alloc (Nat.le_refl _) _).alloc (by simp) _
  refine html_any kd mk lv st tg inf tx A1 A2 A3 m1 m2 m3 c1 c2 c3 _ w ?_
  have hF := Bld.fresh 83 (w.alloc (.cells #[.int .u8 kd, .int .i64 lv, .int .u8 mk, .int .i64 st, .bool tg, .string inf, .string tx, .slice A1 m1 c1, .slice A2 m2 c2, .slice A3 m3 c3] 41))
  rw [World.size_alloc] at hF
  have hP2 := (PowB.mk' hP).on hbl
  have hc := hx kd mk lv st tg inf tx A1 A2 A3 m1 m2 m3 c1 c2 c3 S _ (w.heap.size + 1) (w.heap.size + 1) [] (BlkAt.keep (fun j hj => hbl.block j (hS j hj)) n h) (fun j hj => by have := hS j hj; omega) hF ⟨hP2.1, Nat.lt_succ_of_lt hP2.2⟩ hw (by simp; omega)
  rw [List.nil_append] at hc
  exact hc
end Go.Proofs.YtibaoocklempnaaGreatDoor
