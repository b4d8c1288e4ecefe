/- lower's writer: blocks one behind the other; a list, the items of a tight one. -/
import Derived.Test.YtibaoocklempnaaGreatDoorBlkW
namespace Go.Proofs.YtibaoocklempnaaGreatDoor
open Go.RowKit

/-- What the blocks of one level write. -/
def BDoes (n : Nat) (x : BT n) : Prop := ∀ (kd mk : Nat) (lv st : Int) (tg : Bool) (inf tx : ByteArray) (A1 A2 A3 : Option Addr) (m1 m2 m3 c1 c2 c3 : Nat) (S : Nat → Prop) (w : World) (B b : Nat) (acc : List UInt8), BlkAt n w S [.int .u8 kd, .int .i64 lv, .int .u8 mk, .int .i64 st, .bool tg, .string inf, .string tx, .slice A1 m1 c1, .slice A2 m2 c2, .slice A3 m3 c3] x → (∀ k, S k → k < B) → Bld 83 B b acc w → PowB B w → bw1 n x ≤ 1000000 → acc.length + ((outs n).blk x).length ≤ 1000000000000 →
  Calls Tryz.prog 66 #[.pointer (some ⟨b, 0, none⟩), .agg #[.int .u8 kd, .int .i64 lv, .int .u8 mk, .int .i64 st, .bool tg, .string inf, .string tx, .slice A1 m1 c1, .slice A2 m2 c2, .slice A3 m3 c3]] w (WrR w B b (acc ++ (outs n).blk x))
def CDoes (n : Nat) (x : BT n) : Prop := ∀ (kd mk : Nat) (lv st : Int) (tg : Bool) (inf tx : ByteArray) (A1 A2 A3 : Option Addr) (m1 m2 m3 c1 c2 c3 : Nat) (S : Nat → Prop) (w : World) (B b : Nat) (acc : List UInt8), BlkAt n w S [.int .u8 kd, .int .i64 lv, .int .u8 mk, .int .i64 st, .bool tg, .string inf, .string tx, .slice A1 m1 c1, .slice A2 m2 c2, .slice A3 m3 c3] x → (∀ k, S k → k < B) → Bld 83 B b acc w → PowB B w → bw1 n x ≤ 1000000 → acc.length + ((outs n).cls x).length ≤ 1000000000000 →
  Calls Tryz.prog 121 #[.pointer (some ⟨b, 0, none⟩), .agg #[.int .u8 kd, .int .i64 lv, .int .u8 mk, .int .i64 st, .bool tg, .string inf, .string tx, .slice A1 m1 c1, .slice A2 m2 c2, .slice A3 m3 c3]] w (WrR w B b (acc ++ (outs n).cls x))
def RDoes (n : Nat) (x : BT n) : Prop := ∀ (name : ByteArray) (al : List UInt8) (A0 : Option Addr) (c0 : Nat) (kd mk : Nat) (lv st : Int) (tg : Bool) (inf tx : ByteArray) (A1 A2 A3 : Option Addr) (m1 m2 m3 c1 c2 c3 : Nat) (S : Nat → Prop) (w : World) (B b : Nat) (acc : List UInt8), name.size = 2 → Row 1 OneByte w S (.slice A0 al.length c0) al → BlkAt n w S [.int .u8 kd, .int .i64 lv, .int .u8 mk, .int .i64 st, .bool tg, .string inf, .string tx, .slice A1 m1 c1, .slice A2 m2 c2, .slice A3 m3 c3] x → (∀ k, S k → k < B) → Bld 83 B b acc w → PowB B w → bw1 n x ≤ 1000000 → acc.length + ((outs n).row name al x).length ≤ 1000000000000 →
  Calls Tryz.prog 123 #[.pointer (some ⟨b, 0, none⟩), .agg #[.int .u8 kd, .int .i64 lv, .int .u8 mk, .int .i64 st, .bool tg, .string inf, .string tx, .slice A1 m1 c1, .slice A2 m2 c2, .slice A3 m3 c3], .string name, .slice A0 al.length c0] w (WrR w B b (acc ++ (outs n).row name al x))
def IdxW {T : Type} (f : Nat → T → List UInt8) (l : List T) (acc : List UInt8) (w : World) (B b : Nat) (i : Value) (wr : World) : Prop :=
  ∃ k : Nat, i = .int .i64 k ∧ k ≤ l.length ∧ Bld 83 B b (acc ++ idxOut f (l.take k)) wr ∧ Below B w wr ∧ Kept b w wr
theorem BlkAt.kind {n : Nat} {w : World} {S : Nat → Prop} (kd mk : Nat) (lv st : Int) (tg : Bool) (inf tx : ByteArray) (A1 A2 A3 : Option Addr) (m1 m2 m3 c1 c2 c3 : Nat) {x : BT n} (h : BlkAt n w S [.int .u8 kd, .int .i64 lv, .int .u8 mk, .int .i64 st, .bool tg, .string inf, .string tx, .slice A1 m1 c1, .slice A2 m2 c2, .slice A3 m3 c3] x) : kdOf n x = kd := by
  match n, x, h with
  | 0, x, _ => exact Empty.elim x
  | n + 1, x, ⟨va, vk, vi, e, ha, hk, hi, r⟩ =>
    have e := e
    simp only [List.cons.injEq, Value.int.injEq] at e
    obtain ⟨⟨_, e⟩, _⟩ := e
    show BlkD.kind x = kd
    omega

set_option maxHeartbeats 4000000 in
set_option maxRecDepth 100000 in
theorem blocks_any (n : Nat) (v : Value) (l : List (BT n)) (hAll : ∀ x ∈ l, BDoes n x) (S : Nat → Prop) (w : World) (B b : Nat) (acc : List UInt8) (h : BlksAt n w S v l) (hS : ∀ k, S k → k < B) (hB : Bld 83 B b acc w) (hP : PowB B w) (hw : bwt n l ≤ 1000000) (hlen : acc.length + (blksOut n l).length ≤ 1000000000000) :
    Calls Tryz.prog 94 #[.pointer (some ⟨b, 0, none⟩), v] w (WrR w B b (acc ++ blksOut n l)) := by
  have hBw : B ≤ w.heap.size := Nat.le_trans hB.le (Nat.le_of_lt hB.lt)
  have hlw := bwt_len n l
  obtain ⟨A, c, rfl, hl, hget⟩ := h.get2
  have HG := Lib.hid hget
  have HALL := Lib.hid hAll
  have HS := Lib.hid hS
  have HB := Lib.hid hB
  have HP := Lib.hid hP
  clear hget h hAll hS hB hP
  go_enter Tryz.func94, Tryz.ntmps94
  go_wp2_with fail
  go_loopw [8] (fun i wr => IdxW (fun _ => (outs n).blk) l acc w B b i wr) (fun i _ => l.length - (intOf i).toNat)
  case atStart => exact ⟨0, rfl, Nat.zero_le _, by rw [show idxOut (fun _ => (outs n).blk) (List.take 0 l) = [] from rfl, List.append_nil]; exact HB.out, Below.refl _ _, Kept.refl _ _⟩
  case round =>
    obtain ⟨k, rfl, hk, hbd, hbw, hkp⟩ := hrel
    have hws := hbw.size
    by_cases hlt : k < l.length
    · obtain ⟨ad, kd, mk, lv, st, tg, inf, tx, A1, A2, A3, m1, m2, m3, c1, c2, c3, hA, hbl, hat, q0, q1, q2, q3, q4, q5, q6, q7, q8, q9⟩ := HG.out k hlt
      subst hA
      have hbl2 := HS.out _ hbl
      have q : ∀ j : Nat, wr.cell? ⟨(ad.add (k * 10)).block, j, none⟩ = w.cell? ⟨(ad.add (k * 10)).block, j, none⟩ := fun j => hbw.cell (by rw [block_of_add]; exact hbl2)
      have d0 := (hbw.cell (p := ad.add (k * 10)) (by rw [block_of_add]; exact hbl2)).trans q0
      have d1 := (q _).trans q1
      have d2 := (q _).trans q2
      have d3 := (q _).trans q3
      have d4 := (q _).trans q4
      have d5 := (q _).trans q5
      have d6 := (q _).trans q6
      have d7 := (q _).trans q7
      have d8 := (q _).trans q8
      have d9 := (q _).trans q9
      have hup : bw1 n l[k] ≤ 1000000 := by have := rowB_upto (bw1 n) l k hlt; unfold bwt at hw; omega
      have htk := idxOut_take (fun _ => (outs n).blk) l k hlt
      have hsp := idxOut_split (fun _ => (outs n).blk) l k hlt
      have hbl1 : ∀ o : Obj, Below B w (wr.alloc o) := fun o => hbw.alloc (by omega) o
      have hat1 : ∀ o : Obj, BlkAt n (wr.alloc o) S [.int .u8 kd, .int .i64 lv, .int .u8 mk, .int .i64 st, .bool tg, .string inf, .string tx, .slice A1 m1 c1, .slice A2 m2 c2, .slice A3 m3 c3] l[k] := fun o => BlkAt.keep (fun j hj => (hbl1 o).block j (HS.out j hj)) n hat
      have hle : (acc ++ idxOut (fun _ => (outs n).blk) (l.take k)).length + ((outs n).blk l[k]).length ≤ 1000000000000 := by
        rw [List.length_append]
        have h2 : (blksOut n l).length = (idxOut (fun _ => (outs n).blk) l).length := rfl
        omega
      have HAT := Lib.hid hat1
      have HPO : Hid (∀ o : Obj, PowB B (wr.alloc o)) := fun o => HP.out.on (hbl1 o)
      have HBD := Lib.hid hbd
      have HTK := Lib.hid htk
      have HLE := Lib.hid hle
      have HUP := Lib.hid hup
      clear hbd htk hsp hat1 hbl1 q0 q1 q2 q3 q4 q5 q6 q7 q8 q9 q hat hle hup
      go_wp2_with fail
      refine Calls.mono (HALL.out l[k] (List.getElem_mem hlt) _ _ _ _ _ _ _ _ _ _ _ _ _ _ _ _ S _ B b _ (HAT.out _) HS.out (HBD.out.alloc _) (HPO.out _) HUP.out HLE.out) ?_
      rintro e w1 ⟨rfl, h1, b1, k1⟩
      have H1 := Lib.hid h1
      have HB1 := Lib.hid b1
      have HK1 := Lib.hid k1
      clear h1 b1 k1
      go_wp2
      go_roundw
      case rel => exact ⟨k + 1, by go_num, hlt, by rw [HTK.out, ← List.append_assoc]; exact H1.out, (hbw.alloc (by omega) _).trans HB1.out, (hkp.alloc _).trans HK1.out⟩
      case measure => simp [intOf]; omega
    · obtain rfl : k = l.length := by omega
      rw [List.take_of_length_le (Nat.le_refl _)] at hbd
      go_wp2
      go_end0
      exact ⟨rfl, hbd, hbw, hkp⟩
end Go.Proofs.YtibaoocklempnaaGreatDoor
