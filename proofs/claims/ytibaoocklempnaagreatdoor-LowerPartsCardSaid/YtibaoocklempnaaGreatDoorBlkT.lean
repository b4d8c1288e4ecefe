/- lower's writer: a table. -/
import Derived.Test.YtibaoocklempnaaGreatDoorBlkR
namespace Go.Proofs.YtibaoocklempnaaGreatDoor
open Go.RowKit

theorem Row.take_ {α : Type} {size : Nat} {E : World → (Nat → Prop) → List Value → α → Prop} {w : World} {S : Nat → Prop} {A : Option Addr} {m c : Nat} {l : List α} (h : Row size E w S (.slice A m c) l) (j : Nat) (hj : j ≤ m) : Row size E w S (.slice A j c) (l.take j) := by
  obtain ⟨A', c', e, hl, h0, h1⟩ := h
  cases e
  refine ⟨A, c, by rw [List.length_take, Nat.min_eq_left hj], by rw [List.length_take]; omega, fun h => h0 (by rw [List.length_take] at h; omega), fun i x hx => h1 i x ?_⟩
  rw [List.getElem?_take] at hx
  split at hx
  · exact hx
  · cases hx
theorem Row.drop_ {α : Type} {size : Nat} {E : World → (Nat → Prop) → List Value → α → Prop} {w : World} {S : Nat → Prop} {a : Addr} {m c : Nat} {l : List α} (h : Row size E w S (.slice (some a) m c) l) (j c' : Nat) (hj : j ≤ m) : Row size E w S (.slice (some (a.add (j * size))) (m - j) c') (l.drop j) := by
  obtain ⟨A', c0, e, hl, h0, h1⟩ := h
  cases e
  refine ⟨_, c', by rw [List.length_drop], by rw [List.length_drop]; omega, fun h => ?_, fun i x hx => ?_⟩
  · obtain ⟨ad, hA, hS⟩ := h0 (by rw [List.length_drop] at h; omega)
    cases hA
    exact ⟨_, rfl, by rw [block_of_add]; exact hS⟩
  · rw [List.getElem?_drop] at hx
    obtain ⟨ad, vs, hA, hlie, hE⟩ := h1 _ _ hx
    cases hA
    refine ⟨_, vs, rfl, ?_, hE⟩
    rw [add_of_add, ← Nat.add_mul]
    exact hlie
theorem BlksAt.take_ {n : Nat} {w : World} {S : Nat → Prop} {A : Option Addr} {m c : Nat} {l : List (BT n)} (h : BlksAt n w S (.slice A m c) l) (j : Nat) (hj : j ≤ m) : BlksAt n w S (.slice A j c) (l.take j) := by
  cases n with
  | zero => exact Row.take_ (α := Empty) (size := 10) (E := fun _ _ _ _ => False) h j hj
  | succ n => exact Row.take_ (α := BlkD (List (BT n))) (size := 10) (E := BlkIs (BlksAt n)) h j hj
theorem BlksAt.drop_ {n : Nat} {w : World} {S : Nat → Prop} {a : Addr} {m c : Nat} {l : List (BT n)} (h : BlksAt n w S (.slice (some a) m c) l) (j c' : Nat) (hj : j ≤ m) : BlksAt n w S (.slice (some (a.add (j * 10))) (m - j) c') (l.drop j) := by
  cases n with
  | zero => exact Row.drop_ (α := Empty) (size := 10) (E := fun _ _ _ _ => False) h j c' hj
  | succ n => exact Row.drop_ (α := BlkD (List (BT n))) (size := 10) (E := BlkIs (BlksAt n)) h j c' hj
theorem bytes_later {w w' : World} {S : Nat → Prop} {v : Value} {l : List UInt8} {B : Nat} (h : Row 1 OneByte w S v l) (hS : ∀ k, S k → k < B) (hb : Below B w w') : Row 1 OneByte w' S v l := bytes_keep h fun k hk => hb.block k (hS k hk)
theorem add_at (b o n : Nat) : (⟨b, o, none⟩ : Addr).add n = ⟨b, o + n, none⟩ := by
  unfold Addr.add
  split <;> simp_all
theorem rows_split {T : Type} (f : T → List UInt8) (l : List T) (k : Nat) (hk : k < l.length) : (rowsOut f (l.take k)).length + (f l[k]).length ≤ (rowsOut f l).length := idxOut_split (fun _ => f) l k hk

set_option maxHeartbeats 8000000 in
set_option maxRecDepth 100000 in
theorem table_small (n : Nat) (kd mk : Nat) (lv st : Int) (tg : Bool) (inf tx : ByteArray) (A1 A2 A3 : Option Addr) (m3 c1 c2 c3 : Nat) (al : List UInt8) (l : List (BT n)) (hRow : ∀ x ∈ l, RDoes n x) (S : Nat → Prop) (w : World) (B b : Nat) (acc : List UInt8)
    (hal : Row 1 OneByte w S (.slice A1 al.length c1) al) (h : BlksAt n w S (.slice A2 l.length c2) l) (hcap : l.length ≤ c2 ∧ c2 ≤ 9223372036854775807 ∧ (A2 = none → c2 = 0)) (hS : ∀ k, S k → k < B) (hB : Bld 83 B b acc w) (hP : PowB B w) (hw : bwt n l ≤ 1000000) (hsm : l.length ≤ 1) (hlen : acc.length + (tableOut (outs n) al l).length ≤ 1000000000000) :
    Calls Tryz.prog 102 #[.pointer (some ⟨b, 0, none⟩), .agg #[.int .u8 kd, .int .i64 lv, .int .u8 mk, .int .i64 st, .bool tg, .string inf, .string tx, .slice A1 al.length c1, .slice A2 l.length c2, .slice A3 m3 c3]] w (WrR w B b (acc ++ tableOut (outs n) al l)) := by
  have hb := hB.lt
  have hBw : B ≤ w.heap.size := Nat.le_trans hB.le (Nat.le_of_lt hB.lt)
  have hlw := bwt_len n l
  have HBX := Lib.hid (Box.new w 41 #[.int .u8 kd, .int .i64 lv, .int .u8 mk, .int .i64 st, .bool tg, .string inf, .string tx, .slice A1 al.length c1, .slice A2 l.length c2, .slice A3 m3 c3])
  have HBD := Lib.hid (hB.alloc (.cells #[.int .u8 kd, .int .i64 lv, .int .u8 mk, .int .i64 st, .bool tg, .string inf, .string tx, .slice A1 al.length c1, .slice A2 l.length c2, .slice A3 m3 c3] 41))
  have hbl : Below B w (w.alloc (.cells #[.int .u8 kd, .int .i64 lv, .int .u8 mk, .int .i64 st, .bool tg, .string inf, .string tx, .slice A1 al.length c1, .slice A2 l.length c2, .slice A3 m3 c3] 41)) := (Below.refl B w).alloc hBw _
  have hkp : Kept b w (w.alloc (.cells #[.int .u8 kd, .int .i64 lv, .int .u8 mk, .int .i64 st, .bool tg, .string inf, .string tx, .slice A1 al.length c1, .slice A2 l.length c2, .slice A3 m3 c3] 41)) := (Kept.refl b w).alloc _
  have HBL := Lib.hid hbl
  have HKP := Lib.hid hkp
  have HPW := Lib.hid hP
  have HS := Lib.hid hS
  have HAL := Lib.hid hal
  have HRW := Lib.hid hRow
  have HAT0 := Lib.hid h
  obtain ⟨cp1, cp2, cp3⟩ := hcap
  have hl3 : acc.length + ((cat [⟨#[60, 116, 97, 98, 108, 101, 62, 10, 60, 116, 104, 101, 97, 100, 62, 10]⟩]).length + (rowsOut ((outs n).row ⟨#[116, 104]⟩ al) l).length + (cat [⟨#[60, 47, 116, 104, 101, 97, 100, 62, 10]⟩]).length + (cat [⟨#[60, 47, 116, 97, 98, 108, 101, 62, 10]⟩]).length) ≤ 1000000000000 := by
    unfold tableOut at hlen
    rw [if_neg (by omega), List.take_of_length_le hsm, List.append_nil, List.length_append, List.length_append, List.length_append] at hlen
    exact hlen
  have hout : tableOut (outs n) al l = cat [⟨#[60, 116, 97, 98, 108, 101, 62, 10, 60, 116, 104, 101, 97, 100, 62, 10]⟩] ++ rowsOut ((outs n).row ⟨#[116, 104]⟩ al) l ++ cat [⟨#[60, 47, 116, 104, 101, 97, 100, 62, 10]⟩] ++ cat [⟨#[60, 47, 116, 97, 98, 108, 101, 62, 10]⟩] := by
    unfold tableOut
    rw [if_neg (by omega), List.take_of_length_le hsm, List.append_nil]
  rw [hout]
  obtain ⟨A, c, e0, hl, hget⟩ := h.get2
  cases e0
  have HG := Lib.hid hget
  have HL := Lib.hid hl3
  have HWT1 : Hid (rowB (bw1 n) l ≤ 1000000) := hw
  have hmin : min (l.length : Int) 1 = (l.length : Int) := by omega
  have hgt : decide ((1 : Int) < (l.length : Int)) = false := by simp; omega
  clear h hget hS hB hP hbl hkp hlen hl3 hout hRow hal
  go_enter Tryz.func102, Tryz.ntmps102
  go_wp2_with fail
  refine Calls.mono (puts_at B b _ acc [⟨#[60, 116, 97, 98, 108, 101, 62, 10, 60, 116, 104, 101, 97, 100, 62, 10]⟩] _ (by simp) HBD.out (by simp) (by have := HL.out; omega)) ?_
  rintro e w1 ⟨rfl, g1, b1, k1⟩
  have hz1 := b1.size
  simp only [World.size_alloc] at hz1
  have hbx1 := Kept.box HBX.out k1 (by omega) (by decide)
  have x81 := hbx1.cell 8
  simp only [List.getElem?_toArray, List.getElem?_cons_succ, List.getElem?_cons_zero] at x81
  have HBXX1 := Lib.hid hbx1
  have HBD1 := Lib.hid g1
  have HBLX1 := Lib.hid (HBL.out.trans b1)
  have HKPX1 := Lib.hid (HKP.out.trans k1)
  clear hbx1 g1 b1 k1
  go_wp2_with fail
  go_loopw [19] (fun i wr => IdxW (fun _ => (outs n).row ⟨#[116, 104]⟩ al) l (acc ++ cat [⟨#[60, 116, 97, 98, 108, 101, 62, 10, 60, 116, 104, 101, 97, 100, 62, 10]⟩]) w1 B b i wr) (fun i _ => l.length - (intOf i).toNat)
  case atStart => exact ⟨0, rfl, Nat.zero_le _, by rw [show idxOut (fun _ => (outs n).row ⟨#[116, 104]⟩ al) (List.take 0 l) = [] from rfl, List.append_nil]; exact HBD1.out, Below.refl _ _, Kept.refl _ _⟩
  case round =>
    clear x81
    obtain ⟨k, rfl, hk, hbd, hbw, hkp⟩ := hrel
    have hws := hbw.size
    by_cases hlt : k < l.length
    · obtain ⟨ad, kd', mk', lv', st', tg', inf', tx', A1', A2', A3', m1', m2', m3', c1', c2', c3', hA, hbl, hat, q0, q1, q2, q3, q4, q5, q6, q7, q8, q9⟩ := HG.out k hlt
      subst hA
      have hbl2 := HS.out _ hbl
      have hwr : Below B w wr := HBLX1.out.trans hbw
      have q : ∀ j : Nat, wr.cell? ⟨(ad.add (k * 10)).block, j, none⟩ = w.cell? ⟨(ad.add (k * 10)).block, j, none⟩ := fun j => hwr.cell (by rw [block_of_add]; exact hbl2)
      have d0 := (hwr.cell (p := ad.add (k * 10)) (by rw [block_of_add]; exact hbl2)).trans q0
      have d1 := (q _).trans q1
      have d2 := (q _).trans q2
      have d3 := (q _).trans q3
      have d4 := (q _).trans q4
      have d5 := (q _).trans q5
      have d6 := (q _).trans q6
      have d7 := (q _).trans q7
      have d8 := (q _).trans q8
      have d9 := (q _).trans q9
      have hbxr := Kept.box HBXX1.out hkp (by omega) (by decide)
      have hbxlt := hbxr.lt
      have x7 := fun o : Obj => (World.cell?_alloc_lt wr o ⟨w.heap.size, 7, none⟩ hbxlt).trans (hbxr.cell 7)
      simp only [List.getElem?_toArray, List.getElem?_cons_succ, List.getElem?_cons_zero] at x7
      have hup : bw1 n l[k] ≤ 1000000 := by have := rowB_upto (bw1 n) l k hlt; have := HWT1.out; omega
      have htk := idxOut_take (fun _ => (outs n).row ⟨#[116, 104]⟩ al) l k hlt
      have hsp := rows_split ((outs n).row ⟨#[116, 104]⟩ al) l k hlt
      have hbl1 : ∀ o : Obj, Below B w (wr.alloc o) := fun o => hwr.alloc (by omega) o
      have hat1 : ∀ o : Obj, BlkAt n (wr.alloc o) S [.int .u8 kd', .int .i64 lv', .int .u8 mk', .int .i64 st', .bool tg', .string inf', .string tx', .slice A1' m1' c1', .slice A2' m2' c2', .slice A3' m3' c3'] l[k] := fun o => BlkAt.keep (fun j hj => (hbl1 o).block j (HS.out j hj)) n hat
      have hal1 : ∀ o : Obj, Row 1 OneByte (wr.alloc o) S (.slice A1 al.length c1) al := fun o => bytes_later HAL.out HS.out (hbl1 o)
      have hle : (acc ++ cat [⟨#[60, 116, 97, 98, 108, 101, 62, 10, 60, 116, 104, 101, 97, 100, 62, 10]⟩] ++ idxOut (fun _ => (outs n).row ⟨#[116, 104]⟩ al) (l.take k)).length + ((outs n).row ⟨#[116, 104]⟩ al l[k]).length ≤ 1000000000000 := by
        have h3 := HL.out
        have h4 : (idxOut (fun _ => (outs n).row ⟨#[116, 104]⟩ al) (l.take k)).length = (rowsOut ((outs n).row ⟨#[116, 104]⟩ al) (l.take k)).length := rfl
        rw [List.length_append, List.length_append]
        omega
      have HATR := Lib.hid hat1
      have HALR := Lib.hid hal1
      have HPO : Hid (∀ o : Obj, PowB B (wr.alloc o)) := fun o => HPW.out.on (hbl1 o)
      have HTK := Lib.hid htk
      have HUP := Lib.hid hup
      have HLE := Lib.hid hle
      have HBDr := Lib.hid hbd
      clear hbd htk hsp hat1 hal1 hbl1 q0 q1 q2 q3 q4 q5 q6 q7 q8 q9 q hat hle hup hbxr
      go_wp2_with fail
      refine Calls.mono (HRW.out l[k] (List.getElem_mem hlt) ⟨#[116, 104]⟩ al _ _ _ _ _ _ _ _ _ _ _ _ _ _ _ _ _ _ S _ B b _ rfl (HALR.out _) (HATR.out _) HS.out (HBDr.out.alloc _) (HPO.out _) HUP.out HLE.out) ?_
      rintro e w2 ⟨rfl, g2, b2, k2⟩
      have H2 := Lib.hid g2
      have HB2 := Lib.hid b2
      have HK2 := Lib.hid k2
      clear g2 b2 k2
      go_wp2
      go_roundw
      case rel => exact ⟨k + 1, by go_num, hlt, by rw [HTK.out, ← List.append_assoc]; exact H2.out, (hbw.alloc (by omega) _).trans HB2.out, (hkp.alloc _).trans HK2.out⟩
      case measure => simp [intOf]; omega
    · obtain rfl : k = l.length := by omega
      rw [List.take_of_length_le (Nat.le_refl _)] at hbd
      have hbx2 := Kept.box HBXX1.out hkp (by omega) (by decide)
      have HBXX2 := Lib.hid hbx2
      have HBD2 := Lib.hid hbd
      have HBLX2 := Lib.hid (HBLX1.out.trans hbw)
      have HKPX2 := Lib.hid (HKPX1.out.trans hkp)
      clear hbx2 hbd hbw hkp
      go_wp2_with fail
      refine Calls.mono (puts_new B b _ [⟨#[60, 47, 116, 104, 101, 97, 100, 62, 10]⟩] wr HBD2.out (by simp) (by have h3 := HL.out; have h4 : (idxOut (fun _ => (outs n).row ⟨#[116, 104]⟩ al) l).length = (rowsOut ((outs n).row ⟨#[116, 104]⟩ al) l).length := rfl; rw [List.length_append, List.length_append]; omega)) ?_
      rintro e w3 ⟨rfl, g3, b3, k3⟩
      have hz3 := b3.size
      have hbx3 := Kept.box HBXX2.out k3 (by omega) (by decide)
      have y8 := hbx3.cell 8
      simp only [List.getElem?_toArray, List.getElem?_cons_succ, List.getElem?_cons_zero] at y8
      have HBXX3 := Lib.hid hbx3
      have HBD3 := Lib.hid g3
      have HBLX3 := Lib.hid (HBLX2.out.trans b3)
      have HKPX3 := Lib.hid (HKPX2.out.trans k3)
      clear hbx3 g3 b3 k3
      go_wp2_with fail
      refine Calls.mono (puts_new B b _ [⟨#[60, 47, 116, 97, 98, 108, 101, 62, 10]⟩] w3 HBD3.out (by simp) (by have h3 := HL.out; have h4 : (idxOut (fun _ => (outs n).row ⟨#[116, 104]⟩ al) l).length = (rowsOut ((outs n).row ⟨#[116, 104]⟩ al) l).length := rfl; rw [List.length_append, List.length_append, List.length_append]; omega)) ?_
      rintro e w4 ⟨rfl, g4, b4, k4⟩
      have H4 := Lib.hid g4
      have HB4 := Lib.hid b4
      have HK4 := Lib.hid k4
      clear g4 b4 k4
      go_wp2
      go_end0
      refine ⟨rfl, ?_, HBLX3.out.trans HB4.out, HKPX3.out.trans HK4.out⟩
      have h := H4.out
      unfold rowsOut
      simpa only [List.append_assoc] using h

set_option maxHeartbeats 8000000 in
set_option maxRecDepth 100000 in
theorem table_big (n : Nat) (kd mk : Nat) (lv st : Int) (tg : Bool) (inf tx : ByteArray) (A1 A2 A3 : Option Addr) (m3 c1 c2 c3 : Nat) (al : List UInt8) (l : List (BT n)) (hRow : ∀ x ∈ l, RDoes n x) (S : Nat → Prop) (w : World) (B b : Nat) (acc : List UInt8)
    (hal : Row 1 OneByte w S (.slice A1 al.length c1) al) (h : BlksAt n w S (.slice A2 l.length c2) l) (hcap : l.length ≤ c2 ∧ c2 ≤ 9223372036854775807 ∧ (A2 = none → c2 = 0)) (hS : ∀ k, S k → k < B) (hB : Bld 83 B b acc w) (hP : PowB B w) (hw : bwt n l ≤ 1000000) (hsm : 1 < l.length) (hlen : acc.length + (tableOut (outs n) al l).length ≤ 1000000000000) :
    Calls Tryz.prog 102 #[.pointer (some ⟨b, 0, none⟩), .agg #[.int .u8 kd, .int .i64 lv, .int .u8 mk, .int .i64 st, .bool tg, .string inf, .string tx, .slice A1 al.length c1, .slice A2 l.length c2, .slice A3 m3 c3]] w (WrR w B b (acc ++ tableOut (outs n) al l)) := by
  have hb := hB.lt
  have hBw : B ≤ w.heap.size := Nat.le_trans hB.le (Nat.le_of_lt hB.lt)
  have hlw := bwt_len n l
  have HBX := Lib.hid (Box.new w 41 #[.int .u8 kd, .int .i64 lv, .int .u8 mk, .int .i64 st, .bool tg, .string inf, .string tx, .slice A1 al.length c1, .slice A2 l.length c2, .slice A3 m3 c3])
  have HBD := Lib.hid (hB.alloc (.cells #[.int .u8 kd, .int .i64 lv, .int .u8 mk, .int .i64 st, .bool tg, .string inf, .string tx, .slice A1 al.length c1, .slice A2 l.length c2, .slice A3 m3 c3] 41))
  have hbl : Below B w (w.alloc (.cells #[.int .u8 kd, .int .i64 lv, .int .u8 mk, .int .i64 st, .bool tg, .string inf, .string tx, .slice A1 al.length c1, .slice A2 l.length c2, .slice A3 m3 c3] 41)) := (Below.refl B w).alloc hBw _
  have hkp : Kept b w (w.alloc (.cells #[.int .u8 kd, .int .i64 lv, .int .u8 mk, .int .i64 st, .bool tg, .string inf, .string tx, .slice A1 al.length c1, .slice A2 l.length c2, .slice A3 m3 c3] 41)) := (Kept.refl b w).alloc _
  have HBL := Lib.hid hbl
  have HKP := Lib.hid hkp
  have HPW := Lib.hid hP
  have HS := Lib.hid hS
  have HAL := Lib.hid hal
  have HRW := Lib.hid hRow
  have HAT0 := Lib.hid h
  obtain ⟨cp1, cp2, cp3⟩ := hcap
  obtain ⟨LT, hLT⟩ : ∃ LT, l.take 1 = LT := ⟨_, rfl⟩
  obtain ⟨LD, hLD⟩ : ∃ LD, l.drop 1 = LD := ⟨_, rfl⟩
  have hLTl : LT.length = 1 := by rw [← hLT, List.length_take]; omega
  have hLDl : LD.length = l.length - 1 := by rw [← hLD, List.length_drop]
  have hmT : ∀ x ∈ LT, x ∈ l := fun x hx => by rw [← hLT] at hx; exact List.mem_of_mem_take hx
  have hmD : ∀ x ∈ LD, x ∈ l := fun x hx => by rw [← hLD] at hx; exact List.mem_of_mem_drop hx
  have hl3 : acc.length + ((cat [⟨#[60, 116, 97, 98, 108, 101, 62, 10, 60, 116, 104, 101, 97, 100, 62, 10]⟩]).length + (rowsOut ((outs n).row ⟨#[116, 104]⟩ al) LT).length + (cat [⟨#[60, 47, 116, 104, 101, 97, 100, 62, 10]⟩]).length + ((cat [⟨#[60, 116, 98, 111, 100, 121, 62, 10]⟩]).length + (rowsOut ((outs n).row ⟨#[116, 100]⟩ al) LD).length + (cat [⟨#[60, 47, 116, 98, 111, 100, 121, 62, 10]⟩]).length) + (cat [⟨#[60, 47, 116, 97, 98, 108, 101, 62, 10]⟩]).length) ≤ 1000000000000 := by
    unfold tableOut at hlen
    rw [if_pos hsm, hLT, hLD] at hlen
    simp only [List.length_append] at hlen ⊢
    exact hlen
  have hout : tableOut (outs n) al l = cat [⟨#[60, 116, 97, 98, 108, 101, 62, 10, 60, 116, 104, 101, 97, 100, 62, 10]⟩] ++ rowsOut ((outs n).row ⟨#[116, 104]⟩ al) LT ++ cat [⟨#[60, 47, 116, 104, 101, 97, 100, 62, 10]⟩] ++ (cat [⟨#[60, 116, 98, 111, 100, 121, 62, 10]⟩] ++ rowsOut ((outs n).row ⟨#[116, 100]⟩ al) LD ++ cat [⟨#[60, 47, 116, 98, 111, 100, 121, 62, 10]⟩]) ++ cat [⟨#[60, 47, 116, 97, 98, 108, 101, 62, 10]⟩] := by
    unfold tableOut
    rw [if_pos hsm, hLT, hLD]
  rw [hout]
  rcases A2 with _ | a2
  · have := cp3 rfl
    omega
  have hwsp := rowB_split (bw1 n) l 1
  rw [hLT, hLD] at hwsp
  have hT := h.take_ 1 (by omega)
  have hD := h.drop_ 1 (c2 - 1) (by omega)
  rw [hLT] at hT
  rw [hLD, show a2.add (1 * 10) = ⟨a2.block, a2.off + 10, none⟩ from add_succ a2 9] at hD
  rw [show (1 : Nat) = LT.length from hLTl.symm] at hT
  obtain ⟨A, c, e0, hlT, hget⟩ := hT.get2
  cases e0
  rw [hLTl] at hT
  rw [show l.length - 1 = LD.length from hLDl.symm] at hD
  obtain ⟨A, c, e0, hlD, hgetD⟩ := hD.get2
  cases e0
  have HG := Lib.hid hget
  have HGD := Lib.hid hgetD
  have HL := Lib.hid hl3
  have HWT1 : Hid (rowB (bw1 n) LT ≤ 1000000) := by unfold bwt at hw; show _ ≤ _; omega
  have HWT2 : Hid (rowB (bw1 n) LD ≤ 1000000) := by unfold bwt at hw; show _ ≤ _; omega
  have HMT := Lib.hid hmT
  have HMD := Lib.hid hmD
  have hmin : min (l.length : Int) 1 = (LT.length : Int) := by omega
  have hq2 : LT.length ≤ c2 := by omega
  have hgt : decide ((1 : Int) < (l.length : Int)) = true := by simp; omega
  have hll : l.length ≤ 9223372036854775807 := by omega
  have HTL := Lib.hid hLTl
  have HDL := Lib.hid hLDl
  clear h hget hgetD hS hB hP hbl hkp hlen hl3 hout hRow hal hT hD hLT hLD hmT hmD hwsp hLTl hLDl
  go_enter Tryz.func102, Tryz.ntmps102
  go_wp2_with fail
  refine Calls.mono (puts_at B b _ acc [⟨#[60, 116, 97, 98, 108, 101, 62, 10, 60, 116, 104, 101, 97, 100, 62, 10]⟩] _ (by simp) HBD.out (by simp) (by have := HL.out; omega)) ?_
  rintro e w1 ⟨rfl, g1, b1, k1⟩
  have hz1 := b1.size
  simp only [World.size_alloc] at hz1
  have hbx1 := Kept.box HBX.out k1 (by omega) (by decide)
  have x81 := hbx1.cell 8
  simp only [List.getElem?_toArray, List.getElem?_cons_succ, List.getElem?_cons_zero] at x81
  have HBXX1 := Lib.hid hbx1
  have HBD1 := Lib.hid g1
  have HBLX1 := Lib.hid (HBL.out.trans b1)
  have HKPX1 := Lib.hid (HKP.out.trans k1)
  clear hbx1 g1 b1 k1
  go_wp2_with fail
  go_loopw [19] (fun i wr => IdxW (fun _ => (outs n).row ⟨#[116, 104]⟩ al) LT (acc ++ cat [⟨#[60, 116, 97, 98, 108, 101, 62, 10, 60, 116, 104, 101, 97, 100, 62, 10]⟩]) w1 B b i wr) (fun i _ => LT.length - (intOf i).toNat)
  case atStart => exact ⟨0, rfl, Nat.zero_le _, by rw [show idxOut (fun _ => (outs n).row ⟨#[116, 104]⟩ al) (List.take 0 LT) = [] from rfl, List.append_nil]; exact HBD1.out, Below.refl _ _, Kept.refl _ _⟩
  case round =>
    clear x81
    obtain ⟨k, rfl, hk, hbd, hbw, hkp⟩ := hrel
    have hws := hbw.size
    by_cases hlt : k < LT.length
    · obtain ⟨ad, kd', mk', lv', st', tg', inf', tx', A1', A2', A3', m1', m2', m3', c1', c2', c3', hA, hbl, hat, q0, q1, q2, q3, q4, q5, q6, q7, q8, q9⟩ := HG.out k hlt
      cases hA
      have hbl2 := HS.out _ hbl
      have hwr : Below B w wr := HBLX1.out.trans hbw
      have q : ∀ j : Nat, wr.cell? ⟨(a2.add (k * 10)).block, j, none⟩ = w.cell? ⟨(a2.add (k * 10)).block, j, none⟩ := fun j => hwr.cell (by rw [block_of_add]; exact hbl2)
      have d0 := (hwr.cell (p := a2.add (k * 10)) (by rw [block_of_add]; exact hbl2)).trans q0
      have d1 := (q _).trans q1
      have d2 := (q _).trans q2
      have d3 := (q _).trans q3
      have d4 := (q _).trans q4
      have d5 := (q _).trans q5
      have d6 := (q _).trans q6
      have d7 := (q _).trans q7
      have d8 := (q _).trans q8
      have d9 := (q _).trans q9
      have hbxr := Kept.box HBXX1.out hkp (by omega) (by decide)
      have hbxlt := hbxr.lt
      have x7 := fun o : Obj => (World.cell?_alloc_lt wr o ⟨w.heap.size, 7, none⟩ hbxlt).trans (hbxr.cell 7)
      simp only [List.getElem?_toArray, List.getElem?_cons_succ, List.getElem?_cons_zero] at x7
      have hup : bw1 n LT[k] ≤ 1000000 := by have := rowB_upto (bw1 n) LT k hlt; have := HWT1.out; omega
      have htk := idxOut_take (fun _ => (outs n).row ⟨#[116, 104]⟩ al) LT k hlt
      have hsp := rows_split ((outs n).row ⟨#[116, 104]⟩ al) LT k hlt
      have hbl1 : ∀ o : Obj, Below B w (wr.alloc o) := fun o => hwr.alloc (by omega) o
      have hat1 : ∀ o : Obj, BlkAt n (wr.alloc o) S [.int .u8 kd', .int .i64 lv', .int .u8 mk', .int .i64 st', .bool tg', .string inf', .string tx', .slice A1' m1' c1', .slice A2' m2' c2', .slice A3' m3' c3'] LT[k] := fun o => BlkAt.keep (fun j hj => (hbl1 o).block j (HS.out j hj)) n hat
      have hal1 : ∀ o : Obj, Row 1 OneByte (wr.alloc o) S (.slice A1 al.length c1) al := fun o => bytes_later HAL.out HS.out (hbl1 o)
      have hle : (acc ++ cat [⟨#[60, 116, 97, 98, 108, 101, 62, 10, 60, 116, 104, 101, 97, 100, 62, 10]⟩] ++ idxOut (fun _ => (outs n).row ⟨#[116, 104]⟩ al) (LT.take k)).length + ((outs n).row ⟨#[116, 104]⟩ al LT[k]).length ≤ 1000000000000 := by
        have h3 := HL.out
        have h4 : (idxOut (fun _ => (outs n).row ⟨#[116, 104]⟩ al) (LT.take k)).length = (rowsOut ((outs n).row ⟨#[116, 104]⟩ al) (LT.take k)).length := rfl
        rw [List.length_append, List.length_append]
        omega
      have HATR := Lib.hid hat1
      have HALR := Lib.hid hal1
      have HPO : Hid (∀ o : Obj, PowB B (wr.alloc o)) := fun o => HPW.out.on (hbl1 o)
      have HTK := Lib.hid htk
      have HUP := Lib.hid hup
      have HLE := Lib.hid hle
      have HBDr := Lib.hid hbd
      clear hbd htk hsp hat1 hal1 hbl1 q0 q1 q2 q3 q4 q5 q6 q7 q8 q9 q hat hle hup hbxr
      go_wp2_with fail
      refine Calls.mono (HRW.out LT[k] (HMT.out _ (List.getElem_mem hlt)) ⟨#[116, 104]⟩ al _ _ _ _ _ _ _ _ _ _ _ _ _ _ _ _ _ _ S _ B b _ rfl (HALR.out _) (HATR.out _) HS.out (HBDr.out.alloc _) (HPO.out _) HUP.out HLE.out) ?_
      rintro e w2 ⟨rfl, g2, b2, k2⟩
      have H2 := Lib.hid g2
      have HB2 := Lib.hid b2
      have HK2 := Lib.hid k2
      clear g2 b2 k2
      go_wp2
      go_roundw
      case rel => exact ⟨k + 1, by go_num, hlt, by rw [HTK.out, ← List.append_assoc]; exact H2.out, (hbw.alloc (by omega) _).trans HB2.out, (hkp.alloc _).trans HK2.out⟩
      case measure => simp [intOf]; omega
    · obtain rfl : k = LT.length := by omega
      rw [List.take_of_length_le (Nat.le_refl _)] at hbd
      have hbx2 := Kept.box HBXX1.out hkp (by omega) (by decide)
      have HBXX2 := Lib.hid hbx2
      have HBD2 := Lib.hid hbd
      have HBLX2 := Lib.hid (HBLX1.out.trans hbw)
      have HKPX2 := Lib.hid (HKPX1.out.trans hkp)
      clear hbx2 hbd hbw hkp
      go_wp2_with fail
      refine Calls.mono (puts_new B b _ [⟨#[60, 47, 116, 104, 101, 97, 100, 62, 10]⟩] wr HBD2.out (by simp) (by have h3 := HL.out; have h4 : (idxOut (fun _ => (outs n).row ⟨#[116, 104]⟩ al) LT).length = (rowsOut ((outs n).row ⟨#[116, 104]⟩ al) LT).length := rfl; rw [List.length_append, List.length_append]; omega)) ?_
      rintro e w3 ⟨rfl, g3, b3, k3⟩
      have hz3 := b3.size
      have hbx3 := Kept.box HBXX2.out k3 (by omega) (by decide)
      have y8 := hbx3.cell 8
      simp only [List.getElem?_toArray, List.getElem?_cons_succ, List.getElem?_cons_zero] at y8
      have HBXX3 := Lib.hid hbx3
      have HBD3 := Lib.hid g3
      have HBLX3 := Lib.hid (HBLX2.out.trans b3)
      have HKPX3 := Lib.hid (HKPX2.out.trans k3)
      clear hbx3 g3 b3 k3
      go_wp2_with fail
      refine Calls.mono (puts_new B b _ [⟨#[60, 116, 98, 111, 100, 121, 62, 10]⟩] w3 HBD3.out (by simp) (by have h3 := HL.out; have h4 : (idxOut (fun _ => (outs n).row ⟨#[116, 104]⟩ al) LT).length = (rowsOut ((outs n).row ⟨#[116, 104]⟩ al) LT).length := rfl; rw [List.length_append, List.length_append, List.length_append]; omega)) ?_
      rintro e w4 ⟨rfl, g4, b4, k4⟩
      have hz4 := b4.size
      have hbx4 := Kept.box HBXX3.out k4 (by omega) (by decide)
      have x82 := hbx4.cell 8
      simp only [List.getElem?_toArray, List.getElem?_cons_succ, List.getElem?_cons_zero] at x82
      have HBXX4 := Lib.hid hbx4
      have HBD4 := Lib.hid g4
      have HBLX4 := Lib.hid (HBLX3.out.trans b4)
      have HKPX4 := Lib.hid (HKPX3.out.trans k4)
      clear hbx4 g4 b4 k4 y8
      have hc1 : ¬ c2 = 1 := by omega
      go_wp2_with fail
      rw [show l.length - 1 = LD.length from HDL.out.symm]
      go_loopw [43] (fun i wr => IdxW (fun _ => (outs n).row ⟨#[116, 100]⟩ al) LD (acc ++ cat [⟨#[60, 116, 97, 98, 108, 101, 62, 10, 60, 116, 104, 101, 97, 100, 62, 10]⟩] ++ idxOut (fun _ => (outs n).row ⟨#[116, 104]⟩ al) LT ++ cat [⟨#[60, 47, 116, 104, 101, 97, 100, 62, 10]⟩] ++ cat [⟨#[60, 116, 98, 111, 100, 121, 62, 10]⟩]) w4 B b i wr) (fun i _ => LD.length - (intOf i).toNat)
      case atStart => exact ⟨0, rfl, Nat.zero_le _, by rw [show idxOut (fun _ => (outs n).row ⟨#[116, 100]⟩ al) (List.take 0 LD) = [] from rfl, List.append_nil]; exact HBD4.out, Below.refl _ _, Kept.refl _ _⟩
      case round =>
        clear x82
        obtain ⟨k, rfl, hk, hbd, hbw, hkp⟩ := hrel
        have hws := hbw.size
        by_cases hlt : k < LD.length
        · obtain ⟨ad, kd', mk', lv', st', tg', inf', tx', A1', A2', A3', m1', m2', m3', c1', c2', c3', hA, hbl, hat, q0, q1, q2, q3, q4, q5, q6, q7, q8, q9⟩ := HGD.out k hlt
          cases hA
          have hbl2 := HS.out _ hbl
          have hwr : Below B w wr := HBLX4.out.trans hbw
          have q : ∀ j : Nat, wr.cell? ⟨((⟨a2.block, a2.off + 10, none⟩ : Addr).add (k * 10)).block, j, none⟩ = w.cell? ⟨((⟨a2.block, a2.off + 10, none⟩ : Addr).add (k * 10)).block, j, none⟩ := fun j => hwr.cell (by rw [block_of_add]; exact hbl2)
          have d0 := (hwr.cell (p := (⟨a2.block, a2.off + 10, none⟩ : Addr).add (k * 10)) (by rw [block_of_add]; exact hbl2)).trans q0
          have d1 := (q _).trans q1
          have d2 := (q _).trans q2
          have d3 := (q _).trans q3
          have d4 := (q _).trans q4
          have d5 := (q _).trans q5
          have d6 := (q _).trans q6
          have d7 := (q _).trans q7
          have d8 := (q _).trans q8
          have d9 := (q _).trans q9
          simp only [add_at] at d0 d1 d2 d3 d4 d5 d6 d7 d8 d9
          have hbxr := Kept.box HBXX4.out hkp (by omega) (by decide)
          have hbxlt := hbxr.lt
          have x7 := fun o : Obj => (World.cell?_alloc_lt wr o ⟨w.heap.size, 7, none⟩ hbxlt).trans (hbxr.cell 7)
          simp only [List.getElem?_toArray, List.getElem?_cons_succ, List.getElem?_cons_zero] at x7
          have hup : bw1 n LD[k] ≤ 1000000 := by have := rowB_upto (bw1 n) LD k hlt; have := HWT2.out; omega
          have htk := idxOut_take (fun _ => (outs n).row ⟨#[116, 100]⟩ al) LD k hlt
          have hsp := rows_split ((outs n).row ⟨#[116, 100]⟩ al) LD k hlt
          have hbl1 : ∀ o : Obj, Below B w (wr.alloc o) := fun o => hwr.alloc (by omega) o
          have hat1 : ∀ o : Obj, BlkAt n (wr.alloc o) S [.int .u8 kd', .int .i64 lv', .int .u8 mk', .int .i64 st', .bool tg', .string inf', .string tx', .slice A1' m1' c1', .slice A2' m2' c2', .slice A3' m3' c3'] LD[k] := fun o => BlkAt.keep (fun j hj => (hbl1 o).block j (HS.out j hj)) n hat
          have hal1 : ∀ o : Obj, Row 1 OneByte (wr.alloc o) S (.slice A1 al.length c1) al := fun o => bytes_later HAL.out HS.out (hbl1 o)
          have hle : (acc ++ cat [⟨#[60, 116, 97, 98, 108, 101, 62, 10, 60, 116, 104, 101, 97, 100, 62, 10]⟩] ++ idxOut (fun _ => (outs n).row ⟨#[116, 104]⟩ al) LT ++ cat [⟨#[60, 47, 116, 104, 101, 97, 100, 62, 10]⟩] ++ cat [⟨#[60, 116, 98, 111, 100, 121, 62, 10]⟩] ++ idxOut (fun _ => (outs n).row ⟨#[116, 100]⟩ al) (LD.take k)).length + ((outs n).row ⟨#[116, 100]⟩ al LD[k]).length ≤ 1000000000000 := by
            have h3 := HL.out
            have h4 : (idxOut (fun _ => (outs n).row ⟨#[116, 100]⟩ al) (LD.take k)).length = (rowsOut ((outs n).row ⟨#[116, 100]⟩ al) (LD.take k)).length := rfl
            have h5 : (idxOut (fun _ => (outs n).row ⟨#[116, 104]⟩ al) LT).length = (rowsOut ((outs n).row ⟨#[116, 104]⟩ al) LT).length := rfl; rw [List.length_append, List.length_append, List.length_append, List.length_append, List.length_append]
            omega
          have HATR := Lib.hid hat1
          have HALR := Lib.hid hal1
          have HPO : Hid (∀ o : Obj, PowB B (wr.alloc o)) := fun o => HPW.out.on (hbl1 o)
          have HTK := Lib.hid htk
          have HUP := Lib.hid hup
          have HLE := Lib.hid hle
          have HBDr := Lib.hid hbd
          clear hbd htk hsp hat1 hal1 hbl1 q0 q1 q2 q3 q4 q5 q6 q7 q8 q9 q hat hle hup hbxr
          go_wp2_with fail
          refine Calls.mono (HRW.out LD[k] (HMD.out _ (List.getElem_mem hlt)) ⟨#[116, 100]⟩ al _ _ _ _ _ _ _ _ _ _ _ _ _ _ _ _ _ _ S _ B b _ rfl (HALR.out _) (HATR.out _) HS.out (HBDr.out.alloc _) (HPO.out _) HUP.out HLE.out) ?_
          rintro e w2 ⟨rfl, g2, b2, k2⟩
          have H2 := Lib.hid g2
          have HB2 := Lib.hid b2
          have HK2 := Lib.hid k2
          clear g2 b2 k2
          go_wp2
          go_roundw
          case rel => exact ⟨k + 1, by go_num, hlt, by rw [HTK.out, ← List.append_assoc]; exact H2.out, (hbw.alloc (by omega) _).trans HB2.out, (hkp.alloc _).trans HK2.out⟩
          case measure => simp [intOf]; omega
        · obtain rfl : k = LD.length := by omega
          rw [List.take_of_length_le (Nat.le_refl _)] at hbd
          have HBDr := Lib.hid hbd
          have HBWr := Lib.hid hbw
          have HKPr := Lib.hid hkp
          clear hbd hbw hkp
          go_wp2_with fail
          refine Calls.mono (puts_new B b _ [⟨#[60, 47, 116, 98, 111, 100, 121, 62, 10]⟩] wr HBDr.out (by simp) (by have h3 := HL.out; have h4 : (idxOut (fun _ => (outs n).row ⟨#[116, 104]⟩ al) LT).length = (rowsOut ((outs n).row ⟨#[116, 104]⟩ al) LT).length := rfl; have h5 : (idxOut (fun _ => (outs n).row ⟨#[116, 100]⟩ al) LD).length = (rowsOut ((outs n).row ⟨#[116, 100]⟩ al) LD).length := rfl; rw [List.length_append, List.length_append, List.length_append, List.length_append, List.length_append]; omega)) ?_
          rintro e w6 ⟨rfl, g6, b6, k6⟩
          have H6 := Lib.hid g6
          have HB6 := Lib.hid b6
          have HK6 := Lib.hid k6
          clear g6 b6 k6
          go_wp2_with fail
          refine Calls.mono (puts_new B b _ [⟨#[60, 47, 116, 97, 98, 108, 101, 62, 10]⟩] w6 H6.out (by simp) (by have h3 := HL.out; have h4 : (idxOut (fun _ => (outs n).row ⟨#[116, 104]⟩ al) LT).length = (rowsOut ((outs n).row ⟨#[116, 104]⟩ al) LT).length := rfl; have h5 : (idxOut (fun _ => (outs n).row ⟨#[116, 100]⟩ al) LD).length = (rowsOut ((outs n).row ⟨#[116, 100]⟩ al) LD).length := rfl; rw [List.length_append, List.length_append, List.length_append, List.length_append, List.length_append, List.length_append]; omega)) ?_
          rintro e w7 ⟨rfl, g7, b7, k7⟩
          have H7 := Lib.hid g7
          have HB7 := Lib.hid b7
          have HK7 := Lib.hid k7
          clear g7 b7 k7
          go_wp2
          go_end0
          refine ⟨rfl, ?_, HBLX4.out.trans (HBWr.out.trans (HB6.out.trans HB7.out)), HKPX4.out.trans (HKPr.out.trans (HK6.out.trans HK7.out))⟩
          have h := H7.out
          unfold rowsOut
          simpa only [List.append_assoc] using h
end Go.Proofs.YtibaoocklempnaaGreatDoor
