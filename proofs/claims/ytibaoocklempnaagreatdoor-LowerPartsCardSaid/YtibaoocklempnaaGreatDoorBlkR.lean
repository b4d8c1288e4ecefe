/- lower's writer: a table's row. -/
import Derived.Test.YtibaoocklempnaaGreatDoorBlkC
import Derived.Deep.DeepCutAuto
namespace Go.Proofs.YtibaoocklempnaaGreatDoor
open Go.RowKit

/-- A byte of a row of bytes, in every later world. -/
theorem byte_at {w : World} {S : Nat → Prop} {A : Option Addr} {c : Nat} {al : List UInt8} (h : Row 1 OneByte w S (.slice A al.length c) al) (i : Nat) (hi : i < al.length) : ∃ ad, A = some ad ∧ S ad.block ∧ w.cell? (ad.add i) = some (.int .u8 (al[i].toNat : Int)) := by
  obtain ⟨A', c', e, hl, h0, h1⟩ := h
  cases e
  obtain ⟨ad, vs, hA, hlie, hv⟩ := h1 i al[i] (List.getElem?_eq_getElem hi)
  obtain ⟨ad', hA', hb⟩ := h0 (by omega)
  rw [hA] at hA'
  cases hA'
  cases hv
  rw [Nat.mul_one] at hlie
  exact ⟨ad, hA, hb, hlie.fst⟩
theorem placeOut_none {al : List UInt8} {i : Nat} (h : ¬ i < al.length) : placeOut al i = [] := by
  unfold placeOut
  rw [List.getElem?_eq_none (by omega)]
theorem placeOut_some {al : List UInt8} {i : Nat} (h : i < al.length) : placeOut al i = if al[i] = 1 then cat [⟨#[32, 97, 108, 105, 103, 110, 61, 34]⟩, ⟨#[108, 101, 102, 116]⟩, ⟨#[34]⟩] else if al[i] = 2 then cat [⟨#[32, 97, 108, 105, 103, 110, 61, 34]⟩, ⟨#[99, 101, 110, 116, 101, 114]⟩, ⟨#[34]⟩] else if al[i] = 3 then cat [⟨#[32, 97, 108, 105, 103, 110, 61, 34]⟩, ⟨#[114, 105, 103, 104, 116]⟩, ⟨#[34]⟩] else [] := by
  unfold placeOut
  rw [List.getElem?_eq_getElem h]

def isPl (al : List UInt8) (k : Nat) : Bool := match al[k]? with
  | none => false
  | some a => a == 1 || a == 2 || a == 3
theorem isPl_true {al : List UInt8} {k : Nat} (h : isPl al k = true) : ∃ hk : k < al.length, (al[k] = 1 ∧ placeOut al k = cat [⟨#[32, 97, 108, 105, 103, 110, 61, 34]⟩, ⟨#[108, 101, 102, 116]⟩, ⟨#[34]⟩]) ∨ (al[k] = 2 ∧ placeOut al k = cat [⟨#[32, 97, 108, 105, 103, 110, 61, 34]⟩, ⟨#[99, 101, 110, 116, 101, 114]⟩, ⟨#[34]⟩]) ∨ (al[k] = 3 ∧ placeOut al k = cat [⟨#[32, 97, 108, 105, 103, 110, 61, 34]⟩, ⟨#[114, 105, 103, 104, 116]⟩, ⟨#[34]⟩]) := by
  by_cases hk : k < al.length
  · refine ⟨hk, ?_⟩
    unfold isPl at h
    rw [List.getElem?_eq_getElem hk] at h
    rw [placeOut_some hk]
    simp only [Bool.or_eq_true, beq_iff_eq] at h
    rcases h with (h | h) | h
    · exact .inl ⟨h, by rw [h]; rfl⟩
    · exact .inr (.inl ⟨h, by rw [h]; rfl⟩)
    · exact .inr (.inr ⟨h, by rw [h]; rfl⟩)
  · unfold isPl at h
    rw [List.getElem?_eq_none (by omega)] at h
    cases h
theorem isPl_false {al : List UInt8} {k : Nat} (h : isPl al k = false) : placeOut al k = [] := by
  by_cases hk : k < al.length
  · unfold isPl at h
    rw [List.getElem?_eq_getElem hk] at h
    rw [placeOut_some hk]
    simp only [Bool.or_eq_false_iff, beq_eq_false_iff_ne] at h
    rw [if_neg h.1.1, if_neg h.1.2, if_neg h.2]
  · exact placeOut_none hk
theorem isPl_out {al : List UInt8} {k : Nat} (hk : ¬ k < al.length) : isPl al k = false := by
  unfold isPl
  rw [List.getElem?_eq_none (by omega)]
theorem isPl_in {al : List UInt8} {k : Nat} (hk : k < al.length) : isPl al k = (decide ((0 : Int) < (al[k].toNat : Int)) && decide ((al[k].toNat : Int) ≤ 3)) := by
  unfold isPl
  rw [List.getElem?_eq_getElem hk]
  have key : ∀ n : Fin 256, ((UInt8.ofNat n.val) == 1 || (UInt8.ofNat n.val) == 2 || (UInt8.ofNat n.val) == 3) = (decide ((0 : Int) < ((UInt8.ofNat n.val).toNat : Int)) && decide (((UInt8.ofNat n.val).toNat : Int) ≤ 3)) := by decide +kernel
  have h := key ⟨al[k].toNat, UInt8.toNat_lt _⟩
  rw [UInt8.ofNat_toNat] at h
  exact h
def PlS (al : List UInt8) (k : Nat) (w2 : World) (s : Value) (wx : World) : Prop := s = .bool (isPl al k) ∧ wx = w2
theorem len5 (a b c d e : List UInt8) : (a ++ b ++ c ++ d ++ e).length = a.length + b.length + c.length + d.length + e.length := by simp only [List.length_append]
/-- What is behind the place, whatever it was. -/
def PlaceS (w : World) (B b : Nat) (l : List UInt8) (wx : World) : Prop := Bld 83 B b l wx ∧ Below B w wx ∧ Kept b w wx

set_option maxHeartbeats 1000000 in
set_option maxRecDepth 100000 in
theorem row_not (kd mk : Nat) (lv st : Int) (tg : Bool) (inf tx name : ByteArray) (A0 A1 A2 A3 : Option Addr) (m0 m1 m2 m3 c0 c1 c2 c3 : Nat) (w : World) (B b : Nat) (acc : List UInt8) (hB : Bld 83 B b acc w) (hk : kd ≠ 11) :
    Calls Tryz.prog 123 #[.pointer (some ⟨b, 0, none⟩), .agg #[.int .u8 kd, .int .i64 lv, .int .u8 mk, .int .i64 st, .bool tg, .string inf, .string tx, .slice A1 m1 c1, .slice A2 m2 c2, .slice A3 m3 c3], .string name, .slice A0 m0 c0] w (WrR w B b acc) := by
  have hBw : B ≤ w.heap.size := Nat.le_trans hB.le (Nat.le_of_lt hB.lt)
  have HBD := Lib.hid (hB.alloc (.cells #[.int .u8 kd, .int .i64 lv, .int .u8 mk, .int .i64 st, .bool tg, .string inf, .string tx, .slice A1 m1 c1, .slice A2 m2 c2, .slice A3 m3 c3] 41))
  have z : ((kd : Int) != 11) = true := by simp; omega
  clear hB hk
  go_enter Tryz.func123, Tryz.ntmps123
  go_wp2
  go_end0
  exact ⟨rfl, HBD.out, (Below.refl B w).alloc hBw _, (Kept.refl b w).alloc _⟩

set_option maxHeartbeats 16000000 in
set_option maxRecDepth 100000 in
theorem row_any (n : Nat) (mk : Nat) (lv st : Int) (tg : Bool) (inf tx name : ByteArray) (A0 A1 A2 A3 : Option Addr) (m1 m3 c0 c1 c2 c3 : Nat) (al : List UInt8) (l : List (BT n)) (S : Nat → Prop) (w : World) (B b : Nat) (acc : List UInt8)
    (hal : Row 1 OneByte w S (.slice A0 al.length c0) al) (h : BlksAt n w S (.slice A2 l.length c2) l) (hS : ∀ k, S k → k < B) (hB : Bld 83 B b acc w) (hw : bwt n l ≤ 1000000) (hlen : acc.length + (rowOut (kdOf n) (ioOf n) name al 11 l).length ≤ 1000000000000) :
    Calls Tryz.prog 123 #[.pointer (some ⟨b, 0, none⟩), .agg #[.int .u8 (11 : Nat), .int .i64 lv, .int .u8 mk, .int .i64 st, .bool tg, .string inf, .string tx, .slice A1 m1 c1, .slice A2 l.length c2, .slice A3 m3 c3], .string name, .slice A0 al.length c0] w (WrR w B b (acc ++ rowOut (kdOf n) (ioOf n) name al 11 l)) := by
  have hb := hB.lt
  have hBw : B ≤ w.heap.size := Nat.le_trans hB.le (Nat.le_of_lt hB.lt)
  have hlw := bwt_len n l
  have hall : al.length ≤ 9223372036854775807 := by obtain ⟨_, _, e, hl, _⟩ := hal; exact hl
  have HBX := Lib.hid (Box.new w 41 #[.int .u8 (11 : Nat), .int .i64 lv, .int .u8 mk, .int .i64 st, .bool tg, .string inf, .string tx, .slice A1 m1 c1, .slice A2 l.length c2, .slice A3 m3 c3])
  have HBD := Lib.hid (hB.alloc (.cells #[.int .u8 (11 : Nat), .int .i64 lv, .int .u8 mk, .int .i64 st, .bool tg, .string inf, .string tx, .slice A1 m1 c1, .slice A2 l.length c2, .slice A3 m3 c3] 41))
  have hbl : Below B w (w.alloc (.cells #[.int .u8 (11 : Nat), .int .i64 lv, .int .u8 mk, .int .i64 st, .bool tg, .string inf, .string tx, .slice A1 m1 c1, .slice A2 l.length c2, .slice A3 m3 c3] 41)) := (Below.refl B w).alloc hBw _
  have hkp : Kept b w (w.alloc (.cells #[.int .u8 (11 : Nat), .int .i64 lv, .int .u8 mk, .int .i64 st, .bool tg, .string inf, .string tx, .slice A1 m1 c1, .slice A2 l.length c2, .slice A3 m3 c3] 41)) := (Kept.refl b w).alloc _
  have HBL := Lib.hid hbl
  have HKP := Lib.hid hkp
  obtain ⟨A, c, e0, hl, hget⟩ := h.get2
  cases e0
  have HG := Lib.hid hget
  have HS := Lib.hid hS
  have HALN := Lib.hid hal
  have hl3 : acc.length + ((cat [⟨#[60, 116, 114, 62, 10]⟩]).length + (idxOut (cellOut (kdOf n) (ioOf n) name al) l).length + (cat [⟨#[60, 47, 116, 114, 62, 10]⟩]).length) ≤ 1000000000000 := by
    unfold rowOut at hlen
    rw [if_pos rfl, List.length_append, List.length_append] at hlen
    exact hlen
  have HL := Lib.hid hl3
  clear h hget hS hB hbl hkp hlen hl3 hal
  go_enter Tryz.func123, Tryz.ntmps123
  go_wp2_with fail
  refine Calls.mono (puts_at B b _ acc [⟨#[60, 116, 114, 62, 10]⟩] _ (by simp) HBD.out (by simp) (by have := HL.out; omega)) ?_
  rintro e w1 ⟨rfl, g1, b1, k1⟩
  have hz1 := b1.size
  simp only [World.size_alloc] at hz1
  have hbx1 := Kept.box HBX.out k1 (by omega) (by decide)
  have x8 := hbx1.cell 8
  simp only [List.getElem?_toArray, List.getElem?_cons_succ, List.getElem?_cons_zero] at x8
  have HBD1 := Lib.hid g1
  have HBL1 := Lib.hid (HBL.out.trans b1)
  have HKP1 := Lib.hid (HKP.out.trans k1)
  clear hbx1 g1 b1 k1
  go_wp2_with fail
  go_loopw [19] (fun i wr => IdxW (cellOut (kdOf n) (ioOf n) name al) l (acc ++ cat [⟨#[60, 116, 114, 62, 10]⟩]) w1 B b i wr) (fun i _ => l.length - (intOf i).toNat)
  case atStart => exact ⟨0, rfl, Nat.zero_le _, by rw [show idxOut (cellOut (kdOf n) (ioOf n) name al) (List.take 0 l) = [] from rfl, List.append_nil]; exact HBD1.out, Below.refl _ _, Kept.refl _ _⟩
  case round =>
    clear x8
    obtain ⟨k, rfl, hk, hbd, hbw, hkp⟩ := hrel
    have hws := hbw.size
    by_cases hlt : k < l.length
    · obtain ⟨ad, kd', mk', lv', st', tg', inf', tx', A1', A2', A3', m1', m2', m3', c1', c2', c3', hA, hbl, hat, q0, q1, q2, q3, q4, q5, q6, q7, q8, q9⟩ := HG.out k hlt
      subst hA
      have hbl2 := HS.out _ hbl
      have hwr : Below B w wr := HBL1.out.trans hbw
      have q : ∀ j : Nat, wr.cell? ⟨(ad.add (k * 10)).block, j, none⟩ = w.cell? ⟨(ad.add (k * 10)).block, j, none⟩ := fun j => hwr.cell (by rw [block_of_add]; exact hbl2)
      have d0 := (hwr.cell (p := ad.add (k * 10)) (by rw [block_of_add]; exact hbl2)).trans q0
      have d1 := (q _).trans q1
      have d2 := (q _).trans q2
      have d3 := (q _).trans q3
      have d4 := (q _).trans q4
      have d5 := (q _).trans q5
      have d6 := (q _).trans q6
      have d7 := (q _).trans q7
      have d8 := (q _).trans q8
      have d9 := (q _).trans q9
      have hkd : kdOf n l[k] = kd' := hat.kind
      have hup : bw1 n l[k] ≤ 1000000 := by have := rowB_upto (bw1 n) l k hlt; unfold bwt at hw; omega
      have htk := idxOut_take (cellOut (kdOf n) (ioOf n) name al) l k hlt
      have hsp := idxOut_split (cellOut (kdOf n) (ioOf n) name al) l k hlt
      have hbl1 : ∀ o : Obj, Below B w (wr.alloc o) := fun o => hwr.alloc (by omega) o
      have hle : (acc ++ cat [⟨#[60, 116, 114, 62, 10]⟩] ++ idxOut (cellOut (kdOf n) (ioOf n) name al) (l.take k)).length + (cellOut (kdOf n) (ioOf n) name al k l[k]).length ≤ 1000000000000 := by
        have h3 := HL.out
        rw [List.length_append, List.length_append]
        omega
      have HBL2 := Lib.hid hbl1
      have HTK := Lib.hid htk
      have HBDr := Lib.hid hbd
      by_cases h12 : kd' = 12
      · subst h12
        obtain ⟨dep, il, hil, hio, hiw⟩ := hat.inls
        obtain ⟨Z, hZ⟩ : ∃ Z, inlOut dep il = Z := ⟨_, rfl⟩
        obtain ⟨PL, hPL⟩ : ∃ PL, placeOut al k = PL := ⟨_, rfl⟩
        have hck : cellOut (kdOf n) (ioOf n) name al k l[k] = cat [⟨#[60]⟩, name] ++ PL ++ cat [⟨#[62]⟩] ++ Z ++ cat [⟨#[60, 47]⟩, name, ⟨#[62, 10]⟩] := by unfold cellOut; rw [if_pos hkd, hio, hZ, hPL]
        rw [hck, len5] at hle
        have hkc : ∀ o : Obj, KidC (.slice A3' m3' c3') Z (wr.alloc o) B b := fun o w' acc' h1 h2 h3 => by
          rw [← hZ] at h3 ⊢
          exact inlines_any dep _ il S w' B b acc' (InlsAt.keep (fun j hj => ((hbl1 o).trans h2).block j (HS.out j hj)) dep hil) HS.out h1 (by omega) h3
        have hbt : ∀ (w' : World), Below B w w' → ∀ hi : k < al.length, ∃ ad, A0 = some ad ∧ w'.cell? (ad.add k) = some (.int .u8 (al[k].toNat : Int)) := fun w' hb hi => by
          obtain ⟨ad, hA, hS', hc⟩ := byte_at HALN.out k hi
          exact ⟨ad, hA, (hb.cell (by rw [block_of_add]; exact HS.out _ hS')).trans hc⟩
        have HKC := Lib.hid hkc
        have HCK := Lib.hid hck
        have HLE := Lib.hid hle
        have HBT := Lib.hid hbt
        have HPL := Lib.hid hPL
        have HX := Lib.hid (Box.new wr 41 #[.int .u8 (12 : Nat), .int .i64 lv', .int .u8 mk', .int .i64 st', .bool tg', .string inf', .string tx', .slice A1' m1' c1', .slice A2' m2' c2', .slice A3' m3' c3'])
        clear hbd htk hsp hbl1 q0 q1 q2 q3 q4 q5 q6 q7 q8 q9 q hat hle hup hkd hck hkc hil hio hiw hZ hbt hPL
        go_wp2_with fail
        refine Calls.mono (puts_at B b _ _ [⟨#[60]⟩, name] _ (by simp) (HBDr.out.alloc _) (by simp) (by have := HLE.out; omega)) ?_
        rintro e w2 ⟨rfl, g2, b2, k2⟩
        have hz2 := b2.size
        simp only [World.size_alloc] at hz2
        have H2 := Lib.hid g2
        have HB2 := Lib.hid b2
        have HK2 := Lib.hid k2
        clear g2 b2 k2
        go_upto_region 8 with (fail)
        go_cut [48] (fun s48 wx => PlS al k w2 s48 wx)
        case first =>
          by_cases hka : k < al.length
          · obtain ⟨ad0, hA0, hcell⟩ := HBT.out w2 ((HBL2.out _).trans HB2.out) hka
            subst hA0
            have hin := isPl_in hka
            have hkl : decide ((k : Int) < (al.length : Int)) = true := by simpa using hka
            obtain ⟨a, ha⟩ : ∃ a : UInt8, al[k] = a := ⟨_, rfl⟩
            rw [ha] at hcell hin
            have HIN := Lib.hid hin
            clear hin ha
            have hu := UInt8.toNat_lt a
            by_cases p1 : 0 < a.toNat
            · have z1 : decide ((0 : Int) < (a.toNat : Int)) = true := by simp; omega
              by_cases p2 : a.toNat ≤ 3
              · have z2 : decide ((a.toNat : Int) ≤ 3) = true := by simp; omega
                have HZ1 := Lib.hid z1
                have HZ2 := Lib.hid z2
                go_wp2
                go_meet
                exact ⟨by rw [HIN.out, HZ1.out, HZ2.out]; rfl, rfl⟩
              · have z2 : decide ((a.toNat : Int) ≤ 3) = false := by simp; omega
                have HZ1 := Lib.hid z1
                have HZ2 := Lib.hid z2
                go_wp2
                go_meet
                exact ⟨by rw [HIN.out, HZ1.out, HZ2.out]; rfl, rfl⟩
            · have z1 : decide ((0 : Int) < (a.toNat : Int)) = false := by simp; omega
              have HZ1 := Lib.hid z1
              go_wp2
              go_meet
              exact ⟨by rw [HIN.out, HZ1.out]; rfl, rfl⟩
          · have hkl : decide ((k : Int) < (al.length : Int)) = false := by simpa using hka
            have HO := Lib.hid (isPl_out hka)
            go_wp2
            go_meet
            exact ⟨by rw [HO.out], rfl⟩
        obtain ⟨rfl, rfl⟩ := hcut
        obtain ⟨wq, rfl⟩ : ∃ wq : World, wq = wc := ⟨_, rfl⟩
        obtain ⟨pb, hpb⟩ : ∃ pb, isPl al k = pb := ⟨_, rfl⟩
        rw [hpb]
        have HPB := Lib.hid hpb
        clear hpb
        go_upto_if 48 with (fail)
        go_cut [] (fun wx => PlaceS wq B b (acc ++ cat [⟨#[60, 116, 114, 62, 10]⟩] ++ idxOut (cellOut (kdOf n) (ioOf n) name al) (l.take k) ++ cat [⟨#[60]⟩, name] ++ PL) wx)
        case first =>
          cases pb with
          | true =>
            obtain ⟨hka, hpl⟩ := isPl_true HPB.out
            obtain ⟨ad0, hA0, hcell⟩ := HBT.out wq ((HBL2.out _).trans HB2.out) hka
            subst hA0
            rw [HPL.out] at hpl
            rcases hpl with ⟨ha, hpl⟩ | ⟨ha, hpl⟩ | ⟨ha, hpl⟩
            · rw [show (al[k].toNat : Int) = 1 by rw [ha]; rfl] at hcell
              have hc2 := fun o : Obj => (World.cell?_alloc_lt wq o (ad0.add k) (World.block_lt_of_cell? _ _ hcell)).trans hcell
              have HPS := Lib.hid hpl
              clear hpl ha
              go_wp2_with fail
              refine Calls.mono (puts_at B b (wq.heap.size + 1) _ [⟨#[32, 97, 108, 105, 103, 110, 61, 34]⟩, ⟨#[108, 101, 102, 116]⟩, ⟨#[34]⟩] _ (by simp) (H2.out.alloc _) (by simp) (by have := HLE.out; have := congrArg List.length HPS.out; rw [List.length_append]; omega)) ?_
              rintro e w3 ⟨rfl, g3, b3, k3⟩
              have H3 := Lib.hid g3
              have HB3 := Lib.hid b3
              have HK3 := Lib.hid k3
              clear g3 b3 k3
              go_wp2
              go_meet
              exact ⟨by rw [HPS.out]; exact H3.out, ((Below.refl B wq).alloc (by omega) _).trans HB3.out, ((Kept.refl b wq).alloc _).trans HK3.out⟩
            · rw [show (al[k].toNat : Int) = 2 by rw [ha]; rfl] at hcell
              have hc2 := fun o : Obj => (World.cell?_alloc_lt wq o (ad0.add k) (World.block_lt_of_cell? _ _ hcell)).trans hcell
              have HPS := Lib.hid hpl
              clear hpl ha
              go_wp2_with fail
              refine Calls.mono (puts_at B b (wq.heap.size + 1) _ [⟨#[32, 97, 108, 105, 103, 110, 61, 34]⟩, ⟨#[99, 101, 110, 116, 101, 114]⟩, ⟨#[34]⟩] _ (by simp) (H2.out.alloc _) (by simp) (by have := HLE.out; have := congrArg List.length HPS.out; rw [List.length_append]; omega)) ?_
              rintro e w3 ⟨rfl, g3, b3, k3⟩
              have H3 := Lib.hid g3
              have HB3 := Lib.hid b3
              have HK3 := Lib.hid k3
              clear g3 b3 k3
              go_wp2
              go_meet
              exact ⟨by rw [HPS.out]; exact H3.out, ((Below.refl B wq).alloc (by omega) _).trans HB3.out, ((Kept.refl b wq).alloc _).trans HK3.out⟩
            · rw [show (al[k].toNat : Int) = 3 by rw [ha]; rfl] at hcell
              have hc2 := fun o : Obj => (World.cell?_alloc_lt wq o (ad0.add k) (World.block_lt_of_cell? _ _ hcell)).trans hcell
              have HPS := Lib.hid hpl
              clear hpl ha
              go_wp2_with fail
              refine Calls.mono (puts_at B b (wq.heap.size + 1) _ [⟨#[32, 97, 108, 105, 103, 110, 61, 34]⟩, ⟨#[114, 105, 103, 104, 116]⟩, ⟨#[34]⟩] _ (by simp) (H2.out.alloc _) (by simp) (by have := HLE.out; have := congrArg List.length HPS.out; rw [List.length_append]; omega)) ?_
              rintro e w3 ⟨rfl, g3, b3, k3⟩
              have H3 := Lib.hid g3
              have HB3 := Lib.hid b3
              have HK3 := Lib.hid k3
              clear g3 b3 k3
              go_wp2
              go_meet
              exact ⟨by rw [HPS.out]; exact H3.out, ((Below.refl B wq).alloc (by omega) _).trans HB3.out, ((Kept.refl b wq).alloc _).trans HK3.out⟩
          | false =>
            have hpl := isPl_false HPB.out
            rw [HPL.out] at hpl
            subst hpl
            go_wp2
            go_meet
            exact ⟨by rw [List.append_nil]; exact H2.out, Below.refl _ _, Kept.refl _ _⟩
        obtain ⟨g3, b3, k3⟩ := hcut
        obtain ⟨w3, rfl⟩ : ∃ w3 : World, w3 = wc := ⟨_, rfl⟩
        have hbx3 := Kept.box (Kept.box HX.out HK2.out (by omega) (by decide)) k3 (by omega) (by decide)
        have hz3 := b3.size
        have HBX3 := Lib.hid hbx3
        have H3 := Lib.hid g3
        have HB3 := Lib.hid (HB2.out.trans b3)
        have HK3 := Lib.hid (HK2.out.trans k3)
        clear hbx3 g3 b3 k3
        go_wp2_with fail
        refine Calls.mono (puts_new B b _ [⟨#[62]⟩] w3 H3.out (by simp) (by have := HLE.out; rw [List.length_append, List.length_append]; omega)) ?_
        rintro e w4 ⟨rfl, g4, b4, k4⟩
        have hbx4 := Kept.box HBX3.out k4 (by omega) (by decide)
        have y9 := hbx4.cell 9
        simp only [List.getElem?_toArray, List.getElem?_cons_succ, List.getElem?_cons_zero] at y9
        have H4 := Lib.hid g4
        have HB4 := Lib.hid (HB3.out.trans b4)
        have HK4 := Lib.hid (HK3.out.trans k4)
        clear hbx4 g4 b4 k4
        go_wp2_with fail
        refine Calls.mono (HKC.out _ w4 _ H4.out HB4.out (by have := HLE.out; rw [List.length_append, List.length_append, List.length_append]; omega)) ?_
        rintro e w5 ⟨rfl, g5, b5, k5⟩
        have H5 := Lib.hid g5
        have HB5 := Lib.hid (HB4.out.trans b5)
        have HK5 := Lib.hid (HK4.out.trans k5)
        clear g5 b5 k5 y9
        go_wp2_with fail
        refine Calls.mono (puts_new B b _ [⟨#[60, 47]⟩, name, ⟨#[62, 10]⟩] w5 H5.out (by simp) (by have := HLE.out; rw [List.length_append, List.length_append, List.length_append, List.length_append]; omega)) ?_
        rintro e w6 ⟨rfl, g6, b6, k6⟩
        have H6 := Lib.hid g6
        have HB6 := Lib.hid (HB5.out.trans b6)
        have HK6 := Lib.hid (HK5.out.trans k6)
        clear g6 b6 k6
        go_wp2
        go_roundw
        case rel => exact ⟨k + 1, by go_num, hlt, by rw [HTK.out, HCK.out]; simpa only [List.append_assoc] using H6.out, (hbw.alloc (by omega) _).trans HB6.out, (hkp.alloc _).trans HK6.out⟩
        case measure => simp [intOf]; omega
      · have z12 : ((kd' : Int) != 12) = true := by simp; omega
        have hck : cellOut (kdOf n) (ioOf n) name al k l[k] = [] := by unfold cellOut; rw [if_neg (by rw [hkd]; exact h12)]
        have HCK := Lib.hid hck
        clear hbd htk hsp hbl1 q0 q1 q2 q3 q4 q5 q6 q7 q8 q9 q hat hle hup hkd hck h12
        go_wp2
        go_roundw
        case rel => exact ⟨k + 1, by go_num, hlt, by rw [HTK.out, HCK.out, List.append_nil]; exact HBDr.out.alloc _, hbw.alloc (by omega) _, hkp.alloc _⟩
        case measure => simp [intOf]; omega
    · obtain rfl : k = l.length := by omega
      rw [List.take_of_length_le (Nat.le_refl _)] at hbd
      have HBDr := Lib.hid hbd
      have HBWr := Lib.hid hbw
      have HKPr := Lib.hid hkp
      clear hbd hbw hkp
      go_wp2_with fail
      refine Calls.mono (puts_new B b _ [⟨#[60, 47, 116, 114, 62, 10]⟩] wr HBDr.out (by simp) (by have := HL.out; rw [List.length_append, List.length_append]; omega)) ?_
      rintro e w3 ⟨rfl, g3, b3, k3⟩
      have H3 := Lib.hid g3
      have HB3 := Lib.hid b3
      have HK3 := Lib.hid k3
      clear g3 b3 k3
      go_wp2
      go_end0
      refine ⟨rfl, ?_, HBL1.out.trans (HBWr.out.trans HB3.out), HKP1.out.trans (HKPr.out.trans HK3.out)⟩
      have h := H3.out
      unfold rowOut
      rw [if_pos rfl]
      simpa only [List.append_assoc] using h
end Go.Proofs.YtibaoocklempnaaGreatDoor
