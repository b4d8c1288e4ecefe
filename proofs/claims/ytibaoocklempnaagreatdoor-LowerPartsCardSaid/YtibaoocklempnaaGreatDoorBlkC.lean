/- lower's writer: an item of a tight list. -/
import Derived.Test.YtibaoocklempnaaGreatDoorBlkV
namespace Go.Proofs.YtibaoocklempnaaGreatDoor
open Go.RowKit

/-- A block's inlines. -/
theorem BlkAt.inls {n : Nat} {w : World} {S : Nat → Prop} {kd mk : Nat} {lv st : Int} {tg : Bool} {inf tx : ByteArray} {A1 A2 A3 : Option Addr} {m1 m2 m3 c1 c2 c3 : Nat} {x : BT n} (h : BlkAt n w S [.int .u8 kd, .int .i64 lv, .int .u8 mk, .int .i64 st, .bool tg, .string inf, .string tx, .slice A1 m1 c1, .slice A2 m2 c2, .slice A3 m3 c3] x) :
    ∃ (dep : Nat) (il : List (IT dep)), InlsAt dep w S (.slice A3 m3 c3) il ∧ ioOf n x = inlOut dep il ∧ iwt dep il ≤ bw1 n x := by
  match n, x, h with
  | 0, x, _ => exact Empty.elim x
  | n + 1, x, ⟨va, vk, vi, e, ha, hk, hi, r⟩ =>
    have e := e
    simp only [List.cons.injEq, and_true] at e
    obtain ⟨_, _, _, _, _, _, _, _, _, e⟩ := e
    subst e
    exact ⟨BlkD.dep x, BlkD.inl x, hi, rfl, by show _ ≤ bwt1 (K := List (BT n)) _ x; unfold bwt1; omega⟩

set_option maxHeartbeats 8000000 in
set_option maxRecDepth 100000 in
theorem close_any (n : Nat) (kd mk : Nat) (lv st : Int) (tg : Bool) (inf tx : ByteArray) (A1 A2 A3 : Option Addr) (m1 m3 c1 c2 c3 : Nat) (l : List (BT n)) (hAll : ∀ x ∈ l, BDoes n x) (S : Nat → Prop) (w : World) (B b : Nat) (acc : List UInt8)
    (h : BlksAt n w S (.slice A2 l.length c2) l) (hS : ∀ k, S k → k < B) (hB : Bld 83 B b acc w) (hP : PowB B w) (hw : bwt n l ≤ 1000000) (hlen : acc.length + (closeOut (outs n) (kdOf n) (ioOf n) l).length ≤ 1000000000000) :
    Calls Tryz.prog 121 #[.pointer (some ⟨b, 0, none⟩), .agg #[.int .u8 kd, .int .i64 lv, .int .u8 mk, .int .i64 st, .bool tg, .string inf, .string tx, .slice A1 m1 c1, .slice A2 l.length c2, .slice A3 m3 c3]] w (WrR w B b (acc ++ closeOut (outs n) (kdOf n) (ioOf n) l)) := by
  have hb := hB.lt
  have hBw : B ≤ w.heap.size := Nat.le_trans hB.le (Nat.le_of_lt hB.lt)
  have hlw := bwt_len n l
  have HBX := Lib.hid (Box.new w 41 #[.int .u8 kd, .int .i64 lv, .int .u8 mk, .int .i64 st, .bool tg, .string inf, .string tx, .slice A1 m1 c1, .slice A2 l.length c2, .slice A3 m3 c3])
  have HBD := Lib.hid (hB.alloc (.cells #[.int .u8 kd, .int .i64 lv, .int .u8 mk, .int .i64 st, .bool tg, .string inf, .string tx, .slice A1 m1 c1, .slice A2 l.length c2, .slice A3 m3 c3] 41))
  have hbl : Below B w (w.alloc (.cells #[.int .u8 kd, .int .i64 lv, .int .u8 mk, .int .i64 st, .bool tg, .string inf, .string tx, .slice A1 m1 c1, .slice A2 l.length c2, .slice A3 m3 c3] 41)) := (Below.refl B w).alloc hBw _
  have hkp : Kept b w (w.alloc (.cells #[.int .u8 kd, .int .i64 lv, .int .u8 mk, .int .i64 st, .bool tg, .string inf, .string tx, .slice A1 m1 c1, .slice A2 l.length c2, .slice A3 m3 c3] 41)) := (Kept.refl b w).alloc _
  have HBL := Lib.hid hbl
  have HKP := Lib.hid hkp
  have HPW := Lib.hid hP
  obtain ⟨A, c, e0, hl, hget⟩ := h.get2
  cases e0
  have HG := Lib.hid hget
  have HALL := Lib.hid hAll
  have HS := Lib.hid hS
  have hl3 : acc.length + ((cat [⟨#[60, 108, 105, 62]⟩]).length + (idxOut (closeKid (outs n) (kdOf n) (ioOf n) l.length) l).length + (cat [⟨#[60, 47, 108, 105, 62, 10]⟩]).length) ≤ 1000000000000 := by
    unfold closeOut at hlen
    rw [List.length_append, List.length_append] at hlen
    exact hlen
  have HL := Lib.hid hl3
  clear h hget hAll hS hB hP hbl hkp hlen hl3
  go_enter Tryz.func121, Tryz.ntmps121
  go_wp2_with fail
  refine Calls.mono (puts_at B b _ acc [⟨#[60, 108, 105, 62]⟩] _ (by simp) HBD.out (by simp) (by have := HL.out; omega)) ?_
  rintro e w1 ⟨rfl, g1, b1, k1⟩
  have hz1 := b1.size
  simp only [World.size_alloc] at hz1
  have hbx1 := Kept.box HBX.out k1 (by omega) (by decide)
  have x8 := hbx1.cell 8
  simp only [List.getElem?_toArray, List.getElem?_cons_succ, List.getElem?_cons_zero] at x8
  have HBX1 := Lib.hid hbx1
  have HBD1 := Lib.hid g1
  have HBL1 := Lib.hid (HBL.out.trans b1)
  have HKP1 := Lib.hid (HKP.out.trans k1)
  clear hbx1 g1 b1 k1
  go_wp2_with fail
  go_loopw [12] (fun i wr => IdxW (closeKid (outs n) (kdOf n) (ioOf n) l.length) l (acc ++ cat [⟨#[60, 108, 105, 62]⟩]) w1 B b i wr) (fun i _ => l.length - (intOf i).toNat)
  case atStart => exact ⟨0, rfl, Nat.zero_le _, by rw [show idxOut (closeKid (outs n) (kdOf n) (ioOf n) l.length) (List.take 0 l) = [] from rfl, List.append_nil]; exact HBD1.out, Below.refl _ _, Kept.refl _ _⟩
  case round =>
    clear x8
    obtain ⟨k, rfl, hk, hbd, hbw, hkp⟩ := hrel
    have hws := hbw.size
    by_cases hlt : k < l.length
    · obtain ⟨ad, kd', mk', lv', st', tg', inf', tx', A1', A2', A3', m1', m2', m3', c1', c2', c3', hA, hbl, hat, q0, q1, q2, q3, q4, q5, q6, q7, q8, q9⟩ := HG.out k hlt
      subst hA
      have hbl2 := HS.out _ hbl
      have hwr : Below B w wr := HBL1.out.trans hbw
      have q : ∀ j : Nat, wr.cell? ⟨(ad.add (k * 10)).block, j, none⟩ = w.cell? ⟨(ad.add (k * 10)).block, j, none⟩ := fun j => hwr.cell (by rw [block_of_add]; exact hbl2)
      have d0 := (hwr.cell (p := ad.add (k * 10)) (by rw [block_of_add]; exact hbl2)).trans q0
      have d1 := (q _).trans q1
      have d2 := (q _).trans q2
      have d3 := (q _).trans q3
      have d4 := (q _).trans q4
      have d5 := (q _).trans q5
      have d6 := (q _).trans q6
      have d7 := (q _).trans q7
      have d8 := (q _).trans q8
      have d9 := (q _).trans q9
      have hbxr := Kept.box HBX1.out hkp (by omega) (by decide)
      have HBXR := Lib.hid hbxr
      have hkd : kdOf n l[k] = kd' := hat.kind
      have hup : bw1 n l[k] ≤ 1000000 := by have := rowB_upto (bw1 n) l k hlt; unfold bwt at hw; omega
      have htk := idxOut_take (closeKid (outs n) (kdOf n) (ioOf n) l.length) l k hlt
      have hsp := idxOut_split (closeKid (outs n) (kdOf n) (ioOf n) l.length) l k hlt
      have hbl1 : ∀ o : Obj, Below B w (wr.alloc o) := fun o => hwr.alloc (by omega) o
      have hat1 : ∀ o : Obj, BlkAt n (wr.alloc o) S [.int .u8 kd', .int .i64 lv', .int .u8 mk', .int .i64 st', .bool tg', .string inf', .string tx', .slice A1' m1' c1', .slice A2' m2' c2', .slice A3' m3' c3'] l[k] := fun o => BlkAt.keep (fun j hj => (hbl1 o).block j (HS.out j hj)) n hat
      have hle : (acc ++ cat [⟨#[60, 108, 105, 62]⟩] ++ idxOut (closeKid (outs n) (kdOf n) (ioOf n) l.length) (l.take k)).length + (closeKid (outs n) (kdOf n) (ioOf n) l.length k l[k]).length ≤ 1000000000000 := by
        have h3 := HL.out
        rw [List.length_append, List.length_append]
        omega
      have HAT := Lib.hid hat1
      have HBL2 := Lib.hid hbl1
      have HPO : Hid (∀ o : Obj, PowB B (wr.alloc o)) := fun o => HPW.out.on (hbl1 o)
      have HTK := Lib.hid htk
      have HUP := Lib.hid hup
      have HBDr := Lib.hid hbd
      by_cases h5 : kd' = 5
      · subst h5
        obtain ⟨dep, il, hil, hio, hiw⟩ := hat.inls
        obtain ⟨Z, hZ⟩ : ∃ Z, inlOut dep il = Z := ⟨_, rfl⟩
        have hck : closeKid (outs n) (kdOf n) (ioOf n) l.length k l[k] = Z ++ (if k + 1 < l.length then cat [⟨#[10]⟩] else []) := by unfold closeKid; rw [if_pos hkd, hio, hZ]
        rw [hck, @List.length_append _ Z _] at hle
        have hkc : ∀ o : Obj, KidC (.slice A3' m3' c3') Z (wr.alloc o) B b := fun o w' acc' h1 h2 h3 => by
          rw [← hZ] at h3 ⊢
          exact inlines_any dep _ il S w' B b acc' (InlsAt.keep (fun j hj => ((hbl1 o).trans h2).block j (HS.out j hj)) dep hil) HS.out h1 (by omega) h3
        have HKC := Lib.hid hkc
        have HCK := Lib.hid hck
        have HLE := Lib.hid hle
        have HX := Lib.hid (Box.new wr 41 #[.int .u8 (5 : Nat), .int .i64 lv', .int .u8 mk', .int .i64 st', .bool tg', .string inf', .string tx', .slice A1' m1' c1', .slice A2' m2' c2', .slice A3' m3' c3'])
        clear hbd htk hsp hat1 hbl1 q0 q1 q2 q3 q4 q5 q6 q7 q8 q9 q hat hle hup hkd hck hkc hil hio hiw hZ hbxr
        by_cases hmore : k + 1 < l.length
        · have hif : (if k + 1 < l.length then cat [⟨#[10]⟩] else []) = cat [⟨#[10]⟩] := if_pos hmore
          have hle2 := HLE.out
          rw [hif] at hle2
          have HIF := Lib.hid hif
          have HLE2 := Lib.hid hle2
          clear hif hle2
          have hz : decide ((k : Int) < (l.length : Int) - 1) = true := by simp; omega
          go_wp2_with fail
          refine Calls.mono (HKC.out _ _ _ (HBDr.out.alloc _) (Below.refl _ _) (by have := HLE2.out; omega)) ?_
          rintro e w2 ⟨rfl, g2, b2, k2⟩
          have hbx2 := Kept.box (Box.below HBXR.out (Below.alloc (Below.refl wr.heap.size wr) (Nat.le_refl _) _) HBXR.out.lt) k2 (by omega) (by decide)
          have y8 := hbx2.cell 8
          simp only [List.getElem?_toArray, List.getElem?_cons_succ, List.getElem?_cons_zero] at y8
          have H2 := Lib.hid g2
          have HB2 := Lib.hid b2
          have HK2 := Lib.hid k2
          clear g2 b2 k2 hbx2
          go_wp2_with fail
          refine Calls.mono (puts_new B b _ [⟨#[10]⟩] w2 H2.out (by simp) (by have := HLE2.out; rw [List.length_append]; omega)) ?_
          rintro e w3 ⟨rfl, g3, b3, k3⟩
          have H3 := Lib.hid g3
          have HB3 := Lib.hid b3
          have HK3 := Lib.hid k3
          clear g3 b3 k3
          go_wp2
          go_roundw
          case rel => exact ⟨k + 1, by go_num, hlt, by rw [HTK.out, HCK.out, HIF.out, ← List.append_assoc, ← List.append_assoc]; exact H3.out, (hbw.alloc (by omega) _).trans (HB2.out.trans HB3.out), (hkp.alloc _).trans (HK2.out.trans HK3.out)⟩
          case measure => simp [intOf]; omega
        · have hif : (if k + 1 < l.length then cat [⟨#[10]⟩] else []) = [] := if_neg hmore
          have HIF := Lib.hid hif
          clear hif
          have hz : decide ((k : Int) < (l.length : Int) - 1) = false := by simp; omega
          go_wp2_with fail
          refine Calls.mono (HKC.out _ _ _ (HBDr.out.alloc _) (Below.refl _ _) (by have := HLE.out; omega)) ?_
          rintro e w2 ⟨rfl, g2, b2, k2⟩
          have hbx2 := Kept.box (Box.below HBXR.out (Below.alloc (Below.refl wr.heap.size wr) (Nat.le_refl _) _) HBXR.out.lt) k2 (by omega) (by decide)
          have y8 := hbx2.cell 8
          simp only [List.getElem?_toArray, List.getElem?_cons_succ, List.getElem?_cons_zero] at y8
          have H2 := Lib.hid g2
          have HB2 := Lib.hid b2
          have HK2 := Lib.hid k2
          clear g2 b2 k2 hbx2
          go_wp2
          go_roundw
          case rel => exact ⟨k + 1, by go_num, hlt, by rw [HTK.out, HCK.out, HIF.out, List.append_nil, ← List.append_assoc]; exact H2.out, (hbw.alloc (by omega) _).trans HB2.out, (hkp.alloc _).trans HK2.out⟩
          case measure => simp [intOf]; omega
      · have z5 : ((kd' : Int) == 5) = false := by rw [beq_eq_false_iff_ne]; omega
        have hck : closeKid (outs n) (kdOf n) (ioOf n) l.length k l[k] = (if k = 0 then cat [⟨#[10]⟩] else []) ++ (outs n).blk l[k] := by unfold closeKid; rw [if_neg (by rw [hkd]; exact h5)]
        rw [hck, List.length_append (bs := (outs n).blk l[k])] at hle
        have HCK := Lib.hid hck
        have HLE := Lib.hid hle
        have HX := Lib.hid (Box.new wr 41 #[.int .u8 kd', .int .i64 lv', .int .u8 mk', .int .i64 st', .bool tg', .string inf', .string tx', .slice A1' m1' c1', .slice A2' m2' c2', .slice A3' m3' c3'])
        clear hbd htk hsp hat1 hbl1 q0 q1 q2 q3 q4 q5 q6 q7 q8 q9 q hat hle hup hkd hck h5 hbxr
        by_cases h0 : k = 0
        · have hle2 := HLE.out
          have hif : (if k = 0 then cat [⟨#[10]⟩] else []) = cat [⟨#[10]⟩] := if_pos h0
          have z0 : ((k : Int) == 0) = true := by rw [beq_iff_eq]; omega
          rw [hif] at hle2
          have HIF := Lib.hid hif
          have HLE2 := Lib.hid hle2
          clear hif hle2 h0
          go_wp2_with fail
          refine Calls.mono (puts_at B b (wr.heap.size + 1) _ [⟨#[10]⟩] _ (by simp) (HBDr.out.alloc _) (by simp) (by have := HLE2.out; omega)) ?_
          rintro e w2 ⟨rfl, g2, b2, k2⟩
          have hbx2 := Kept.box HX.out k2 (by omega) (by decide)
          have y0 := hbx2.cell 0
          have y1 := hbx2.cell 1
          have y2 := hbx2.cell 2
          have y3 := hbx2.cell 3
          have y4 := hbx2.cell 4
          have y5 := hbx2.cell 5
          have y6 := hbx2.cell 6
          have y7 := hbx2.cell 7
          have y8 := hbx2.cell 8
          have y9 := hbx2.cell 9
          simp only [List.getElem?_toArray, List.getElem?_cons_succ, List.getElem?_cons_zero] at y0 y1 y2 y3 y4 y5 y6 y7 y8 y9
          have hat2 : BlkAt n w2 S [.int .u8 kd', .int .i64 lv', .int .u8 mk', .int .i64 st', .bool tg', .string inf', .string tx', .slice A1' m1' c1', .slice A2' m2' c2', .slice A3' m3' c3'] l[k] := BlkAt.keep (fun j hj => b2.block j (HS.out j hj)) n (HAT.out _)
          have hpo2 : PowB B w2 := (HPO.out _).on b2
          have HAT2 := Lib.hid hat2
          have HPO2 := Lib.hid hpo2
          have H2 := Lib.hid g2
          have HB2 := Lib.hid b2
          have HK2 := Lib.hid k2
          clear g2 b2 k2 hbx2 hat2 hpo2
          go_wp2_with fail
          refine Calls.mono (HALL.out l[k] (List.getElem_mem hlt) _ _ _ _ _ _ _ _ _ _ _ _ _ _ _ _ S _ B b _ HAT2.out HS.out H2.out HPO2.out HUP.out (by have := HLE2.out; rw [List.length_append]; omega)) ?_
          rintro e w3 ⟨rfl, g3, b3, k3⟩
          have H3 := Lib.hid g3
          have HB3 := Lib.hid b3
          have HK3 := Lib.hid k3
          clear g3 b3 k3
          go_wp2
          go_roundw
          case rel => exact ⟨k + 1, by go_num, hlt, by rw [HTK.out, HCK.out, HIF.out, ← List.append_assoc, ← List.append_assoc]; exact H3.out, (hbw.alloc (by omega) _).trans (HB2.out.trans HB3.out), (hkp.alloc _).trans (HK2.out.trans HK3.out)⟩
          case measure => simp [intOf]; omega
        · have hif : (if k = 0 then cat [⟨#[10]⟩] else []) = [] := if_neg h0
          have hle2 := HLE.out
          rw [hif, List.length_nil, Nat.zero_add] at hle2
          have z0 : ((k : Int) == 0) = false := by rw [beq_eq_false_iff_ne]; omega
          have HIF := Lib.hid hif
          have HLE2 := Lib.hid hle2
          clear hif hle2 h0
          go_wp2_with fail
          refine Calls.mono (HALL.out l[k] (List.getElem_mem hlt) _ _ _ _ _ _ _ _ _ _ _ _ _ _ _ _ S _ B b _ (HAT.out _) HS.out (HBDr.out.alloc _) (HPO.out _) HUP.out HLE2.out) ?_
          rintro e w3 ⟨rfl, g3, b3, k3⟩
          have H3 := Lib.hid g3
          have HB3 := Lib.hid b3
          have HK3 := Lib.hid k3
          clear g3 b3 k3
          go_wp2
          go_roundw
          case rel => exact ⟨k + 1, by go_num, hlt, by rw [HTK.out, HCK.out, HIF.out, List.nil_append, ← List.append_assoc]; exact H3.out, (hbw.alloc (by omega) _).trans HB3.out, (hkp.alloc _).trans HK3.out⟩
          case measure => simp [intOf]; omega
    · obtain rfl : k = l.length := by omega
      rw [List.take_of_length_le (Nat.le_refl _)] at hbd
      have HBDr := Lib.hid hbd
      have HBWr := Lib.hid hbw
      have HKPr := Lib.hid hkp
      clear hbd hbw hkp
      go_wp2_with fail
      refine Calls.mono (puts_new B b _ [⟨#[60, 47, 108, 105, 62, 10]⟩] wr HBDr.out (by simp) (by have := HL.out; rw [List.length_append, List.length_append]; omega)) ?_
      rintro e w3 ⟨rfl, g3, b3, k3⟩
      have H3 := Lib.hid g3
      have HB3 := Lib.hid b3
      have HK3 := Lib.hid k3
      clear g3 b3 k3
      go_wp2
      go_end0
      refine ⟨rfl, ?_, HBL1.out.trans (HBWr.out.trans HB3.out), HKP1.out.trans (HKPr.out.trans HK3.out)⟩
      have h := H3.out
      unfold closeOut
      simpa only [List.append_assoc] using h
end Go.Proofs.YtibaoocklempnaaGreatDoor
