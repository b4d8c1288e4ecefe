/- lower's writer: a list. -/
import Derived.Test.YtibaoocklempnaaGreatDoorBlkV
namespace Go.Proofs.YtibaoocklempnaaGreatDoor
open Go.RowKit

def ListS (w : World) (mk : Nat) (st : Int) (o : Obj) (s4 s5 : Value) (wx : World) : Prop := s4 = .string (listName mk) ∧ s5 = .string (listStart mk st) ∧ Below (w.heap.size + 1) (w.alloc o) wx
theorem name_ol {mk : Nat} (h : mk = 46 ∨ mk = 41) : listName mk = ⟨#[111, 108]⟩ := if_pos h
theorem name_ul {mk : Nat} (h : ¬ (mk = 46 ∨ mk = 41)) : listName mk = ⟨#[117, 108]⟩ := if_neg h
theorem start_1 {mk : Nat} (h : mk = 46 ∨ mk = 41) : listStart mk 1 = ⟨#[]⟩ := by unfold listStart; rw [if_pos h, if_pos rfl]
theorem start_n {mk : Nat} {st : Int} (h : mk = 46 ∨ mk = 41) (h1 : st ≠ 1) : listStart mk st = ⟨#[32, 115, 116, 97, 114, 116, 61, 34]⟩ ++ (⟨(Lib.itoa st).toArray⟩ : ByteArray) ++ ⟨#[34]⟩ := by unfold listStart; rw [if_pos h, if_neg h1]; rfl
theorem start_ul {mk : Nat} {st : Int} (h : ¬ (mk = 46 ∨ mk = 41)) : listStart mk st = ⟨#[]⟩ := if_neg h
def isOrd (mk : Nat) : Bool := mk == 46 || mk == 41
theorem isOrd_true {mk : Nat} (h : isOrd mk = true) : mk = 46 ∨ mk = 41 := by unfold isOrd at h; simpa using h
theorem isOrd_false {mk : Nat} (h : isOrd mk = false) : ¬ (mk = 46 ∨ mk = 41) := by
  intro hc
  unfold isOrd at h
  rcases hc with rfl | rfl <;> simp at h
def OrdS (w : World) (mk : Nat) (o : Obj) (s15 : Value) (wx : World) : Prop := s15 = .bool (isOrd mk) ∧ wx = w.alloc o
theorem itoa_size (n : Int) (h : I64 n) : (⟨(Lib.itoa n).toArray⟩ : ByteArray).size ≤ 20 := by
  have := itoa_len n h
  show (Lib.itoa n).toArray.size ≤ 20
  simpa using this

set_option maxHeartbeats 4000000 in
set_option maxRecDepth 100000 in
theorem list_any (n : Nat) (kd mk : Nat) (lv st : Int) (tg : Bool) (inf tx : ByteArray) (A1 A2 A3 : Option Addr) (m1 m3 c1 c2 c3 : Nat) (l : List (BT n)) (hAll : ∀ x ∈ l, BDoes n x) (hCls : ∀ x ∈ l, CDoes n x) (S : Nat → Prop) (w : World) (B b : Nat) (acc : List UInt8)
    (h : BlksAt n w S (.slice A2 l.length c2) l) (hS : ∀ k, S k → k < B) (hB : Bld 83 B b acc w) (hP : PowB B w) (hmk : mk < 256) (hst : I64 st) (hw : bwt n l ≤ 1000000) (hlen : acc.length + (listOut (outs n) (kdOf n) mk st tg l).length ≤ 1000000000000) :
    Calls Tryz.prog 96 #[.pointer (some ⟨b, 0, none⟩), .agg #[.int .u8 kd, .int .i64 lv, .int .u8 mk, .int .i64 st, .bool tg, .string inf, .string tx, .slice A1 m1 c1, .slice A2 l.length c2, .slice A3 m3 c3]] w (WrR w B b (acc ++ listOut (outs n) (kdOf n) mk st tg l)) := by
  have hb := hB.lt
  have hBw : B ≤ w.heap.size := Nat.le_trans hB.le (Nat.le_of_lt hB.lt)
  have hlw := bwt_len n l
  have HBX := Lib.hid (Box.new w 41 #[.int .u8 kd, .int .i64 lv, .int .u8 mk, .int .i64 st, .bool tg, .string inf, .string tx, .slice A1 m1 c1, .slice A2 l.length c2, .slice A3 m3 c3])
  have HBD := Lib.hid (hB.alloc (.cells #[.int .u8 kd, .int .i64 lv, .int .u8 mk, .int .i64 st, .bool tg, .string inf, .string tx, .slice A1 m1 c1, .slice A2 l.length c2, .slice A3 m3 c3] 41))
  have hbl : Below B w (w.alloc (.cells #[.int .u8 kd, .int .i64 lv, .int .u8 mk, .int .i64 st, .bool tg, .string inf, .string tx, .slice A1 m1 c1, .slice A2 l.length c2, .slice A3 m3 c3] 41)) := (Below.refl B w).alloc hBw _
  have hkp : Kept b w (w.alloc (.cells #[.int .u8 kd, .int .i64 lv, .int .u8 mk, .int .i64 st, .bool tg, .string inf, .string tx, .slice A1 m1 c1, .slice A2 l.length c2, .slice A3 m3 c3] 41)) := (Kept.refl b w).alloc _
  have HBL := Lib.hid hbl
  have HKP := Lib.hid hkp
  have HP := Lib.hid (hP.on hbl)
  have HPW := Lib.hid hP
  obtain ⟨A, c, e0, hl, hget⟩ := h.get2
  cases e0
  have HG := Lib.hid hget
  have HALL := Lib.hid hAll
  have HCLS := Lib.hid hCls
  have HS := Lib.hid hS
  obtain ⟨NM, hNM⟩ : ∃ NM, listName mk = NM := ⟨_, rfl⟩
  obtain ⟨SM, hSM⟩ : ∃ SM, listStart mk st = SM := ⟨_, rfl⟩
  have hl3 : acc.length + ((cat [⟨#[60]⟩, NM, SM, ⟨#[62, 10]⟩]).length + (rowsOut (listKid (outs n) (kdOf n) tg) l).length + (cat [⟨#[60, 47]⟩, NM, ⟨#[62, 10]⟩]).length) ≤ 1000000000000 := by
    unfold listOut at hlen
    rw [hNM, hSM, List.length_append, List.length_append] at hlen
    exact hlen
  have HL := Lib.hid hl3
  have HNM := Lib.hid hNM
  have HSM := Lib.hid hSM
  have HST := Lib.hid hst
  clear h hget hAll hCls hS hB hP hbl hkp hlen hl3 hNM hSM hst
  go_enter Tryz.func96, Tryz.ntmps96
  go_upto_region 2 with (fail)
  go_cut [15] (fun s15 wx => OrdS w mk (.cells #[.int .u8 kd, .int .i64 lv, .int .u8 mk, .int .i64 st, .bool tg, .string inf, .string tx, .slice A1 m1 c1, .slice A2 l.length c2, .slice A3 m3 c3] 41) s15 wx)
  case first =>
    by_cases h46 : mk = 46
    · subst h46
      go_wp2
      go_meet
      exact ⟨rfl, rfl⟩
    · have z46 : ((mk : Int) == 46) = false := by rw [beq_eq_false_iff_ne]; omega
      by_cases h41 : mk = 41
      · subst h41
        clear h46
        go_wp2
        go_meet
        exact ⟨rfl, rfl⟩
      · have z41 : ((mk : Int) == 41) = false := by rw [beq_eq_false_iff_ne]; omega
        have ho : isOrd mk = false := by unfold isOrd; simp [h46, h41]
        have HO := Lib.hid ho
        clear ho h46 h41
        go_wp2
        go_meet
        exact ⟨by rw [HO.out], rfl⟩
  obtain ⟨rfl, rfl⟩ := hcut
  obtain ⟨ob, hob⟩ : ∃ ob, isOrd mk = ob := ⟨_, rfl⟩
  rw [hob]
  go_upto_if 15 with (fail)
  go_cut [4, 5] (fun s4 s5 wx => ListS w mk st (.cells #[.int .u8 kd, .int .i64 lv, .int .u8 mk, .int .i64 st, .bool tg, .string inf, .string tx, .slice A1 m1 c1, .slice A2 l.length c2, .slice A3 m3 c3] 41) s4 s5 wx)
  case first =>
    cases ob with
    | true =>
      have hor := isOrd_true hob
      by_cases h1 : st = 1
      · subst h1
        have HOR := Lib.hid hor
        clear hor hob
        go_wp2
        go_meet
        exact ⟨by rw [name_ol HOR.out], by rw [start_1 HOR.out], Below.refl _ _⟩
      · have zs : ((st : Int) != 1) = true := by simpa using h1
        have hsz := itoa_size st HST.out
        obtain ⟨T, hT⟩ : ∃ T : ByteArray, (⟨(Lib.itoa st).toArray⟩ : ByteArray) = T := ⟨_, rfl⟩
        rw [hT] at hsz
        have HT := Lib.hid hT
        have H1 := Lib.hid h1
        have HOR := Lib.hid hor
        have hq1 : ¬ (9223372036854775807 < 8 + T.size) := by omega
        have hq2 : ¬ (9223372036854775807 < 8 + T.size + 1) := by omega
        clear hT h1 hor hob
        go_wp2_with fail
        refine Calls.mono (itoa_any st HST.out _ HP.out.1) ?_
        rintro e w1 ⟨rfl, b1⟩
        rw [HT.out]
        have HB1 := Lib.hid b1
        clear b1
        go_wp2
        go_meet
        exact ⟨by rw [name_ol HOR.out], by rw [start_n HOR.out H1.out, HT.out], by simpa using HB1.out⟩
    | false =>
      have hor := isOrd_false hob
      have HOR := Lib.hid hor
      clear hor hob
      go_wp2
      go_meet
      exact ⟨by rw [name_ul HOR.out], by rw [start_ul HOR.out], Below.refl _ _⟩
  clear hob
  obtain ⟨rfl, rfl, hbc⟩ := hcut
  obtain ⟨w0, rfl⟩ : ∃ w0 : World, w0 = wc := ⟨_, rfl⟩
  rw [HNM.out, HSM.out]
  have hsz := hbc.size
  simp only [World.size_alloc] at hsz
  have hbx0 := HBX.out.below hbc (by omega)
  have hbd0 := HBD.out.below (hbc.mono (by simp))
  have hbl0 := HBL.out.trans (hbc.mono (by omega))
  have hkp0 : Kept b w w0 := HKP.out.trans (Kept.of_below (hbc.mono (by simp)))
  have HBX0 := Lib.hid hbx0
  have HBD0 := Lib.hid hbd0
  have HBL0 := Lib.hid hbl0
  have HKP0 := Lib.hid hkp0
  clear hbx0 hbd0 hbl0 hkp0 hbc
  go_wp2_with fail
  refine Calls.mono (puts_new B b acc [⟨#[60]⟩, NM, SM, ⟨#[62, 10]⟩] w0 HBD0.out (by simp) (by have := HL.out; omega)) ?_
  rintro e w1 ⟨rfl, g1, b1, k1⟩
  have hbx1 := Kept.box HBX0.out k1 (by omega) (by decide)
  have x8 := hbx1.cell 8
  simp only [List.getElem?_toArray, List.getElem?_cons_succ, List.getElem?_cons_zero] at x8
  have hz1 := b1.size
  have HBX1 := Lib.hid hbx1
  have HBD1 := Lib.hid g1
  have HBL1 := Lib.hid (HBL0.out.trans b1)
  have HKP1 := Lib.hid (HKP0.out.trans k1)
  clear hbx1 g1 b1 k1
  go_wp2_with fail
  go_loopw [32] (fun i wr => IdxW (fun _ => listKid (outs n) (kdOf n) tg) l (acc ++ cat [⟨#[60]⟩, NM, SM, ⟨#[62, 10]⟩]) w1 B b i wr) (fun i _ => l.length - (intOf i).toNat)
  case atStart => exact ⟨0, rfl, Nat.zero_le _, by rw [show idxOut (fun _ => listKid (outs n) (kdOf n) tg) (List.take 0 l) = [] from rfl, List.append_nil]; exact HBD1.out, Below.refl _ _, Kept.refl _ _⟩
  case round =>
    clear x8
    obtain ⟨k, rfl, hk, hbd, hbw, hkp⟩ := hrel
    have hws := hbw.size
    by_cases hlt : k < l.length
    · obtain ⟨ad, kd', mk', lv', st', tg', inf', tx', A1', A2', A3', m1', m2', m3', c1', c2', c3', hA, hbl, hat, q0, q1, q2, q3, q4, q5, q6, q7, q8, q9⟩ := HG.out k hlt
      subst hA
      have hbl2 := HS.out _ hbl
      have hwr : Below B w wr := HBL1.out.trans hbw
      have q : ∀ j : Nat, wr.cell? ⟨(ad.add (k * 10)).block, j, none⟩ = w.cell? ⟨(ad.add (k * 10)).block, j, none⟩ := fun j => hwr.cell (by rw [block_of_add]; exact hbl2)
      have d0 := (hwr.cell (p := ad.add (k * 10)) (by rw [block_of_add]; exact hbl2)).trans q0
      have d1 := (q _).trans q1
      have d2 := (q _).trans q2
      have d3 := (q _).trans q3
      have d4 := (q _).trans q4
      have d5 := (q _).trans q5
      have d6 := (q _).trans q6
      have d7 := (q _).trans q7
      have d8 := (q _).trans q8
      have d9 := (q _).trans q9
      have hbxr := Kept.box HBX1.out hkp (by omega) (by decide)
      have hbxlt := hbxr.lt
      have x4 := fun o : Obj => (World.cell?_alloc_lt wr o ⟨w.heap.size, 4, none⟩ hbxlt).trans (hbxr.cell 4)
      simp only [List.getElem?_toArray, List.getElem?_cons_succ, List.getElem?_cons_zero] at x4
      have hkd : kdOf n l[k] = kd' := hat.kind
      have hup : bw1 n l[k] ≤ 1000000 := by have := rowB_upto (bw1 n) l k hlt; unfold bwt at hw; omega
      have htk := idxOut_take (fun _ => listKid (outs n) (kdOf n) tg) l k hlt
      have hsp := idxOut_split (fun _ => listKid (outs n) (kdOf n) tg) l k hlt
      have hbl1 : ∀ o : Obj, Below B w (wr.alloc o) := fun o => hwr.alloc (by omega) o
      have hat1 : ∀ o : Obj, BlkAt n (wr.alloc o) S [.int .u8 kd', .int .i64 lv', .int .u8 mk', .int .i64 st', .bool tg', .string inf', .string tx', .slice A1' m1' c1', .slice A2' m2' c2', .slice A3' m3' c3'] l[k] := fun o => BlkAt.keep (fun j hj => (hbl1 o).block j (HS.out j hj)) n hat
      have hle : (acc ++ cat [⟨#[60]⟩, NM, SM, ⟨#[62, 10]⟩] ++ idxOut (fun _ => listKid (outs n) (kdOf n) tg) (l.take k)).length + (listKid (outs n) (kdOf n) tg l[k]).length ≤ 1000000000000 := by
        have h2 : (rowsOut (listKid (outs n) (kdOf n) tg) l).length = (idxOut (fun _ => listKid (outs n) (kdOf n) tg) l).length := rfl
        have h3 := HL.out
        rw [List.length_append, List.length_append]
        omega
      have HAT := Lib.hid hat1
      have HPO : Hid (∀ o : Obj, PowB B (wr.alloc o)) := fun o => HPW.out.on (hbl1 o)
      have HTK := Lib.hid htk
      have HUP := Lib.hid hup
      by_cases hc : kd' = 4 ∧ tg = true
      · obtain ⟨rfl, rfl⟩ := hc
        have hlk : listKid (outs n) (kdOf n) true l[k] = (outs n).cls l[k] := by unfold listKid; rw [if_pos ⟨hkd, rfl⟩]
        rw [hlk] at hle
        have HLK := Lib.hid hlk
        have HLE := Lib.hid hle
        have HBDr := Lib.hid hbd
        clear hbd htk hsp hat1 hbl1 q0 q1 q2 q3 q4 q5 q6 q7 q8 q9 q hat hle hup hkd hlk hbxr
        go_wp2_with fail
        refine Calls.mono (HCLS.out l[k] (List.getElem_mem hlt) _ _ _ _ _ _ _ _ _ _ _ _ _ _ _ _ S _ B b _ (HAT.out _) HS.out (HBDr.out.alloc _) (HPO.out _) HUP.out HLE.out) ?_
        rintro e w2 ⟨rfl, g2, b2, k2⟩
        have H2 := Lib.hid g2
        have HB2 := Lib.hid b2
        have HK2 := Lib.hid k2
        clear g2 b2 k2
        go_wp2
        go_roundw
        case rel => exact ⟨k + 1, by go_num, hlt, by rw [HTK.out, ← List.append_assoc, HLK.out]; exact H2.out, (hbw.alloc (by omega) _).trans HB2.out, (hkp.alloc _).trans HK2.out⟩
        case measure => simp [intOf]; omega
      · have hlk : listKid (outs n) (kdOf n) tg l[k] = (outs n).blk l[k] := by unfold listKid; rw [if_neg (by rw [hkd]; exact hc)]
        rw [hlk] at hle
        have HLK := Lib.hid hlk
        have HLE := Lib.hid hle
        have HBDr := Lib.hid hbd
        clear hbd htk hsp hat1 hbl1 q0 q1 q2 q3 q4 q5 q6 q7 q8 q9 q hat hle hup hkd hlk hbxr
        by_cases h4 : kd' = 4
        · subst h4
          obtain rfl : tg = false := by cases tg <;> simp_all
          clear hc
          go_wp2_with fail
          refine Calls.mono (HALL.out l[k] (List.getElem_mem hlt) _ _ _ _ _ _ _ _ _ _ _ _ _ _ _ _ S _ B b _ (HAT.out _) HS.out (HBDr.out.alloc _) (HPO.out _) HUP.out HLE.out) ?_
          rintro e w2 ⟨rfl, g2, b2, k2⟩
          have H2 := Lib.hid g2
          have HB2 := Lib.hid b2
          have HK2 := Lib.hid k2
          clear g2 b2 k2
          go_wp2
          go_roundw
          case rel => exact ⟨k + 1, by go_num, hlt, by rw [HTK.out, ← List.append_assoc, HLK.out]; exact H2.out, (hbw.alloc (by omega) _).trans HB2.out, (hkp.alloc _).trans HK2.out⟩
          case measure => simp [intOf]; omega
        · have z4 : ((kd' : Int) == 4) = false := by rw [beq_eq_false_iff_ne]; omega
          clear hc h4
          go_wp2_with fail
          refine Calls.mono (HALL.out l[k] (List.getElem_mem hlt) _ _ _ _ _ _ _ _ _ _ _ _ _ _ _ _ S _ B b _ (HAT.out _) HS.out (HBDr.out.alloc _) (HPO.out _) HUP.out HLE.out) ?_
          rintro e w2 ⟨rfl, g2, b2, k2⟩
          have H2 := Lib.hid g2
          have HB2 := Lib.hid b2
          have HK2 := Lib.hid k2
          clear g2 b2 k2
          go_wp2
          go_roundw
          case rel => exact ⟨k + 1, by go_num, hlt, by rw [HTK.out, ← List.append_assoc, HLK.out]; exact H2.out, (hbw.alloc (by omega) _).trans HB2.out, (hkp.alloc _).trans HK2.out⟩
          case measure => simp [intOf]; omega
    · obtain rfl : k = l.length := by omega
      rw [List.take_of_length_le (Nat.le_refl _)] at hbd
      have HBDr := Lib.hid hbd
      have HBWr := Lib.hid hbw
      have HKPr := Lib.hid hkp
      clear hbd hbw hkp
      go_wp2_with fail
      refine Calls.mono (puts_new B b _ [⟨#[60, 47]⟩, NM, ⟨#[62, 10]⟩] wr HBDr.out (by simp) (by have h2 : (rowsOut (listKid (outs n) (kdOf n) tg) l).length = (idxOut (fun _ => listKid (outs n) (kdOf n) tg) l).length := rfl; have := HL.out; rw [List.length_append, List.length_append]; omega)) ?_
      rintro e w3 ⟨rfl, g3, b3, k3⟩
      have H3 := Lib.hid g3
      have HB3 := Lib.hid b3
      have HK3 := Lib.hid k3
      clear g3 b3 k3
      go_wp2
      go_end0
      refine ⟨rfl, ?_, HBL1.out.trans (HBWr.out.trans HB3.out), HKP1.out.trans (HKPr.out.trans HK3.out)⟩
      have h := H3.out
      unfold listOut
      rw [HNM.out, HSM.out]
      unfold rowsOut
      simpa only [List.append_assoc] using h
end Go.Proofs.YtibaoocklempnaaGreatDoor
