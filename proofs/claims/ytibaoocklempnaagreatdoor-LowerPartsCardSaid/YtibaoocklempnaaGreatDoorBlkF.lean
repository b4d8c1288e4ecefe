/- lower's writer: a heading, a code. -/
import Derived.Test.YtibaoocklempnaaGreatDoorBlkR
import Derived.Test.YtibaoocklempnaaGreatDoorBlkL
import Derived.Deep.RegionWith
import Derived.Shelf.GgClosure.Gives
namespace Go.Proofs.YtibaoocklempnaaGreatDoor
open Go.RowKit

set_option maxHeartbeats 4000000 in
set_option maxRecDepth 100000 in
theorem head_any (B b : Nat) (acc io : List UInt8) (kd mk : Nat) (lv st : Int) (tg : Bool) (inf tx : ByteArray) (A1 A2 A3 : Option Addr) (m1 m2 m3 c1 c2 c3 : Nat) (w : World) (hB : Bld 83 B b acc w) (hk : KidC (.slice A3 m3 c3) io w B b) (hP : PowB B w) (hlv : I64 lv) (hlen : acc.length + (headOut lv io).length ≤ 1000000000000) :
    Calls Tryz.prog 99 #[.pointer (some ⟨b, 0, none⟩), .agg #[.int .u8 kd, .int .i64 lv, .int .u8 mk, .int .i64 st, .bool tg, .string inf, .string tx, .slice A1 m1 c1, .slice A2 m2 c2, .slice A3 m3 c3]] w (WrR w B b (acc ++ headOut lv io)) := by
  have hb := hB.lt
  have hBw : B ≤ w.heap.size := Nat.le_trans hB.le (Nat.le_of_lt hB.lt)
  have hbl : Below B w (w.alloc (.cells #[.int .u8 kd, .int .i64 lv, .int .u8 mk, .int .i64 st, .bool tg, .string inf, .string tx, .slice A1 m1 c1, .slice A2 m2 c2, .slice A3 m3 c3] 41)) := (Below.refl B w).alloc hBw _
  have hkp : Kept b w (w.alloc (.cells #[.int .u8 kd, .int .i64 lv, .int .u8 mk, .int .i64 st, .bool tg, .string inf, .string tx, .slice A1 m1 c1, .slice A2 m2 c2, .slice A3 m3 c3] 41)) := (Kept.refl b w).alloc _
  have hsz := itoa_size lv hlv
  obtain ⟨T, hT⟩ : ∃ T : ByteArray, (⟨(Lib.itoa lv).toArray⟩ : ByteArray) = T := ⟨_, rfl⟩
  have hTl : T.data.toList = Lib.itoa lv := by rw [← hT]
  rw [hT] at hsz
  obtain ⟨NM, hNM⟩ : ∃ NM, cs (104 :: Lib.itoa lv) = NM := ⟨_, rfl⟩
  have hNT : (⟨#[104]⟩ : ByteArray) ++ T = NM := by
    rw [← hNM]
    exact str_mk _ _ (by rw [lt_add, hTl]; rfl)
  have hl : acc.length + ((aroundOut NM io).length + (cat [⟨#[10]⟩]).length) ≤ 1000000000000 := by
    unfold headOut at hlen
    rw [hNM, List.length_append] at hlen
    exact hlen
  have hq1 : ¬ (9223372036854775807 < 1 + T.size) := by omega
  have HBX := Lib.hid (Box.new w 41 #[.int .u8 kd, .int .i64 lv, .int .u8 mk, .int .i64 st, .bool tg, .string inf, .string tx, .slice A1 m1 c1, .slice A2 m2 c2, .slice A3 m3 c3])
  have HBD := Lib.hid (hB.alloc (.cells #[.int .u8 kd, .int .i64 lv, .int .u8 mk, .int .i64 st, .bool tg, .string inf, .string tx, .slice A1 m1 c1, .slice A2 m2 c2, .slice A3 m3 c3] 41))
  have HK := Lib.hid (hk.on hbl)
  have HP := Lib.hid (hP.on hbl)
  have HBL := Lib.hid hbl
  have HKP := Lib.hid hkp
  have HL := Lib.hid hl
  have HT := Lib.hid hT
  have HNM := Lib.hid hNM
  have HNT := Lib.hid hNT
  have HLV := Lib.hid hlv
  clear hB hk hP hbl hkp hlen hl hT hTl hNM hNT hlv
  go_enter Tryz.func99, Tryz.ntmps99
  go_upto_region 1 with fail
  go_cut [] (fun w1 => PlaceS w B b (acc ++ aroundOut NM io) w1)
  case first =>
    go_region_with (first
      | (go_at_call 120
         refine Calls.mono (itoa_any lv HLV.out _ HP.out.1) ?_
         rintro e w1 ⟨rfl, b1⟩
         have hz1 : w.heap.size + 1 ≤ w1.heap.size := by
           have hq := b1.size
           simpa using hq
         have hbx1 := (show Box (World.drew (w.alloc (.cells #[.int .u8 kd, .int .i64 lv, .int .u8 mk, .int .i64 st, .bool tg, .string inf, .string tx, .slice A1 m1 c1, .slice A2 m2 c2, .slice A3 m3 c3] 41))) w.heap.size 41 _ from HBX.out).below b1 (by show w.heap.size < (w.alloc _).heap.size; simp)
         have x19 := hbx1.cell 9
         simp only [List.getElem?_toArray, List.getElem?_cons_succ, List.getElem?_cons_zero] at x19
         have hbl1 : Below B (w.alloc (.cells #[.int .u8 kd, .int .i64 lv, .int .u8 mk, .int .i64 st, .bool tg, .string inf, .string tx, .slice A1 m1 c1, .slice A2 m2 c2, .slice A3 m3 c3] 41)) w1 := (Below.refl B _).drew.trans (b1.mono (by simp; omega))
         have hkp1 : Kept b (w.alloc (.cells #[.int .u8 kd, .int .i64 lv, .int .u8 mk, .int .i64 st, .bool tg, .string inf, .string tx, .slice A1 m1 c1, .slice A2 m2 c2, .slice A3 m3 c3] 41)) w1 := (Kept.refl _ _).drew.trans (Kept.of_below b1)
         have hbd1 := (HBD.out.drew).below b1
         have HBL1 := Lib.hid hbl1
         have HKP1 := Lib.hid hkp1
         have HBD1 := Lib.hid hbd1
         clear b1 hbx1 hbl1 hkp1 hbd1
         rw [HT.out])
      | (go_at_call 117
         rw [HNT.out]
         refine Calls.mono (around_any B b acc io NM A3 m3 c3 _ HBD1.out (HK.out.on HBL1.out) (by have := HL.out; omega)) ?_
         rintro e w2 ⟨rfl, g2, b2, k2⟩))
    all_goals
      go_wp2_with fail
      go_meet
      exact ⟨g2, HBL.out.trans (HBL1.out.trans b2), HKP.out.trans (HKP1.out.trans k2)⟩
  obtain ⟨g3, b3, k3⟩ := hcut
  obtain ⟨w3, rfl⟩ : ∃ w3 : World, w3 = wc := ⟨_, rfl⟩
  have H3 := Lib.hid g3
  have HB3 := Lib.hid b3
  have HK3 := Lib.hid k3
  clear g3 b3 k3
  go_wp2_with fail
  refine Calls.mono (puts_new B b _ [⟨#[10]⟩] w3 H3.out (by simp) (by have := HL.out; rw [List.length_append]; omega)) ?_
  rintro e w4 ⟨rfl, g4, b4, k4⟩
  have H4 := Lib.hid g4
  have HB4 := Lib.hid b4
  have HK4 := Lib.hid k4
  clear g4 b4 k4
  go_wp2
  go_end0
  refine ⟨rfl, ?_, HB3.out.trans HB4.out, HK3.out.trans HK4.out⟩
  have h := H4.out
  unfold headOut
  rw [HNM.out]
  simpa only [List.append_assoc] using h

theorem blank_pred (w : World) : PredAt Tryz.prog 122 #[] encR blankP w := fun W r _ => by
  unfold FnGives
  by_cases h1 : r = 32
  · subst h1
    go_enter Tryz.func122, Tryz.ntmps122
    go_wp2
    go_ret
    exact ⟨rfl, 0, rfl⟩
  · have z1 : ((r : Int) == 32) = false := by rw [beq_eq_false_iff_ne]; omega
    by_cases h2 : r = 9
    · subst h2
      clear h1
      go_enter Tryz.func122, Tryz.ntmps122
      go_wp2
      go_ret
      exact ⟨rfl, 0, rfl⟩
    · have z2 : ((r : Int) == 9) = false := by rw [beq_eq_false_iff_ne]; omega
      have hp : blankP r = false := by unfold blankP; simp [h1, h2]
      rw [hp]
      clear hp h1 h2
      go_enter Tryz.func122, Tryz.ntmps122
      go_wp2
      go_ret
      exact ⟨rfl, 0, rfl⟩

def langF (l : List ByteArray) : List UInt8 := match l with
  | [] => []
  | a :: _ => cat [⟨#[32, 99, 108, 97, 115, 115, 61, 34, 108, 97, 110, 103, 117, 97, 103, 101, 45]⟩, cs (lowT a.data.toList), ⟨#[34]⟩]
theorem langOut_F (inf : ByteArray) : langOut inf = langF (Lib.goFieldsP blankP inf) := by
  unfold langOut langF
  rfl
def LangS (w : World) (B b : Nat) (l : List UInt8) (wx : World) : Prop := Bld 83 B b l wx ∧ Below B w wx ∧ Kept b w wx
set_option maxHeartbeats 4000000 in
set_option maxRecDepth 100000 in
theorem code_any (B b : Nat) (acc : List UInt8) (kd mk : Nat) (lv st : Int) (tg : Bool) (inf tx : ByteArray) (A1 A2 A3 : Option Addr) (m1 m2 m3 c1 c2 c3 : Nat) (w : World) (hB : Bld 83 B b acc w) (hi : inf.size ≤ 10000000) (ht : tx.size ≤ 10000000) (hlen : acc.length + (codeOut inf tx).length ≤ 1000000000000) :
    Calls Tryz.prog 100 #[.pointer (some ⟨b, 0, none⟩), .agg #[.int .u8 kd, .int .i64 lv, .int .u8 mk, .int .i64 st, .bool tg, .string inf, .string tx, .slice A1 m1 c1, .slice A2 m2 c2, .slice A3 m3 c3]] w (WrR w B b (acc ++ codeOut inf tx)) := by
  have hb := hB.lt
  have hBw : B ≤ w.heap.size := Nat.le_trans hB.le (Nat.le_of_lt hB.lt)
  have hbl : Below B w (w.alloc (.cells #[.int .u8 kd, .int .i64 lv, .int .u8 mk, .int .i64 st, .bool tg, .string inf, .string tx, .slice A1 m1 c1, .slice A2 m2 c2, .slice A3 m3 c3] 41)) := (Below.refl B w).alloc hBw _
  have hkp : Kept b w (w.alloc (.cells #[.int .u8 kd, .int .i64 lv, .int .u8 mk, .int .i64 st, .bool tg, .string inf, .string tx, .slice A1 m1 c1, .slice A2 m2 c2, .slice A3 m3 c3] 41)) := (Kept.refl b w).alloc _
  obtain ⟨T, hT⟩ : ∃ T : ByteArray, cs (lowT tx.data.toList) = T := ⟨_, rfl⟩
  obtain ⟨LO, hLO⟩ : ∃ LO, langOut inf = LO := ⟨_, rfl⟩
  have hl : acc.length + ((cat [⟨#[60, 112, 114, 101, 62, 60, 99, 111, 100, 101]⟩]).length + LO.length + (cat [⟨#[62]⟩, T, ⟨#[60, 47, 99, 111, 100, 101, 62, 60, 47, 112, 114, 101, 62, 10]⟩]).length) ≤ 1000000000000 := by
    unfold codeOut at hlen
    rw [hT, hLO, List.length_append, List.length_append] at hlen
    exact hlen
  obtain ⟨FL, hFL⟩ : ∃ FL, Lib.goFieldsP blankP inf = FL := ⟨_, rfl⟩
  have hfs : ∀ a ∈ FL, a.size ≤ 10000000 := fun a ha => by
    have := field_le blankP inf a (by rw [hFL]; exact ha)
    omega
  have hlo : LO = langF FL := by rw [← hLO, langOut_F, hFL]
  have HBX := Lib.hid (Box.new w 41 #[.int .u8 kd, .int .i64 lv, .int .u8 mk, .int .i64 st, .bool tg, .string inf, .string tx, .slice A1 m1 c1, .slice A2 m2 c2, .slice A3 m3 c3])
  have HBD := Lib.hid (hB.alloc (.cells #[.int .u8 kd, .int .i64 lv, .int .u8 mk, .int .i64 st, .bool tg, .string inf, .string tx, .slice A1 m1 c1, .slice A2 m2 c2, .slice A3 m3 c3] 41))
  have HBL := Lib.hid hbl
  have HKP := Lib.hid hkp
  have HL := Lib.hid hl
  have HT := Lib.hid hT
  have HLO := Lib.hid hLO
  have HLM := Lib.hid hlo
  have HFL := Lib.hid hFL
  have HFS := Lib.hid hfs
  have HCO := Lib.hid (show codeOut inf tx = cat [⟨#[60, 112, 114, 101, 62, 60, 99, 111, 100, 101]⟩] ++ LO ++ cat [⟨#[62]⟩, T, ⟨#[60, 47, 99, 111, 100, 101, 62, 60, 47, 112, 114, 101, 62, 10]⟩] by unfold codeOut; rw [hT, hLO])
  clear hB hbl hkp hlen hl hT hLO hlo hFL hfs
  go_enter Tryz.func100, Tryz.ntmps100
  go_wp2_with fail
  refine Calls.mono (puts_at B b _ acc [⟨#[60, 112, 114, 101, 62, 60, 99, 111, 100, 101]⟩] _ (by simp) HBD.out (by simp) (by have := HL.out; omega)) ?_
  rintro e w1 ⟨rfl, g1, b1, k1⟩
  have hz1 := b1.size
  simp only [World.size_alloc] at hz1
  have hbx1 := Kept.box HBX.out k1 (by omega) (by decide)
  have x5 := hbx1.cell 5
  simp only [List.getElem?_toArray, List.getElem?_cons_succ, List.getElem?_cons_zero] at x5
  have HBX1 := Lib.hid hbx1
  have H1 := Lib.hid g1
  have HB1 := Lib.hid b1
  have HK1 := Lib.hid k1
  clear hbx1 g1 b1 k1
  have hff := Tryz.strings_FieldsFunc 122 #[] (enters_of Tryz.func122 (by kernel_rfl) rfl) blankP inf w1 (by omega) (blank_pred w1)
  rw [HFL.out] at hff
  have HFF := Lib.hid hff
  clear hff
  go_wp2_with fail
  refine Calls.mono HFF.out ?_
  rintro e w2 ⟨A, rfl, hA, hown, b2⟩
  have hz2 := b2.size
  have hbx2 := HBX1.out.below b2 (by omega)
  have x6 := hbx2.cell 6
  simp only [List.getElem?_toArray, List.getElem?_cons_succ, List.getElem?_cons_zero] at x6
  have HBX2 := Lib.hid hbx2
  have H2 := Lib.hid (H1.out.below b2)
  have HB2 := Lib.hid (HB1.out.trans (b2.mono (by omega)))
  have HK2 := Lib.hid (HK1.out.trans (Kept.of_below b2))
  clear b2 hbx2 x5
  obtain ⟨q, hq⟩ : ∃ q, FL.length = q := ⟨_, rfl⟩
  rw [hq] at hown
  have HQ := Lib.hid hq
  clear hq
  rw [HQ.out]
  cases hc : FL with
  | nil =>
    have hLE : LO = [] := by rw [HLM.out, hc]; rfl
    have hq0 : q = 0 := by rw [← HQ.out, hc]; rfl
    subst hq0
    subst hLE
    clear hc hown
    go_wp2_with fail
    refine Calls.mono (lowText_any tx _ (by omega)) ?_
    rintro e w3 ⟨rfl, b3⟩
    have HB3 := Lib.hid b3
    clear b3 x6
    rw [show (⟨(lowT tx.data.toList).toArray⟩ : ByteArray) = T from HT.out]
    go_wp2_with fail
    refine Calls.mono (puts_new B b _ [⟨#[62]⟩, T, ⟨#[60, 47, 99, 111, 100, 101, 62, 60, 47, 112, 114, 101, 62, 10]⟩] w3 (H2.out.below HB3.out) (by simp) (by have := HL.out; rw [List.length_append]; omega)) ?_
    rintro e w4 ⟨rfl, g4, b4, k4⟩
    have H4 := Lib.hid g4
    have HB4 := Lib.hid b4
    have HK4 := Lib.hid k4
    clear g4 b4 k4
    go_wp2
    go_end0
    refine ⟨rfl, ?_, HBL.out.trans ((HB2.out.trans (HB3.out.mono (by omega))).trans HB4.out), HKP.out.trans ((HK2.out.trans (Kept.of_below HB3.out)).trans HK4.out)⟩
    have h := H4.out
    rw [HCO.out]
    simpa only [List.append_assoc, List.append_nil] using h
  | cons a r =>
    have hLE : LO = cat [⟨#[32, 99, 108, 97, 115, 115, 61, 34, 108, 97, 110, 103, 117, 97, 103, 101, 45]⟩, cs (lowT a.data.toList), ⟨#[34]⟩] := by rw [HLM.out, hc]; rfl
    have hq0 : 0 < q := by rw [← HQ.out, hc]; simp
    have ha := HFS.out a (by rw [hc]; exact List.mem_cons_self)
    have hcell := hown.cells (g := A) rfl 0 (.string a) (by rw [hc]; rfl)
    have hcell0 : w2.cell? ⟨A, 0, none⟩ = some (.string a) := hcell
    have hgt : decide ((0 : Int) < (q : Int)) = true := by simpa using hq0
    obtain ⟨T2, hT2⟩ : ∃ T2 : ByteArray, cs (lowT a.data.toList) = T2 := ⟨_, rfl⟩
    have hs2 := low_cs a
    rw [hT2] at hLE hs2
    have HT2 := Lib.hid hT2
    have HLE := Lib.hid hLE
    clear hc hown hcell hT2 hLE
    go_wp2_with fail
    refine Calls.mono (lowText_any a _ (by omega)) ?_
    rintro e w3 ⟨rfl, b3⟩
    have hz3 := b3.size
    have HBX3 := Lib.hid (HBX2.out.below b3 (by omega))
    have H3 := Lib.hid (H2.out.below b3)
    have HB3 := Lib.hid (HB2.out.trans (b3.mono (by omega)))
    have HK3 := Lib.hid (HK2.out.trans (Kept.of_below b3))
    clear b3 x6 hcell0
    rw [show (⟨(lowT a.data.toList).toArray⟩ : ByteArray) = T2 from HT2.out]
    go_wp2_with fail
    refine Calls.mono (puts_new B b _ [⟨#[32, 99, 108, 97, 115, 115, 61, 34, 108, 97, 110, 103, 117, 97, 103, 101, 45]⟩, T2, ⟨#[34]⟩] w3 H3.out (by simp) (by have h1 := HL.out; have h2 := congrArg List.length HLE.out; rw [List.length_append]; omega)) ?_
    rintro e w4 ⟨rfl, g4, b4, k4⟩
    have hz4 := b4.size
    have hbx4 := Kept.box HBX3.out k4 (by omega) (by decide)
    have x6 := hbx4.cell 6
    simp only [List.getElem?_toArray, List.getElem?_cons_succ, List.getElem?_cons_zero] at x6
    have H4 := Lib.hid g4
    have HB4 := Lib.hid (HB3.out.trans b4)
    have HK4 := Lib.hid (HK3.out.trans k4)
    clear g4 b4 k4 hbx4
    go_wp2_with fail
    refine Calls.mono (lowText_any tx _ (by omega)) ?_
    rintro e w5 ⟨rfl, b5⟩
    have HB5 := Lib.hid b5
    clear b5 x6
    rw [show (⟨(lowT tx.data.toList).toArray⟩ : ByteArray) = T from HT.out]
    go_wp2_with fail
    refine Calls.mono (puts_new B b _ [⟨#[62]⟩, T, ⟨#[60, 47, 99, 111, 100, 101, 62, 60, 47, 112, 114, 101, 62, 10]⟩] w5 (H4.out.below HB5.out) (by simp) (by have h1 := HL.out; have h2 := congrArg List.length HLE.out; rw [List.length_append, List.length_append]; omega)) ?_
    rintro e w6 ⟨rfl, g6, b6, k6⟩
    have H6 := Lib.hid g6
    have HB6 := Lib.hid b6
    have HK6 := Lib.hid k6
    clear g6 b6 k6
    go_wp2
    go_end0
    refine ⟨rfl, ?_, HBL.out.trans ((HB4.out.trans (HB5.out.mono (by omega))).trans HB6.out), HKP.out.trans ((HK4.out.trans (Kept.of_below HB5.out)).trans HK6.out)⟩
    have h := H6.out
    rw [HCO.out, HLE.out]
    simpa only [List.append_assoc] using h
end Go.Proofs.YtibaoocklempnaaGreatDoor
