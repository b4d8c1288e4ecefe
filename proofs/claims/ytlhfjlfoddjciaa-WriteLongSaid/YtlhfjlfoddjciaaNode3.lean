/- Package write's 'node' at elements. -/
import Derived.Test.YtlhfjlfoddjciaaNode2
import Derived.Deep.DeepCutAuto
namespace Go.Proofs.Ytlhfjlfoddjciaa
open Go.RowKit

theorem no32 (ws : List ByteArray) (h : (ws.all fun t => !t.data.toList.contains 32) = true) : ∀ w ∈ ws.map (·.data.toList), (32 : UInt8) ∉ w := by
  intro w hw
  obtain ⟨t, ht, rfl⟩ := List.mem_map.1 hw
  have := List.all_eq_true.1 h t ht
  simpa using this
theorem listed_voids (row : ByteArray) (kind space : Nat) (name text : ByteArray) (w : World) (A2 A3 : Option Addr) (m2 m3 c2 c3 : Nat) (hrow : row.data.toList = rowOf (voids.map (·.data.toList))) (hG : Glob w) (hnm : name.size ≤ 1099511627776) :
    Calls Try.prog 27 #[.string row, .agg #[.int .u8 kind, .int .u8 space, .string name, .slice A2 m2 c2, .string text, .slice A3 m3 c3]] w (ListedR w (isVoid space name)) := by
  have hr : row.size ≤ 1000 := by
    rw [← size_toList, hrow]; decide
  have := listed_any row kind space name text w A2 A3 m2 m3 c2 c3 hr hG hnm
  rw [listed_eq row voids hrow (no32 voids (by decide))] at this
  exact this
theorem listed_bares (row : ByteArray) (kind space : Nat) (name text : ByteArray) (w : World) (A2 A3 : Option Addr) (m2 m3 c2 c3 : Nat) (hrow : row.data.toList = rowOf (bares.map (·.data.toList))) (hG : Glob w) (hnm : name.size ≤ 1099511627776) :
    Calls Try.prog 27 #[.string row, .agg #[.int .u8 kind, .int .u8 space, .string name, .slice A2 m2 c2, .string text, .slice A3 m3 c3]] w (ListedR w (isBare space name)) := by
  have hr : row.size ≤ 1000 := by
    rw [← size_toList, hrow]; decide
  have := listed_any row kind space name text w A2 A3 m2 m3 c2 c3 hr hG hnm
  rw [listed_eq row bares hrow (no32 bares (by decide))] at this
  exact this

theorem barerow_eq : (⟨#[32, 115, 116, 121, 108, 101, 32, 115, 99, 114, 105, 112, 116, 32, 120, 109, 112, 32, 105, 102, 114, 97, 109, 101, 32, 110, 111, 101, 109, 98, 101, 100, 32, 110, 111, 102, 114, 97, 109, 101, 115, 32, 112, 108, 97, 105, 110, 116, 101, 120, 116, 32]⟩ : ByteArray).data.toList = rowOf (bares.map (·.data.toList)) := by kernel_rfl
theorem Glob.drew {w : World} (h : Glob w) : Glob w.drew := h

def AttrW (acc0 : List UInt8) (l : List AttrD) (B b : Nat) (w W0 : World) (i : Value) (wr : World) : Prop :=
  ∃ (k : Nat) (acc : List UInt8), i = .int .i64 k ∧ k ≤ l.length ∧ acc = acc0 ++ attrsOut (l.take k) ∧ Bld 45 B b acc wr ∧ Below B w wr ∧ Kept b W0 wr
def tagOut (name : ByteArray) : List UInt8 := [60] ++ name.data.toList

set_option maxHeartbeats 4000000 in
set_option maxRecDepth 100000 in
theorem node_elem (B b : Nat) (acc : List UInt8) (space : Nat) (name text : ByteArray) (attrs : List AttrD) (va : Value) (S : Nat → Prop) (w : World) (A3 : Option Addr) (m3 c3 : Nat) (raw : Bool) (F : Bool → List UInt8)
    (hB : Bld 45 B b acc w) (hG : Glob w) (hB0 : 0 < B) (hS : ∀ k, S k → k < B) (ha : AttrsAt w S va attrs) (hw : name.size / 8 + attrsWt attrs ≤ 1000000) (hF : ∀ bb, (F bb).length ≤ 1000000000) (hlen : acc.length ≤ 549755813888)
    (hk : ∀ (wr : World) (acc' : List UInt8) (bb : Bool), Bld 45 B b acc' wr → Glob wr → (∀ j, S j → wr.heap[j]? = w.heap[j]?) → acc'.length ≤ acc.length + 2 + name.size + 100 * attrsWt attrs → Calls Try.prog 18 #[.pointer (some ⟨b, 0, none⟩), .slice A3 m3 c3, .bool bb] wr (NodeR wr B b (acc' ++ F bb))) :
    Calls Try.prog 23 #[.pointer (some ⟨b, 0, none⟩), .agg #[.int .u8 (1 : Nat), .int .u8 space, .string name, va, .string text, .slice A3 m3 c3], .bool raw] w (NodeR w B b (acc ++ elemOut F space name attrs)) := by
  have hbw := hB.lt
  have hBw : B ≤ w.heap.size := Nat.le_trans hB.le (Nat.le_of_lt hB.lt)
  obtain ⟨A2, c2, rfl, hl2, hget⟩ := ha.get
  have hlw := attrs_len_le attrs
  have HB := Lib.hid hB; have HG := Lib.hid hget; have HGL := Lib.hid hG; have HK := Lib.hid hk; have HF := Lib.hid hF
  have HBX := Lib.hid (Box.new w 35 #[.int .u8 (1 : Nat), .int .u8 space, .string name, .slice A2 attrs.length c2, .string text, .slice A3 m3 c3])
  have hsz : acc.length + ((⟨#[60]⟩ : ByteArray) ++ name).size ≤ 140737488355328 := by
    rw [ByteArray.size_append]
    have e1 : (⟨#[60]⟩ : ByteArray).size = 1 := rfl
    omega
  have HSZ := Lib.hid hsz
  clear hB hget ha hG hk hsz hF
  go_enter Try.func23, Try.ntmps23
  go_upto_region 8 with fail
  go_cut [] (fun w1 => Bld 45 B b (acc ++ tagOut name) w1 ∧ Below B w w1 ∧ Kept b (w.alloc (.cells #[.int .u8 (1 : Nat), .int .u8 space, .string name, .slice A2 attrs.length c2, .string text, .slice A3 m3 c3] 35)) w1)
  case first =>
    go_region_with (go_at_call 26; refine Calls.mono (bld_WriteString bld45 B b acc _ _ (HB.out.alloc _).drew HSZ.out (by simp; omega)) ?_; rintro e w1 ⟨rfl, h1, b1, k1⟩)
    go_wp2_with fail
    go_meet
    exact ⟨by simpa [tagOut, ByteArray.data_append] using h1, (((Below.refl B w).alloc hBw _).drew).trans b1, (Kept.refl _ _).drew.trans k1⟩
  obtain ⟨h1, b1, k1⟩ := hcut
  obtain ⟨w1, rfl⟩ : ∃ w1 : World, w1 = wc := ⟨_, rfl⟩
  have hz1 := b1.size
  have hbx1 := Kept.box HBX.out k1 (by omega) (by decide)
  have x3 := hbx1.cell 3
  simp only [List.getElem?_toArray, List.getElem?_cons_succ, List.getElem?_cons_zero] at x3
  have HH1 := Lib.hid h1; have HB1 := Lib.hid b1; have HK1 := Lib.hid k1
  clear h1 b1 k1 hbx1
  go_wp2
  go_loopw [58] (fun i wr => AttrW (acc ++ tagOut name) attrs B b w (w.alloc (.cells #[.int .u8 (1 : Nat), .int .u8 space, .string name, .slice A2 attrs.length c2, .string text, .slice A3 m3 c3] 35)) i wr) (fun i _ => attrs.length - (intOf i).toNat)
  case atStart => exact ⟨0, _, rfl, Nat.zero_le _, by simp [attrsOut], HH1.out, HB1.out, HK1.out⟩
  case round =>
    obtain ⟨k, acc1, rfl, hk, hacc, hB1, hbwr, hkr⟩ := hrel
    have hzr := hB1.lt
    have hle := hB1.le
    have hal : acc1.length ≤ acc.length + 1 + name.size + 100 * attrsWt (attrs.take k) := by
      have h2 := attrsOut_le (attrs.take k)
      have h3 := size_toList name
      rw [hacc]
      simp only [List.length_append, tagOut, List.length_cons, List.length_nil]
      omega
    have hms := attrsWt_mono attrs k
    have HACC := Lib.hid hacc; have HBR := Lib.hid hB1; have HBW := Lib.hid hbwr; have HKR := Lib.hid hkr
    clear hacc hB1 hbwr hkr
    by_cases hlt : k < attrs.length
    · obtain ⟨ad, hA, hn, hv, hbl, c0, c1⟩ := HG.out k hlt
      subst hA
      have hbd := hS _ hbl
      have hwg := attrsWt_get attrs k hlt
      have d0 := (HBW.out.cell (p := ad.add (k * 2)) (by rw [block_of_add]; exact hbd)).trans c0
      have d1 := (HBW.out.cell (p := ⟨(ad.add (k * 2)).block, (ad.add (k * 2)).off + 1, none⟩) (by rw [block_of_add]; exact hbd)).trans c1
      have hvl : attrs[k].value.size ≤ 109951162777 := by omega
      have hnl : attrs[k].name.size ≤ 109951162777 := by omega
      have hel := escLen attrs[k].value true attrs[k].value.data.toList (Nat.le_of_eq (size_toList _))
      have hat : acc1.length + (((((⟨#[32]⟩ : ByteArray) ++ attrs[k].name) ++ ⟨#[61, 34]⟩) ++ ⟨(esc true attrs[k].value.data.toList).toArray⟩) ++ ⟨#[34]⟩).size ≤ 140737488355328 := by
        simp only [ByteArray.size_append]
        have e1 : (⟨#[32]⟩ : ByteArray).size = 1 := rfl
        have e2 : (⟨#[61, 34]⟩ : ByteArray).size = 2 := rfl
        have e3 : (⟨#[34]⟩ : ByteArray).size = 1 := rfl
        omega
      have HAT := Lib.hid hat
      have hel2 : (esc true attrs[k].value.data.toList).length ≤ 6 * attrs[k].value.size := hel
      clear c0 c1 hat hel
      go_upto_region 12 with fail
      go_region_with (first | (go_at_call 15; refine Calls.mono (value_any _ _ (by omega)) ?_; rintro e w0 ⟨rfl, b0⟩; have hz0 := b0.size; simp at hz0; have cc0 := b0.cell (p := ⟨wr.heap.size, 0, none⟩) (by simp)) | (go_at_call 26; refine Calls.mono (bld_WriteString bld45 B b acc1 _ _ (Bld.below (HBR.out.alloc _).drew b0) HAT.out (by omega)) ?_; rintro e w2 ⟨rfl, h2, b2, k2⟩))
      all_goals
        have HR : Hid (AttrW (acc ++ tagOut name) attrs B b w (w.alloc (.cells #[.int .u8 (1 : Nat), .int .u8 space, .string name, .slice (some ad) attrs.length c2, .string text, .slice A3 m3 c3] 35)) (.int .i64 ((k : Int) + 1)) w2) :=
          ⟨k + 1, _, by go_num, by omega, by rw [attrsOut_take _ _ hlt, ← List.append_assoc, ← HACC.out], by simpa [attrOut, ByteArray.data_append] using h2, ((HBW.out.alloc (by omega) _).drew.trans (b0.mono (by simp; omega))).trans b2, ((HKR.out.alloc _).drew.trans (Kept.of_below b0)).trans k2⟩
        clear h2 b2 k2 b0
        go_wp2
        go_roundw
        case rel => first | exact HR.out | ((repeat apply Exists.intro); exact ⟨HR.out, rfl⟩)
        case measure => simp [intOf]; omega
    · have hka : attrs.take k = attrs := List.take_of_length_le (by omega)
      have hacc1 : acc1 = acc ++ tagOut name ++ attrsOut attrs := by have := HACC.out; rw [hka] at this; exact this
      rw [hka] at hal
      have HA1 := Lib.hid hacc1
      clear hka hacc1
      have hl1 : acc1.length + (⟨#[62]⟩ : ByteArray).size ≤ 140737488355328 := by
        have e1 : (⟨#[62]⟩ : ByteArray).size = 1 := rfl
        omega
      have HL1 := Lib.hid hl1
      clear hl1
      go_wp2_with fail
      refine Calls.mono (bld_WriteString bld45 B b acc1 _ _ HBR.out HL1.out (by omega)) ?_
      rintro e w2 ⟨rfl, h2, b2, k2⟩
      have hz2 := b2.size
      have hx2 := Kept.box HBX.out (HKR.out.trans k2) (by omega) (by decide)
      have g0 := hx2.cell 0
      have g1 := hx2.cell 1
      have g2 := hx2.cell 2
      have g3 := hx2.cell 3
      have g4 := hx2.cell 4
      have g5 := hx2.cell 5
      have hl2' := hx2.lt
      simp only [List.getElem?_toArray, List.getElem?_cons_succ, List.getElem?_cons_zero] at g0 g1 g2 g3 g4 g5
      have HGL2 := Lib.hid ((HGL.out.below HBW.out hB0).below b2 hB0)
      have HH2 := Lib.hid h2; have HB2 := Lib.hid (HBW.out.trans b2); have HK2 := Lib.hid (HKR.out.trans k2); have HX2 := Lib.hid hx2
      clear h2 b2 k2 hx2
      go_wp2_with fail
      refine Calls.mono (listed_voids _ _ _ _ _ _ _ _ _ _ _ _ ?_ HGL2.out (by omega)) ?_
      · kernel_rfl
      rintro e w3 ⟨rfl, b3⟩
      have hz3 := b3.size
      have HH3 := Lib.hid (Bld.below HH2.out b3); have HB3 := Lib.hid (HB2.out.trans (b3.mono (by omega))); have HK3 := Lib.hid (HK2.out.trans (Kept.of_below b3)); have HX3 := Lib.hid (HX2.out.below b3 hl2')
      have HGL3 := Lib.hid (HGL2.out.below b3 (by omega))
      clear b3
      by_cases hvo : isVoid space name = true
      · have HVO := Lib.hid hvo
        go_wp2
        go_end0
        refine ⟨rfl, ?_, HB3.out, ((Kept.refl b w).alloc _).trans HK3.out⟩
        have := HH3.out
        rw [HA1.out] at this
        simp only [elemOut]
        rw [HVO.out, if_pos rfl]
        simpa [tagOut] using this
      · have hvo2 : isVoid space name = false := by simpa using hvo
        have HVO := Lib.hid hvo2
        clear hvo
        have j0 := HX3.out.cell 0
        have j1 := HX3.out.cell 1
        have j2 := HX3.out.cell 2
        have j3 := HX3.out.cell 3
        have j4 := HX3.out.cell 4
        have j5 := HX3.out.cell 5
        simp only [List.getElem?_toArray, List.getElem?_cons_succ, List.getElem?_cons_zero] at j0 j1 j2 j3 j4 j5
        go_upto_region 16 with fail
        have hl3 : (acc1 ++ (⟨#[62]⟩ : ByteArray).data.toList).length ≤ acc.length + 2 + name.size + 100 * attrsWt attrs := by
          rw [List.length_append, size_toList]
          have e1 : (⟨#[62]⟩ : ByteArray).size = 1 := rfl
          omega
        have HL3 := Lib.hid hl3
        clear hl3
        go_cut [] (fun w5 => Bld 45 B b (acc1 ++ (⟨#[62]⟩ : ByteArray).data.toList ++ F (isBare space name)) w5 ∧ Below B w w5 ∧ Kept b (w.alloc (.cells #[.int .u8 (1 : Nat), .int .u8 space, .string name, .slice A2 attrs.length c2, .string text, .slice A3 m3 c3] 35)) w5)
        case first =>
          go_region_with (first | (go_at_call 27; refine Calls.mono (listed_bares _ _ _ _ _ _ _ _ _ _ _ _ barerow_eq HGL3.out.drew (by omega)) ?_; rintro e w4 ⟨rfl, b4⟩; have cc5 := b4.cell (p := ⟨w.heap.size, 5, none⟩) (by show w.heap.size < w3.heap.size; omega)) | (go_at_call 18; refine Calls.mono (HK.out w4 _ (isBare space name) (Bld.below HH3.out.drew b4) (HGL3.out.drew.below b4 (by show 0 < w3.heap.size; omega)) (fun j hj => (b4.block j (by have := hS j hj; show j < w3.heap.size; omega)).trans (HB3.out.block j (hS j hj))) HL3.out) ?_; rintro e w5 ⟨rfl, h5, b5, k5⟩))
          all_goals
            go_wp2_with fail
            go_meet
            exact ⟨h5, (HB3.out.drew.trans (b4.mono (by show B ≤ w3.heap.size; omega))).trans b5, (HK3.out.drew.trans (Kept.of_below b4)).trans k5⟩
        obtain ⟨h5, b5, k5⟩ := hcut
        have hz5 := b5.size
        have hx5 := Kept.box HBX.out k5 (by omega) (by decide)
        have i2 := hx5.cell 2
        simp only [List.getElem?_toArray, List.getElem?_cons_succ, List.getElem?_cons_zero] at i2
        have hl5 : (acc1 ++ (⟨#[62]⟩ : ByteArray).data.toList ++ F (isBare space name)).length + ((⟨#[60, 47]⟩ : ByteArray) ++ name ++ ⟨#[62]⟩).size ≤ 140737488355328 := by
          have h1 := HL3.out
          have h2 := HF.out (isBare space name)
          rw [List.length_append, ByteArray.size_append, ByteArray.size_append]
          have e1 : (⟨#[60, 47]⟩ : ByteArray).size = 2 := rfl
          have e2 : (⟨#[62]⟩ : ByteArray).size = 1 := rfl
          omega
        have HL5 := Lib.hid hl5
        have HH5 := Lib.hid h5; have HB5 := Lib.hid b5; have HK5 := Lib.hid k5
        clear h5 b5 k5 hx5 hl5
        go_upto_region 17 with fail
        go_region_with (go_at_call 26; refine Calls.mono (bld_WriteString bld45 B b _ _ _ HH5.out.drew HL5.out (by show B ≤ wc.heap.size; omega)) ?_; rintro e w6 ⟨rfl, h6, b6, k6⟩)
        have HH6 := Lib.hid h6
        clear h6
        go_wp2
        go_end0
        refine ⟨rfl, ?_, HB5.out.drew.trans b6, (((Kept.refl b w).alloc _).trans HK5.out).drew.trans k6⟩
        have := HH6.out
        rw [HA1.out] at this
        simp only [elemOut]
        rw [HVO.out, if_neg (by decide)]
        simpa [tagOut, ByteArray.data_append] using this
end Go.Proofs.Ytlhfjlfoddjciaa
