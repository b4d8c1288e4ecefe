/- refs.Unescape. -/
import Derived.Test.YtbcfhpomclkccaaDoorRsUn0
import Derived.Test.YtbcfhpomclkccaaDoorBld
namespace Go.Proofs.YtbcfhpomclkccaaDoor
open Go.RowKit

theorem unb : BldT 47 := ⟨by kernel_rfl, by decide⟩
theorem iany_spec : ∀ l : List UInt8, Lib.indexAny l [92, 38] = -1 ∨ ∃ (a : Nat) (b : UInt8), Lib.indexAny l [92, 38] = (a : Int) ∧ l[a]? = some b
  | [] => .inl rfl
  | b :: l => by
    unfold Lib.indexAny
    split
    · exact .inr ⟨0, b, rfl, rfl⟩
    · rcases iany_spec l with h | ⟨a, c, h1, h2⟩
      · left; rw [h]; rfl
      · right
        refine ⟨a + 1, c, ?_, by simpa using h2⟩
        have hne : (Lib.indexAny l [92, 38] == (-1 : Int)) = false := by rw [h1, beq_eq_false_iff_ne]; omega
        rw [hne, h1]
        simp
theorem Bld.below {T B b : Nat} {l : List UInt8} {w w' : World} (h : Bld T B b l w) (hb : Below w.heap.size w w') : Bld T B b l w' := by
  have key : ∀ p : Value, Lib.BuilderAtF T 5 B b p (Lib.byteCells l) w → Lib.BuilderAtF T 5 B b p (Lib.byteCells l) w' := by
    rintro p ⟨hB, v, hbk, hown, hne⟩
    have hlt := (Array.getElem?_eq_some_iff.1 hbk).1
    refine ⟨hB, v, (hb.block b hlt).trans hbk, ⟨hown.1, ?_⟩, hne⟩
    rcases hown.2 with h | ⟨g, cap, cur, fz, hv, hbg, hg, r⟩
    · exact .inl h
    · exact .inr ⟨g, cap, cur, fz, hv, hbg, (hb.block g (Array.getElem?_eq_some_iff.1 hg).1).trans hg, r⟩
  exact h.elim (fun x => .inl (key _ x)) (fun x => .inr (key _ x))
def UnW (s : ByteArray) (w : World) (L : List UInt8) (g : Nat) (v : Value) (wr : World) : Prop :=
  ∃ (t : ByteArray) (acc : List UInt8) (f : Nat), v = .string t ∧ t.size = g ∧ t.size < f ∧ acc ++ unescF f t = L ∧ Bld 47 w.heap.size w.heap.size acc wr ∧ Below w.heap.size w wr ∧ acc.length + 8 * t.size ≤ 8 * s.size
def UnR (w : World) (L : List UInt8) (e : Ending) (w' : World) : Prop := e = .returned (.string ⟨L.toArray⟩) ∧ Below w.heap.size w w'
set_option maxHeartbeats 8000000 in
set_option maxRecDepth 100000 in
theorem unescape_any (s : ByteArray) (w : World) (hs : s.size < 4294967281) : Calls Tryd.prog 11 #[.string s] w (UnR w (unescF (s.size + 1) s)) := by
  obtain ⟨L, hL⟩ : ∃ L, unescF (s.size + 1) s = L := ⟨_, rfl⟩
  rw [hL]
  have HL := Lib.hid hL
  clear hL
  go_enter Tryd.func11, Tryd.ntmps11
  go_wp2
  go_loopg [0] s.size (fun g v wr => UnW s w L g v wr)
  case atStart => exact ⟨s, [], s.size + 1, rfl, rfl, by omega, HL.out, Bld.fresh _ w, (Below.refl _ _).alloc (Nat.le_refl _) _, by simp⟩
  case round =>
    obtain ⟨t, acc, f, rfl, hg, hf, hLL, hB, hbw, hlen⟩ := hrel
    subst hg
    have HLL := Lib.hid hLL
    have HB := Lib.hid hB
    have hlt := hB.lt
    have HI0 := iany_any t wr (by omega)
    unfold AnyR at HI0
    have hl : t.data.toList.length = t.size := Array.length_toList
    clear hLL hB
    obtain ⟨f, rfl⟩ : ∃ f', f = f' + 1 := ⟨f - 1, by omega⟩
    rcases iany_spec t.data.toList with h1 | ⟨a, b, h1, h2⟩
    · rw [h1] at HI0
      have HI := Lib.hid HI0
      have HE := Lib.hid (show unescF (f + 1) t = t.data.toList by unfold unescF; rw [h1, if_pos (by decide)])
      clear HI0 h1 hl
      go_wp2_with fail
      refine Calls.mono HI.out ?_
      rintro e w1 ⟨rfl, hw1⟩
      have HB1 := Lib.hid (HB.out.below hw1)
      have hlt1 := hw1.size
      go_wp2_with fail
      refine Calls.mono (bld_WriteString unb w.heap.size w.heap.size acc t w1 HB1.out (by omega) (by omega)) ?_
      rintro e w2 ⟨rfl, hB2, hw2, _⟩
      have HB2 := Lib.hid hB2
      have hlt2 := hw2.size
      clear hB2
      go_wp2_with fail
      refine Calls.mono (bld_String 47 w.heap.size w.heap.size _ w2 HB2.out (by omega)) ?_
      rintro e w3 ⟨rfl, _, hw3, _⟩
      go_wp2_with fail
      go_ret
      refine ⟨?_, ((hbw.trans (hw1.mono (by omega))).trans hw2).trans hw3⟩
      rw [← HLL.out, HE.out]
      rfl
    · rw [h1] at HI0
      have HI := Lib.hid HI0
      have ha := (List.getElem?_eq_some_iff.1 h2).1
      obtain ⟨t1, hT1⟩ : ∃ t1, t.extract a t.size = t1 := ⟨_, rfl⟩
      have hz1 : t1.size = t.size - a := by rw [← hT1, ByteArray.size_extract]; omega
      have HE := Lib.hid (show unescF (f + 1) t = t.data.toList.take a ++ unescF.unescS f (unescF f) t1 by rw [← hT1]; unfold unescF; rw [h1, if_neg (by omega), Int.toNat_natCast])
      have hA0 : ¬ (a : Int) < 0 := by omega
      have hA1 : (a : Int) ≤ (t.size : Int) := by omega
      have hA2 : (0 : Int) ≤ (a : Int) := by omega
      have hA3 : a ≤ t.size := by omega
      have hx : (t.extract 0 a).data.toList = t.data.toList.take a := by simp [ByteArray.data_extract]
      have hxz : (t.extract 0 a).size = a := by rw [ByteArray.size_extract]; omega
      have HX := Lib.hid hx
      have h0z : 0 < t1.size := by omega
      have h0i : (0 : Int) < (t1.size : Int) := by omega
      have h0j : (1 : Int) ≤ (t1.size : Int) := by omega
      have hs1 : t1.size ≤ t.size := by omega
      obtain ⟨c, hc⟩ : ∃ c, t1[0]'h0z = c := ⟨_, rfl⟩
      have hcl : t1.data.toList[0]? = some c := by rw [← hc]; exact Lib.data_getElem? t1 0 h0z
      have HCL := Lib.hid hcl
      obtain ⟨q, hq⟩ : ∃ q, (c == 92) = q := ⟨_, rfl⟩
      have hq2 : ((c.toNat : Int) == 92) = q := by rw [← hq]; exact beqc c 92
      have HQ := Lib.hid hq
      clear HI0 h1 h2 hl ha hx hcl hq
      cases q with
      | false =>
        have HCO := Lib.hid (show (t1.data.toList[0]? == some 92 && (t1.data.toList[1]?).any signB) = false by rw [HCL.out, show ((some c : Option UInt8) == some 92) = (c == 92) from rfl, HQ.out]; rfl)
        go_wp2_with fail
        refine Calls.mono HI.out ?_
        rintro e w1 ⟨rfl, hw1⟩
        have HB1 := Lib.hid (HB.out.below hw1)
        have hlt1 := hw1.size
        go_wp2_with fail
        refine Calls.mono (bld_WriteString unb w.heap.size w.heap.size acc (t.extract 0 a) w1 HB1.out (by omega) (by omega)) ?_
        rintro e w2 ⟨rfl, hB2, hw2, _⟩
        rw [HX.out] at hB2
        have HB2 := Lib.hid hB2
        have hlt2 := hw2.size
        clear hB2
        go_wp2_with fail
        refine Calls.mono (mark_any t1 w2 (by omega)) ?_
        rintro e w3 ⟨rfl, hw3⟩
        have HB3 := Lib.hid (HB2.out.below hw3)
        have hlt3 := hw3.size
        obtain ⟨hml, hmn⟩ := mark_le t1
        by_cases hn : (markN t1).2 = 0
        · have hn0 : (((markN t1).2 : Nat) : Int) = 0 := by omega
          have HN := Lib.hid hn
          have hyz : (t1.extract 0 1).size = 1 := by rw [ByteArray.size_extract]; omega
          have hyz2 : (t1.extract 1 t1.size).size = t1.size - 1 := by rw [ByteArray.size_extract]; omega
          have hyl : (t1.extract 0 1).data.toList = t1.data.toList.take 1 := by simp [ByteArray.data_extract]
          have HYL := Lib.hid hyl
          clear hn hyl
          go_wp2_with fail
          refine Calls.mono (bld_WriteString unb w.heap.size w.heap.size (acc ++ t.data.toList.take a) (t1.extract 0 1) w3 HB3.out (by simp; omega) (by omega)) ?_
          rintro e w4 ⟨rfl, hB4, hw4, _⟩
          have HB4 := Lib.hid hB4
          clear hB4
          go_wp2_with fail
          go_roundg (t1.size - 1)
          case measure => omega
          case rel =>
            refine ⟨t1.extract 1 t1.size, _, f, by rw [hz1], by omega, by omega, ?_, HB4.out, ((((hbw.trans (hw1.mono (by omega))).trans hw2).trans (hw3.mono (by omega))).trans hw4), ?_⟩
            · rw [← HLL.out, HE.out]
              unfold unescF.unescS
              rw [HCO.out, if_neg Bool.false_ne_true, if_pos HN.out, HYL.out]
              simp only [List.append_assoc]
            · have h5 : (t1.extract 0 1).data.toList.length = 1 := by rw [← Lib.size_eq]; exact hyz
              simp only [List.length_append, List.length_take, h5]
              omega
        · have hn0 : ¬ (((markN t1).2 : Nat) : Int) = 0 := by omega
          have hn1 : ((((markN t1).2 : Nat) : Int) == 0) = false := beq_eq_false_iff_ne.2 hn0
          have hn2 : (((markN t1).2 : Nat) : Int) ≤ (t1.size : Int) := by omega
          have hn3 : (0 : Int) ≤ (((markN t1).2 : Nat) : Int) := by omega
          have HN := Lib.hid hn
          have hyz2 : (t1.extract (markN t1).2 t1.size).size = t1.size - (markN t1).2 := by rw [ByteArray.size_extract]; omega
          have hn4 : 0 < (markN t1).2 := by omega
          go_wp2_with fail
          refine Calls.mono (bld_WriteString unb w.heap.size w.heap.size (acc ++ t.data.toList.take a) (markN t1).1 w3 HB3.out (by simp; omega) (by omega)) ?_
          rintro e w4 ⟨rfl, hB4, hw4, _⟩
          have HB4 := Lib.hid hB4
          clear hB4
          go_wp2_with fail
          go_roundg (t1.size - (markN t1).2)
          case measure => omega
          case rel =>
            refine ⟨t1.extract (markN t1).2 t1.size, _, f, by rw [hz1], by omega, by omega, ?_, HB4.out, ((((hbw.trans (hw1.mono (by omega))).trans hw2).trans (hw3.mono (by omega))).trans hw4), ?_⟩
            · rw [← HLL.out, HE.out]
              unfold unescF.unescS
              rw [HCO.out, if_neg Bool.false_ne_true, if_neg HN.out]
              simp only [List.append_assoc]
            · have h5 : (markN t1).1.data.toList.length = (markN t1).1.size := (Lib.size_eq _).symm
              simp only [List.length_append, List.length_take, h5]
              omega
      | true =>
        by_cases h2z : 1 < t1.size
        · have h2i : (1 : Int) < (t1.size : Int) := by omega
          have h2j : (2 : Int) ≤ (t1.size : Int) := by omega
          obtain ⟨d, hd⟩ : ∃ d, t1[1]'h2z = d := ⟨_, rfl⟩
          have HDL := Lib.hid (show t1.data.toList[1]? = some d by rw [← hd]; exact Lib.data_getElem? t1 1 h2z)
          have HS := Lib.hid fun w9 : World => sign_any d w9
          obtain ⟨sg, hsg⟩ : ∃ sg, signB d = sg := ⟨_, rfl⟩
          rw [hsg] at HS
          have HSG := Lib.hid hsg
          clear hsg
          have hzz : (t1.extract 2 t1.size).size = t1.size - 2 := by rw [ByteArray.size_extract]; omega
          cases sg with
          | false =>
            have HCO := Lib.hid (show (t1.data.toList[0]? == some 92 && (t1.data.toList[1]?).any signB) = false by rw [HCL.out, show ((some c : Option UInt8) == some 92) = (c == 92) from rfl, HQ.out]; rw [HDL.out]; exact HSG.out)
            go_wp2_with fail
            refine Calls.mono HI.out ?_
            rintro e w1 ⟨rfl, hw1⟩
            have HB1 := Lib.hid (HB.out.below hw1)
            have hlt1 := hw1.size
            go_wp2_with fail
            refine Calls.mono (bld_WriteString unb w.heap.size w.heap.size acc (t.extract 0 a) w1 HB1.out (by omega) (by omega)) ?_
            rintro e w2 ⟨rfl, hB2, hw2, _⟩
            rw [HX.out] at hB2
            have HB2 := Lib.hid hB2
            have hlt2 := hw2.size
            clear hB2
            go_wp2_with fail
            refine Calls.mono (HS.out _) ?_
            rintro e w9 ⟨rfl, hw⟩
            rw [← hw]
            clear hw
            go_wp2_with fail
            refine Calls.mono (mark_any t1 w2 (by omega)) ?_
            rintro e w3 ⟨rfl, hw3⟩
            have HB3 := Lib.hid (HB2.out.below hw3)
            have hlt3 := hw3.size
            obtain ⟨hml, hmn⟩ := mark_le t1
            by_cases hn : (markN t1).2 = 0
            · have hn0 : (((markN t1).2 : Nat) : Int) = 0 := by omega
              have HN := Lib.hid hn
              have hyz : (t1.extract 0 1).size = 1 := by rw [ByteArray.size_extract]; omega
              have hyz2 : (t1.extract 1 t1.size).size = t1.size - 1 := by rw [ByteArray.size_extract]; omega
              have hyl : (t1.extract 0 1).data.toList = t1.data.toList.take 1 := by simp [ByteArray.data_extract]
              have HYL := Lib.hid hyl
              clear hn hyl
              go_wp2_with fail
              refine Calls.mono (bld_WriteString unb w.heap.size w.heap.size (acc ++ t.data.toList.take a) (t1.extract 0 1) w3 HB3.out (by simp; omega) (by omega)) ?_
              rintro e w4 ⟨rfl, hB4, hw4, _⟩
              have HB4 := Lib.hid hB4
              clear hB4
              go_wp2_with fail
              go_roundg (t1.size - 1)
              case measure => omega
              case rel =>
                refine ⟨t1.extract 1 t1.size, _, f, by rw [hz1], by omega, by omega, ?_, HB4.out, ((((hbw.trans (hw1.mono (by omega))).trans hw2).trans (hw3.mono (by omega))).trans hw4), ?_⟩
                · rw [← HLL.out, HE.out]
                  unfold unescF.unescS
                  rw [HCO.out, if_neg Bool.false_ne_true, if_pos HN.out, HYL.out]
                  simp only [List.append_assoc]
                · have h5 : (t1.extract 0 1).data.toList.length = 1 := by rw [← Lib.size_eq]; exact hyz
                  simp only [List.length_append, List.length_take, h5]
                  omega
            · have hn0 : ¬ (((markN t1).2 : Nat) : Int) = 0 := by omega
              have hn1 : ((((markN t1).2 : Nat) : Int) == 0) = false := beq_eq_false_iff_ne.2 hn0
              have hn2 : (((markN t1).2 : Nat) : Int) ≤ (t1.size : Int) := by omega
              have hn3 : (0 : Int) ≤ (((markN t1).2 : Nat) : Int) := by omega
              have HN := Lib.hid hn
              have hyz2 : (t1.extract (markN t1).2 t1.size).size = t1.size - (markN t1).2 := by rw [ByteArray.size_extract]; omega
              have hn4 : 0 < (markN t1).2 := by omega
              go_wp2_with fail
              refine Calls.mono (bld_WriteString unb w.heap.size w.heap.size (acc ++ t.data.toList.take a) (markN t1).1 w3 HB3.out (by simp; omega) (by omega)) ?_
              rintro e w4 ⟨rfl, hB4, hw4, _⟩
              have HB4 := Lib.hid hB4
              clear hB4
              go_wp2_with fail
              go_roundg (t1.size - (markN t1).2)
              case measure => omega
              case rel =>
                refine ⟨t1.extract (markN t1).2 t1.size, _, f, by rw [hz1], by omega, by omega, ?_, HB4.out, ((((hbw.trans (hw1.mono (by omega))).trans hw2).trans (hw3.mono (by omega))).trans hw4), ?_⟩
                · rw [← HLL.out, HE.out]
                  unfold unescF.unescS
                  rw [HCO.out, if_neg Bool.false_ne_true, if_neg HN.out]
                  simp only [List.append_assoc]
                · have h5 : (markN t1).1.data.toList.length = (markN t1).1.size := (Lib.size_eq _).symm
                  simp only [List.length_append, List.length_take, h5]
                  omega
          | true =>
            have HCO := Lib.hid (show (t1.data.toList[0]? == some 92 && (t1.data.toList[1]?).any signB) = true by rw [HCL.out, show ((some c : Option UInt8) == some 92) = (c == 92) from rfl, HQ.out]; rw [HDL.out]; exact HSG.out)
            go_wp2_with fail
            refine Calls.mono HI.out ?_
            rintro e w1 ⟨rfl, hw1⟩
            have HB1 := Lib.hid (HB.out.below hw1)
            have hlt1 := hw1.size
            go_wp2_with fail
            refine Calls.mono (bld_WriteString unb w.heap.size w.heap.size acc (t.extract 0 a) w1 HB1.out (by omega) (by omega)) ?_
            rintro e w2 ⟨rfl, hB2, hw2, _⟩
            rw [HX.out] at hB2
            have HB2 := Lib.hid hB2
            have hlt2 := hw2.size
            clear hB2
            go_wp2_with fail
            refine Calls.mono (HS.out _) ?_
            rintro e w9 ⟨rfl, hw⟩
            rw [← hw]
            clear hw
            go_wp2_with fail
            refine Calls.mono (bld_WriteByte unb w.heap.size w.heap.size (acc ++ t.data.toList.take a) d w2 HB2.out (by simp; omega) (by omega)) ?_
            rintro e w4 ⟨rfl, hB4, hw4, _⟩
            have HB4 := Lib.hid hB4
            clear hB4
            go_wp2_with fail
            go_roundg (t1.size - 2)
            case measure => omega
            case rel =>
              refine ⟨t1.extract 2 t1.size, _, f, by rw [hz1], by omega, by omega, ?_, HB4.out, (((hbw.trans (hw1.mono (by omega))).trans hw2).trans hw4), ?_⟩
              · rw [← HLL.out, HE.out]
                unfold unescF.unescS
                rw [HCO.out, if_pos rfl, HDL.out]
                simp
              · simp only [List.length_append, List.length_take, List.length_cons, List.length_nil]
                omega
        · have h2i : ¬ (1 : Int) < (t1.size : Int) := by omega
          have HDN := Lib.hid (show t1.data.toList[1]? = none from List.getElem?_eq_none (by rw [← Lib.size_eq]; omega))
          have HCO := Lib.hid (show (t1.data.toList[0]? == some 92 && (t1.data.toList[1]?).any signB) = false by rw [HCL.out, show ((some c : Option UInt8) == some 92) = (c == 92) from rfl, HQ.out]; rw [HDN.out]; rfl)
          go_wp2_with fail
          refine Calls.mono HI.out ?_
          rintro e w1 ⟨rfl, hw1⟩
          have HB1 := Lib.hid (HB.out.below hw1)
          have hlt1 := hw1.size
          go_wp2_with fail
          refine Calls.mono (bld_WriteString unb w.heap.size w.heap.size acc (t.extract 0 a) w1 HB1.out (by omega) (by omega)) ?_
          rintro e w2 ⟨rfl, hB2, hw2, _⟩
          rw [HX.out] at hB2
          have HB2 := Lib.hid hB2
          have hlt2 := hw2.size
          clear hB2
          go_wp2_with fail
          refine Calls.mono (mark_any t1 w2 (by omega)) ?_
          rintro e w3 ⟨rfl, hw3⟩
          have HB3 := Lib.hid (HB2.out.below hw3)
          have hlt3 := hw3.size
          obtain ⟨hml, hmn⟩ := mark_le t1
          by_cases hn : (markN t1).2 = 0
          · have hn0 : (((markN t1).2 : Nat) : Int) = 0 := by omega
            have HN := Lib.hid hn
            have hyz : (t1.extract 0 1).size = 1 := by rw [ByteArray.size_extract]; omega
            have hyz2 : (t1.extract 1 t1.size).size = t1.size - 1 := by rw [ByteArray.size_extract]; omega
            have hyl : (t1.extract 0 1).data.toList = t1.data.toList.take 1 := by simp [ByteArray.data_extract]
            have HYL := Lib.hid hyl
            clear hn hyl
            go_wp2_with fail
            refine Calls.mono (bld_WriteString unb w.heap.size w.heap.size (acc ++ t.data.toList.take a) (t1.extract 0 1) w3 HB3.out (by simp; omega) (by omega)) ?_
            rintro e w4 ⟨rfl, hB4, hw4, _⟩
            have HB4 := Lib.hid hB4
            clear hB4
            go_wp2_with fail
            go_roundg (t1.size - 1)
            case measure => omega
            case rel =>
              refine ⟨t1.extract 1 t1.size, _, f, by rw [hz1], by omega, by omega, ?_, HB4.out, ((((hbw.trans (hw1.mono (by omega))).trans hw2).trans (hw3.mono (by omega))).trans hw4), ?_⟩
              · rw [← HLL.out, HE.out]
                unfold unescF.unescS
                rw [HCO.out, if_neg Bool.false_ne_true, if_pos HN.out, HYL.out]
                simp only [List.append_assoc]
              · have h5 : (t1.extract 0 1).data.toList.length = 1 := by rw [← Lib.size_eq]; exact hyz
                simp only [List.length_append, List.length_take, h5]
                omega
          · have hn0 : ¬ (((markN t1).2 : Nat) : Int) = 0 := by omega
            have hn1 : ((((markN t1).2 : Nat) : Int) == 0) = false := beq_eq_false_iff_ne.2 hn0
            have hn2 : (((markN t1).2 : Nat) : Int) ≤ (t1.size : Int) := by omega
            have hn3 : (0 : Int) ≤ (((markN t1).2 : Nat) : Int) := by omega
            have HN := Lib.hid hn
            have hyz2 : (t1.extract (markN t1).2 t1.size).size = t1.size - (markN t1).2 := by rw [ByteArray.size_extract]; omega
            have hn4 : 0 < (markN t1).2 := by omega
            go_wp2_with fail
            refine Calls.mono (bld_WriteString unb w.heap.size w.heap.size (acc ++ t.data.toList.take a) (markN t1).1 w3 HB3.out (by simp; omega) (by omega)) ?_
            rintro e w4 ⟨rfl, hB4, hw4, _⟩
            have HB4 := Lib.hid hB4
            clear hB4
            go_wp2_with fail
            go_roundg (t1.size - (markN t1).2)
            case measure => omega
            case rel =>
              refine ⟨t1.extract (markN t1).2 t1.size, _, f, by rw [hz1], by omega, by omega, ?_, HB4.out, ((((hbw.trans (hw1.mono (by omega))).trans hw2).trans (hw3.mono (by omega))).trans hw4), ?_⟩
              · rw [← HLL.out, HE.out]
                unfold unescF.unescS
                rw [HCO.out, if_neg Bool.false_ne_true, if_neg HN.out]
                simp only [List.append_assoc]
              · have h5 : (markN t1).1.data.toList.length = (markN t1).1.size := (Lib.size_eq _).symm
                simp only [List.length_append, List.length_take, h5]
                omega
end Go.Proofs.YtbcfhpomclkccaaDoor
