/- The law on destinations and titles. -/
import Derived.Test.YtbcfhpomclkccaaDoorRsBackP
namespace Go.Proofs.YtbcfhpomclkccaaDoor
open Go.RowKit

def nlB (c : UInt8) : Bool := (c != 10) && (c != 13)
def BkW (s : ByteArray) (v7 v9 : Value) : Prop := ∃ (i : Nat) (x : ByteArray), v9 = .int .i64 (i : Int) ∧ v7 = .string x ∧ i ≤ s.size ∧ x.data.toList = (s.data.toList.take i).filter nlB
theorem filter_le (s : ByteArray) (x : ByteArray) (i : Nat) (h : x.data.toList = (s.data.toList.take i).filter nlB) : x.size ≤ s.size := by
  have h1 : x.data.toList.length = x.size := Array.length_toList
  have h2 : s.data.toList.length = s.size := Array.length_toList
  rw [h] at h1
  have h3 := List.length_filter_le nlB (s.data.toList.take i)
  rw [List.length_take] at h3
  omega
set_option maxHeartbeats 8000000 in
set_option maxRecDepth 100000 in
theorem back_law (v0 v1 v2 : Value) (la lb lc : List UInt8) (w : World) (h0 : SlU8 w v0 la) (h1 : SlU8 w v1 lb) (h2 : SlU8 w v2 lc) (hla : la.length ≤ 9223372036854775807) (hlb : lb.length ≤ 9223372036854775807) (hlc : lc.length ≤ 9223372036854775807) : Calls Tryd.prog 5 #[v0, v1, v2] w (BoolB w true) := by
  have HK := Lib.hid fun w' => known_any w'
  obtain ⟨A0, m0, c0, rfl, hm0, hc0, hh0⟩ := id h0
  obtain ⟨A1, m1, c1, rfl, hm1, hc1, hh1⟩ := id h1
  obtain ⟨A2, m2, c2, rfl, hm2, hc2, hh2⟩ := id h2
  have H0 := Lib.hid h0; have H1 := Lib.hid h1; have H2 := Lib.hid h2
  have HM0 := Lib.hid hm0; have HM1 := Lib.hid hm1; have HM2 := Lib.hid hm2
  have hm0b : m0 ≤ 9223372036854775807 := by omega
  have hm1b : m1 ≤ 9223372036854775807 := by omega
  have hm2b : m2 ≤ 9223372036854775807 := by omega
  clear h0 h1 h2 hh0 hh1 hh2 hla hlb hlc hm0 hm1 hm2
  by_cases g0 : 2500 < m0
  · have i0 : (2500 : Int) < (m0 : Int) := by omega
    go_enter Tryd.func5, Tryd.ntmps5
    go_wp2_with fail
    refine Calls.mono (HK.out _) ?_
    rintro e w1 ⟨rfl, b1⟩
    have B1 := Lib.hid b1
    clear b1
    go_wp2
    go_ret
    exact ⟨rfl, B1.out⟩
  have i0 : ¬ (2500 : Int) < (m0 : Int) := by omega
  by_cases g1 : 2500 < m1
  · have i1 : (2500 : Int) < (m1 : Int) := by omega
    go_enter Tryd.func5, Tryd.ntmps5
    go_wp2_with fail
    refine Calls.mono (HK.out _) ?_
    rintro e w1 ⟨rfl, b1⟩
    have B1 := Lib.hid b1
    clear b1
    go_wp2
    go_ret
    exact ⟨rfl, B1.out⟩
  have i1 : ¬ (2500 : Int) < (m1 : Int) := by omega
  by_cases g2 : 2500 < m2
  · have i2 : (2500 : Int) < (m2 : Int) := by omega
    go_enter Tryd.func5, Tryd.ntmps5
    go_wp2_with fail
    refine Calls.mono (HK.out _) ?_
    rintro e w1 ⟨rfl, b1⟩
    have B1 := Lib.hid b1
    clear b1
    go_wp2
    go_ret
    exact ⟨rfl, B1.out⟩
  have i2 : ¬ (2500 : Int) < (m2 : Int) := by omega
  have HT0 := Lib.hid fun (w' : World) (hb : Below w.heap.size w w') => reftext_any (.slice A0 m0 c0) la w' (by have := HM0.out; omega) (H0.out.later hb)
  have HT1 := Lib.hid fun (w' : World) (hb : Below w.heap.size w w') => reftext_any (.slice A1 m1 c1) lb w' (by have := HM1.out; omega) (H1.out.later hb)
  have HT2 := Lib.hid fun (w' : World) (hb : Below w.heap.size w w') => reftext_any (.slice A2 m2 c2) lc w' (by have := HM2.out; omega) (H2.out.later hb)
  have hl0 := textL_len la
  have hl1 := textL_len lb
  have hl2 := textL_len lc
  have hm0' := HM0.out
  have hm1' := HM1.out
  have hm2' := HM2.out
  obtain ⟨s, hsd⟩ : ∃ s : ByteArray, s = ⟨(textL la).toArray⟩ := ⟨_, rfl⟩
  obtain ⟨T, hTd⟩ : ∃ T : ByteArray, T = ⟨(textL lb).toArray⟩ := ⟨_, rfl⟩
  obtain ⟨M, hMd⟩ : ∃ M : ByteArray, M = ⟨(textL lc).toArray⟩ := ⟨_, rfl⟩
  have hss : s.size ≤ 7500 := by rw [hsd]; show (textL la).toArray.size ≤ _; simp; omega
  have hTs : T.size ≤ 7500 := by rw [hTd]; show (textL lb).toArray.size ≤ _; simp; omega
  have hMs : M.size ≤ 7500 := by rw [hMd]; show (textL lc).toArray.size ≤ _; simp; omega
  have HS := Lib.hid hsd; have HTd := Lib.hid hTd; have HMd := Lib.hid hMd
  clear hsd hTd hMd hl0 hl1 hl2 hm0' hm1' hm2'
  go_enter Tryd.func5, Tryd.ntmps5
  go_wp2_with fail
  refine Calls.mono (HK.out _) ?_
  rintro e w1 ⟨rfl, b1⟩
  have B1 := Lib.hid b1
  clear b1
  go_wp2_with fail
  refine Calls.mono (HT0.out _ B1.out) ?_
  rintro e w2 ⟨rfl, b2⟩
  have B2 := Lib.hid (below_on B1.out b2)
  clear b2
  rw [← HS.out]
  go_wp2_with fail
  go_loopw [7, 9] (fun v7 v9 wr => BkW s v7 v9 ∧ wr = w2) (fun _ v9 _ => s.size - (intOf v9).toNat)
  case atStart => exact ⟨⟨0, ⟨#[]⟩, rfl, rfl, Nat.zero_le _, by simp⟩, rfl⟩
  case round =>
    obtain ⟨⟨i, x, rfl, rfl, hi, hx⟩, hwr⟩ := hrel
    have hwr2 := hwr.symm
    subst hwr2
    clear hwr
    have hxs := filter_le s x i hx
    have HX := Lib.hid hx
    clear hx
    by_cases hlt : i < s.size
    · have hii : (i : Int) < (s.size : Int) := by omega
      have hii1 : (i : Int) + 1 ≤ (s.size : Int) := by omega
      obtain ⟨c, hc⟩ : ∃ c, s[i] = c := ⟨_, rfl⟩
      have hex := ext_list s i hlt
      rw [hc] at hex
      obtain ⟨y, hy⟩ : ∃ y, s.extract i (i + 1) = y := ⟨_, rfl⟩
      rw [hy] at hex
      have hyz : y.size = 1 := by rw [← hy, ByteArray.size_extract]; omega
      have htk : s.data.toList.take (i + 1) = s.data.toList.take i ++ [c] := by
        have hlt' : i < s.data.toList.length := by rw [show s.data.toList.length = s.size from Array.length_toList]; exact hlt
        rw [List.take_succ_eq_append_getElem hlt', ← hc]; rfl
      have HTK := Lib.hid htk
      have HEX := Lib.hid hex
      have HY := Lib.hid hy
      clear hex hy htk
      by_cases h10 : c = 10
      · have i10 : ((c.toNat : Int) != 10) = false := by rw [show ((c.toNat : Int) != 10) = (c != 10) from bnec c 10, h10]; rfl
        have HN := Lib.hid (show nlB c = false by rw [h10]; rfl)
        clear h10
        go_wp2_with fail
        (try rw [hc])
        go_wp2_with fail
        go_roundw
        case rel => exact ⟨⟨i + 1, x, rfl, rfl, by omega, by rw [HTK.out, List.filter_append, HX.out]; simp [HN.out]⟩, by first | rfl | trivial⟩
        case measure => simp [intOf]; omega
      · have i10 : ((c.toNat : Int) != 10) = true := by rw [show ((c.toNat : Int) != 10) = (c != 10) from bnec c 10]; simpa using h10
        by_cases h13 : c = 13
        · have i13 : ((c.toNat : Int) != 13) = false := by rw [show ((c.toNat : Int) != 13) = (c != 13) from bnec c 13, h13]; rfl
          have HN := Lib.hid (show nlB c = false by rw [h13]; rfl)
          clear h13 h10
          go_wp2_with fail
          (try rw [hc])
          go_wp2_with fail
          go_roundw
          case rel => exact ⟨⟨i + 1, x, rfl, rfl, by omega, by rw [HTK.out, List.filter_append, HX.out]; simp [HN.out]⟩, by first | rfl | trivial⟩
          case measure => simp [intOf]; omega
        · have i13 : ((c.toNat : Int) != 13) = true := by rw [show ((c.toNat : Int) != 13) = (c != 13) from bnec c 13]; simpa using h13
          have HN := Lib.hid (show nlB c = true by unfold nlB; simp [h10, h13])
          clear h13 h10
          go_wp2_with fail
          (try rw [hc])
          go_wp2_with fail
          (try rw [HY.out])
          go_wp2_with fail
          go_roundw
          case rel =>
            refine ⟨⟨i + 1, x ++ y, rfl, rfl, by omega, ?_⟩, by first | rfl | trivial⟩
            rw [HTK.out, List.filter_append, ByteArray.data_append, Array.toList_append, HX.out, HEX.out]
            simp [HN.out]
          case measure => simp [intOf]; omega
    · have hxf : x.data.toList = s.data.toList.filter nlB := by rw [HX.out, List.take_of_length_le]; rw [show s.data.toList.length = s.size from Array.length_toList]; omega
      have hD : ∀ c ∈ x.data.toList, ¬ c = 10 := fun c hc => by
        rw [hxf] at hc
        have := (List.mem_filter.1 hc).2
        intro e
        rw [e] at this
        cases this
      obtain ⟨E1, hE1⟩ : ∃ E1 : ByteArray, E1 = ⟨(escL [92, 60, 62, 38] x.data.toList).toArray⟩ := ⟨_, rfl⟩
      obtain ⟨E2, hE2⟩ : ∃ E2 : ByteArray, E2 = ⟨(escL [92, 34, 38] T.data.toList).toArray⟩ := ⟨_, rfl⟩
      have hE1l : E1.data.toList = escL [92, 60, 62, 38] x.data.toList := by rw [hE1]
      have hE2l : E2.data.toList = escL [92, 34, 38] T.data.toList := by rw [hE2]
      have hE1s : E1.size = (escL [92, 60, 62, 38] x.data.toList).length := by rw [← hE1l]; exact (Array.length_toList).symm
      have hE2s : E2.size = (escL [92, 34, 38] T.data.toList).length := by rw [← hE2l]; exact (Array.length_toList).symm
      have hxl : x.data.toList.length = x.size := Array.length_toList
      have hTl : T.data.toList.length = T.size := Array.length_toList
      have hMl : M.data.toList.length = M.size := Array.length_toList
      have hE1z : E1.size ≤ 15000 := by have := escL_len2 sgDest x.data.toList; omega
      have hE2z : E2.size ≤ 15000 := by have := escL_len2 sgTitle T.data.toList; omega
      have HEs1 := Lib.hid fun w' => escaped_any x ⟨#[92, 60, 62, 38]⟩ w' (by omega) (by decide)
      have HEs2 := Lib.hid fun w' => escaped_any T ⟨#[92, 34, 38]⟩ w' (by omega) (by decide)
      obtain ⟨L, hL⟩ : ∃ L : ByteArray, (((⟨#[91, 120, 93, 58, 32, 60]⟩ ++ E1) ++ ⟨#[62, 32, 34]⟩) ++ E2) ++ ⟨#[34]⟩ = L := ⟨_, rfl⟩
      obtain ⟨S, hS⟩ : ∃ S : ByteArray, (L ++ ⟨#[10]⟩) ++ M = S := ⟨_, rfl⟩
      have hLz : L.size = 10 + E1.size + E2.size := by
        rw [← hL]
        simp only [ByteArray.size_append]
        show 6 + E1.size + 3 + E2.size + 1 = _
        omega
      have hSl : S.data.toList = [91, 120, 93, 58, 32, 60] ++ (escL [92, 60, 62, 38] x.data.toList ++ 62 :: 32 :: 34 :: (escL [92, 34, 38] T.data.toList ++ 34 :: 10 :: M.data.toList)) := by
        rw [← hS, ← hL, ← hE1l, ← hE2l]
        simp [ByteArray.data_append]
      have hSz : S.size = L.size + 1 + M.size := by
        rw [← hS]
        simp only [ByteArray.size_append]
        rfl
      have hv := back_plain S x.data.toList T.data.toList M.data.toList hD hSl
      have hdf := fun w' => define_any S w' (by omega)
      rw [hv, str_eq x, str_eq T, ← hE1s, ← hE2s, show 11 + E1.size + E2.size = L.size + 1 by omega] at hdf
      have HDf := Lib.hid hdf
      have HLd := Lib.hid hL; have HSd := Lib.hid hS; have HE1 := Lib.hid hE1; have HE2 := Lib.hid hE2
      have hLb : L.size ≤ 40000 := by omega
      clear hdf hv hSl hSz hL hS hE1 hE2 hE1l hE2l hE1s hE2s hxl hTl hMl hD hxf hLz
      go_wp2_with fail
      refine Calls.mono (HT1.out _ B2.out) ?_
      rintro e w3 ⟨rfl, b3⟩
      have B3 := Lib.hid (below_on B2.out b3)
      clear b3
      rw [← HTd.out]
      go_wp2_with fail
      refine Calls.mono (HEs1.out _) ?_
      rintro e w4 ⟨rfl, b4⟩
      have B4 := Lib.hid (below_on B3.out b4)
      clear b4
      rw [show (⟨(escL (⟨#[92, 60, 62, 38]⟩ : ByteArray).data.toList x.data.toList).toArray⟩ : ByteArray) = E1 from HE1.out.symm]
      go_wp2_with fail
      refine Calls.mono (HEs2.out _) ?_
      rintro e w5 ⟨rfl, b5⟩
      have B5 := Lib.hid (below_on B4.out b5)
      clear b5
      rw [show (⟨(escL (⟨#[92, 34, 38]⟩ : ByteArray).data.toList T.data.toList).toArray⟩ : ByteArray) = E2 from HE2.out.symm]
      go_wp2_with fail
      rw [HLd.out]
      refine Calls.mono (HT2.out _ B5.out) ?_
      rintro e w6 ⟨rfl, b6⟩
      have B6 := Lib.hid (below_on B5.out b6)
      clear b6
      rw [← HMd.out]
      go_wp2_with fail
      rw [HSd.out]
      refine Calls.mono (HDf.out _) ?_
      rintro e w7 ⟨rfl, b7⟩
      have B7 := Lib.hid (below_on B6.out b7)
      have HR := Lib.hid (show Row3 (w7.alloc (.cells #[.string ⟨#[120]⟩, .string x, .string T] 28)) w7.heap.size ⟨#[120]⟩ x T from heap_alloc_new w7 _)
      have B8 := Lib.hid (B7.out.alloc B7.out.size (.cells #[.string ⟨#[120]⟩, .string x, .string T] 28))
      clear b7
      have c8 := fun i => cell_of_row (w7.alloc (.cells #[.string ⟨#[120]⟩, .string x, .string T] 28)) w7.heap.size i _ _ _ (show (w7.alloc (.cells #[.string ⟨#[120]⟩, .string x, .string T] 28)).heap[w7.heap.size]? = _ from HR.out)
      go_wp2
      go_ret
      exact ⟨rfl, B8.out⟩
end Go.Proofs.YtbcfhpomclkccaaDoor
