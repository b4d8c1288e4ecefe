/- The law on labels. -/
import Derived.Test.YtbcfhpomclkccaaDoorRsEscP
namespace Go.Proofs.YtbcfhpomclkccaaDoor
open Go.RowKit

theorem esc_ws {g : List UInt8} : ∀ l : List UInt8, blankL l = false → (escL g l).all ws3 = false
  | [], h => by cases h
  | c :: l, h => by
    rw [escL_cons, List.all_append]
    by_cases hc : ws3 c = true
    · have : blankL l = false := by
        unfold blankL at h ⊢
        rw [List.all_cons] at h
        have h2 : (c == 10 || wsB c) = true := by
          unfold ws3 at hc
          unfold wsB
          revert hc
          cases c == 32 <;> cases c == 9 <;> cases c == 10 <;> simp
        rw [h2, Bool.true_and] at h
        exact h
      rw [esc_ws l this, Bool.and_false]
    · have : (escC g c).all ws3 = false := by
        unfold escC
        rw [List.all_append, List.all_cons]
        simp [hc]
      rw [this, Bool.false_and]
theorem label_law (s : ByteArray) (l M : List UInt8) (hs : s.data.toList = [91] ++ (escL [92, 91, 93, 38] l ++ 93 :: M)) (hE : (escL [92, 91, 93, 38] l).length ≤ 999) (hb : blankL l = false) :
    labelS s 0 = ⟨(escL [92, 91, 93, 38] l).toArray⟩ ∧ labelE s.data.toList 0 = (escL [92, 91, 93, 38] l).length + 2 := by
  have hlen : s.data.toList.length = (escL [92, 91, 93, 38] l).length + 2 + M.length := by rw [hs]; simp; omega
  have hu := upF_esc sgLabel 93 noBr (by decide) M l [91] s.data.toList.length (fun c _ hc => ⟨fun e => hc (by rw [e]; decide), by unfold noBr; rw [bne_iff_ne]; intro e; exact hc (by rw [e]; decide)⟩) (by omega)
  rw [← hs] at hu
  have hn : labelN s.data.toList 0 = some (1 + (escL [92, 91, 93, 38] l).length) := by
    unfold labelN
    have h0 : s.data.toList[0]? = some 91 := by rw [hs]; rfl
    rw [h0, if_pos (by rfl)]
    rw [show (0 + 1 : Nat) = ([91] : List UInt8).length from rfl, hu]
    have hd : (s.data.toList.drop 1).take (1 + (escL [92, 91, 93, 38] l).length - 1) = escL [92, 91, 93, 38] l := by
      rw [hs, show 1 + (escL [92, 91, 93, 38] l).length - 1 = (escL [92, 91, 93, 38] l).length by omega]
      show (escL [92, 91, 93, 38] l ++ 93 :: M).take _ = _
      exact List.take_left
    simp only [List.length_singleton]
    rw [hd, esc_ws l hb, if_pos]
    simp
    omega
  constructor
  · unfold labelS
    rw [hn]
    apply str_mk
    rw [Lib.extract_data, hs, show 1 + (escL [92, 91, 93, 38] l).length - (0 + 1) = (escL [92, 91, 93, 38] l).length by omega]
    show (escL [92, 91, 93, 38] l ++ 93 :: M).take _ = _
    exact List.take_left
  · unfold labelE
    rw [hn]
    simp only
    omega
set_option maxHeartbeats 4000000 in
set_option maxRecDepth 100000 in
theorem labels_law (v0 v1 : Value) (la lb : List UInt8) (w : World) (h0 : SlU8 w v0 la) (h1 : SlU8 w v1 lb) (hla : la.length ≤ 9223372036854775807) (hlb : lb.length ≤ 9223372036854775807) : Calls Tryd.prog 6 #[v0, v1] w (BoolB w true) := by
  have HK := Lib.hid fun w' => known_any w'
  obtain ⟨A0, m0, c0, rfl, hm0, hc0, hh0⟩ := id h0
  obtain ⟨A1, m1, c1, rfl, hm1, hc1, hh1⟩ := id h1
  have H0 := Lib.hid h0; have H1 := Lib.hid h1
  have HM0 := Lib.hid hm0; have HM1 := Lib.hid hm1
  have hm0b : m0 ≤ 9223372036854775807 := by omega
  have hm1b : m1 ≤ 9223372036854775807 := by omega
  clear h0 h1 hh0 hh1 hla hlb hm0 hm1
  by_cases g0 : 300 < m0
  · have i0 : (300 : Int) < (m0 : Int) := by omega
    go_enter Tryd.func6, Tryd.ntmps6
    go_wp2_with fail
    refine Calls.mono (HK.out _) ?_
    rintro e w1 ⟨rfl, b1⟩
    have B1 := Lib.hid b1
    clear b1
    go_wp2
    go_ret
    exact ⟨rfl, B1.out⟩
  · have i0 : ¬ (300 : Int) < (m0 : Int) := by omega
    by_cases g1 : 2500 < m1
    · have i1 : (2500 : Int) < (m1 : Int) := by omega
      go_enter Tryd.func6, Tryd.ntmps6
      go_wp2_with fail
      refine Calls.mono (HK.out _) ?_
      rintro e w1 ⟨rfl, b1⟩
      have B1 := Lib.hid b1
      clear b1
      go_wp2
      go_ret
      exact ⟨rfl, B1.out⟩
    · have i1 : ¬ (2500 : Int) < (m1 : Int) := by omega
      have HT0 := Lib.hid fun (w' : World) (hb : Below w.heap.size w w') => reftext_any (.slice A0 m0 c0) la w' (by have := HM0.out; omega) (H0.out.later hb)
      have HT1 := Lib.hid fun (w' : World) (hb : Below w.heap.size w w') => reftext_any (.slice A1 m1 c1) lb w' (by have := HM1.out; omega) (H1.out.later hb)
      have hl0 := textL_len la
      have hl1 := textL_len lb
      have hE := escText_len sgLabel la
      have hm0' := HM0.out
      have hm1' := HM1.out
      obtain ⟨s, hsd⟩ : ∃ s : ByteArray, s = ⟨(textL la).toArray⟩ := ⟨_, rfl⟩
      obtain ⟨M, hMd⟩ : ∃ M : ByteArray, M = ⟨(textL lb).toArray⟩ := ⟨_, rfl⟩
      have hsl : s.data.toList = textL la := by rw [hsd]
      have hMl : M.data.toList = textL lb := by rw [hMd]
      have hss : s.size = (textL la).length := by rw [← hsl]; exact (Array.length_toList).symm
      have hMs : M.size = (textL lb).length := by rw [← hMl]; exact (Array.length_toList).symm
      have HS := Lib.hid hsd; have HMd := Lib.hid hMd
      rw [← hsl] at hE
      obtain ⟨E, hEd⟩ : ∃ E : ByteArray, E = ⟨(escL [92, 91, 93, 38] s.data.toList).toArray⟩ := ⟨_, rfl⟩
      have hEl : E.data.toList = escL [92, 91, 93, 38] s.data.toList := by rw [hEd]
      have hEs : E.size = (escL [92, 91, 93, 38] s.data.toList).length := by rw [← hEl]; exact (Array.length_toList).symm
      have HED := Lib.hid hEd
      have HB := Lib.hid fun w' => refblank_any s w' (by omega)
      have HEs := Lib.hid fun w' => escaped_any s ⟨#[92, 91, 93, 38]⟩ w' (by omega) (by decide)
      have hu := unescB_esc sgLabel s.data.toList E hEl
      rw [str_eq s] at hu
      have HU := Lib.hid fun w' => unesc_ret E (by omega) s hu w'
      obtain ⟨S, hS⟩ : ∃ S : ByteArray, (⟨#[91]⟩ ++ E ++ ⟨#[93]⟩) ++ M = S := ⟨_, rfl⟩
      have hSl : S.data.toList = [91] ++ (escL [92, 91, 93, 38] s.data.toList ++ 93 :: M.data.toList) := by
        rw [← hS, ← hEl]
        simp [ByteArray.data_append]
      have hSz : S.size ≤ 100000 := by
        have : S.data.toList.length = S.size := Array.length_toList
        rw [hSl] at this
        simp only [List.length_append, List.length_cons, List.length_nil] at this
        have h2 : M.data.toList.length = M.size := Array.length_toList
        omega
      have HSd := Lib.hid hS
      have hlab : blankL s.data.toList = false → labelS S 0 = E ∧ labelE S.data.toList 0 = E.size + 2 := fun hb => by
        have := label_law S s.data.toList M.data.toList hSl (by omega) hb
        exact ⟨this.1.trans hEd.symm, by rw [this.2, hEs]⟩
      have HL := Lib.hid fun w' => label_any S 0 w' (by omega) (by omega)
      have HLB := Lib.hid hlab
      have hEb : E.size ≤ 1000 := by omega
      have hMb : M.size ≤ 7500 := by omega
      clear hlab hS hSl hu hEd hEl hEs hsd hMd hsl hMl hss hMs hl0 hl1 hE hm0' hm1'
      cases hbl : blankL s.data.toList with
      | true =>
        rw [hbl] at HB
        go_enter Tryd.func6, Tryd.ntmps6
        go_wp2_with fail
        refine Calls.mono (HK.out _) ?_
        rintro e w1 ⟨rfl, b1⟩
        have B1 := Lib.hid b1
        clear b1
        go_wp2_with fail
        refine Calls.mono (HT0.out _ B1.out) ?_
        rintro e w2 ⟨rfl, b2⟩
        have B2 := Lib.hid (below_on B1.out b2)
        clear b2
        rw [← HS.out]
        go_wp2_with fail
        refine Calls.mono (HB.out _) ?_
        rintro e w3 ⟨rfl, rfl⟩
        go_wp2
        go_ret
        exact ⟨rfl, B2.out⟩
      | false =>
        rw [hbl] at HB
        obtain ⟨q1, q2⟩ := HLB.out hbl
        rw [q1, q2] at HL
        clear q1 q2 hbl
        go_enter Tryd.func6, Tryd.ntmps6
        go_wp2_with fail
        refine Calls.mono (HK.out _) ?_
        rintro e w1 ⟨rfl, b1⟩
        have B1 := Lib.hid b1
        clear b1
        go_wp2_with fail
        refine Calls.mono (HT0.out _ B1.out) ?_
        rintro e w2 ⟨rfl, b2⟩
        have B2 := Lib.hid (below_on B1.out b2)
        clear b2
        rw [← HS.out]
        go_wp2_with fail
        refine Calls.mono (HB.out _) ?_
        rintro e w3 ⟨rfl, rfl⟩
        go_wp2_with fail
        refine Calls.mono (HEs.out _) ?_
        rintro e w4 ⟨rfl, b4⟩
        have B4 := Lib.hid (below_on B2.out b4)
        clear b4
        rw [show (⟨(escL (⟨#[92, 91, 93, 38]⟩ : ByteArray).data.toList s.data.toList).toArray⟩ : ByteArray) = E from HED.out.symm]
        go_wp2_with fail
        refine Calls.mono (HT1.out _ B4.out) ?_
        rintro e w5 ⟨rfl, b5⟩
        have B5 := Lib.hid (below_on B4.out b5)
        clear b5
        rw [← HMd.out]
        go_wp2_with fail
        rw [HSd.out]
        refine Calls.mono (HL.out _) ?_
        rintro e w6 ⟨rfl, b6⟩
        have B6 := Lib.hid (below_on B5.out b6)
        clear b6
        go_wp2_with fail
        refine Calls.mono (HU.out _) ?_
        rintro e w7 ⟨rfl, b7⟩
        have B7 := Lib.hid (below_on B6.out b7)
        clear b7
        go_wp2
        go_ret
        exact ⟨rfl, B7.out⟩
end Go.Proofs.YtbcfhpomclkccaaDoor
