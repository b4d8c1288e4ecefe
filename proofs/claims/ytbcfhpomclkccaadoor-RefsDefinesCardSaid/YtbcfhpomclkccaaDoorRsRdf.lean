/- The reference's Define. -/
import Derived.Test.YtbcfhpomclkccaaDoorRsDefA
import Derived.Test.YtbcfhpomclkccaaDoorRsRnn
import Derived.Test.YtbcfhpomclkccaaDoorRsRt
import Derived.Test.YtbcfhpomclkccaaDoorRsRd
namespace Go.Proofs.YtbcfhpomclkccaaDoor
open Go.RowKit

theorem row3_draws {w : World} {b : Nat} {x y z : ByteArray} (h : Row3 w b x y z) (n : Nat) : Row3 (w.drewN n) b x y z := h
set_option maxHeartbeats 8000000 in
set_option maxRecDepth 100000 in
theorem refdefine_any (s : ByteArray) (w : World) (hs : s.size ≤ 1000000000) : Calls Tryd.prog 14 #[.string s] w (DefR w (defV s)) := by
  have hl : s.data.toList.length = s.size := Array.length_toList
  obtain ⟨V, hV⟩ : ∃ V, defV s = V := ⟨_, rfl⟩
  rw [hV]
  have hV2 := hV
  unfold defV at hV2
  have hk := labelE_in s.data.toList 0 (Nat.zero_le _)
  have hll := labelS_len s 0
  rw [hl] at hk
  have hN0 : ∀ w', Calls Tryd.prog 10 #[.string (labelS s 0)] w' (FoldR w' (defLab s).data.toList) := fun w' => refnorm_any (labelS s 0) w' (by omega)
  have hL0 := fun w' => reflabel_any s w' (by omega)
  obtain ⟨LS, hLS⟩ : ∃ x, labelS s 0 = x := ⟨_, rfl⟩
  obtain ⟨lab, hlab⟩ : ∃ x, defLab s = x := ⟨_, rfl⟩
  have hdef : defN s = if s.data.toList[labelE s.data.toList 0]? = some 58 ∧ labelE s.data.toList 0 ≠ 0 ∧ (destV s (gapN s.data.toList (labelE s.data.toList 0 + 1))).2.2 = true ∧ lab.data.toList ≠ [] then
    (defTail s (destV s (gapN s.data.toList (labelE s.data.toList 0 + 1))).2.1).map fun x => (lab, (destV s (gapN s.data.toList (labelE s.data.toList 0 + 1))).1, x.1, x.2)
  else none := by rw [← hlab]; rfl
  obtain ⟨k, hke⟩ : ∃ x, labelE s.data.toList 0 = x := ⟨_, rfl⟩
  rw [hLS, hlab] at hN0
  rw [hLS, hke] at hL0
  rw [hke] at hdef hk
  have HL0 := Lib.hid hL0
  have HN0 := Lib.hid hN0
  have hz0 : Row3 (w.alloc (.cells #[.string ⟨#[]⟩, .string ⟨#[]⟩, .string ⟨#[]⟩] 28)) w.heap.size ⟨#[]⟩ ⟨#[]⟩ ⟨#[]⟩ := heap_alloc_new w _
  have HZ0 := Lib.hid hz0
  have HZB := Lib.hid (show Below w.heap.size w (w.alloc (.cells #[.string ⟨#[]⟩, .string ⟨#[]⟩, .string ⟨#[]⟩] 28)) from (Below.refl _ w).alloc (Nat.le_refl _) _)
  obtain ⟨W0, hW0⟩ : ∃ W0, w.alloc (.cells #[.string ⟨#[]⟩, .string ⟨#[]⟩, .string ⟨#[]⟩] 28) = W0 := ⟨_, rfl⟩
  rw [hW0] at HZ0 HZB
  have HW0 := Lib.hid hW0
  clear hN0 hL0 hlab hLS hke hll hz0 hW0 hV
  by_cases hk0 : k = 0
  · have HV := Lib.hid (show V = (⟨#[]⟩, ⟨#[]⟩, ⟨#[]⟩, 0) by rw [← hV2, hdef, if_neg (fun h => h.2.1 hk0)]; rfl)
    clear hdef hV2
    have hki : ((k : Int) == 0) = true := by rw [hk0]; rfl
    clear hk0
    go_enter Tryd.func14, Tryd.ntmps14
    go_wp2_with fail
    rw [HW0.out]
    go_wp2_with fail
    refine Calls.mono (HL0.out _) ?_
    rintro e w1 ⟨rfl, rfl⟩
    have g9 := HZ0.out
    have q9 := fun i => cell_of_row w1 w.heap.size i _ _ _ (show (w1 : World).heap[w.heap.size]? = _ from g9)
    have f9 : ∀ i, (w1 : World).frozen? ⟨w.heap.size, i, none⟩ = false := fun i => by simp [World.frozen?, show (w1 : World).heap[w.heap.size]? = _ from g9]
    go_wp2
    have HE := Lib.hid (ref_end w w1 _ _ _ (⟨#[]⟩) (⟨#[]⟩) (⟨#[]⟩) (HZB.out) g9)
    obtain ⟨W9, hW9⟩ : ∃ W9, (((w1 : World).setCell ⟨w.heap.size, 0, none⟩ (.string (⟨#[]⟩))).setCell ⟨w.heap.size, 1, none⟩ (.string (⟨#[]⟩))).setCell ⟨w.heap.size, 2, none⟩ (.string (⟨#[]⟩)) = W9 := ⟨_, rfl⟩
    rw [hW9] at HE ⊢
    (try simp only [Exit.inBlock, Exit.then])
    refine bodyPost_ret (results_row_tmp rfl _ W9 w.heap.size _ _ _ _ rfl HE.out.1 Tryd.underlying28 rfl (by kernel_rfl)) rfl ?_
    rw [HV.out]
    exact ⟨rfl, HE.out.2⟩
  · have hki : ((k : Int) == 0) = false := by rw [beq_eq_false_iff_ne]; omega
    by_cases hks : k < s.size
    · have hkl : ¬ (s.size : Int) ≤ (k : Int) := by omega
      have hki2 : (k : Int) < (s.size : Int) := by omega
      have hgk := get_list s k hks
      obtain ⟨c, hc⟩ : ∃ c, s[k] = c := ⟨_, rfl⟩
      rw [hc] at hgk
      by_cases h58 : c = 58
      · have ic : ((c.toNat : Int) != 58) = false := by rw [h58]; rfl
        have hq58 : s.data.toList[k]? = some 58 := by rw [hgk, h58]
        clear h58
        have hgn := (gapN_in s.data.toList (k + 1) (by omega)).2
        have HG : Hid (∀ w', Calls Tryd.prog 40 #[.string s, .int .i64 ((k : Int) + 1)] w' (IntR w' (gapN s.data.toList (k + 1) : Nat))) := Lib.hid fun w' => refgap_any s (k + 1) w' (by omega) (by omega)
        obtain ⟨g0, hg0⟩ : ∃ x, gapN s.data.toList (k + 1) = x := ⟨_, rfl⟩
        rw [hg0] at HG hgn hdef
        have HD := Lib.hid fun w' => refdest_any s g0 w' hs (by omega)
        have hdi := destV_in s g0
        obtain ⟨⟨d, e, isd⟩, hd⟩ : ∃ x, destV s g0 = x := ⟨_, rfl⟩
        rw [hd] at HD hdef hdi
        simp only at hdef hdi
        have HDI := Lib.hid hdi
        clear hg0 hd hgn hdi hgk
        cases isd with
        | false =>
          have HV := Lib.hid (show V = (⟨#[]⟩, ⟨#[]⟩, ⟨#[]⟩, 0) by rw [← hV2, hdef, if_neg (fun h => by cases h.2.2.1)]; rfl)
          clear hdef hV2 hk0 hq58 hl
          go_enter Tryd.func14, Tryd.ntmps14
          go_wp2_with fail
          rw [HW0.out]
          go_wp2_with fail
          refine Calls.mono (HL0.out _) ?_
          rintro e w1 ⟨rfl, rfl⟩
          go_wp2_with fail
          (try rw [hc])
          go_wp2_with fail
          refine Calls.mono (HG.out _) ?_
          rintro e w2 ⟨rfl, rfl⟩
          go_wp2_with fail
          refine Calls.mono (HD.out _) ?_
          rintro e w3 ⟨rfl, b3⟩
          have HR3 := Lib.hid (HZ0.out.later b3)
          have HB3 := Lib.hid (below_on HZB.out b3)
          clear b3
          go_wp2_with fail
          refine Calls.mono (HN0.out _) ?_
          rintro e w4 ⟨rfl, b4⟩
          have HR4 := Lib.hid (HR3.out.later b4)
          have HB4 := Lib.hid (below_on HB3.out b4)
          clear b4
          rw [str_eq lab]
          have HX5 := Lib.hid (show Row3 (w4.alloc (.cells #[.string lab, .string d, .string ⟨#[]⟩] 28)) w4.heap.size lab d ⟨#[]⟩ from heap_alloc_new w4 _)
          have hb5 : Below w4.heap.size w4 (w4.alloc (.cells #[.string lab, .string d, .string ⟨#[]⟩] 28)) := (Below.refl _ w4).alloc (Nat.le_refl _) _
          have HR5 := Lib.hid (HR4.out.later hb5)
          have HB5 := Lib.hid (below_on HB4.out hb5)
          have hne4 : ¬ w.heap.size = w4.heap.size := by have := HR4.out.lt; omega
          clear hb5
          have g9 := HR5.out
          have q9 := fun i => cell_of_row (w4.alloc (.cells #[.string lab, .string d, .string ⟨#[]⟩] 28)) w.heap.size i _ _ _ (show ((w4.alloc (.cells #[.string lab, .string d, .string ⟨#[]⟩] 28)) : World).heap[w.heap.size]? = _ from g9)
          have f9 : ∀ i, ((w4.alloc (.cells #[.string lab, .string d, .string ⟨#[]⟩] 28)) : World).frozen? ⟨w.heap.size, i, none⟩ = false := fun i => by simp [World.frozen?, show ((w4.alloc (.cells #[.string lab, .string d, .string ⟨#[]⟩] 28)) : World).heap[w.heap.size]? = _ from g9]
          go_wp2
          have HE := Lib.hid (ref_end w (w4.alloc (.cells #[.string lab, .string d, .string ⟨#[]⟩] 28)) _ _ _ (⟨#[]⟩) (⟨#[]⟩) (⟨#[]⟩) (HB5.out) g9)
          obtain ⟨W9, hW9⟩ : ∃ W9, ((((w4.alloc (.cells #[.string lab, .string d, .string ⟨#[]⟩] 28)) : World).setCell ⟨w.heap.size, 0, none⟩ (.string (⟨#[]⟩))).setCell ⟨w.heap.size, 1, none⟩ (.string (⟨#[]⟩))).setCell ⟨w.heap.size, 2, none⟩ (.string (⟨#[]⟩)) = W9 := ⟨_, rfl⟩
          rw [hW9] at HE ⊢
          (try simp only [Exit.inBlock, Exit.then])
          refine bodyPost_ret (results_row_tmp rfl _ W9 w.heap.size _ _ _ _ rfl HE.out.1 Tryd.underlying28 rfl (by kernel_rfl)) rfl ?_
          rw [HV.out]
          exact ⟨rfl, HE.out.2⟩
        | true =>
          have htl : lab.toList = lab.data.toList := Lib.toList_data lab
          by_cases hlab : lab.data.toList = []
          · have HV := Lib.hid (show V = (⟨#[]⟩, ⟨#[]⟩, ⟨#[]⟩, 0) by rw [← hV2, hdef, if_neg (fun h => h.2.2.2 hlab)]; rfl)
            rw [hlab] at htl
            have hie : lab.toList.isEmpty = true := by rw [htl]; rfl
            clear hdef hV2 hk0 hq58 hl hlab
            go_enter Tryd.func14, Tryd.ntmps14
            go_wp2_with fail
            rw [HW0.out]
            go_wp2_with fail
            refine Calls.mono (HL0.out _) ?_
            rintro e w1 ⟨rfl, rfl⟩
            go_wp2_with fail
            (try rw [hc])
            go_wp2_with fail
            refine Calls.mono (HG.out _) ?_
            rintro e w2 ⟨rfl, rfl⟩
            go_wp2_with fail
            refine Calls.mono (HD.out _) ?_
            rintro e w3 ⟨rfl, b3⟩
            have HR3 := Lib.hid (HZ0.out.later b3)
            have HB3 := Lib.hid (below_on HZB.out b3)
            clear b3
            go_wp2_with fail
            refine Calls.mono (HN0.out _) ?_
            rintro e w4 ⟨rfl, b4⟩
            have HR4 := Lib.hid (HR3.out.later b4)
            have HB4 := Lib.hid (below_on HB3.out b4)
            clear b4
            rw [str_eq lab]
            have HX5 := Lib.hid (show Row3 (w4.alloc (.cells #[.string lab, .string d, .string ⟨#[]⟩] 28)) w4.heap.size lab d ⟨#[]⟩ from heap_alloc_new w4 _)
            have hb5 : Below w4.heap.size w4 (w4.alloc (.cells #[.string lab, .string d, .string ⟨#[]⟩] 28)) := (Below.refl _ w4).alloc (Nat.le_refl _) _
            have HR5 := Lib.hid (HR4.out.later hb5)
            have HB5 := Lib.hid (below_on HB4.out hb5)
            have hne4 : ¬ w.heap.size = w4.heap.size := by have := HR4.out.lt; omega
            clear hb5
            have c5 := fun i => cell_of_row (w4.alloc (.cells #[.string lab, .string d, .string ⟨#[]⟩] 28)) w4.heap.size i _ _ _ (show ((w4.alloc (.cells #[.string lab, .string d, .string ⟨#[]⟩] 28)) : World).heap[w4.heap.size]? = _ from HX5.out)
            have g9 := HR5.out
            have q9 := fun i => cell_of_row (w4.alloc (.cells #[.string lab, .string d, .string ⟨#[]⟩] 28)) w.heap.size i _ _ _ (show ((w4.alloc (.cells #[.string lab, .string d, .string ⟨#[]⟩] 28)) : World).heap[w.heap.size]? = _ from g9)
            have f9 : ∀ i, ((w4.alloc (.cells #[.string lab, .string d, .string ⟨#[]⟩] 28)) : World).frozen? ⟨w.heap.size, i, none⟩ = false := fun i => by simp [World.frozen?, show ((w4.alloc (.cells #[.string lab, .string d, .string ⟨#[]⟩] 28)) : World).heap[w.heap.size]? = _ from g9]
            go_wp2
            have HE := Lib.hid (ref_end w (w4.alloc (.cells #[.string lab, .string d, .string ⟨#[]⟩] 28)) _ _ _ (⟨#[]⟩) (⟨#[]⟩) (⟨#[]⟩) (HB5.out) g9)
            obtain ⟨W9, hW9⟩ : ∃ W9, ((((w4.alloc (.cells #[.string lab, .string d, .string ⟨#[]⟩] 28)) : World).setCell ⟨w.heap.size, 0, none⟩ (.string (⟨#[]⟩))).setCell ⟨w.heap.size, 1, none⟩ (.string (⟨#[]⟩))).setCell ⟨w.heap.size, 2, none⟩ (.string (⟨#[]⟩)) = W9 := ⟨_, rfl⟩
            rw [hW9] at HE ⊢
            (try simp only [Exit.inBlock, Exit.then])
            refine bodyPost_ret (results_row_tmp rfl _ W9 w.heap.size _ _ _ _ rfl HE.out.1 Tryd.underlying28 rfl (by kernel_rfl)) rfl ?_
            rw [HV.out]
            exact ⟨rfl, HE.out.2⟩
          · have htn : ¬ lab.toList = [] := by rw [htl]; exact hlab
            have hie : lab.toList.isEmpty = false := by cases h : lab.toList with | nil => exact absurd h htn | cons _ _ => rfl
            have hdef2 : defN s = (defTail s e).map fun x => (lab, d, x.1, x.2) := by rw [hdef, if_pos ⟨hq58, hk0, rfl, hlab⟩]
            have hes : e ≤ s.size := HDI.out rfl
            have HLN := Lib.hid fun w9 => refrest_any s e w9 (by omega) hes
            have hgl := (gapN_in s.data.toList e (by omega)).2
            have HG2 := Lib.hid fun w9 => refgap_any s e w9 (by omega) hes
            rw [hdef2] at hV2
            unfold defTail at hV2
            obtain ⟨g, hg⟩ : ∃ x, gapN s.data.toList e = x := ⟨_, rfl⟩
            obtain ⟨o, ho⟩ : ∃ x, lineN s.data.toList e = x := ⟨_, rfl⟩
            rw [hg, ho] at hV2
            rw [hg] at HG2 hgl
            rw [ho] at HLN
            rw [hl] at hgl
            clear hdef hdef2 hlab htl hk0 hq58 hg ho hl
            by_cases hge : e < g
            · have hgi : (e : Int) < (g : Int) := by omega
              have HT := Lib.hid fun w9 => reftitle_any s g w9 hs
              have hti := titleV_in s g
              obtain ⟨⟨t, e2, ist⟩, ht⟩ : ∃ x, titleV s g = x := ⟨_, rfl⟩
              rw [ht] at HT hti hV2
              simp only at hti hV2
              clear ht
              cases ist with
              | false =>
                cases o with
                | none =>
                  have HV := Lib.hid (show V = (⟨#[]⟩, ⟨#[]⟩, ⟨#[]⟩, 0) by rw [← hV2, if_neg (fun h => by cases h.2)]; rfl)
                  have HLN := Lib.hid (show ∀ w9, Calls Tryd.prog 42 #[.string s, .int .i64 (e : Int)] w9 (IntR w9 (-1)) from HLN.out)
                  clear hV2
                  go_enter Tryd.func14, Tryd.ntmps14
                  go_wp2_with fail
                  rw [HW0.out]
                  go_wp2_with fail
                  refine Calls.mono (HL0.out _) ?_
                  rintro e w1 ⟨rfl, rfl⟩
                  go_wp2_with fail
                  (try rw [hc])
                  go_wp2_with fail
                  refine Calls.mono (HG.out _) ?_
                  rintro e w2 ⟨rfl, rfl⟩
                  go_wp2_with fail
                  refine Calls.mono (HD.out _) ?_
                  rintro e w3 ⟨rfl, b3⟩
                  have HR3 := Lib.hid (HZ0.out.later b3)
                  have HB3 := Lib.hid (below_on HZB.out b3)
                  clear b3
                  go_wp2_with fail
                  refine Calls.mono (HN0.out _) ?_
                  rintro e w4 ⟨rfl, b4⟩
                  have HR4 := Lib.hid (HR3.out.later b4)
                  have HB4 := Lib.hid (below_on HB3.out b4)
                  clear b4
                  rw [str_eq lab]
                  have HX5 := Lib.hid (show Row3 (w4.alloc (.cells #[.string lab, .string d, .string ⟨#[]⟩] 28)) w4.heap.size lab d ⟨#[]⟩ from heap_alloc_new w4 _)
                  have hb5 : Below w4.heap.size w4 (w4.alloc (.cells #[.string lab, .string d, .string ⟨#[]⟩] 28)) := (Below.refl _ w4).alloc (Nat.le_refl _) _
                  have HR5 := Lib.hid (HR4.out.later hb5)
                  have HB5 := Lib.hid (below_on HB4.out hb5)
                  have hne4 : ¬ w.heap.size = w4.heap.size := by have := HR4.out.lt; omega
                  clear hb5
                  have c5 := fun i => cell_of_row (w4.alloc (.cells #[.string lab, .string d, .string ⟨#[]⟩] 28)) w4.heap.size i _ _ _ (show ((w4.alloc (.cells #[.string lab, .string d, .string ⟨#[]⟩] 28)) : World).heap[w4.heap.size]? = _ from HX5.out)
                  go_wp2_with fail
                  refine Calls.mono (HG2.out _) ?_
                  rintro e' w6 ⟨rfl, rfl⟩
                  clear c5
                  go_wp2_with fail
                  refine Calls.mono (HT.out _) ?_
                  rintro e' w8 ⟨rfl, b8⟩
                  have HR8 := Lib.hid (HR5.out.later b8)
                  have HB8 := Lib.hid (below_on HB5.out b8)
                  have HX8 := Lib.hid (HX5.out.later b8)
                  clear b8
                  have c8 := fun i => cell_of_row w8 w4.heap.size i _ _ _ (show (w8 : World).heap[w4.heap.size]? = _ from HX8.out)
                  go_wp2_with fail
                  refine Calls.mono (HLN.out _) ?_
                  rintro e' w7 ⟨rfl, rfl⟩
                  have g9 := HR8.out
                  have q9 := fun i => cell_of_row w8 w.heap.size i _ _ _ (show (w8 : World).heap[w.heap.size]? = _ from g9)
                  have f9 : ∀ i, (w8 : World).frozen? ⟨w.heap.size, i, none⟩ = false := fun i => by simp [World.frozen?, show (w8 : World).heap[w.heap.size]? = _ from g9]
                  go_wp2
                  have HE := Lib.hid (ref_end w w8 _ _ _ (⟨#[]⟩) (⟨#[]⟩) (⟨#[]⟩) (HB8.out) g9)
                  obtain ⟨W9, hW9⟩ : ∃ W9, (((w8 : World).setCell ⟨w.heap.size, 0, none⟩ (.string (⟨#[]⟩))).setCell ⟨w.heap.size, 1, none⟩ (.string (⟨#[]⟩))).setCell ⟨w.heap.size, 2, none⟩ (.string (⟨#[]⟩)) = W9 := ⟨_, rfl⟩
                  rw [hW9] at HE ⊢
                  (try simp only [Exit.inBlock, Exit.then])
                  refine bodyPost_ret (results_row_tmp rfl _ W9 w.heap.size _ _ _ _ rfl HE.out.1 Tryd.underlying28 rfl (by kernel_rfl)) rfl ?_
                  rw [HV.out]
                  exact ⟨rfl, HE.out.2⟩
                | some n =>
                  have HV := Lib.hid (show V = (lab, d, ⟨#[]⟩, n) by rw [← hV2, if_neg (fun h => by cases h.2)]; rfl)
                  have HLN := Lib.hid (show ∀ w9, Calls Tryd.prog 42 #[.string s, .int .i64 (e : Int)] w9 (IntR w9 (n : Int)) from HLN.out)
                  have hnn : ¬ (n : Int) < 0 := by omega
                  clear hV2
                  go_enter Tryd.func14, Tryd.ntmps14
                  go_wp2_with fail
                  rw [HW0.out]
                  go_wp2_with fail
                  refine Calls.mono (HL0.out _) ?_
                  rintro e w1 ⟨rfl, rfl⟩
                  go_wp2_with fail
                  (try rw [hc])
                  go_wp2_with fail
                  refine Calls.mono (HG.out _) ?_
                  rintro e w2 ⟨rfl, rfl⟩
                  go_wp2_with fail
                  refine Calls.mono (HD.out _) ?_
                  rintro e w3 ⟨rfl, b3⟩
                  have HR3 := Lib.hid (HZ0.out.later b3)
                  have HB3 := Lib.hid (below_on HZB.out b3)
                  clear b3
                  go_wp2_with fail
                  refine Calls.mono (HN0.out _) ?_
                  rintro e w4 ⟨rfl, b4⟩
                  have HR4 := Lib.hid (HR3.out.later b4)
                  have HB4 := Lib.hid (below_on HB3.out b4)
                  clear b4
                  rw [str_eq lab]
                  have HX5 := Lib.hid (show Row3 (w4.alloc (.cells #[.string lab, .string d, .string ⟨#[]⟩] 28)) w4.heap.size lab d ⟨#[]⟩ from heap_alloc_new w4 _)
                  have hb5 : Below w4.heap.size w4 (w4.alloc (.cells #[.string lab, .string d, .string ⟨#[]⟩] 28)) := (Below.refl _ w4).alloc (Nat.le_refl _) _
                  have HR5 := Lib.hid (HR4.out.later hb5)
                  have HB5 := Lib.hid (below_on HB4.out hb5)
                  have hne4 : ¬ w.heap.size = w4.heap.size := by have := HR4.out.lt; omega
                  clear hb5
                  have c5 := fun i => cell_of_row (w4.alloc (.cells #[.string lab, .string d, .string ⟨#[]⟩] 28)) w4.heap.size i _ _ _ (show ((w4.alloc (.cells #[.string lab, .string d, .string ⟨#[]⟩] 28)) : World).heap[w4.heap.size]? = _ from HX5.out)
                  go_wp2_with fail
                  refine Calls.mono (HG2.out _) ?_
                  rintro e' w6 ⟨rfl, rfl⟩
                  clear c5
                  go_wp2_with fail
                  refine Calls.mono (HT.out _) ?_
                  rintro e' w8 ⟨rfl, b8⟩
                  have HR8 := Lib.hid (HR5.out.later b8)
                  have HB8 := Lib.hid (below_on HB5.out b8)
                  have HX8 := Lib.hid (HX5.out.later b8)
                  clear b8
                  have c8 := fun i => cell_of_row w8 w4.heap.size i _ _ _ (show (w8 : World).heap[w4.heap.size]? = _ from HX8.out)
                  go_wp2_with fail
                  refine Calls.mono (HLN.out _) ?_
                  rintro e' w7 ⟨rfl, rfl⟩
                  have g9 := HR8.out
                  have q9 := fun i => cell_of_row w8 w.heap.size i _ _ _ (show (w8 : World).heap[w.heap.size]? = _ from g9)
                  have f9 : ∀ i, (w8 : World).frozen? ⟨w.heap.size, i, none⟩ = false := fun i => by simp [World.frozen?, show (w8 : World).heap[w.heap.size]? = _ from g9]
                  go_wp2
                  have HE := Lib.hid (ref_end w w8 _ _ _ (lab) (d) (⟨#[]⟩) (HB8.out) g9)
                  obtain ⟨W9, hW9⟩ : ∃ W9, (((w8 : World).setCell ⟨w.heap.size, 0, none⟩ (.string (lab))).setCell ⟨w.heap.size, 1, none⟩ (.string (d))).setCell ⟨w.heap.size, 2, none⟩ (.string (⟨#[]⟩)) = W9 := ⟨_, rfl⟩
                  rw [hW9] at HE ⊢
                  (try simp only [Exit.inBlock, Exit.then])
                  refine bodyPost_ret (results_row_tmp rfl _ W9 w.heap.size _ _ _ _ rfl HE.out.1 Tryd.underlying28 rfl (by kernel_rfl)) rfl ?_
                  rw [HV.out]
                  exact ⟨rfl, HE.out.2⟩
              | true =>
                have he2 : e2 ≤ s.size := hti rfl
                have HL2 := Lib.hid fun w9 => refrest_any s e2 w9 (by omega) he2
                obtain ⟨o2, ho2⟩ : ∃ x, lineN s.data.toList e2 = x := ⟨_, rfl⟩
                rw [ho2] at HL2 hV2
                clear ho2 hti
                cases o2 with
                | none =>
                  have HL2 := Lib.hid (show ∀ w9, Calls Tryd.prog 42 #[.string s, .int .i64 (e2 : Int)] w9 (IntR w9 (-1)) from HL2.out)
                  cases o with
                  | none =>
                    have HV := Lib.hid (show V = (⟨#[]⟩, ⟨#[]⟩, ⟨#[]⟩, 0) by rw [← hV2, if_pos ⟨hge, rfl⟩]; rfl)
                    have HLN := Lib.hid (show ∀ w9, Calls Tryd.prog 42 #[.string s, .int .i64 (e : Int)] w9 (IntR w9 (-1)) from HLN.out)
                    clear hV2
                    go_enter Tryd.func14, Tryd.ntmps14
                    go_wp2_with fail
                    rw [HW0.out]
                    go_wp2_with fail
                    refine Calls.mono (HL0.out _) ?_
                    rintro e w1 ⟨rfl, rfl⟩
                    go_wp2_with fail
                    (try rw [hc])
                    go_wp2_with fail
                    refine Calls.mono (HG.out _) ?_
                    rintro e w2 ⟨rfl, rfl⟩
                    go_wp2_with fail
                    refine Calls.mono (HD.out _) ?_
                    rintro e w3 ⟨rfl, b3⟩
                    have HR3 := Lib.hid (HZ0.out.later b3)
                    have HB3 := Lib.hid (below_on HZB.out b3)
                    clear b3
                    go_wp2_with fail
                    refine Calls.mono (HN0.out _) ?_
                    rintro e w4 ⟨rfl, b4⟩
                    have HR4 := Lib.hid (HR3.out.later b4)
                    have HB4 := Lib.hid (below_on HB3.out b4)
                    clear b4
                    rw [str_eq lab]
                    have HX5 := Lib.hid (show Row3 (w4.alloc (.cells #[.string lab, .string d, .string ⟨#[]⟩] 28)) w4.heap.size lab d ⟨#[]⟩ from heap_alloc_new w4 _)
                    have hb5 : Below w4.heap.size w4 (w4.alloc (.cells #[.string lab, .string d, .string ⟨#[]⟩] 28)) := (Below.refl _ w4).alloc (Nat.le_refl _) _
                    have HR5 := Lib.hid (HR4.out.later hb5)
                    have HB5 := Lib.hid (below_on HB4.out hb5)
                    have hne4 : ¬ w.heap.size = w4.heap.size := by have := HR4.out.lt; omega
                    clear hb5
                    have c5 := fun i => cell_of_row (w4.alloc (.cells #[.string lab, .string d, .string ⟨#[]⟩] 28)) w4.heap.size i _ _ _ (show ((w4.alloc (.cells #[.string lab, .string d, .string ⟨#[]⟩] 28)) : World).heap[w4.heap.size]? = _ from HX5.out)
                    go_wp2_with fail
                    refine Calls.mono (HG2.out _) ?_
                    rintro e' w6 ⟨rfl, rfl⟩
                    clear c5
                    go_wp2_with fail
                    refine Calls.mono (HT.out _) ?_
                    rintro e' w8 ⟨rfl, b8⟩
                    have HR8 := Lib.hid (HR5.out.later b8)
                    have HB8 := Lib.hid (below_on HB5.out b8)
                    have HX8 := Lib.hid (HX5.out.later b8)
                    clear b8
                    have c8 := fun i => cell_of_row w8 w4.heap.size i _ _ _ (show (w8 : World).heap[w4.heap.size]? = _ from HX8.out)
                    go_wp2_with fail
                    refine Calls.mono (HL2.out _) ?_
                    rintro e' w10 ⟨rfl, rfl⟩
                    go_wp2_with fail
                    refine Calls.mono (HLN.out _) ?_
                    rintro e' w7 ⟨rfl, rfl⟩
                    have g9 := HR8.out
                    have q9 := fun i => cell_of_row w8 w.heap.size i _ _ _ (show (w8 : World).heap[w.heap.size]? = _ from g9)
                    have f9 : ∀ i, (w8 : World).frozen? ⟨w.heap.size, i, none⟩ = false := fun i => by simp [World.frozen?, show (w8 : World).heap[w.heap.size]? = _ from g9]
                    go_wp2
                    have HE := Lib.hid (ref_end w w8 _ _ _ (⟨#[]⟩) (⟨#[]⟩) (⟨#[]⟩) (HB8.out) g9)
                    obtain ⟨W9, hW9⟩ : ∃ W9, (((w8 : World).setCell ⟨w.heap.size, 0, none⟩ (.string (⟨#[]⟩))).setCell ⟨w.heap.size, 1, none⟩ (.string (⟨#[]⟩))).setCell ⟨w.heap.size, 2, none⟩ (.string (⟨#[]⟩)) = W9 := ⟨_, rfl⟩
                    rw [hW9] at HE ⊢
                    (try simp only [Exit.inBlock, Exit.then])
                    refine bodyPost_ret (results_row_tmp rfl _ W9 w.heap.size _ _ _ _ rfl HE.out.1 Tryd.underlying28 rfl (by kernel_rfl)) rfl ?_
                    rw [HV.out]
                    exact ⟨rfl, HE.out.2⟩
                  | some n =>
                    have HV := Lib.hid (show V = (lab, d, ⟨#[]⟩, n) by rw [← hV2, if_pos ⟨hge, rfl⟩]; rfl)
                    have HLN := Lib.hid (show ∀ w9, Calls Tryd.prog 42 #[.string s, .int .i64 (e : Int)] w9 (IntR w9 (n : Int)) from HLN.out)
                    have hnn : ¬ (n : Int) < 0 := by omega
                    clear hV2
                    go_enter Tryd.func14, Tryd.ntmps14
                    go_wp2_with fail
                    rw [HW0.out]
                    go_wp2_with fail
                    refine Calls.mono (HL0.out _) ?_
                    rintro e w1 ⟨rfl, rfl⟩
                    go_wp2_with fail
                    (try rw [hc])
                    go_wp2_with fail
                    refine Calls.mono (HG.out _) ?_
                    rintro e w2 ⟨rfl, rfl⟩
                    go_wp2_with fail
                    refine Calls.mono (HD.out _) ?_
                    rintro e w3 ⟨rfl, b3⟩
                    have HR3 := Lib.hid (HZ0.out.later b3)
                    have HB3 := Lib.hid (below_on HZB.out b3)
                    clear b3
                    go_wp2_with fail
                    refine Calls.mono (HN0.out _) ?_
                    rintro e w4 ⟨rfl, b4⟩
                    have HR4 := Lib.hid (HR3.out.later b4)
                    have HB4 := Lib.hid (below_on HB3.out b4)
                    clear b4
                    rw [str_eq lab]
                    have HX5 := Lib.hid (show Row3 (w4.alloc (.cells #[.string lab, .string d, .string ⟨#[]⟩] 28)) w4.heap.size lab d ⟨#[]⟩ from heap_alloc_new w4 _)
                    have hb5 : Below w4.heap.size w4 (w4.alloc (.cells #[.string lab, .string d, .string ⟨#[]⟩] 28)) := (Below.refl _ w4).alloc (Nat.le_refl _) _
                    have HR5 := Lib.hid (HR4.out.later hb5)
                    have HB5 := Lib.hid (below_on HB4.out hb5)
                    have hne4 : ¬ w.heap.size = w4.heap.size := by have := HR4.out.lt; omega
                    clear hb5
                    have c5 := fun i => cell_of_row (w4.alloc (.cells #[.string lab, .string d, .string ⟨#[]⟩] 28)) w4.heap.size i _ _ _ (show ((w4.alloc (.cells #[.string lab, .string d, .string ⟨#[]⟩] 28)) : World).heap[w4.heap.size]? = _ from HX5.out)
                    go_wp2_with fail
                    refine Calls.mono (HG2.out _) ?_
                    rintro e' w6 ⟨rfl, rfl⟩
                    clear c5
                    go_wp2_with fail
                    refine Calls.mono (HT.out _) ?_
                    rintro e' w8 ⟨rfl, b8⟩
                    have HR8 := Lib.hid (HR5.out.later b8)
                    have HB8 := Lib.hid (below_on HB5.out b8)
                    have HX8 := Lib.hid (HX5.out.later b8)
                    clear b8
                    have c8 := fun i => cell_of_row w8 w4.heap.size i _ _ _ (show (w8 : World).heap[w4.heap.size]? = _ from HX8.out)
                    go_wp2_with fail
                    refine Calls.mono (HL2.out _) ?_
                    rintro e' w10 ⟨rfl, rfl⟩
                    go_wp2_with fail
                    refine Calls.mono (HLN.out _) ?_
                    rintro e' w7 ⟨rfl, rfl⟩
                    have g9 := HR8.out
                    have q9 := fun i => cell_of_row w8 w.heap.size i _ _ _ (show (w8 : World).heap[w.heap.size]? = _ from g9)
                    have f9 : ∀ i, (w8 : World).frozen? ⟨w.heap.size, i, none⟩ = false := fun i => by simp [World.frozen?, show (w8 : World).heap[w.heap.size]? = _ from g9]
                    go_wp2
                    have HE := Lib.hid (ref_end w w8 _ _ _ (lab) (d) (⟨#[]⟩) (HB8.out) g9)
                    obtain ⟨W9, hW9⟩ : ∃ W9, (((w8 : World).setCell ⟨w.heap.size, 0, none⟩ (.string (lab))).setCell ⟨w.heap.size, 1, none⟩ (.string (d))).setCell ⟨w.heap.size, 2, none⟩ (.string (⟨#[]⟩)) = W9 := ⟨_, rfl⟩
                    rw [hW9] at HE ⊢
                    (try simp only [Exit.inBlock, Exit.then])
                    refine bodyPost_ret (results_row_tmp rfl _ W9 w.heap.size _ _ _ _ rfl HE.out.1 Tryd.underlying28 rfl (by kernel_rfl)) rfl ?_
                    rw [HV.out]
                    exact ⟨rfl, HE.out.2⟩
                | some n2 =>
                  have HL2 := Lib.hid (show ∀ w9, Calls Tryd.prog 42 #[.string s, .int .i64 (e2 : Int)] w9 (IntR w9 (n2 : Int)) from HL2.out)
                  have hn2 : (0 : Int) ≤ (n2 : Int) := by omega
                  have HV := Lib.hid (show V = (lab, d, t, n2) by rw [← hV2, if_pos ⟨hge, rfl⟩]; rfl)
                  clear hV2
                  go_enter Tryd.func14, Tryd.ntmps14
                  go_wp2_with fail
                  rw [HW0.out]
                  go_wp2_with fail
                  refine Calls.mono (HL0.out _) ?_
                  rintro e w1 ⟨rfl, rfl⟩
                  go_wp2_with fail
                  (try rw [hc])
                  go_wp2_with fail
                  refine Calls.mono (HG.out _) ?_
                  rintro e w2 ⟨rfl, rfl⟩
                  go_wp2_with fail
                  refine Calls.mono (HD.out _) ?_
                  rintro e w3 ⟨rfl, b3⟩
                  have HR3 := Lib.hid (HZ0.out.later b3)
                  have HB3 := Lib.hid (below_on HZB.out b3)
                  clear b3
                  go_wp2_with fail
                  refine Calls.mono (HN0.out _) ?_
                  rintro e w4 ⟨rfl, b4⟩
                  have HR4 := Lib.hid (HR3.out.later b4)
                  have HB4 := Lib.hid (below_on HB3.out b4)
                  clear b4
                  rw [str_eq lab]
                  have HX5 := Lib.hid (show Row3 (w4.alloc (.cells #[.string lab, .string d, .string ⟨#[]⟩] 28)) w4.heap.size lab d ⟨#[]⟩ from heap_alloc_new w4 _)
                  have hb5 : Below w4.heap.size w4 (w4.alloc (.cells #[.string lab, .string d, .string ⟨#[]⟩] 28)) := (Below.refl _ w4).alloc (Nat.le_refl _) _
                  have HR5 := Lib.hid (HR4.out.later hb5)
                  have HB5 := Lib.hid (below_on HB4.out hb5)
                  have hne4 : ¬ w.heap.size = w4.heap.size := by have := HR4.out.lt; omega
                  clear hb5
                  have c5 := fun i => cell_of_row (w4.alloc (.cells #[.string lab, .string d, .string ⟨#[]⟩] 28)) w4.heap.size i _ _ _ (show ((w4.alloc (.cells #[.string lab, .string d, .string ⟨#[]⟩] 28)) : World).heap[w4.heap.size]? = _ from HX5.out)
                  go_wp2_with fail
                  refine Calls.mono (HG2.out _) ?_
                  rintro e' w6 ⟨rfl, rfl⟩
                  clear c5
                  go_wp2_with fail
                  refine Calls.mono (HT.out _) ?_
                  rintro e' w8 ⟨rfl, b8⟩
                  have HR8 := Lib.hid (HR5.out.later b8)
                  have HB8 := Lib.hid (below_on HB5.out b8)
                  have HX8 := Lib.hid (HX5.out.later b8)
                  clear b8
                  have c8 := fun i => cell_of_row w8 w4.heap.size i _ _ _ (show (w8 : World).heap[w4.heap.size]? = _ from HX8.out)
                  go_wp2_with fail
                  refine Calls.mono (HL2.out _) ?_
                  rintro e' w10 ⟨rfl, rfl⟩
                  have hx11 : Row3 (w8.setCell ⟨w4.heap.size, 2, none⟩ (.string t)) w4.heap.size lab d t := by
                    have h1 := Joins.block_setCell (show w8.heap[w4.heap.size]? = _ from HX8.out) (i := 2) (.string t)
                    simpa [Row3] using h1
                  have hr11 : Row3 (w8.setCell ⟨w4.heap.size, 2, none⟩ (.string t)) w.heap.size ⟨#[]⟩ ⟨#[]⟩ ⟨#[]⟩ := by
                    unfold Row3
                    rw [Below.heap_setCell _ _ _ _ (fun e => hne4 e)]
                    exact HR8.out
                  have hb11 : Below w.heap.size w (w8.setCell ⟨w4.heap.size, 2, none⟩ (.string t)) := HB8.out.setCell (p := ⟨w4.heap.size, 2, none⟩) (by have := HR4.out.lt; show w.heap.size ≤ w4.heap.size; omega) _
                  have f8 : ∀ i, w8.frozen? ⟨w4.heap.size, i, none⟩ = false := fun i => by simp [World.frozen?, show w8.heap[w4.heap.size]? = _ from HX8.out]
                  have c11 := fun i => cell_of_row _ w4.heap.size i _ _ _ (show (w8.setCell ⟨w4.heap.size, 2, none⟩ (.string t)).heap[w4.heap.size]? = _ from hx11)
                  have g9 := hr11
                  have q9 := fun i => cell_of_row (w8.setCell ⟨w4.heap.size, 2, none⟩ (.string t)) w.heap.size i _ _ _ (show ((w8.setCell ⟨w4.heap.size, 2, none⟩ (.string t)) : World).heap[w.heap.size]? = _ from g9)
                  have f9 : ∀ i, ((w8.setCell ⟨w4.heap.size, 2, none⟩ (.string t)) : World).frozen? ⟨w.heap.size, i, none⟩ = false := fun i => by simp [World.frozen?, show ((w8.setCell ⟨w4.heap.size, 2, none⟩ (.string t)) : World).heap[w.heap.size]? = _ from g9]
                  go_wp2_with fail
                  go_region_with (first
                    | (go_at_call 42; refine Calls.mono (HL2.out _) ?_; rintro e' w12 ⟨rfl, rfl⟩))
                  all_goals
                    go_wp2
                    go_simp
                    have HE := Lib.hid (ref_end w (w8.setCell ⟨w4.heap.size, 2, none⟩ (.string t)) _ _ _ (lab) (d) (t) (hb11) g9)
                    obtain ⟨W9, hW9⟩ : ∃ W9, ((((w8.setCell ⟨w4.heap.size, 2, none⟩ (.string t)) : World).setCell ⟨w.heap.size, 0, none⟩ (.string (lab))).setCell ⟨w.heap.size, 1, none⟩ (.string (d))).setCell ⟨w.heap.size, 2, none⟩ (.string (t)) = W9 := ⟨_, rfl⟩
                    rw [hW9] at HE ⊢
                    (try simp only [Exit.inBlock, Exit.then])
                    refine bodyPost_ret (results_row_tmp rfl _ W9.drew w.heap.size _ _ _ _ rfl (show Row3 W9.drew w.heap.size lab d t from HE.out.1) Tryd.underlying28 rfl (by kernel_rfl)) rfl ?_
                    rw [HV.out]
                    exact ⟨rfl, HE.out.2.drew⟩
            · have hgi : ¬ (e : Int) < (g : Int) := by omega
              cases o with
              | none =>
                have HV := Lib.hid (show V = (⟨#[]⟩, ⟨#[]⟩, ⟨#[]⟩, 0) by rw [← hV2, if_neg (fun h => hge h.1)]; rfl)
                have HLN := Lib.hid (show ∀ w9, Calls Tryd.prog 42 #[.string s, .int .i64 (e : Int)] w9 (IntR w9 (-1)) from HLN.out)
                clear hV2
                go_enter Tryd.func14, Tryd.ntmps14
                go_wp2_with fail
                rw [HW0.out]
                go_wp2_with fail
                refine Calls.mono (HL0.out _) ?_
                rintro e w1 ⟨rfl, rfl⟩
                go_wp2_with fail
                (try rw [hc])
                go_wp2_with fail
                refine Calls.mono (HG.out _) ?_
                rintro e w2 ⟨rfl, rfl⟩
                go_wp2_with fail
                refine Calls.mono (HD.out _) ?_
                rintro e w3 ⟨rfl, b3⟩
                have HR3 := Lib.hid (HZ0.out.later b3)
                have HB3 := Lib.hid (below_on HZB.out b3)
                clear b3
                go_wp2_with fail
                refine Calls.mono (HN0.out _) ?_
                rintro e w4 ⟨rfl, b4⟩
                have HR4 := Lib.hid (HR3.out.later b4)
                have HB4 := Lib.hid (below_on HB3.out b4)
                clear b4
                rw [str_eq lab]
                have HX5 := Lib.hid (show Row3 (w4.alloc (.cells #[.string lab, .string d, .string ⟨#[]⟩] 28)) w4.heap.size lab d ⟨#[]⟩ from heap_alloc_new w4 _)
                have hb5 : Below w4.heap.size w4 (w4.alloc (.cells #[.string lab, .string d, .string ⟨#[]⟩] 28)) := (Below.refl _ w4).alloc (Nat.le_refl _) _
                have HR5 := Lib.hid (HR4.out.later hb5)
                have HB5 := Lib.hid (below_on HB4.out hb5)
                have hne4 : ¬ w.heap.size = w4.heap.size := by have := HR4.out.lt; omega
                clear hb5
                have c5 := fun i => cell_of_row (w4.alloc (.cells #[.string lab, .string d, .string ⟨#[]⟩] 28)) w4.heap.size i _ _ _ (show ((w4.alloc (.cells #[.string lab, .string d, .string ⟨#[]⟩] 28)) : World).heap[w4.heap.size]? = _ from HX5.out)
                go_wp2_with fail
                refine Calls.mono (HG2.out _) ?_
                rintro e' w6 ⟨rfl, rfl⟩
                go_wp2_with fail
                refine Calls.mono (HLN.out _) ?_
                rintro e' w7 ⟨rfl, rfl⟩
                have g9 := HR5.out
                have q9 := fun i => cell_of_row (w4.alloc (.cells #[.string lab, .string d, .string ⟨#[]⟩] 28)) w.heap.size i _ _ _ (show ((w4.alloc (.cells #[.string lab, .string d, .string ⟨#[]⟩] 28)) : World).heap[w.heap.size]? = _ from g9)
                have f9 : ∀ i, ((w4.alloc (.cells #[.string lab, .string d, .string ⟨#[]⟩] 28)) : World).frozen? ⟨w.heap.size, i, none⟩ = false := fun i => by simp [World.frozen?, show ((w4.alloc (.cells #[.string lab, .string d, .string ⟨#[]⟩] 28)) : World).heap[w.heap.size]? = _ from g9]
                go_wp2
                have HE := Lib.hid (ref_end w (w4.alloc (.cells #[.string lab, .string d, .string ⟨#[]⟩] 28)) _ _ _ (⟨#[]⟩) (⟨#[]⟩) (⟨#[]⟩) (HB5.out) g9)
                obtain ⟨W9, hW9⟩ : ∃ W9, ((((w4.alloc (.cells #[.string lab, .string d, .string ⟨#[]⟩] 28)) : World).setCell ⟨w.heap.size, 0, none⟩ (.string (⟨#[]⟩))).setCell ⟨w.heap.size, 1, none⟩ (.string (⟨#[]⟩))).setCell ⟨w.heap.size, 2, none⟩ (.string (⟨#[]⟩)) = W9 := ⟨_, rfl⟩
                rw [hW9] at HE ⊢
                (try simp only [Exit.inBlock, Exit.then])
                refine bodyPost_ret (results_row_tmp rfl _ W9 w.heap.size _ _ _ _ rfl HE.out.1 Tryd.underlying28 rfl (by kernel_rfl)) rfl ?_
                rw [HV.out]
                exact ⟨rfl, HE.out.2⟩
              | some n =>
                have HV := Lib.hid (show V = (lab, d, ⟨#[]⟩, n) by rw [← hV2, if_neg (fun h => hge h.1)]; rfl)
                have HLN := Lib.hid (show ∀ w9, Calls Tryd.prog 42 #[.string s, .int .i64 (e : Int)] w9 (IntR w9 (n : Int)) from HLN.out)
                have hnn : ¬ (n : Int) < 0 := by omega
                clear hV2
                go_enter Tryd.func14, Tryd.ntmps14
                go_wp2_with fail
                rw [HW0.out]
                go_wp2_with fail
                refine Calls.mono (HL0.out _) ?_
                rintro e w1 ⟨rfl, rfl⟩
                go_wp2_with fail
                (try rw [hc])
                go_wp2_with fail
                refine Calls.mono (HG.out _) ?_
                rintro e w2 ⟨rfl, rfl⟩
                go_wp2_with fail
                refine Calls.mono (HD.out _) ?_
                rintro e w3 ⟨rfl, b3⟩
                have HR3 := Lib.hid (HZ0.out.later b3)
                have HB3 := Lib.hid (below_on HZB.out b3)
                clear b3
                go_wp2_with fail
                refine Calls.mono (HN0.out _) ?_
                rintro e w4 ⟨rfl, b4⟩
                have HR4 := Lib.hid (HR3.out.later b4)
                have HB4 := Lib.hid (below_on HB3.out b4)
                clear b4
                rw [str_eq lab]
                have HX5 := Lib.hid (show Row3 (w4.alloc (.cells #[.string lab, .string d, .string ⟨#[]⟩] 28)) w4.heap.size lab d ⟨#[]⟩ from heap_alloc_new w4 _)
                have hb5 : Below w4.heap.size w4 (w4.alloc (.cells #[.string lab, .string d, .string ⟨#[]⟩] 28)) := (Below.refl _ w4).alloc (Nat.le_refl _) _
                have HR5 := Lib.hid (HR4.out.later hb5)
                have HB5 := Lib.hid (below_on HB4.out hb5)
                have hne4 : ¬ w.heap.size = w4.heap.size := by have := HR4.out.lt; omega
                clear hb5
                have c5 := fun i => cell_of_row (w4.alloc (.cells #[.string lab, .string d, .string ⟨#[]⟩] 28)) w4.heap.size i _ _ _ (show ((w4.alloc (.cells #[.string lab, .string d, .string ⟨#[]⟩] 28)) : World).heap[w4.heap.size]? = _ from HX5.out)
                go_wp2_with fail
                refine Calls.mono (HG2.out _) ?_
                rintro e' w6 ⟨rfl, rfl⟩
                go_wp2_with fail
                refine Calls.mono (HLN.out _) ?_
                rintro e' w7 ⟨rfl, rfl⟩
                have g9 := HR5.out
                have q9 := fun i => cell_of_row (w4.alloc (.cells #[.string lab, .string d, .string ⟨#[]⟩] 28)) w.heap.size i _ _ _ (show ((w4.alloc (.cells #[.string lab, .string d, .string ⟨#[]⟩] 28)) : World).heap[w.heap.size]? = _ from g9)
                have f9 : ∀ i, ((w4.alloc (.cells #[.string lab, .string d, .string ⟨#[]⟩] 28)) : World).frozen? ⟨w.heap.size, i, none⟩ = false := fun i => by simp [World.frozen?, show ((w4.alloc (.cells #[.string lab, .string d, .string ⟨#[]⟩] 28)) : World).heap[w.heap.size]? = _ from g9]
                go_wp2
                have HE := Lib.hid (ref_end w (w4.alloc (.cells #[.string lab, .string d, .string ⟨#[]⟩] 28)) _ _ _ (lab) (d) (⟨#[]⟩) (HB5.out) g9)
                obtain ⟨W9, hW9⟩ : ∃ W9, ((((w4.alloc (.cells #[.string lab, .string d, .string ⟨#[]⟩] 28)) : World).setCell ⟨w.heap.size, 0, none⟩ (.string (lab))).setCell ⟨w.heap.size, 1, none⟩ (.string (d))).setCell ⟨w.heap.size, 2, none⟩ (.string (⟨#[]⟩)) = W9 := ⟨_, rfl⟩
                rw [hW9] at HE ⊢
                (try simp only [Exit.inBlock, Exit.then])
                refine bodyPost_ret (results_row_tmp rfl _ W9 w.heap.size _ _ _ _ rfl HE.out.1 Tryd.underlying28 rfl (by kernel_rfl)) rfl ?_
                rw [HV.out]
                exact ⟨rfl, HE.out.2⟩
      · have ic : ((c.toNat : Int) != 58) = true := by rw [show ((c.toNat : Int) != 58) = (c != 58) from bnec c 58]; simpa using h58
        have HV := Lib.hid (show V = (⟨#[]⟩, ⟨#[]⟩, ⟨#[]⟩, 0) by rw [← hV2, hdef, if_neg (fun h => by rw [hgk] at h; exact h58 (Option.some.inj h.1))]; rfl)
        clear hdef hV2 hk0 hgk h58
        go_enter Tryd.func14, Tryd.ntmps14
        go_wp2_with fail
        rw [HW0.out]
        go_wp2_with fail
        refine Calls.mono (HL0.out _) ?_
        rintro e w1 ⟨rfl, rfl⟩
        have g9 := HZ0.out
        have q9 := fun i => cell_of_row w1 w.heap.size i _ _ _ (show (w1 : World).heap[w.heap.size]? = _ from g9)
        have f9 : ∀ i, (w1 : World).frozen? ⟨w.heap.size, i, none⟩ = false := fun i => by simp [World.frozen?, show (w1 : World).heap[w.heap.size]? = _ from g9]
        go_wp2
        have HE := Lib.hid (ref_end w w1 _ _ _ (⟨#[]⟩) (⟨#[]⟩) (⟨#[]⟩) (HZB.out) g9)
        obtain ⟨W9, hW9⟩ : ∃ W9, (((w1 : World).setCell ⟨w.heap.size, 0, none⟩ (.string (⟨#[]⟩))).setCell ⟨w.heap.size, 1, none⟩ (.string (⟨#[]⟩))).setCell ⟨w.heap.size, 2, none⟩ (.string (⟨#[]⟩)) = W9 := ⟨_, rfl⟩
        rw [hW9] at HE ⊢
        (try simp only [Exit.inBlock, Exit.then])
        refine bodyPost_ret (results_row_tmp rfl _ W9 w.heap.size _ _ _ _ rfl HE.out.1 Tryd.underlying28 rfl (by kernel_rfl)) rfl ?_
        rw [HV.out]
        exact ⟨rfl, HE.out.2⟩
    · have hkl : (s.size : Int) ≤ (k : Int) := by omega
      have HV := Lib.hid (show V = (⟨#[]⟩, ⟨#[]⟩, ⟨#[]⟩, 0) by rw [← hV2, hdef, if_neg (fun h => by rw [get_none s k hks] at h; cases h.1)]; rfl)
      clear hdef hV2 hk0
      go_enter Tryd.func14, Tryd.ntmps14
      go_wp2_with fail
      rw [HW0.out]
      go_wp2_with fail
      refine Calls.mono (HL0.out _) ?_
      rintro e w1 ⟨rfl, rfl⟩
      have g9 := HZ0.out
      have q9 := fun i => cell_of_row w1 w.heap.size i _ _ _ (show (w1 : World).heap[w.heap.size]? = _ from g9)
      have f9 : ∀ i, (w1 : World).frozen? ⟨w.heap.size, i, none⟩ = false := fun i => by simp [World.frozen?, show (w1 : World).heap[w.heap.size]? = _ from g9]
      go_wp2
      have HE := Lib.hid (ref_end w w1 _ _ _ (⟨#[]⟩) (⟨#[]⟩) (⟨#[]⟩) (HZB.out) g9)
      obtain ⟨W9, hW9⟩ : ∃ W9, (((w1 : World).setCell ⟨w.heap.size, 0, none⟩ (.string (⟨#[]⟩))).setCell ⟨w.heap.size, 1, none⟩ (.string (⟨#[]⟩))).setCell ⟨w.heap.size, 2, none⟩ (.string (⟨#[]⟩)) = W9 := ⟨_, rfl⟩
      rw [hW9] at HE ⊢
      (try simp only [Exit.inBlock, Exit.then])
      refine bodyPost_ret (results_row_tmp rfl _ W9 w.heap.size _ _ _ _ rfl HE.out.1 Tryd.underlying28 rfl (by kernel_rfl)) rfl ?_
      rw [HV.out]
      exact ⟨rfl, HE.out.2⟩
end Go.Proofs.YtbcfhpomclkccaaDoor
