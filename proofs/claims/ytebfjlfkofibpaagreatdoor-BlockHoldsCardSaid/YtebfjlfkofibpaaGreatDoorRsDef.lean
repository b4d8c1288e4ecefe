/- refs.Define. -/
import Derived.Test.YtebfjlfkofibpaaGreatDoorRsDefA
namespace Go.Proofs.YtebfjlfkofibpaaGreatDoor
set_option maxHeartbeats 8000000
set_option maxRecDepth 100000
open Go.RowKit
theorem define_any (s : ByteArray) (w : World) (hs : s.size < 4294967281) : Calls Tryz.prog 70 #[.string s] w (DefR w (defV s)) := by
 have hl : s.data.toList.length = s.size := Array.length_toList
 obtain ⟨V, hV⟩ : ∃ V, defV s = V := ⟨_, rfl⟩
 rw [hV]
 have hV2 := hV
 unfold defV at hV2
 have hk := labelE_in s.data.toList 0 (Nat.zero_le _)
 have hll := labelS_len s 0
 rw [hl] at hk
 have hN0 : ∀ w', Calls Tryz.prog 107 #[.string (labelS s 0)] w' (FoldR w' (defLab s).data.toList) := fun w' => norm_any (labelS s 0) w' (by omega)
 have hL0 := fun w' => label_any s 0 w' (by omega) (by omega)
 obtain ⟨LS, hLS⟩ : ∃ x, labelS s 0 = x := ⟨_, rfl⟩
 obtain ⟨lab, hlab⟩ : ∃ x, defLab s = x := ⟨_, rfl⟩
 have hdef : defN s = if s.data.toList[labelE s.data.toList 0]? = some 58 ∧ labelE s.data.toList 0 ≠ 0 ∧ (destV s (gapN s.data.toList (labelE s.data.toList 0 + 1))).2.2 = true ∧ lab.data.toList ≠ [] then
  (defTail s (destV s (gapN s.data.toList (labelE s.data.toList 0 + 1))).2.1).map fun x => (lab, (destV s (gapN s.data.toList (labelE s.data.toList 0 + 1))).1, x.1, x.2)
 else none := by rw [<- hlab]; rfl
 obtain ⟨k, hke⟩ : ∃ x, labelE s.data.toList 0 = x := ⟨_, rfl⟩
 rw [hLS, hlab] at hN0
 rw [hLS, hke] at hL0
 rw [hke] at hdef hk
 have HL0 := hdn hL0
 have HN0 := hdn hN0
 have hz0 : Row3 (w.alloc (.cells #[.string ⟨#[]⟩, .string ⟨#[]⟩, .string ⟨#[]⟩] 43)) w.heap.size ⟨#[]⟩ ⟨#[]⟩ ⟨#[]⟩ := heap_alloc_new w _
 have HZ0 := hdn hz0
 have HZB := hdn (show Below w.heap.size w (w.alloc (.cells #[.string ⟨#[]⟩, .string ⟨#[]⟩, .string ⟨#[]⟩] 43)) from (Below.refl _ w).alloc (Nat.le_refl _) _)
 obtain ⟨W0, hW0⟩ : ∃ W0, w.alloc (.cells #[.string ⟨#[]⟩, .string ⟨#[]⟩, .string ⟨#[]⟩] 43) = W0 := ⟨_, rfl⟩
 rw [hW0] at HZ0 HZB
 have HW0 := hdn hW0
 have HI := hdn fun w' => is_any s (k : Int) 58 w' (by omega)
 have hib : isB s.data.toList (k : Int) 58 = (s.data.toList[k]? == some 58) := by unfold isB; rw [decide_eq_true (by omega), Int.toNat_natCast]; rfl
 rw [hib] at HI
 clear hN0 hL0 hlab hLS hke hll hz0 hW0 hib hV
 by_cases hk0 : k = 0
 ·have HV := hdn (show V = (⟨#[]⟩, ⟨#[]⟩, ⟨#[]⟩, 0) by rw [<- hV2, hdef, if_neg (fun h => h.2.1 hk0)]; rfl)
  clear hdef hV2
  have hki : ((k : Int) == 0) = true := by rw [hk0]; rfl
  clear hk0
  go_enter Tryz.func70, Tryz.ntmps70
  go_wp2_with fail
  rw [HW0.out]
  go_wp2_with fail
  refine Calls.mono (HL0.out _) ?_
  rintro e w1 ⟨rfl, b1⟩
  have HR1 := hdn (HZ0.out.later b1)
  have HB1 := hdn (below_on HZB.out b1)
  clear b1
  have g9 := HR1.out
  have q9 := fun i => cell_of_row w1 w.heap.size i _ _ _ (show w1.heap[w.heap.size]? = _ from g9)
  have f9 : ∀ i, w1.frozen? ⟨w.heap.size, i, none⟩ = false := fun i => by simp [World.frozen?, show w1.heap[w.heap.size]? = _ from g9]
  go_wp2
  have HE := hdn (ref_end w w1 _ _ _ (⟨#[]⟩) (⟨#[]⟩) (⟨#[]⟩) (HB1.out) g9)
  obtain ⟨W9, hW9⟩ : ∃ W9, ((w1.setCell ⟨w.heap.size, 0, none⟩ (.string (⟨#[]⟩))).setCell ⟨w.heap.size, 1, none⟩ (.string (⟨#[]⟩))).setCell ⟨w.heap.size, 2, none⟩ (.string (⟨#[]⟩)) = W9 := ⟨_, rfl⟩
  rw [hW9] at HE ⊢
  (try simp only [Exit.inBlock, Exit.then])
  refine bodyPost_ret (results_row_tmp rfl _ W9 w.heap.size _ _ _ _ rfl HE.out.1 Tryz.underlying43 rfl (by kernel_rfl)) rfl ?_
  rw [HV.out]
  exact ⟨rfl, HE.out.2⟩
 ·have hki : ((k : Int) == 0) = false := by rw [beq_eq_false_iff_ne]; omega
  obtain ⟨q, hq⟩ : ∃ q, (s.data.toList[k]? == some 58) = q := ⟨_, rfl⟩
  rw [hq] at HI
  cases q with
  | false =>
   have HV := hdn (show V = (⟨#[]⟩, ⟨#[]⟩, ⟨#[]⟩, 0) by rw [<- hV2, hdef, if_neg (fun h => by rw [h.1] at hq; cases hq)]; rfl)
   clear hdef hV2 hq hk0
   go_enter Tryz.func70, Tryz.ntmps70
   go_wp2_with fail
   rw [HW0.out]
   go_wp2_with fail
   refine Calls.mono (HL0.out _) ?_
   rintro e w1 ⟨rfl, b1⟩
   have HR1 := hdn (HZ0.out.later b1)
   have HB1 := hdn (below_on HZB.out b1)
   clear b1
   go_wp2_with fail
   refine Calls.mono (HI.out _) ?_
   rintro e w2 ⟨rfl, rfl⟩
   have g9 := HR1.out
   have q9 := fun i => cell_of_row w1 w.heap.size i _ _ _ (show w1.heap[w.heap.size]? = _ from g9)
   have f9 : ∀ i, w1.frozen? ⟨w.heap.size, i, none⟩ = false := fun i => by simp [World.frozen?, show w1.heap[w.heap.size]? = _ from g9]
   go_wp2
   have HE := hdn (ref_end w w1 _ _ _ (⟨#[]⟩) (⟨#[]⟩) (⟨#[]⟩) (HB1.out) g9)
   obtain ⟨W9, hW9⟩ : ∃ W9, ((w1.setCell ⟨w.heap.size, 0, none⟩ (.string (⟨#[]⟩))).setCell ⟨w.heap.size, 1, none⟩ (.string (⟨#[]⟩))).setCell ⟨w.heap.size, 2, none⟩ (.string (⟨#[]⟩)) = W9 := ⟨_, rfl⟩
   rw [hW9] at HE ⊢
   (try simp only [Exit.inBlock, Exit.then])
   refine bodyPost_ret (results_row_tmp rfl _ W9 w.heap.size _ _ _ _ rfl HE.out.1 Tryz.underlying43 rfl (by kernel_rfl)) rfl ?_
   rw [HV.out]
   exact ⟨rfl, HE.out.2⟩
  | true =>
   have hq58 : s.data.toList[k]? = some 58 := by simpa using hq
   have hks : k < s.size := by have := (List.getElem?_eq_some_iff.1 hq58).1; omega
   have hgi : gapI s.data.toList ((k : Int) + 1) = (gapN s.data.toList (k + 1) : Nat) := by unfold gapI; rw [if_neg (by omega)]; rfl
   have hgn := (gapN_in s.data.toList (k + 1) (by omega)).2
   have HG := hdn fun w' => gap_any s ((k : Int) + 1) w' (by omega) (by omega)
   rw [hgi] at HG
   obtain ⟨g0, hg0⟩ : ∃ x, gapN s.data.toList (k + 1) = x := ⟨_, rfl⟩
   rw [hg0] at HG hgn hdef
   have HD := hdn fun w' => dest_any s g0 w' hs (by omega)
   have hdi := destV_in s g0
   obtain ⟨⟨d, e, isd⟩, hd⟩ : ∃ x, destV s g0 = x := ⟨_, rfl⟩
   rw [hd] at HD hdef hdi
   simp only at hdef hdi
   have HDI := hdn hdi
   clear hgi hg0 hd hgn hq hdi
   cases isd with
   | false =>
    have HV := hdn (show V = (⟨#[]⟩, ⟨#[]⟩, ⟨#[]⟩, 0) by rw [<- hV2, hdef, if_neg (fun h => by cases h.2.2.1)]; rfl)
    clear hdef hV2 hk0 hq58 hl
    go_enter Tryz.func70, Tryz.ntmps70
    go_wp2_with fail
    rw [HW0.out]
    go_wp2_with fail
    refine Calls.mono (HL0.out _) ?_
    rintro e w1 ⟨rfl, b1⟩
    have HR1 := hdn (HZ0.out.later b1)
    have HB1 := hdn (below_on HZB.out b1)
    clear b1
    go_wp2_with fail
    refine Calls.mono (HI.out _) ?_
    rintro e w2 ⟨rfl, rfl⟩
    go_wp2_with fail
    refine Calls.mono (HG.out _) ?_
    rintro e w2 ⟨rfl, b2⟩
    have HR2 := hdn (HR1.out.later b2)
    have HB2 := hdn (below_on HB1.out b2)
    clear b2
    go_wp2_with fail
    refine Calls.mono (HD.out _) ?_
    rintro e w3 ⟨rfl, b3⟩
    have HR3 := hdn (HR2.out.later b3)
    have HB3 := hdn (below_on HB2.out b3)
    clear b3
    go_wp2_with fail
    refine Calls.mono (HN0.out _) ?_
    rintro e w4 ⟨rfl, b4⟩
    have HR4 := hdn (HR3.out.later b4)
    have HB4 := hdn (below_on HB3.out b4)
    clear b4
    rw [str_eq lab]
    have HX5 := hdn (show Row3 (w4.alloc (.cells #[.string lab, .string d, .string ⟨#[]⟩] 43)) w4.heap.size lab d ⟨#[]⟩ from heap_alloc_new w4 _)
    have hb5 : Below w4.heap.size w4 (w4.alloc (.cells #[.string lab, .string d, .string ⟨#[]⟩] 43)) := (Below.refl _ w4).alloc (Nat.le_refl _) _
    have HR5 := hdn (HR4.out.later hb5)
    have HB5 := hdn (below_on HB4.out hb5)
    have hne4 : ¬ w.heap.size = w4.heap.size := by have := HR4.out.lt; omega
    clear hb5
    have g9 := HR5.out
    have q9 := fun i => cell_of_row (w4.alloc (.cells #[.string lab, .string d, .string ⟨#[]⟩] 43)) w.heap.size i _ _ _ (show (w4.alloc (.cells #[.string lab, .string d, .string ⟨#[]⟩] 43)).heap[w.heap.size]? = _ from g9)
    have f9 : ∀ i, (w4.alloc (.cells #[.string lab, .string d, .string ⟨#[]⟩] 43)).frozen? ⟨w.heap.size, i, none⟩ = false := fun i => by simp [World.frozen?, show (w4.alloc (.cells #[.string lab, .string d, .string ⟨#[]⟩] 43)).heap[w.heap.size]? = _ from g9]
    go_wp2
    have HE := hdn (ref_end w (w4.alloc (.cells #[.string lab, .string d, .string ⟨#[]⟩] 43)) _ _ _ (⟨#[]⟩) (⟨#[]⟩) (⟨#[]⟩) (HB5.out) g9)
    obtain ⟨W9, hW9⟩ : ∃ W9, (((w4.alloc (.cells #[.string lab, .string d, .string ⟨#[]⟩] 43)).setCell ⟨w.heap.size, 0, none⟩ (.string (⟨#[]⟩))).setCell ⟨w.heap.size, 1, none⟩ (.string (⟨#[]⟩))).setCell ⟨w.heap.size, 2, none⟩ (.string (⟨#[]⟩)) = W9 := ⟨_, rfl⟩
    rw [hW9] at HE ⊢
    (try simp only [Exit.inBlock, Exit.then])
    refine bodyPost_ret (results_row_tmp rfl _ W9 w.heap.size _ _ _ _ rfl HE.out.1 Tryz.underlying43 rfl (by kernel_rfl)) rfl ?_
    rw [HV.out]
    exact ⟨rfl, HE.out.2⟩
   | true =>
    have htl : lab.toList = lab.data.toList := Lib.toList_data lab
    by_cases hlab : lab.data.toList = []
    ·have HV := hdn (show V = (⟨#[]⟩, ⟨#[]⟩, ⟨#[]⟩, 0) by rw [<- hV2, hdef, if_neg (fun h => h.2.2.2 hlab)]; rfl)
     rw [hlab] at htl
     have hie : lab.toList.isEmpty = true := by rw [htl]; rfl
     clear hdef hV2 hk0 hq58 hl hlab
     go_enter Tryz.func70, Tryz.ntmps70
     go_wp2_with fail
     rw [HW0.out]
     go_wp2_with fail
     refine Calls.mono (HL0.out _) ?_
     rintro e w1 ⟨rfl, b1⟩
     have HR1 := hdn (HZ0.out.later b1)
     have HB1 := hdn (below_on HZB.out b1)
     clear b1
     go_wp2_with fail
     refine Calls.mono (HI.out _) ?_
     rintro e w2 ⟨rfl, rfl⟩
     go_wp2_with fail
     refine Calls.mono (HG.out _) ?_
     rintro e w2 ⟨rfl, b2⟩
     have HR2 := hdn (HR1.out.later b2)
     have HB2 := hdn (below_on HB1.out b2)
     clear b2
     go_wp2_with fail
     refine Calls.mono (HD.out _) ?_
     rintro e w3 ⟨rfl, b3⟩
     have HR3 := hdn (HR2.out.later b3)
     have HB3 := hdn (below_on HB2.out b3)
     clear b3
     go_wp2_with fail
     refine Calls.mono (HN0.out _) ?_
     rintro e w4 ⟨rfl, b4⟩
     have HR4 := hdn (HR3.out.later b4)
     have HB4 := hdn (below_on HB3.out b4)
     clear b4
     rw [str_eq lab]
     have HX5 := hdn (show Row3 (w4.alloc (.cells #[.string lab, .string d, .string ⟨#[]⟩] 43)) w4.heap.size lab d ⟨#[]⟩ from heap_alloc_new w4 _)
     have hb5 : Below w4.heap.size w4 (w4.alloc (.cells #[.string lab, .string d, .string ⟨#[]⟩] 43)) := (Below.refl _ w4).alloc (Nat.le_refl _) _
     have HR5 := hdn (HR4.out.later hb5)
     have HB5 := hdn (below_on HB4.out hb5)
     have hne4 : ¬ w.heap.size = w4.heap.size := by have := HR4.out.lt; omega
     clear hb5
     have c5 := fun i => cell_of_row (w4.alloc (.cells #[.string lab, .string d, .string ⟨#[]⟩] 43)) w4.heap.size i _ _ _ (show ((w4.alloc (.cells #[.string lab, .string d, .string ⟨#[]⟩] 43)) : World).heap[w4.heap.size]? = _ from HX5.out)
     have g9 := HR5.out
     have q9 := fun i => cell_of_row (w4.alloc (.cells #[.string lab, .string d, .string ⟨#[]⟩] 43)) w.heap.size i _ _ _ (show (w4.alloc (.cells #[.string lab, .string d, .string ⟨#[]⟩] 43)).heap[w.heap.size]? = _ from g9)
     have f9 : ∀ i, (w4.alloc (.cells #[.string lab, .string d, .string ⟨#[]⟩] 43)).frozen? ⟨w.heap.size, i, none⟩ = false := fun i => by simp [World.frozen?, show (w4.alloc (.cells #[.string lab, .string d, .string ⟨#[]⟩] 43)).heap[w.heap.size]? = _ from g9]
     go_wp2
     have HE := hdn (ref_end w (w4.alloc (.cells #[.string lab, .string d, .string ⟨#[]⟩] 43)) _ _ _ (⟨#[]⟩) (⟨#[]⟩) (⟨#[]⟩) (HB5.out) g9)
     obtain ⟨W9, hW9⟩ : ∃ W9, (((w4.alloc (.cells #[.string lab, .string d, .string ⟨#[]⟩] 43)).setCell ⟨w.heap.size, 0, none⟩ (.string (⟨#[]⟩))).setCell ⟨w.heap.size, 1, none⟩ (.string (⟨#[]⟩))).setCell ⟨w.heap.size, 2, none⟩ (.string (⟨#[]⟩)) = W9 := ⟨_, rfl⟩
     rw [hW9] at HE ⊢
     (try simp only [Exit.inBlock, Exit.then])
     refine bodyPost_ret (results_row_tmp rfl _ W9 w.heap.size _ _ _ _ rfl HE.out.1 Tryz.underlying43 rfl (by kernel_rfl)) rfl ?_
     rw [HV.out]
     exact ⟨rfl, HE.out.2⟩
    ·have htn : ¬ lab.toList = [] := by rw [htl]; exact hlab
     have hie : lab.toList.isEmpty = false := by cases h : lab.toList with | nil => exact absurd h htn | cons _ _ => rfl
     have hdef2 : defN s = (defTail s e).map fun x => (lab, d, x.1, x.2) := by rw [hdef, if_pos ⟨hq58, hk0, rfl, hlab⟩]
     have hes : e ≤ s.size := HDI.out rfl
     have HLN := hdn fun w9 => line_any s e w9 (by omega) hes
     have hgl := (gapN_in s.data.toList e (by omega)).2
     have hgi2 : gapI s.data.toList (e : Int) = (gapN s.data.toList e : Nat) := by unfold gapI; rw [if_neg (by omega)]; rfl
     have HG2 := hdn fun w9 => gap_any s (e : Int) w9 (by omega) (by omega)
     rw [hgi2] at HG2
     rw [hdef2] at hV2
     unfold defTail at hV2
     obtain ⟨g, hg⟩ : ∃ x, gapN s.data.toList e = x := ⟨_, rfl⟩
     obtain ⟨o, ho⟩ : ∃ x, lineN s.data.toList e = x := ⟨_, rfl⟩
     rw [hg, ho] at hV2
     rw [hg] at HG2 hgl
     rw [ho] at HLN
     rw [hl] at hgl
     clear hdef hdef2 hlab htl hgi2 hk0 hq58 hg ho hl
     by_cases hge : e < g
     ·have hgi : (e : Int) < (g : Int) := by omega
      have HT := hdn fun w9 => title_any s g w9 hs (by omega)
      have hti := titleV_in s g
      obtain ⟨⟨t, e2, ist⟩, ht⟩ : ∃ x, titleV s g = x := ⟨_, rfl⟩
      rw [ht] at HT hti hV2
      simp only at hti hV2
      clear ht
      cases ist with
      | false =>
       cases o with
       | none =>
        have HV := hdn (show V = (⟨#[]⟩, ⟨#[]⟩, ⟨#[]⟩, 0) by rw [<- hV2, if_neg (fun h => by cases h.2)]; rfl)
        clear hV2
        go_enter Tryz.func70, Tryz.ntmps70
        go_wp2_with fail
        rw [HW0.out]
        go_wp2_with fail
        refine Calls.mono (HL0.out _) ?_
        rintro e w1 ⟨rfl, b1⟩
        have HR1 := hdn (HZ0.out.later b1)
        have HB1 := hdn (below_on HZB.out b1)
        clear b1
        go_wp2_with fail
        refine Calls.mono (HI.out _) ?_
        rintro e w2 ⟨rfl, rfl⟩
        go_wp2_with fail
        refine Calls.mono (HG.out _) ?_
        rintro e w2 ⟨rfl, b2⟩
        have HR2 := hdn (HR1.out.later b2)
        have HB2 := hdn (below_on HB1.out b2)
        clear b2
        go_wp2_with fail
        refine Calls.mono (HD.out _) ?_
        rintro e w3 ⟨rfl, b3⟩
        have HR3 := hdn (HR2.out.later b3)
        have HB3 := hdn (below_on HB2.out b3)
        clear b3
        go_wp2_with fail
        refine Calls.mono (HN0.out _) ?_
        rintro e w4 ⟨rfl, b4⟩
        have HR4 := hdn (HR3.out.later b4)
        have HB4 := hdn (below_on HB3.out b4)
        clear b4
        rw [str_eq lab]
        have HX5 := hdn (show Row3 (w4.alloc (.cells #[.string lab, .string d, .string ⟨#[]⟩] 43)) w4.heap.size lab d ⟨#[]⟩ from heap_alloc_new w4 _)
        have hb5 : Below w4.heap.size w4 (w4.alloc (.cells #[.string lab, .string d, .string ⟨#[]⟩] 43)) := (Below.refl _ w4).alloc (Nat.le_refl _) _
        have HR5 := hdn (HR4.out.later hb5)
        have HB5 := hdn (below_on HB4.out hb5)
        have hne4 : ¬ w.heap.size = w4.heap.size := by have := HR4.out.lt; omega
        clear hb5
        have c5 := fun i => cell_of_row (w4.alloc (.cells #[.string lab, .string d, .string ⟨#[]⟩] 43)) w4.heap.size i _ _ _ (show ((w4.alloc (.cells #[.string lab, .string d, .string ⟨#[]⟩] 43)) : World).heap[w4.heap.size]? = _ from HX5.out)
        go_wp2_with fail
        refine Calls.mono (HG2.out _) ?_
        rintro e' w6 ⟨rfl, b6⟩
        have HR6 := hdn (HR5.out.later b6)
        have HB6 := hdn (below_on HB5.out b6)
        have HX6 := hdn (HX5.out.later b6)
        clear b6 c5
        go_wp2_with fail
        refine Calls.mono (HT.out _) ?_
        rintro e' w8 ⟨rfl, b8⟩
        have HR8 := hdn (HR6.out.later b8)
        have HB8 := hdn (below_on HB6.out b8)
        have HX8 := hdn (HX6.out.later b8)
        clear b8
        go_wp2_with fail
        refine Calls.mono (HLN.out _) ?_
        rintro e' w7 ⟨rfl, b7⟩
        have HR7 := hdn (HR8.out.later b7)
        have HB7 := hdn (below_on HB8.out b7)
        have HX7 := hdn (HX8.out.later b7)
        clear b7
        have g9 := HR7.out
        have q9 := fun i => cell_of_row w7 w.heap.size i _ _ _ (show w7.heap[w.heap.size]? = _ from g9)
        have f9 : ∀ i, w7.frozen? ⟨w.heap.size, i, none⟩ = false := fun i => by simp [World.frozen?, show w7.heap[w.heap.size]? = _ from g9]
        go_wp2
        have HE := hdn (ref_end w w7 _ _ _ (⟨#[]⟩) (⟨#[]⟩) (⟨#[]⟩) (HB7.out) g9)
        obtain ⟨W9, hW9⟩ : ∃ W9, ((w7.setCell ⟨w.heap.size, 0, none⟩ (.string (⟨#[]⟩))).setCell ⟨w.heap.size, 1, none⟩ (.string (⟨#[]⟩))).setCell ⟨w.heap.size, 2, none⟩ (.string (⟨#[]⟩)) = W9 := ⟨_, rfl⟩
        rw [hW9] at HE ⊢
        (try simp only [Exit.inBlock, Exit.then])
        refine bodyPost_ret (results_row_tmp rfl _ W9 w.heap.size _ _ _ _ rfl HE.out.1 Tryz.underlying43 rfl (by kernel_rfl)) rfl ?_
        rw [HV.out]
        exact ⟨rfl, HE.out.2⟩
       | some n =>
        have HV := hdn (show V = (lab, d, ⟨#[]⟩, n) by rw [<- hV2, if_neg (fun h => by cases h.2)]; rfl)
        clear hV2
        go_enter Tryz.func70, Tryz.ntmps70
        go_wp2_with fail
        rw [HW0.out]
        go_wp2_with fail
        refine Calls.mono (HL0.out _) ?_
        rintro e w1 ⟨rfl, b1⟩
        have HR1 := hdn (HZ0.out.later b1)
        have HB1 := hdn (below_on HZB.out b1)
        clear b1
        go_wp2_with fail
        refine Calls.mono (HI.out _) ?_
        rintro e w2 ⟨rfl, rfl⟩
        go_wp2_with fail
        refine Calls.mono (HG.out _) ?_
        rintro e w2 ⟨rfl, b2⟩
        have HR2 := hdn (HR1.out.later b2)
        have HB2 := hdn (below_on HB1.out b2)
        clear b2
        go_wp2_with fail
        refine Calls.mono (HD.out _) ?_
        rintro e w3 ⟨rfl, b3⟩
        have HR3 := hdn (HR2.out.later b3)
        have HB3 := hdn (below_on HB2.out b3)
        clear b3
        go_wp2_with fail
        refine Calls.mono (HN0.out _) ?_
        rintro e w4 ⟨rfl, b4⟩
        have HR4 := hdn (HR3.out.later b4)
        have HB4 := hdn (below_on HB3.out b4)
        clear b4
        rw [str_eq lab]
        have HX5 := hdn (show Row3 (w4.alloc (.cells #[.string lab, .string d, .string ⟨#[]⟩] 43)) w4.heap.size lab d ⟨#[]⟩ from heap_alloc_new w4 _)
        have hb5 : Below w4.heap.size w4 (w4.alloc (.cells #[.string lab, .string d, .string ⟨#[]⟩] 43)) := (Below.refl _ w4).alloc (Nat.le_refl _) _
        have HR5 := hdn (HR4.out.later hb5)
        have HB5 := hdn (below_on HB4.out hb5)
        have hne4 : ¬ w.heap.size = w4.heap.size := by have := HR4.out.lt; omega
        clear hb5
        have c5 := fun i => cell_of_row (w4.alloc (.cells #[.string lab, .string d, .string ⟨#[]⟩] 43)) w4.heap.size i _ _ _ (show ((w4.alloc (.cells #[.string lab, .string d, .string ⟨#[]⟩] 43)) : World).heap[w4.heap.size]? = _ from HX5.out)
        go_wp2_with fail
        refine Calls.mono (HG2.out _) ?_
        rintro e' w6 ⟨rfl, b6⟩
        have HR6 := hdn (HR5.out.later b6)
        have HB6 := hdn (below_on HB5.out b6)
        have HX6 := hdn (HX5.out.later b6)
        clear b6 c5
        go_wp2_with fail
        refine Calls.mono (HT.out _) ?_
        rintro e' w8 ⟨rfl, b8⟩
        have HR8 := hdn (HR6.out.later b8)
        have HB8 := hdn (below_on HB6.out b8)
        have HX8 := hdn (HX6.out.later b8)
        clear b8
        go_wp2_with fail
        refine Calls.mono (HLN.out _) ?_
        rintro e' w7 ⟨rfl, b7⟩
        have HR7 := hdn (HR8.out.later b7)
        have HB7 := hdn (below_on HB8.out b7)
        have HX7 := hdn (HX8.out.later b7)
        clear b7
        have c7 := fun i => cell_of_row w7 w4.heap.size i _ _ _ (show w7.heap[w4.heap.size]? = _ from HX7.out)
        have g9 := HR7.out
        have q9 := fun i => cell_of_row w7 w.heap.size i _ _ _ (show w7.heap[w.heap.size]? = _ from g9)
        have f9 : ∀ i, w7.frozen? ⟨w.heap.size, i, none⟩ = false := fun i => by simp [World.frozen?, show w7.heap[w.heap.size]? = _ from g9]
        go_wp2
        have HE := hdn (ref_end w w7 _ _ _ (lab) (d) (⟨#[]⟩) (HB7.out) g9)
        obtain ⟨W9, hW9⟩ : ∃ W9, ((w7.setCell ⟨w.heap.size, 0, none⟩ (.string (lab))).setCell ⟨w.heap.size, 1, none⟩ (.string (d))).setCell ⟨w.heap.size, 2, none⟩ (.string (⟨#[]⟩)) = W9 := ⟨_, rfl⟩
        rw [hW9] at HE ⊢
        (try simp only [Exit.inBlock, Exit.then])
        refine bodyPost_ret (results_row_tmp rfl _ W9 w.heap.size _ _ _ _ rfl HE.out.1 Tryz.underlying43 rfl (by kernel_rfl)) rfl ?_
        rw [HV.out]
        exact ⟨rfl, HE.out.2⟩
      | true =>
       have he2 : e2 ≤ s.size := hti rfl
       have HL2 := hdn fun w9 => line_any s e2 w9 (by omega) he2
       obtain ⟨o2, ho2⟩ : ∃ x, lineN s.data.toList e2 = x := ⟨_, rfl⟩
       rw [ho2] at HL2 hV2
       clear ho2 hti
       cases o2 with
       | none =>
        cases o with
        | none =>
         have HV := hdn (show V = (⟨#[]⟩, ⟨#[]⟩, ⟨#[]⟩, 0) by rw [<- hV2, if_pos ⟨hge, rfl⟩]; rfl)
         clear hV2
         go_enter Tryz.func70, Tryz.ntmps70
         go_wp2_with fail
         rw [HW0.out]
         go_wp2_with fail
         refine Calls.mono (HL0.out _) ?_
         rintro e w1 ⟨rfl, b1⟩
         have HR1 := hdn (HZ0.out.later b1)
         have HB1 := hdn (below_on HZB.out b1)
         clear b1
         go_wp2_with fail
         refine Calls.mono (HI.out _) ?_
         rintro e w2 ⟨rfl, rfl⟩
         go_wp2_with fail
         refine Calls.mono (HG.out _) ?_
         rintro e w2 ⟨rfl, b2⟩
         have HR2 := hdn (HR1.out.later b2)
         have HB2 := hdn (below_on HB1.out b2)
         clear b2
         go_wp2_with fail
         refine Calls.mono (HD.out _) ?_
         rintro e w3 ⟨rfl, b3⟩
         have HR3 := hdn (HR2.out.later b3)
         have HB3 := hdn (below_on HB2.out b3)
         clear b3
         go_wp2_with fail
         refine Calls.mono (HN0.out _) ?_
         rintro e w4 ⟨rfl, b4⟩
         have HR4 := hdn (HR3.out.later b4)
         have HB4 := hdn (below_on HB3.out b4)
         clear b4
         rw [str_eq lab]
         have HX5 := hdn (show Row3 (w4.alloc (.cells #[.string lab, .string d, .string ⟨#[]⟩] 43)) w4.heap.size lab d ⟨#[]⟩ from heap_alloc_new w4 _)
         have hb5 : Below w4.heap.size w4 (w4.alloc (.cells #[.string lab, .string d, .string ⟨#[]⟩] 43)) := (Below.refl _ w4).alloc (Nat.le_refl _) _
         have HR5 := hdn (HR4.out.later hb5)
         have HB5 := hdn (below_on HB4.out hb5)
         have hne4 : ¬ w.heap.size = w4.heap.size := by have := HR4.out.lt; omega
         clear hb5
         have c5 := fun i => cell_of_row (w4.alloc (.cells #[.string lab, .string d, .string ⟨#[]⟩] 43)) w4.heap.size i _ _ _ (show ((w4.alloc (.cells #[.string lab, .string d, .string ⟨#[]⟩] 43)) : World).heap[w4.heap.size]? = _ from HX5.out)
         go_wp2_with fail
         refine Calls.mono (HG2.out _) ?_
         rintro e' w6 ⟨rfl, b6⟩
         have HR6 := hdn (HR5.out.later b6)
         have HB6 := hdn (below_on HB5.out b6)
         have HX6 := hdn (HX5.out.later b6)
         clear b6 c5
         go_wp2_with fail
         refine Calls.mono (HT.out _) ?_
         rintro e' w8 ⟨rfl, b8⟩
         have HR8 := hdn (HR6.out.later b8)
         have HB8 := hdn (below_on HB6.out b8)
         have HX8 := hdn (HX6.out.later b8)
         clear b8
         go_wp2_with fail
         refine Calls.mono (HL2.out _) ?_
         rintro e' w10 ⟨rfl, b10⟩
         have HR10 := hdn (HR8.out.later b10)
         have HB10 := hdn (below_on HB8.out b10)
         have HX10 := hdn (HX8.out.later b10)
         clear b10
         go_wp2_with fail
         refine Calls.mono (HLN.out _) ?_
         rintro e' w7 ⟨rfl, b7⟩
         have HR7 := hdn (HR10.out.later b7)
         have HB7 := hdn (below_on HB10.out b7)
         have HX7 := hdn (HX10.out.later b7)
         clear b7
         have g9 := HR7.out
         have q9 := fun i => cell_of_row w7 w.heap.size i _ _ _ (show w7.heap[w.heap.size]? = _ from g9)
         have f9 : ∀ i, w7.frozen? ⟨w.heap.size, i, none⟩ = false := fun i => by simp [World.frozen?, show w7.heap[w.heap.size]? = _ from g9]
         go_wp2
         have HE := hdn (ref_end w w7 _ _ _ (⟨#[]⟩) (⟨#[]⟩) (⟨#[]⟩) (HB7.out) g9)
         obtain ⟨W9, hW9⟩ : ∃ W9, ((w7.setCell ⟨w.heap.size, 0, none⟩ (.string (⟨#[]⟩))).setCell ⟨w.heap.size, 1, none⟩ (.string (⟨#[]⟩))).setCell ⟨w.heap.size, 2, none⟩ (.string (⟨#[]⟩)) = W9 := ⟨_, rfl⟩
         rw [hW9] at HE ⊢
         (try simp only [Exit.inBlock, Exit.then])
         refine bodyPost_ret (results_row_tmp rfl _ W9 w.heap.size _ _ _ _ rfl HE.out.1 Tryz.underlying43 rfl (by kernel_rfl)) rfl ?_
         rw [HV.out]
         exact ⟨rfl, HE.out.2⟩
        | some n =>
         have HV := hdn (show V = (lab, d, ⟨#[]⟩, n) by rw [<- hV2, if_pos ⟨hge, rfl⟩]; rfl)
         clear hV2
         go_enter Tryz.func70, Tryz.ntmps70
         go_wp2_with fail
         rw [HW0.out]
         go_wp2_with fail
         refine Calls.mono (HL0.out _) ?_
         rintro e w1 ⟨rfl, b1⟩
         have HR1 := hdn (HZ0.out.later b1)
         have HB1 := hdn (below_on HZB.out b1)
         clear b1
         go_wp2_with fail
         refine Calls.mono (HI.out _) ?_
         rintro e w2 ⟨rfl, rfl⟩
         go_wp2_with fail
         refine Calls.mono (HG.out _) ?_
         rintro e w2 ⟨rfl, b2⟩
         have HR2 := hdn (HR1.out.later b2)
         have HB2 := hdn (below_on HB1.out b2)
         clear b2
         go_wp2_with fail
         refine Calls.mono (HD.out _) ?_
         rintro e w3 ⟨rfl, b3⟩
         have HR3 := hdn (HR2.out.later b3)
         have HB3 := hdn (below_on HB2.out b3)
         clear b3
         go_wp2_with fail
         refine Calls.mono (HN0.out _) ?_
         rintro e w4 ⟨rfl, b4⟩
         have HR4 := hdn (HR3.out.later b4)
         have HB4 := hdn (below_on HB3.out b4)
         clear b4
         rw [str_eq lab]
         have HX5 := hdn (show Row3 (w4.alloc (.cells #[.string lab, .string d, .string ⟨#[]⟩] 43)) w4.heap.size lab d ⟨#[]⟩ from heap_alloc_new w4 _)
         have hb5 : Below w4.heap.size w4 (w4.alloc (.cells #[.string lab, .string d, .string ⟨#[]⟩] 43)) := (Below.refl _ w4).alloc (Nat.le_refl _) _
         have HR5 := hdn (HR4.out.later hb5)
         have HB5 := hdn (below_on HB4.out hb5)
         have hne4 : ¬ w.heap.size = w4.heap.size := by have := HR4.out.lt; omega
         clear hb5
         have c5 := fun i => cell_of_row (w4.alloc (.cells #[.string lab, .string d, .string ⟨#[]⟩] 43)) w4.heap.size i _ _ _ (show ((w4.alloc (.cells #[.string lab, .string d, .string ⟨#[]⟩] 43)) : World).heap[w4.heap.size]? = _ from HX5.out)
         go_wp2_with fail
         refine Calls.mono (HG2.out _) ?_
         rintro e' w6 ⟨rfl, b6⟩
         have HR6 := hdn (HR5.out.later b6)
         have HB6 := hdn (below_on HB5.out b6)
         have HX6 := hdn (HX5.out.later b6)
         clear b6 c5
         go_wp2_with fail
         refine Calls.mono (HT.out _) ?_
         rintro e' w8 ⟨rfl, b8⟩
         have HR8 := hdn (HR6.out.later b8)
         have HB8 := hdn (below_on HB6.out b8)
         have HX8 := hdn (HX6.out.later b8)
         clear b8
         go_wp2_with fail
         refine Calls.mono (HL2.out _) ?_
         rintro e' w10 ⟨rfl, b10⟩
         have HR10 := hdn (HR8.out.later b10)
         have HB10 := hdn (below_on HB8.out b10)
         have HX10 := hdn (HX8.out.later b10)
         clear b10
         go_wp2_with fail
         refine Calls.mono (HLN.out _) ?_
         rintro e' w7 ⟨rfl, b7⟩
         have HR7 := hdn (HR10.out.later b7)
         have HB7 := hdn (below_on HB10.out b7)
         have HX7 := hdn (HX10.out.later b7)
         clear b7
         have c7 := fun i => cell_of_row w7 w4.heap.size i _ _ _ (show w7.heap[w4.heap.size]? = _ from HX7.out)
         have g9 := HR7.out
         have q9 := fun i => cell_of_row w7 w.heap.size i _ _ _ (show w7.heap[w.heap.size]? = _ from g9)
         have f9 : ∀ i, w7.frozen? ⟨w.heap.size, i, none⟩ = false := fun i => by simp [World.frozen?, show w7.heap[w.heap.size]? = _ from g9]
         go_wp2
         have HE := hdn (ref_end w w7 _ _ _ (lab) (d) (⟨#[]⟩) (HB7.out) g9)
         obtain ⟨W9, hW9⟩ : ∃ W9, ((w7.setCell ⟨w.heap.size, 0, none⟩ (.string (lab))).setCell ⟨w.heap.size, 1, none⟩ (.string (d))).setCell ⟨w.heap.size, 2, none⟩ (.string (⟨#[]⟩)) = W9 := ⟨_, rfl⟩
         rw [hW9] at HE ⊢
         (try simp only [Exit.inBlock, Exit.then])
         refine bodyPost_ret (results_row_tmp rfl _ W9 w.heap.size _ _ _ _ rfl HE.out.1 Tryz.underlying43 rfl (by kernel_rfl)) rfl ?_
         rw [HV.out]
         exact ⟨rfl, HE.out.2⟩
       | some n2 =>
        have HV := hdn (show V = (lab, d, t, n2) by rw [<- hV2, if_pos ⟨hge, rfl⟩]; rfl)
        clear hV2
        go_enter Tryz.func70, Tryz.ntmps70
        go_wp2_with fail
        rw [HW0.out]
        go_wp2_with fail
        refine Calls.mono (HL0.out _) ?_
        rintro e w1 ⟨rfl, b1⟩
        have HR1 := hdn (HZ0.out.later b1)
        have HB1 := hdn (below_on HZB.out b1)
        clear b1
        go_wp2_with fail
        refine Calls.mono (HI.out _) ?_
        rintro e w2 ⟨rfl, rfl⟩
        go_wp2_with fail
        refine Calls.mono (HG.out _) ?_
        rintro e w2 ⟨rfl, b2⟩
        have HR2 := hdn (HR1.out.later b2)
        have HB2 := hdn (below_on HB1.out b2)
        clear b2
        go_wp2_with fail
        refine Calls.mono (HD.out _) ?_
        rintro e w3 ⟨rfl, b3⟩
        have HR3 := hdn (HR2.out.later b3)
        have HB3 := hdn (below_on HB2.out b3)
        clear b3
        go_wp2_with fail
        refine Calls.mono (HN0.out _) ?_
        rintro e w4 ⟨rfl, b4⟩
        have HR4 := hdn (HR3.out.later b4)
        have HB4 := hdn (below_on HB3.out b4)
        clear b4
        rw [str_eq lab]
        have HX5 := hdn (show Row3 (w4.alloc (.cells #[.string lab, .string d, .string ⟨#[]⟩] 43)) w4.heap.size lab d ⟨#[]⟩ from heap_alloc_new w4 _)
        have hb5 : Below w4.heap.size w4 (w4.alloc (.cells #[.string lab, .string d, .string ⟨#[]⟩] 43)) := (Below.refl _ w4).alloc (Nat.le_refl _) _
        have HR5 := hdn (HR4.out.later hb5)
        have HB5 := hdn (below_on HB4.out hb5)
        have hne4 : ¬ w.heap.size = w4.heap.size := by have := HR4.out.lt; omega
        clear hb5
        have c5 := fun i => cell_of_row (w4.alloc (.cells #[.string lab, .string d, .string ⟨#[]⟩] 43)) w4.heap.size i _ _ _ (show ((w4.alloc (.cells #[.string lab, .string d, .string ⟨#[]⟩] 43)) : World).heap[w4.heap.size]? = _ from HX5.out)
        go_wp2_with fail
        refine Calls.mono (HG2.out _) ?_
        rintro e' w6 ⟨rfl, b6⟩
        have HR6 := hdn (HR5.out.later b6)
        have HB6 := hdn (below_on HB5.out b6)
        have HX6 := hdn (HX5.out.later b6)
        clear b6 c5
        go_wp2_with fail
        refine Calls.mono (HT.out _) ?_
        rintro e' w8 ⟨rfl, b8⟩
        have HR8 := hdn (HR6.out.later b8)
        have HB8 := hdn (below_on HB6.out b8)
        have HX8 := hdn (HX6.out.later b8)
        clear b8
        go_wp2_with fail
        refine Calls.mono (HL2.out _) ?_
        rintro e' w10 ⟨rfl, b10⟩
        have HR10 := hdn (HR8.out.later b10)
        have HB10 := hdn (below_on HB8.out b10)
        have HX10 := hdn (HX8.out.later b10)
        clear b10
        have hx11 : Row3 (w10.setCell ⟨w4.heap.size, 2, none⟩ (.string t)) w4.heap.size lab d t := by
         have h1 := Joins.block_setCell (show w10.heap[w4.heap.size]? = _ from HX10.out) (i := 2) (.string t)
         simpa [Row3] using h1
        have hr11 : Row3 (w10.setCell ⟨w4.heap.size, 2, none⟩ (.string t)) w.heap.size ⟨#[]⟩ ⟨#[]⟩ ⟨#[]⟩ := by
         unfold Row3
         rw [Below.heap_setCell _ _ _ _ (fun e => hne4 e)]
         exact HR10.out
        have hb11 : Below w.heap.size w (w10.setCell ⟨w4.heap.size, 2, none⟩ (.string t)) := HB10.out.setCell (p := ⟨w4.heap.size, 2, none⟩) (by have := HR4.out.lt; show w.heap.size ≤ w4.heap.size; omega) _
        have c10 := fun i => cell_of_row w10 w4.heap.size i _ _ _ (show w10.heap[w4.heap.size]? = _ from HX10.out)
        have f10 : ∀ i, w10.frozen? ⟨w4.heap.size, i, none⟩ = false := fun i => by simp [World.frozen?, show w10.heap[w4.heap.size]? = _ from HX10.out]
        have c11 := fun i => cell_of_row _ w4.heap.size i _ _ _ (show (w10.setCell ⟨w4.heap.size, 2, none⟩ (.string t)).heap[w4.heap.size]? = _ from hx11)
        have g9 := hr11
        have q9 := fun i => cell_of_row (w10.setCell ⟨w4.heap.size, 2, none⟩ (.string t)) w.heap.size i _ _ _ (show (w10.setCell ⟨w4.heap.size, 2, none⟩ (.string t)).heap[w.heap.size]? = _ from g9)
        have f9 : ∀ i, (w10.setCell ⟨w4.heap.size, 2, none⟩ (.string t)).frozen? ⟨w.heap.size, i, none⟩ = false := fun i => by simp [World.frozen?, show (w10.setCell ⟨w4.heap.size, 2, none⟩ (.string t)).heap[w.heap.size]? = _ from g9]
        go_wp2
        have HE := hdn (ref_end w (w10.setCell ⟨w4.heap.size, 2, none⟩ (.string t)) _ _ _ (lab) (d) (t) (hb11) g9)
        obtain ⟨W9, hW9⟩ : ∃ W9, (((w10.setCell ⟨w4.heap.size, 2, none⟩ (.string t)).setCell ⟨w.heap.size, 0, none⟩ (.string (lab))).setCell ⟨w.heap.size, 1, none⟩ (.string (d))).setCell ⟨w.heap.size, 2, none⟩ (.string (t)) = W9 := ⟨_, rfl⟩
        rw [hW9] at HE ⊢
        (try simp only [Exit.inBlock, Exit.then])
        refine bodyPost_ret (results_row_tmp rfl _ W9 w.heap.size _ _ _ _ rfl HE.out.1 Tryz.underlying43 rfl (by kernel_rfl)) rfl ?_
        rw [HV.out]
        exact ⟨rfl, HE.out.2⟩
     ·have hgi : ¬ (e : Int) < (g : Int) := by omega
      cases o with
      | none =>
       have HV := hdn (show V = (⟨#[]⟩, ⟨#[]⟩, ⟨#[]⟩, 0) by rw [<- hV2, if_neg (fun h => hge h.1)]; rfl)
       clear hV2
       go_enter Tryz.func70, Tryz.ntmps70
       go_wp2_with fail
       rw [HW0.out]
       go_wp2_with fail
       refine Calls.mono (HL0.out _) ?_
       rintro e w1 ⟨rfl, b1⟩
       have HR1 := hdn (HZ0.out.later b1)
       have HB1 := hdn (below_on HZB.out b1)
       clear b1
       go_wp2_with fail
       refine Calls.mono (HI.out _) ?_
       rintro e w2 ⟨rfl, rfl⟩
       go_wp2_with fail
       refine Calls.mono (HG.out _) ?_
       rintro e w2 ⟨rfl, b2⟩
       have HR2 := hdn (HR1.out.later b2)
       have HB2 := hdn (below_on HB1.out b2)
       clear b2
       go_wp2_with fail
       refine Calls.mono (HD.out _) ?_
       rintro e w3 ⟨rfl, b3⟩
       have HR3 := hdn (HR2.out.later b3)
       have HB3 := hdn (below_on HB2.out b3)
       clear b3
       go_wp2_with fail
       refine Calls.mono (HN0.out _) ?_
       rintro e w4 ⟨rfl, b4⟩
       have HR4 := hdn (HR3.out.later b4)
       have HB4 := hdn (below_on HB3.out b4)
       clear b4
       rw [str_eq lab]
       have HX5 := hdn (show Row3 (w4.alloc (.cells #[.string lab, .string d, .string ⟨#[]⟩] 43)) w4.heap.size lab d ⟨#[]⟩ from heap_alloc_new w4 _)
       have hb5 : Below w4.heap.size w4 (w4.alloc (.cells #[.string lab, .string d, .string ⟨#[]⟩] 43)) := (Below.refl _ w4).alloc (Nat.le_refl _) _
       have HR5 := hdn (HR4.out.later hb5)
       have HB5 := hdn (below_on HB4.out hb5)
       have hne4 : ¬ w.heap.size = w4.heap.size := by have := HR4.out.lt; omega
       clear hb5
       have c5 := fun i => cell_of_row (w4.alloc (.cells #[.string lab, .string d, .string ⟨#[]⟩] 43)) w4.heap.size i _ _ _ (show ((w4.alloc (.cells #[.string lab, .string d, .string ⟨#[]⟩] 43)) : World).heap[w4.heap.size]? = _ from HX5.out)
       go_wp2_with fail
       refine Calls.mono (HG2.out _) ?_
       rintro e' w6 ⟨rfl, b6⟩
       have HR6 := hdn (HR5.out.later b6)
       have HB6 := hdn (below_on HB5.out b6)
       have HX6 := hdn (HX5.out.later b6)
       clear b6 c5
       go_wp2_with fail
       refine Calls.mono (HLN.out _) ?_
       rintro e' w7 ⟨rfl, b7⟩
       have HR7 := hdn (HR6.out.later b7)
       have HB7 := hdn (below_on HB6.out b7)
       have HX7 := hdn (HX6.out.later b7)
       clear b7
       have g9 := HR7.out
       have q9 := fun i => cell_of_row w7 w.heap.size i _ _ _ (show w7.heap[w.heap.size]? = _ from g9)
       have f9 : ∀ i, w7.frozen? ⟨w.heap.size, i, none⟩ = false := fun i => by simp [World.frozen?, show w7.heap[w.heap.size]? = _ from g9]
       go_wp2
       have HE := hdn (ref_end w w7 _ _ _ (⟨#[]⟩) (⟨#[]⟩) (⟨#[]⟩) (HB7.out) g9)
       obtain ⟨W9, hW9⟩ : ∃ W9, ((w7.setCell ⟨w.heap.size, 0, none⟩ (.string (⟨#[]⟩))).setCell ⟨w.heap.size, 1, none⟩ (.string (⟨#[]⟩))).setCell ⟨w.heap.size, 2, none⟩ (.string (⟨#[]⟩)) = W9 := ⟨_, rfl⟩
       rw [hW9] at HE ⊢
       (try simp only [Exit.inBlock, Exit.then])
       refine bodyPost_ret (results_row_tmp rfl _ W9 w.heap.size _ _ _ _ rfl HE.out.1 Tryz.underlying43 rfl (by kernel_rfl)) rfl ?_
       rw [HV.out]
       exact ⟨rfl, HE.out.2⟩
      | some n =>
       have HV := hdn (show V = (lab, d, ⟨#[]⟩, n) by rw [<- hV2, if_neg (fun h => hge h.1)]; rfl)
       clear hV2
       go_enter Tryz.func70, Tryz.ntmps70
       go_wp2_with fail
       rw [HW0.out]
       go_wp2_with fail
       refine Calls.mono (HL0.out _) ?_
       rintro e w1 ⟨rfl, b1⟩
       have HR1 := hdn (HZ0.out.later b1)
       have HB1 := hdn (below_on HZB.out b1)
       clear b1
       go_wp2_with fail
       refine Calls.mono (HI.out _) ?_
       rintro e w2 ⟨rfl, rfl⟩
       go_wp2_with fail
       refine Calls.mono (HG.out _) ?_
       rintro e w2 ⟨rfl, b2⟩
       have HR2 := hdn (HR1.out.later b2)
       have HB2 := hdn (below_on HB1.out b2)
       clear b2
       go_wp2_with fail
       refine Calls.mono (HD.out _) ?_
       rintro e w3 ⟨rfl, b3⟩
       have HR3 := hdn (HR2.out.later b3)
       have HB3 := hdn (below_on HB2.out b3)
       clear b3
       go_wp2_with fail
       refine Calls.mono (HN0.out _) ?_
       rintro e w4 ⟨rfl, b4⟩
       have HR4 := hdn (HR3.out.later b4)
       have HB4 := hdn (below_on HB3.out b4)
       clear b4
       rw [str_eq lab]
       have HX5 := hdn (show Row3 (w4.alloc (.cells #[.string lab, .string d, .string ⟨#[]⟩] 43)) w4.heap.size lab d ⟨#[]⟩ from heap_alloc_new w4 _)
       have hb5 : Below w4.heap.size w4 (w4.alloc (.cells #[.string lab, .string d, .string ⟨#[]⟩] 43)) := (Below.refl _ w4).alloc (Nat.le_refl _) _
       have HR5 := hdn (HR4.out.later hb5)
       have HB5 := hdn (below_on HB4.out hb5)
       have hne4 : ¬ w.heap.size = w4.heap.size := by have := HR4.out.lt; omega
       clear hb5
       have c5 := fun i => cell_of_row (w4.alloc (.cells #[.string lab, .string d, .string ⟨#[]⟩] 43)) w4.heap.size i _ _ _ (show ((w4.alloc (.cells #[.string lab, .string d, .string ⟨#[]⟩] 43)) : World).heap[w4.heap.size]? = _ from HX5.out)
       go_wp2_with fail
       refine Calls.mono (HG2.out _) ?_
       rintro e' w6 ⟨rfl, b6⟩
       have HR6 := hdn (HR5.out.later b6)
       have HB6 := hdn (below_on HB5.out b6)
       have HX6 := hdn (HX5.out.later b6)
       clear b6 c5
       go_wp2_with fail
       refine Calls.mono (HLN.out _) ?_
       rintro e' w7 ⟨rfl, b7⟩
       have HR7 := hdn (HR6.out.later b7)
       have HB7 := hdn (below_on HB6.out b7)
       have HX7 := hdn (HX6.out.later b7)
       clear b7
       have c7 := fun i => cell_of_row w7 w4.heap.size i _ _ _ (show w7.heap[w4.heap.size]? = _ from HX7.out)
       have g9 := HR7.out
       have q9 := fun i => cell_of_row w7 w.heap.size i _ _ _ (show w7.heap[w.heap.size]? = _ from g9)
       have f9 : ∀ i, w7.frozen? ⟨w.heap.size, i, none⟩ = false := fun i => by simp [World.frozen?, show w7.heap[w.heap.size]? = _ from g9]
       go_wp2
       have HE := hdn (ref_end w w7 _ _ _ (lab) (d) (⟨#[]⟩) (HB7.out) g9)
       obtain ⟨W9, hW9⟩ : ∃ W9, ((w7.setCell ⟨w.heap.size, 0, none⟩ (.string (lab))).setCell ⟨w.heap.size, 1, none⟩ (.string (d))).setCell ⟨w.heap.size, 2, none⟩ (.string (⟨#[]⟩)) = W9 := ⟨_, rfl⟩
       rw [hW9] at HE ⊢
       (try simp only [Exit.inBlock, Exit.then])
       refine bodyPost_ret (results_row_tmp rfl _ W9 w.heap.size _ _ _ _ rfl HE.out.1 Tryz.underlying43 rfl (by kernel_rfl)) rfl ?_
       rw [HV.out]
       exact ⟨rfl, HE.out.2⟩
end Go.Proofs.YtebfjlfkofibpaaGreatDoor
