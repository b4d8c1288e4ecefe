/- The reference's parts: one step. -/
import Derived.Test.YtdkjenbncmedbaaGreatDoorRfRec
import Derived.Deep.DeepCutAuto
import Derived.Deep.CutBlock
namespace Go.Proofs.YtdkjenbncmedbaaGreatDoor
open Go.RowKit

theorem s_elf {a b c d e f g h i j k : Prop} (s : a ∧ b ∧ c ∧ d ∧ e ∧ f ∧ g ∧ h ∧ i ∧ j ∧ k) : k := s.2.2.2.2.2.2.2.2.2.2
theorem s_dec {a b c d e f g h i j : Prop} (s : a ∧ b ∧ c ∧ d ∧ e ∧ f ∧ g ∧ h ∧ i ∧ j) : j := s.2.2.2.2.2.2.2.2.2
set_option maxHeartbeats 40000000 in
set_option maxRecDepth 100000 in
theorem parts_step (E : List ByteArray) (A : Prs) (S : List ByteArray) (n : Nat) (hI : RefAllC E A S n) (hGr : RefPartsC E A S n) : RefPartsC E A S (n + 1) := by
  intro D0 g x vE vA vS vl vn l S0 w0 w hn hg1 hg3 hp hv hS hb hs hwt
  obtain ⟨D, rfl⟩ : ∃ D, D0 = D + 1 := ⟨D0 - 1, by omega⟩
  obtain ⟨iN, hiN, hzN0, hzN1, hzN2⟩ := info_parts infoN
  obtain ⟨Al, cl', rfl, _, hget⟩ := hv.get
  have hb0 := hb.size
  have hv0 : (Value.slice none 0 0).ownBlock ≠ some w.heap.size ∧ (Value.slice none 0 0).ownBlock ≠ some (w.heap.size + 1) := ⟨(fun e => by cases (show (none : Option Nat) = some w.heap.size from e)), (fun e => by cases (show (none : Option Nat) = some (w.heap.size + 1) from e))⟩
  obtain ⟨L, hLd⟩ : ∃ L : Nat → List (NodeD (List (NT D))), (fun k => cl E A S (n + 1) D g x (l.take k) []) = L := ⟨_, rfl⟩
  have hLs : ∀ (k : Nat) (hk : k < l.length), L (k + 1) = stepC E A S n D g x (L k) l[k] := fun k hk => by rw [← hLd]; exact cl_take E A S n D g x l [] k hk
  have hLe : kidsN E A S (n + 1) (D + 1) g x l = L l.length := by rw [← hLd]; show cl E A S (n + 1) D g x l [] = cl E A S (n + 1) D g x (l.take l.length) []; rw [List.take_length]
  have hL0 : L 0 = [] := by rw [← hLd]; exact cl_nil E A S (n + 1) D g x []
  have hLw : ∀ k, k < l.length → wt (D + 1) (L k) + wt (n + 1) (l.take (k + 1)) ≤ 100000 + wt (n + 1) (l.take k) := fun k hk => by
    have e1 := cl_wt E A S (n + 1) D g x (l.take k) []
    have e2 := wt_take_le n l (k + 1)
    have e3 : L k = cl E A S (n + 1) D g x (l.take k) [] := by rw [← hLd]
    have e4 : wt (D + 1) ([] : List (NT (D + 1))) = 0 := rfl
    rw [e3]
    omega
  have hLend : wt (D + 1) (L l.length) ≤ 100000 := by
    have e1 := cl_wt E A S (n + 1) D g x l []
    have e4 : wt (D + 1) ([] : List (NT (D + 1))) = 0 := rfl
    have e5 : L l.length = cl E A S (n + 1) D g x l [] := hLe.symm
    rw [e5]
    omega
  rw [hLe]
  obtain ⟨W, hW⟩ : ∃ W, (w.alloc (.cells #[vE, vA, vS] 25)).alloc (.cells #[.bool x.para, .bool x.link, .bool x.item, .bool x.pair, .bool x.head] 73) = W := ⟨_, rfl⟩
  have hbW : Below w.heap.size w W := by rw [← hW]; exact two_below _ _ _
  have hzW : w.heap.size + 1 + 1 ≤ W.heap.size ∧ W.heap.size ≤ w.heap.size + 1 + 1 := by rw [← hW]; simp
  have hn0 : W.heap[w.heap.size]? = some (.cells #[vE, vA, vS] 25 (0, 0)) := by rw [← hW, Below.heap_alloc _ _ _ (by simp)]; exact heap_alloc_new _ _
  have hn1 : W.heap[w.heap.size + 1]? = some (.cells #[.bool x.para, .bool x.link, .bool x.item, .bool x.pair, .bool x.head] 73 (0, 0)) := by rw [← hW]; exact two_new _ _ _ _
  have hpol := hp.elems
  have HHs := Lib.hid fun (w' : World) (hb' : Below w0.heap.size w0 w') (nm : ByteArray) => refhas_any vE vA vS E nm w' (hpol.later hb') hp.lE
  have HBx := Lib.hid fun (w' : World) (v' : Value) (h : Only (.slice none 0 0) v' W w') => (show (w'.cell? ⟨w.heap.size, 0, none⟩ = some vE ∧ w'.cell? ⟨w.heap.size, 1, none⟩ = some vA ∧ w'.cell? ⟨w.heap.size, 2, none⟩ = some vS) ∧ (w'.cell? ⟨w.heap.size + 1, 0, none⟩ = some (.bool x.para) ∧ w'.cell? ⟨w.heap.size + 1, 1, none⟩ = some (.bool x.link) ∧ w'.cell? ⟨w.heap.size + 1, 2, none⟩ = some (.bool x.item) ∧ w'.cell? ⟨w.heap.size + 1, 3, none⟩ = some (.bool x.pair) ∧ w'.cell? ⟨w.heap.size + 1, 4, none⟩ = some (.bool x.head)) from by
    have q := fun i => cell_of_row w' w.heap.size i _ _ _ ((h.1 _ (by omega) hv0.1).trans hn0)
    have r := fun i => cell_of_row w' (w.heap.size + 1) i _ _ _ ((h.1 _ (by omega) hv0.2).trans hn1)
    exact ⟨⟨q 0, q 1, q 2⟩, r 0, r 1, r 2, r 3, r 4⟩)
  obtain ⟨nb, no, cn, rfl, hcn, hnb, hnm0⟩ := hs
  obtain ⟨vn0, hnc, hsn0⟩ := hnm0 0 (by omega)
  rw [Nat.add_zero] at hnc
  rw [Nat.sub_zero] at hsn0
  obtain ⟨An0, cn0, rfl, _⟩ := hsn0.open
  have HNm := Lib.hid (show NamesAt w (.slice (some ⟨nb, no, none⟩) g cn) g from ⟨nb, no, cn, rfl, hcn, hnb, hnm0⟩); have HSn := Lib.hid hsn0; have HNc := Lib.hid hnc
  have HLs := Lib.hid hLs; have HLw := Lib.hid hLw; have HLend := Lib.hid hLend
  have HG := Lib.hid hget; have HS := Lib.hid hS; have HP := Lib.hid hp; have HB := Lib.hid (below_on hb hbW); have HI := Lib.hid hI; have HGr := Lib.hid hGr; have HW := Lib.hid hW; have HBW := Lib.hid hbW
  have H0 := Lib.hid (show RowW W.heap.size D (.slice none 0 0) L l.length W (.slice none 0 0) (.int .i64 (0 : Nat)) W from ⟨0, _, rfl, rfl, Nat.zero_le _, by rw [hL0]; exact OutAt.nil _ _ _, Below.refl _ _, Only.of_below (Below.refl _ _)⟩)
  have HLl := Lib.hid (rowL_len (g := g))
  clear hLd hLs hLe hL0 hLw hLend hget hS hp hb hI hGr hv hwt hW hbW hnm0 hsn0 hnc hpol hn0 hn1 hv0
  unfold Pl.rv
  go_enter Tryz.func70, Tryz.ntmps70
  go_wp2_with fail
  rw [HW.out]
  go_loopw [9, 10] (fun v i wr => RowW W.heap.size D (.slice none 0 0) L l.length W v i wr) (fun _ i _ => l.length - (intOf i).toNat)
  case atStart => exact H0.out
  case round =>
    obtain ⟨k, vO, hvv, rfl, hk, hout, hbs, hon⟩ := hrel
    subst hvv
    clear H0
    obtain ⟨Av, cv, rfl⟩ := hout.form
    by_cases hlt : k < l.length
    · have hki : (k : Int) < (l.length : Int) := by omega
      obtain ⟨ad, va, vk, hA, hatt, hkids, hnm, htx, hki2, hsp, hbl, c0, c1, c2, c3, c4, c5⟩ := HG.out k hlt
      subst hA
      have hz := hbs.size
      have hzb := HB.out.size
      have hbw0 := HS.out _ hbl
      have hbwr : Below w0.heap.size w0 wr := HB.out.trans (hbs.mono (by omega))
      have q : ∀ (j : Nat), wr.cell? ⟨(ad.add (k * 6)).block, j, none⟩ = w0.cell? ⟨(ad.add (k * 6)).block, j, none⟩ := fun j => hbwr.cell (by rw [block_of_add]; exact hbw0)
      have d0 := (hbwr.cell (p := ad.add (k * 6)) (by rw [block_of_add]; exact hbw0)).trans c0
      have d1 := (q _).trans c1
      have d2 := (q _).trans c2
      have d3 := (q _).trans c3
      have d4 := (q _).trans c4
      have d5 := (q _).trans c5
      clear c0 c1 c2 c3 c4 c5 q
      obtain ⟨Aa, ma, ca, rfl⟩ := hatt.shape
      obtain ⟨Ak, mk, ck, rfl⟩ := hkids.shape
      have hstep := HLs.out k hlt
      have hwk := HLw.out k hlt
      rw [wt_take n l k hlt] at hwk
      have hlen : (L k).length ≤ wt (D + 1) (L k) := rowWt_len (K := List (NT D)) (wt D) (L k)
      have htxs : ∀ z ∈ L k, (NodeD.text z).size ≤ 1000000 := fun z hz => by
        have h8 : 1 + z.text.size / 8 + z.name.size / 8 ≤ wt (D + 1) (L k) := rowWt_mem (K := List (NT D)) (wt D) hz
        omega
      obtain ⟨y, hy⟩ : ∃ y : NodeD (List (NT n)), l[k] = y := ⟨_, rfl⟩
      rw [hy] at hstep hwk d0 d1 d2 d4 hatt hkids hnm htx hki2 hsp
      obtain ⟨kd, sp, nm, at', tx, ks⟩ := y
      simp only at hwk d0 d1 d2 d4 hnm htx hki2 hsp
      have hatl := attrs_len_le at'
      have hfit : Fits at' := fun a ha => by
        have hm := attrsWt_mem ha
        have hm2 : attrsWt at' ≤ 100000 := by
          have := hwk
          omega
        omega
      have hlow : ∀ g, (Value.slice Av (L k).length cv).ownBlock = some g → g < wr.heap.size := fun g hg => by
        obtain ⟨css, _, _, h3, _⟩ := hout
        exact (h3.lt g hg).2
      have HSt := Lib.hid hstep; have HTx := Lib.hid htxs; have HAt := Lib.hid hatt; have HKd := Lib.hid hkids; have HF := Lib.hid hfit; have HOut := Lib.hid hout; have HBs := Lib.hid hbs; have HBwr := Lib.hid hbwr; have HOn := Lib.hid hon; have HLow := Lib.hid hlow
      obtain ⟨wa, hwa⟩ : ∃ wa, wr.alloc (.cells #[.int .u8 kd, .int .u8 sp, .string nm, .slice Aa ma ca, .string tx, .slice Ak mk ck] 48) = wa := ⟨_, rfl⟩
      have hba : Below wr.heap.size wr wa := by rw [← hwa]; exact (Below.refl _ wr).alloc (Nat.le_refl _) _
      have hza : wr.heap.size + 1 ≤ wa.heap.size ∧ wa.heap.size ≤ wr.heap.size + 1 := by rw [← hwa]; simp
      have hna : wa.heap[wr.heap.size]? = some (.cells #[.int .u8 kd, .int .u8 sp, .string nm, .slice Aa ma ca, .string tx, .slice Ak mk ck] 48 (0, 0)) := by rw [← hwa]; exact heap_alloc_new _ _
      have na := fun i => cell_of_row wa wr.heap.size i _ _ _ hna
      obtain ⟨⟨pa0, pa1, pa2⟩, qa0, qa1, qa2, qa3, qa4⟩ := HBx.out wa _ (hon.trans (Only.of_below hba) hz)
      have HWA := Lib.hid hwa; have HBA := Lib.hid hba; have HNA := Lib.hid hna
      have HOut1 := Lib.hid (hout.later hba)
      clear hstep htxs hatt hkids hfit hout hbs hbwr hwa hba hna hon hlow
      by_cases hk2 : kd = 2
      · have z2 : ((kd : Int) == 2) = true := by rw [hk2]; rfl
        have z1 : ((kd : Int) != 1) = true := by rw [hk2]; rfl
        have HBl := Lib.hid (refblank_any tx wa (by omega))
        obtain ⟨bb, hbb⟩ : ∃ bb, blankB tx = bb := ⟨_, rfl⟩
        rw [hbb] at HBl
        cases bb with
        | true =>
          have hL := HSt.out.trans (stepG_text hg1 hk2 hbb)
          simp only at hL
          have HL := Lib.hid hL
          have HT := Lib.hid (reftext_any W.heap.size D (.slice Av (L k).length cv) (L k) tx false wa HOut1.out (by omega) (by omega) (by omega) (fun z hz => HTx.out z hz))
          clear hL hk2 hbb
          go_wp2_with fail
          rw [HWA.out]
          refine Calls.mono HBl.out ?_
          rintro e w1 ⟨rfl, rfl⟩
          go_wp2_with fail
          refine Calls.mono HT.out ?_
          rintro e w1 ⟨v1, rfl, ho1, hb1, hon1⟩
          obtain ⟨A1, c1, rfl⟩ := ho1.form
          have HN1 := Lib.hid ((hon1.1 wr.heap.size (by omega) (fun e => by have := HLow.out _ e; omega)).trans HNA.out)
          have n1 := fun i => cell_of_row w1 wr.heap.size i _ _ _ HN1.out
          have hon2 := (Only.of_below (v := .slice Av (L k).length cv) HBA.out).trans hon1 (by omega)
          obtain ⟨⟨pb0, pb1, pb2⟩, _⟩ := HBx.out w1 _ (HOn.out.trans hon2 hz)
          have hb01 : Below w0.heap.size w0 w1 := (below_on HBwr.out HBA.out).trans (hb1.mono (by omega))
          have hs1 := hb1.size
          have HB1 := Lib.hid ((HBA.out.mono (by omega)).trans hb1)
          have HO1 := Lib.hid ho1; have HON := Lib.hid hon2; have HB01 := Lib.hid hb01
          clear ho1 hb1 hon1 hon2 hb01 na
          go_wp2_with fail
          refine Calls.mono (HHs.out _ HB01.out nm) ?_
          rintro e w2 ⟨rfl, hb2⟩
          have n2 := fun i => cell_of_row w2 wr.heap.size i _ _ _ ((hb2.block _ (by omega)).trans HN1.out)
          have HB2 := Lib.hid hb2
          clear hb2 n1
          go_wp2_with fail
          go_quiet (fail)
          go_wp2
          go_roundw
          case rel => exact row_to hlt hz HBs.out HOn.out HO1.out HB1.out HON.out (below_drewN HB2.out _) HL.out
          case measure => simp [intOf]; omega
        | false =>
          have HL := Lib.hid (HSt.out.trans (stepG_other hg1 hk2 hbb))
          clear hk2 hbb
          go_wp2_with fail
          rw [HWA.out]
          refine Calls.mono HBl.out ?_
          rintro e w1 ⟨rfl, rfl⟩
          go_wp2_with fail
          refine Calls.mono (HHs.out _ (below_on HBwr.out HBA.out) nm) ?_
          rintro e w2 ⟨rfl, hb2⟩
          have n2 := fun i => cell_of_row w2 wr.heap.size i _ _ _ ((hb2.block _ (by omega)).trans HNA.out)
          have HB2 := Lib.hid hb2
          clear hb2 na
          go_wp2_with fail
          go_quiet (fail)
          go_wp2
          go_roundw
          case rel => exact row_to hlt hz HBs.out HOn.out HOut1.out (HBA.out.mono hz) (Only.of_below HBA.out) (below_drewN HB2.out _) HL.out
          case measure => simp [intOf]; omega
      · have z2 : ((kd : Int) == 2) = false := by simp; omega
        obtain ⟨eb, heb⟩ : ∃ eb, hasS E nm = eb := ⟨_, rfl⟩
        have HHn := Lib.hid (HHs.out wa (below_on HBwr.out HBA.out) nm)
        rw [heb] at HHn
        go_upto_region 8 with fail
        rw [HWA.out]
        go_wp2_with fail
        refine Calls.mono HHn.out ?_
        rintro e w2 ⟨rfl, hb2⟩
        have n2 := fun i => cell_of_row w2 wr.heap.size i _ _ _ ((hb2.block _ (by omega)).trans HNA.out)
        have HB2 := Lib.hid hb2
        clear hb2 na
        by_cases hk1 : kd = 1
        · have z1 : ((kd : Int) != 1) = false := by rw [hk1]; rfl
          by_cases hs0 : sp = 0
          · have z0 : ((sp : Int) != 0) = false := by rw [hs0]; rfl
            cases eb with
            | false =>
              have HL := Lib.hid (HSt.out.trans (stepG_gone hg1 hk2 (.inr (.inr (.inr heb)))))
              clear hk1 hk2 hs0 heb
              go_wp2_with fail
              go_quiet (fail)
              go_wp2
              go_roundw
              case rel => exact row_to hlt hz HBs.out HOn.out HOut1.out (HBA.out.mono hz) (Only.of_below HBA.out) (below_drewN HB2.out _) HL.out
              case measure => simp [intOf]; omega
            | true =>
              obtain ⟨gb, hgb⟩ : ∃ gb, hasS (rowL g) nm = gb := ⟨_, rfl⟩
              have hbww2 : Below w.heap.size w w2 := HBW.out.trans ((HBs.out.trans ((below_on HBA.out HB2.out).mono hz)).mono (by omega))
              have nnc : w2.cell? ⟨nb, no, none⟩ = some (.slice An0 (rowL g).length cn0) := (hbww2.cell (p := ⟨nb, no, none⟩) hnb).trans HNc.out
              have HIn := Lib.hid fun (m : Nat) => (in20_any (rowL g) nm _ (w2.drewN m) (HSn.out.later (below_drewN hbww2 m)) (by have := HLl.out; omega)).mono fun e w' (h : RB (w2.drewN m) (hasS (rowL g) nm) e w') => (⟨h.1, h.2.symm⟩ : e = .returned (.bool (hasS (rowL g) nm)) ∧ w' = w2.drewN m)
              rw [hgb] at HIn
              have hgi : (0 : Int) < (g : Int) := by omega
              have hgn : 0 < g := by omega
              have HBww := Lib.hid hbww2
              clear hbww2
              cases gb with
              | false =>
                have HL := Lib.hid (HSt.out.trans (stepG_gone hg1 hk2 (.inr (.inr (.inl hgb)))))
                clear hk1 hk2 hs0 heb hgb
                go_wp2_with fail
                go_quiet ((go_at_call 96; exact Calls.quiet_of_same (HIn.out _)))
                go_wp2
                go_roundw
                case rel => exact row_to hlt hz HBs.out HOn.out HOut1.out (HBA.out.mono hz) (Only.of_below HBA.out) (below_drewN HB2.out _) HL.out
                case measure => simp [intOf]; omega
              | true =>
                have hL := HSt.out.trans (stepG_elem hg1 hk1 hs0 hgb heb)
                simp only at hL
                have HL := Lib.hid hL
                clear hL hk1 hk2 hs0 heb hgb
                go_wp2_with fail
                go_quiet ((go_at_call 96; exact Calls.quiet_of_same (HIn.out _)))
                obtain ⟨w3, hw3⟩ : ∃ w3, w2.drewN nq = w3 := ⟨_, rfl⟩
                have HB3 := Lib.hid (show Below wa.heap.size wa w3 by rw [← hw3]; exact below_drewN HB2.out _)
                go_wp2_with fail
                rw [hw3]
                clear hw3 n2 nnc
                have hz3 := HB3.out.size
                have hsA : ∀ w' : World, Below w3.heap.size w3 w' → (w'.cell? ⟨w.heap.size, 0, none⟩ = some vE ∧ w'.cell? ⟨w.heap.size, 1, none⟩ = some vA ∧ w'.cell? ⟨w.heap.size, 2, none⟩ = some vS ∧ w'.cell? ⟨wr.heap.size, 0, none⟩ = some (.int .u8 kd) ∧ w'.cell? ⟨wr.heap.size, 1, none⟩ = some (.int .u8 sp) ∧ w'.cell? ⟨wr.heap.size, 2, none⟩ = some (.string nm) ∧ w'.cell? ⟨wr.heap.size, 3, none⟩ = some (.slice Aa ma ca) ∧ w'.cell? ⟨wr.heap.size, 4, none⟩ = some (.string tx) ∧ w'.cell? ⟨wr.heap.size, 5, none⟩ = some (.slice Ak mk ck) ∧ Below w3.heap.size w3 w') := fun w' hb' => by
                  have hw := below_on HB3.out hb'
                  have q2 := fun i => cell_of_row w' wr.heap.size i _ _ _ ((hw.block _ (by omega)).trans HNA.out)
                  obtain ⟨⟨pb0, pb1, pb2⟩, _⟩ := HBx.out w' _ (HOn.out.trans (Only.of_below (below_on HBA.out hw)) hz)
                  exact ⟨pb0, pb1, pb2, q2 0, q2 1, q2 2, q2 3, q2 4, q2 5, hb'⟩
                have HCa := Lib.hid hsA
                have HSa := Lib.hid (hsA w3 (Below.refl _ _))
                have HAtt := Lib.hid fun (w' : World) (hb' : Below w3.heap.size w3 w') => refattrs_any vE vA vS E A S kd sp nm tx (.slice Aa ma ca) (.slice Ak mk ck) at' S0 w' (HP.out.later (below_on HBwr.out (below_on HBA.out (below_on HB3.out hb')))) (HAt.out.keep fun j hj => (below_on HBwr.out (below_on HBA.out (below_on HB3.out hb'))).block j (HS.out j hj)) (fun j hj => by have := HS.out j hj; have := HBwr.out.size; have := hb'.size; omega) HF.out (by omega) ⟨_, _, _, rfl⟩
                have hb03 := below_on HBwr.out (below_on HBA.out HB3.out)
                have HB03 := Lib.hid hb03
                clear hsA hb03
                go_upto_region 10 with fail
                go_cut [13] from 61 to 66 (fun v13 wx => ElemB w3 nm (bareA E A S nm at') v13 wx)
                case first =>
                  refine wp_region_held_drew (S := (fun w' => w'.cell? ⟨w.heap.size, 0, none⟩ = some vE ∧ w'.cell? ⟨w.heap.size, 1, none⟩ = some vA ∧ w'.cell? ⟨w.heap.size, 2, none⟩ = some vS ∧ w'.cell? ⟨wr.heap.size, 0, none⟩ = some (.int .u8 kd) ∧ w'.cell? ⟨wr.heap.size, 1, none⟩ = some (.int .u8 sp) ∧ w'.cell? ⟨wr.heap.size, 2, none⟩ = some (.string nm) ∧ w'.cell? ⟨wr.heap.size, 3, none⟩ = some (.slice Aa ma ca) ∧ w'.cell? ⟨wr.heap.size, 4, none⟩ = some (.string tx) ∧ w'.cell? ⟨wr.heap.size, 5, none⟩ = some (.slice Ak mk ck) ∧ Below w3.heap.size w3 w')) (by kernel_rfl) ?_ (fun hHeld => ?_)
                  · exact HCa.out _ (Below.drew (Below.refl _ _))
                  refine held_take (i := 0) (v := ?_) rfl (by kernel_rfl) (by kernel_rfl) (by kernel_rfl) (fun _ _ _ h => h) (by rfl) ?_ (by assumption) ?_
                  rotate_left
                  · (intro w hSw; (try dsimp only at hSw); go_simp; (try with_reducible rfl))
                  try simp only [Act.put, List.setIfInBounds_toArray, List.set_cons_zero, List.set_cons_succ]
                  refine held_take (i := 1) (v := ?_) rfl (by kernel_rfl) (by kernel_rfl) (by kernel_rfl) (fun _ _ _ h => h) (by rfl) ?_ (by assumption) ?_
                  rotate_left
                  · (intro w hSw; (try dsimp only at hSw); go_simp; (try with_reducible rfl))
                  try simp only [Act.put, List.setIfInBounds_toArray, List.set_cons_zero, List.set_cons_succ]
                  refine held_take (i := 2) (v := ?_) rfl (by kernel_rfl) (by kernel_rfl) (by kernel_rfl) (fun _ _ _ h => h) (by rfl) ?_ (by assumption) ?_
                  rotate_left
                  · (intro w hSw; (try dsimp only at hSw); go_simp; (try with_reducible rfl))
                  try simp only [Act.put, List.setIfInBounds_toArray, List.set_cons_zero, List.set_cons_succ]
                  refine held_take (i := 3) (v := ?_) rfl (by kernel_rfl) (by kernel_rfl) (by kernel_rfl) (fun _ _ _ h => h) (by rfl) ?_ (by assumption) ?_
                  rotate_left
                  · (intro w hSw; (try dsimp only at hSw); go_simp; (try with_reducible rfl))
                  try simp only [Act.put, List.setIfInBounds_toArray, List.set_cons_zero, List.set_cons_succ]
                  refine wpAnyH_ready (rs := [4, 6]) (by kernel_rfl) (by simp) ?_
                  refine held_cons (i := 4) rfl (fun K hK => ?_) (held_cons (i := 6) rfl (fun K hK => ?_) AllReadyH.nil)
                  · go_simp
                    (go_at_call 69; (with_reducible refine Calls.mono (HAtt.out _ (Below.drew (Below.refl _ _))) ?_); rintro e w5 ⟨v1, rfl, ha5, b5⟩; obtain ⟨A1, m1, c1, rfl⟩ := ha5.shape)
                    have B5 := Lib.hid (below_on (Below.drew (Below.refl _ _)) b5)
                    have HA5 := Lib.hid ha5
                    have H5 := Lib.hid b5
                    clear ha5 b5
                    go_wp2_with fail
                    refine hK.out _ _ ?_ (fun hHeld => ?_)
                    · (try dsimp only)
                      exact HCa.out _ (B5.out)
                    clear hK K
                    try simp only [Act.put, List.setIfInBounds_toArray, List.set_cons_zero, List.set_cons_succ]
                    refine held_take (i := 5) (v := ?_) rfl (by kernel_rfl) (by kernel_rfl) (by kernel_rfl) (fun _ _ _ h => h) (by rfl) ?_ (by assumption) ?_
                    rotate_left
                    · (intro w hSw; (try dsimp only at hSw); go_simp; (try with_reducible rfl))
                    try simp only [Act.put, List.setIfInBounds_toArray, List.set_cons_zero, List.set_cons_succ]
                    refine wpAnyH_ready (rs := [6]) (by kernel_rfl) (by simp) ?_
                    refine held_cons (i := 6) rfl (fun K hK => ?_) AllReadyH.nil
                    go_simp
                    refine hK.out _ _ ?_ (fun hHeld => ?_)
                    · (try dsimp only)
                      exact HCa.out _ (below_alloc B5.out _)
                    clear hK K
                    try simp only [Act.put, List.setIfInBounds_toArray, List.set_cons_zero, List.set_cons_succ]
                    refine wpAnyH_ready (rs := [7]) (by kernel_rfl) (by simp) ?_
                    refine held_cons (i := 7) rfl (fun K hK => ?_) AllReadyH.nil
                    go_simp
                    refine hK.out _ _ ?_ (fun hHeld => ?_)
                    · (try dsimp only)
                      exact HCa.out _ (below_alloc B5.out _)
                    clear hK K
                    try simp only [Act.put, List.setIfInBounds_toArray, List.set_cons_zero, List.set_cons_succ]
                    refine wpAnyH_done (by kernel_rfl) ?_ _
                    go_wp2_with fail
                    go_meet
                    exact elem_first (wc := w3.drew) rfl (Below.drew (Below.refl _ _)) HA5.out H5.out rfl (Below.refl _ _) rfl (by simp)
                  · go_simp
                    refine hK.out _ _ ?_ (fun hHeld => ?_)
                    · (try dsimp only)
                      exact HCa.out _ (Below.drew (below_alloc (Below.refl _ _) _))
                    clear hK K
                    try simp only [Act.put, List.setIfInBounds_toArray, List.set_cons_zero, List.set_cons_succ]
                    refine wpAnyH_ready (rs := [4]) (by kernel_rfl) (by simp) ?_
                    refine held_cons (i := 4) rfl (fun K hK => ?_) AllReadyH.nil
                    go_simp
                    (go_at_call 69; (with_reducible refine Calls.mono (HAtt.out _ (Below.drew (below_alloc (Below.refl _ _) _))) ?_); rintro e w5 ⟨v1, rfl, ha5, b5⟩; obtain ⟨A1, m1, c1, rfl⟩ := ha5.shape)
                    have B5 := Lib.hid (below_on (Below.drew (below_alloc (Below.refl _ _) _)) b5)
                    have HA5 := Lib.hid ha5
                    have H5 := Lib.hid b5
                    have hx5 : w5.heap[w3.heap.size]? = some (.cells #[.int .u8 0, .int .u8 0, .string ⟨#[]⟩, .slice none 0 0, .string ⟨#[]⟩, .slice none 0 0] 48 (0, 0)) := (b5.block _ (by simp)).trans (heap_dr (heap_nw rfl))
                    have x5 := (fun i => cell_of_row w5 w3.heap.size i _ _ _ hx5)
                    have fx5 : ∀ i, w5.frozen? ⟨w3.heap.size, i, none⟩ = false := (fun i => by simp [World.frozen?, hx5])
                    clear hx5
                    clear ha5 b5
                    go_wp2_with fail
                    refine hK.out _ _ ?_ (fun hHeld => ?_)
                    · (try dsimp only)
                      exact HCa.out _ (B5.out)
                    clear hK K
                    try simp only [Act.put, List.setIfInBounds_toArray, List.set_cons_zero, List.set_cons_succ]
                    refine held_take (i := 5) (v := ?_) rfl (by kernel_rfl) (by kernel_rfl) (by kernel_rfl) (fun _ _ _ h => h) (by rfl) ?_ (by assumption) ?_
                    rotate_left
                    · (intro w hSw; (try dsimp only at hSw); go_simp; (try with_reducible rfl))
                    try simp only [Act.put, List.setIfInBounds_toArray, List.set_cons_zero, List.set_cons_succ]
                    refine wpAnyH_ready (rs := [7]) (by kernel_rfl) (by simp) ?_
                    refine held_cons (i := 7) rfl (fun K hK => ?_) AllReadyH.nil
                    go_simp
                    refine hK.out _ _ ?_ (fun hHeld => ?_)
                    · (try dsimp only)
                      exact HCa.out _ (six_below B5.out (Nat.le_refl _) _ _ _ _ _ _)
                    clear hK K
                    try simp only [Act.put, List.setIfInBounds_toArray, List.set_cons_zero, List.set_cons_succ]
                    refine wpAnyH_done (by kernel_rfl) ?_ _
                    go_wp2_with fail
                    go_meet
                    exact elem_later (n := w3.heap.size) rfl (by simp) (Below.drew (below_alloc (Below.refl _ _) _)) (heap_dr (heap_nw rfl)) HA5.out H5.out
                case rest =>
                  obtain ⟨wx, hwx⟩ : ∃ wx : World, wx = wc := ⟨_, rfl⟩
                  subst hwx
                  obtain ⟨yb, A1, m1, c1, rfl, hy3, hyx, hyc, hyA, hbx⟩ := hcut
                  have hsz3 := hbx.size
                  have HBX := Lib.hid (below_on HB3.out hbx); have HYC := Lib.hid hyc; have HYA := Lib.hid hyA; have H3X := Lib.hid hbx
                  have hsK : ∀ w' : World, Below w3.heap.size w3 w' → (w'.cell? ⟨w.heap.size, 0, none⟩ = some vE ∧ w'.cell? ⟨w.heap.size, 1, none⟩ = some vA ∧ w'.cell? ⟨w.heap.size, 2, none⟩ = some vS ∧ w'.cell? ⟨wr.heap.size, 5, none⟩ = some (.slice Ak mk ck) ∧ w'.cell? ⟨w.heap.size + 1, 0, none⟩ = some (.bool x.para) ∧ w'.cell? ⟨w.heap.size + 1, 1, none⟩ = some (.bool x.link) ∧ w'.cell? ⟨w.heap.size + 1, 2, none⟩ = some (.bool x.item) ∧ w'.cell? ⟨w.heap.size + 1, 3, none⟩ = some (.bool x.pair) ∧ w'.cell? ⟨w.heap.size + 1, 4, none⟩ = some (.bool x.head) ∧ w'.cell? ⟨wr.heap.size, 2, none⟩ = some (.string nm) ∧ Below w3.heap.size w3 w') := fun w' hb' => by
                    have hw := below_on HB3.out hb'
                    have q2 := fun i => cell_of_row w' wr.heap.size i _ _ _ ((hw.block _ (by omega)).trans HNA.out)
                    obtain ⟨⟨pb0, pb1, pb2⟩, qb0, qb1, qb2, qb3, qb4⟩ := HBx.out w' _ (HOn.out.trans (Only.of_below (below_on HBA.out hw)) hz)
                    exact ⟨pb0, pb1, pb2, q2 5, qb0, qb1, qb2, qb3, qb4, q2 2, hb'⟩
                  have HCk := Lib.hid hsK
                  have HSk := Lib.hid (hsK wx hbx)
                  clear hsK hyc hyA hbx HCa HSa HAtt
                  have HTb := Lib.hid (fun (w' : World) (hb : Below w3.heap.size w3 w') (h1g : 1 < g) => HGr.out D (g - 1) x vE vA vS (.slice Ak mk ck) (.slice (some ⟨nb, no + 1, none⟩) (g - 1) (cn - 1)) ks S0 w0 w' (by omega) (by omega) (by omega) HP.out HKd.out HS.out (below_on HB03.out hb) ((HNm.out.later (HBW.out.trans ((HBs.out.trans ((below_on HBA.out (below_on HB3.out hb)).mono hz)).mono (by omega)))).tail h1g) (by omega))
                  have HInn := Lib.hid (fun (w' : World) (hb : Below w3.heap.size w3 w') => ref_inner E A S n HI.out D (linkPl x.link) vE vA vS (.slice Ak mk ck) ks S0 w0 w' (by omega) HP.out HKd.out HS.out (below_on HB03.out hb) (by omega))
                  obtain ⟨kds, hkds⟩ : ∃ kds : List (NT D), (if 1 < g then kidsN E A S n D (g - 1) x ks else kidsN E A S n D 0 (linkPl x.link) ks) = kds := ⟨_, rfl⟩
                  have HKds := Lib.hid hkds
                  rw [hkds] at HL
                  obtain ⟨gt, hgt⟩ : ∃ gt : Bool, decide (1 < g) = gt := ⟨_, rfl⟩
                  have hgt2 : decide ((1 : Int) < (g : Int)) = gt := by
                    rw [← hgt]
                    exact decide_eq_decide.2 ⟨fun h => by omega, fun h => by omega⟩
                  have HGt := Lib.hid hgt
                  clear hkds hgt
                  obtain ⟨ya0, ya1, ya2, ya5, yp0, yp1, yp2, yp3, yp4, ynm, _⟩ := HSk.out
                  go_upto_if 69 with fail
                  go_cut [] (fun wz => ElemK D yb wx nm (.slice A1 m1 c1) kds wz)
                  case first =>
                    have hkz := HKds.out
                    unfold Pl.rv at HTb HInn
                    unfold linkPl at HInn
                    cases gt with
                    | true =>
                      have h1g : 1 < g := of_decide_eq_true HGt.out
                      rw [if_pos h1g] at hkz
                      have HKz := Lib.hid hkz
                      have g1 : (1 : Int) < (g : Int) := by omega
                      have g2 : (1 : Int) ≤ (g : Int) := by omega
                      have g3 : (g : Int) ≤ (cn : Int) := by omega
                      have hcn1 : ¬ cn = 1 := by omega
                      clear hkz
                      go_wp2_with fail
                      go_region_held3 (fun w' => w'.cell? ⟨w.heap.size, 0, none⟩ = some vE ∧ w'.cell? ⟨w.heap.size, 1, none⟩ = some vA ∧ w'.cell? ⟨w.heap.size, 2, none⟩ = some vS ∧ w'.cell? ⟨wr.heap.size, 5, none⟩ = some (.slice Ak mk ck) ∧ w'.cell? ⟨w.heap.size + 1, 0, none⟩ = some (.bool x.para) ∧ w'.cell? ⟨w.heap.size + 1, 1, none⟩ = some (.bool x.link) ∧ w'.cell? ⟨w.heap.size + 1, 2, none⟩ = some (.bool x.item) ∧ w'.cell? ⟨w.heap.size + 1, 3, none⟩ = some (.bool x.pair) ∧ w'.cell? ⟨w.heap.size + 1, 4, none⟩ = some (.bool x.head) ∧ w'.cell? ⟨wr.heap.size, 2, none⟩ = some (.string nm) ∧ Below w3.heap.size w3 w') (first | assumption | exact HSk.out | (with_reducible exact HCk.out _ (Below.drew H3X.out)) | (with_reducible exact HCk.out _ (Below.drew (s_elf (by assumption)))) | (with_reducible exact HCk.out _ (below_on (s_elf (by assumption)) (by assumption))) | (with_reducible exact HCk.out _ (Below.setCell (p := ⟨yb, 5, none⟩) (s_elf (by assumption)) hy3 _))) (first
                        | (go_at_call 70; (with_reducible refine Calls.mono (HTb.out _ (s_elf (by assumption)) h1g) ?_); rintro e w7 ⟨v2, rfl, hk7, b7⟩; obtain ⟨A2, m2, c2, rfl⟩ := hk7.shape; have hb7 : Below wx.heap.size wx w7 := below_on (Below.drew (Below.refl wx.heap.size wx)) b7; have hx7 := (hb7.block _ hyx).trans HYC.out; have x7 := (fun i => cell_of_row w7 yb i _ _ _ hx7); have fx7 : ∀ i, w7.frozen? ⟨yb, i, none⟩ = false := (fun i => by simp [World.frozen?, hx7]); have HB7 := Lib.hid hb7; have HK7 := Lib.hid hk7; clear hx7 hb7 hk7))
                      all_goals
                        go_wp2_with fail
                        go_meet
                        rw [← HKz.out]
                        exact elem_kids hyx HYC.out HB7.out HK7.out
                    | false =>
                      have h1g : ¬ 1 < g := of_decide_eq_false HGt.out
                      rw [if_neg h1g] at hkz
                      have HKz := Lib.hid hkz
                      have g1 : ¬ (1 : Int) < (g : Int) := by omega
                      clear hkz
                      go_wp2_with fail
                      refine Calls.mono (HInn.out _ H3X.out) ?_
                      rintro e w7 ⟨v2, rfl, hk7, b7⟩; obtain ⟨A2, m2, c2, rfl⟩ := hk7.shape; have hb7 : Below wx.heap.size wx w7 := below_on (Below.refl wx.heap.size wx) b7; have hx7 := (hb7.block _ hyx).trans HYC.out; have x7 := (fun i => cell_of_row w7 yb i _ _ _ hx7); have fx7 : ∀ i, w7.frozen? ⟨yb, i, none⟩ = false := (fun i => by simp [World.frozen?, hx7]); have HB7 := Lib.hid hb7; have HK7 := Lib.hid hk7; clear hx7 hb7 hk7
                      go_wp2
                      go_meet
                      rw [← HKz.out]
                      exact elem_kids hyx HYC.out HB7.out HK7.out
                  case rest =>
                    obtain ⟨wz, hwz⟩ : ∃ wz : World, wz = wc := ⟨_, rfl⟩
                    subst hwz
                    obtain ⟨A2, m2, c2, hzc, hzk, hzg⟩ := hcut
                    have hzs := hzg.size
                    have hba := HBA.out.size
                    have hoz : OutAt W.heap.size D wz (.slice Av (L k).length cv) (L k) := HOut1.out.keep (by omega) (fun j hj1 hj2 => (hzg.block j (by omega) (fun e => by have := Option.some.inj e; omega)).trans (HBX.out.block j hj2))
                    obtain ⟨css, b1, b2, h3, h4⟩ := hoz
                    have HNd := Lib.hid (elem_built (base := W.heap.size) (vO := .slice Av (L k).length cv) (fun g hg => by have := HLow.out g hg; omega) (by omega) HYA.out hzk hzg hsz3 (show nm.size ≤ 9223372036854775807 by omega))
                    have hbwz : Below wr.heap.size wr wz := (below_on HBA.out HBX.out).trans (grown_below hzg (by omega) (by omega))
                    have HBwz := Lib.hid hbwz
                    have HC1 := Lib.hid b1; have HC2 := Lib.hid b2; have H3 := Lib.hid h3; have H4 := Lib.hid h4
                    have HOw := Lib.hid (World.ownsRow.alloc h3 (.cells #[.int .u8 1, .int .u8 0, .string nm, .slice A1 m1 c1, .string ⟨#[]⟩, .slice A2 m2 c2] 48))
                    have HNw := Lib.hid fun i => cell_of_row (wz.alloc (.cells #[.int .u8 1, .int .u8 0, .string nm, .slice A1 m1 c1, .string ⟨#[]⟩, .slice A2 m2 c2] 48)) wz.heap.size i _ _ _ (heap_alloc_new wz _)
                    have yz := fun i => cell_of_row wz yb i _ _ _ hzc
                    have hbz2 : W.heap.size ≤ wz.heap.size := by omega
                    clear b1 b2 h3 h4 hzc hzk hzg hbwz
                    have HA1 := Lib.hid (show ∀ (j : Nat) (u : Value), ([.int .u8 1, .int .u8 0, .string nm, .slice A1 m1 c1, .string ⟨#[]⟩, .slice A2 m2 c2] : List Value)[j]? = some u → (wz.alloc (.cells #[.int .u8 1, .int .u8 0, .string nm, .slice A1 m1 c1, .string ⟨#[]⟩, .slice A2 m2 c2] 48)).cell? ((⟨wz.heap.size, 0, none⟩ : Addr).add j) = some u from fun j u hu => by rw [add_off, Nat.zero_add, HNw.out j]; simpa using hu)
                    have HA2 := Lib.hid (show ∀ u ∈ ([.int .u8 1, .int .u8 0, .string nm, .slice A1 m1 c1, .string ⟨#[]⟩, .slice A2 m2 c2] : List Value), u.oneCell' = true from fun u hu => by
                      simp at hu
                      rcases hu with rfl | rfl | rfl | rfl | rfl | rfl <;> rfl)
                    have ha3 : (L k).length + 1 ≤ maxLen := by unfold maxLen; omega
                    have ha4 : ((L k).length + 1) * 88 ≤ 140737488355328 := by omega
                    have ha5 : W.heap.size ≤ (wz.alloc (.cells #[.int .u8 1, .int .u8 0, .string nm, .slice A1 m1 c1, .string ⟨#[]⟩, .slice A2 m2 c2] 48)).heap.size := by rw [World.size_alloc]; omega
                    go_upto_region 14 with fail
                    go_wp2_with (at_builtin; refine wpList_append_own_at _ rfl _ _ 37 rfl (W.heap.size) 48 iN _ 6 88 Tryz.underlying37 hiN hzN0 hzN1 hzN2 rfl (by decide) _ (L k).length css.flatten rfl HOw.out ⟨wz.heap.size, 0, none⟩ 1 1 [.int .u8 1, .int .u8 0, .string nm, .slice A1 m1 c1, .string ⟨#[]⟩, .slice A2 m2 c2] rfl rfl HA1.out HA2.out ha3 ha4 ha5 ?_)
                    intro v5 w5 hown5 hgrow _ hob5
                    obtain ⟨g5, cap5, rfl⟩ := Joins.ownsRow_form hown5 (Nat.succ_pos _)
                    have hpush := ref_push (acc := L k) (ob := .cells #[.int .u8 1, .int .u8 0, .string nm, .slice A1 m1 c1, .string ⟨#[]⟩, .slice A2 m2 c2] 48) [.int .u8 1, .int .u8 0, .string nm, .slice A1 m1 c1, .string ⟨#[]⟩, .slice A2 m2 c2] ⟨1, 0, nm, bareA E A S nm at', ByteArray.empty, kds⟩ HC1.out HC2.out H3.out H4.out rfl HNd.out hbz2 (by simpa using hown5) (by simpa using hgrow) (by simpa using hob5)
                    have HPush := Lib.hid hpush
                    clear hown5 hgrow hob5 hpush
                    go_wp2
                    go_roundw
                    case rel => exact row_to hlt hz HBs.out HOn.out HPush.out.1 ((HBwz.out.mono hz).trans HPush.out.2.1) ((Only.of_below HBwz.out).trans HPush.out.2.2 HBwz.out.size) (Below.refl _ _) HL.out
                    case measure => simp [intOf]; omega
          · have z0 : ((sp : Int) != 0) = true := by simp; omega
            have HL := Lib.hid (HSt.out.trans (stepG_gone hg1 (by simp only; omega) (.inr (.inl (by simp only; omega)))))
            clear hk1 hk2 hs0
            go_wp2_with fail
            go_quiet (fail)
            go_wp2
            go_roundw
            case rel => exact row_to hlt hz HBs.out HOn.out HOut1.out (HBA.out.mono hz) (Only.of_below HBA.out) (below_drewN HB2.out _) HL.out
            case measure => simp [intOf]; omega
        · have z1 : ((kd : Int) != 1) = true := by simp; omega
          have HL := Lib.hid (HSt.out.trans (stepG_gone hg1 (by simp only; omega) (.inl (by simp only; omega))))
          clear hk1 hk2
          go_wp2_with fail
          go_quiet (fail)
          go_wp2
          go_roundw
          case rel => exact row_to hlt hz HBs.out HOn.out HOut1.out (HBA.out.mono hz) (Only.of_below HBA.out) (below_drewN HB2.out _) HL.out
          case measure => simp [intOf]; omega
    · obtain rfl : k = l.length := by omega
      have HO := Lib.hid hout
      have hlen : (L l.length).length ≤ wt (D + 1) (L l.length) := rowWt_len (K := List (NT D)) (wt D) (L l.length)
      have hle := HLend.out
      have hzs := hbs.size
      go_wp2
      go_ret
      exact ⟨_, rfl, NodesAt.mono (fun j hj => ⟨by omega, hj.2⟩) (D + 1) (HO.out.nodes (by omega)), HBW.out.trans (hbs.mono (by omega))⟩
end Go.Proofs.YtdkjenbncmedbaaGreatDoor
