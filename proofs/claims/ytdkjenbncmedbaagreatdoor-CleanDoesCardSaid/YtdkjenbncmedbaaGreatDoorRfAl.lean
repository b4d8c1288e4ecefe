/- The reference's all: one step. -/
import Derived.Test.YtdkjenbncmedbaaGreatDoorRfPt
namespace Go.Proofs.YtdkjenbncmedbaaGreatDoor
open Go.RowKit

set_option maxHeartbeats 40000000 in
set_option maxRecDepth 100000 in
theorem all_step (E : List ByteArray) (A : Prs) (S : List ByteArray) (n : Nat) (hI : RefAllC E A S n) (hGr : RefPartsC E A S n) : RefAllC E A S (n + 1) := by
  intro D base x vE vA vS v0 vl acc l S0 w0 w hn hp hv hS hb hb0s hbs0 ho hwt
  obtain ⟨iN, hiN, hzN0, hzN1, hzN2⟩ := info_parts infoN
  obtain ⟨Al, cl', rfl, _, hget⟩ := hv.get
  have hb0 := hb.size
  obtain ⟨A0, c0, rfl⟩ := ho.form
  have hv00 : ∀ g, (Value.slice A0 acc.length c0).ownBlock = some g → g < w.heap.size := fun g hg => by
    obtain ⟨css, _, _, h3, _⟩ := ho
    exact (h3.lt g hg).2
  have hv0 : (Value.slice A0 acc.length c0).ownBlock ≠ some w.heap.size ∧ (Value.slice A0 acc.length c0).ownBlock ≠ some (w.heap.size + 1) := ⟨fun e => by have := hv00 _ e; omega, fun e => by have := hv00 _ e; omega⟩
  obtain ⟨L, hLd⟩ : ∃ L : Nat → List (NodeD (List (NT D))), (fun k => cl E A S (n + 1) D 0 x (l.take k) acc) = L := ⟨_, rfl⟩
  have hLs : ∀ (k : Nat) (hk : k < l.length), L (k + 1) = stepC E A S n D 0 x (L k) l[k] := fun k hk => by rw [← hLd]; exact cl_take E A S n D 0 x l acc k hk
  have hLe : cl E A S (n + 1) D 0 x l acc = L l.length := by rw [← hLd]; show cl E A S (n + 1) D 0 x l acc = cl E A S (n + 1) D 0 x (l.take l.length) acc; rw [List.take_length]
  have hL0 : L 0 = acc := by rw [← hLd]; exact cl_nil E A S (n + 1) D 0 x acc
  have hLw : ∀ k, k < l.length → wt (D + 1) (L k) + wt (n + 1) (l.take (k + 1)) ≤ 100000 + wt (n + 1) (l.take k) := fun k hk => by
    have e1 := cl_wt E A S (n + 1) D 0 x (l.take k) acc
    have e2 := wt_take_le n l (k + 1)
    have e3 : L k = cl E A S (n + 1) D 0 x (l.take k) acc := by rw [← hLd]
    have e4 : wt (D + 1) ([] : List (NT (D + 1))) = 0 := rfl
    rw [e3]
    omega
  rw [hLe]
  obtain ⟨W, hW⟩ : ∃ W, (w.alloc (.cells #[vE, vA, vS] 25)).alloc (.cells #[.bool x.para, .bool x.link, .bool x.item, .bool x.pair, .bool x.head] 73) = W := ⟨_, rfl⟩
  have hbW : Below w.heap.size w W := by rw [← hW]; exact two_below _ _ _
  have hzW : w.heap.size + 1 + 1 ≤ W.heap.size ∧ W.heap.size ≤ w.heap.size + 1 + 1 := by rw [← hW]; simp
  have hn0 : W.heap[w.heap.size]? = some (.cells #[vE, vA, vS] 25 (0, 0)) := by rw [← hW, Below.heap_alloc _ _ _ (by simp)]; exact heap_alloc_new _ _
  have hn1 : W.heap[w.heap.size + 1]? = some (.cells #[.bool x.para, .bool x.link, .bool x.item, .bool x.pair, .bool x.head] 73 (0, 0)) := by rw [← hW]; exact two_new _ _ _ _
  have hpol := hp.elems
  have HHs := Lib.hid fun (w' : World) (hb' : Below w0.heap.size w0 w') (nm : ByteArray) => refhas_any vE vA vS E nm w' (hpol.later hb') hp.lE
  have HBx := Lib.hid fun (w' : World) (v' : Value) (h : Only (.slice A0 acc.length c0) v' W w') => (show (w'.cell? ⟨w.heap.size, 0, none⟩ = some vE ∧ w'.cell? ⟨w.heap.size, 1, none⟩ = some vA ∧ w'.cell? ⟨w.heap.size, 2, none⟩ = some vS) ∧ (w'.cell? ⟨w.heap.size + 1, 0, none⟩ = some (.bool x.para) ∧ w'.cell? ⟨w.heap.size + 1, 1, none⟩ = some (.bool x.link) ∧ w'.cell? ⟨w.heap.size + 1, 2, none⟩ = some (.bool x.item) ∧ w'.cell? ⟨w.heap.size + 1, 3, none⟩ = some (.bool x.pair) ∧ w'.cell? ⟨w.heap.size + 1, 4, none⟩ = some (.bool x.head)) from by
    have q := fun i => cell_of_row w' w.heap.size i _ _ _ ((h.1 _ (by omega) hv0.1).trans hn0)
    have r := fun i => cell_of_row w' (w.heap.size + 1) i _ _ _ ((h.1 _ (by omega) hv0.2).trans hn1)
    exact ⟨⟨q 0, q 1, q 2⟩, r 0, r 1, r 2, r 3, r 4⟩)
  have HSh := Lib.hid hp.shapes; have HPl := Lib.hid hpol
  have HLs := Lib.hid hLs; have HLw := Lib.hid hLw
  have HG := Lib.hid hget; have HS := Lib.hid hS; have HP := Lib.hid hp; have HB := Lib.hid (below_on hb hbW); have HI := Lib.hid hI; have HGr := Lib.hid hGr; have HW := Lib.hid hW; have HBW := Lib.hid hbW
  have H0 := Lib.hid (show RowW base D (.slice A0 acc.length c0) L l.length W (.slice A0 acc.length c0) (.int .i64 (0 : Nat)) W from ⟨0, _, rfl, rfl, Nat.zero_le _, by rw [hL0]; exact ho.later hbW, Below.refl _ _, Only.of_below (Below.refl _ _)⟩)
  clear hLd hLs hLe hL0 hLw hget hS hp hb hI hGr hv hwt hW hbW hpol hn0 hn1 hv0 hv00 ho
  unfold Pl.rv
  go_enter Tryz.func44, Tryz.ntmps44
  go_wp2_with fail
  rw [HW.out]
  go_loopw [0, 11] (fun v i wr => RowW base D (.slice A0 acc.length c0) L l.length W v i wr) (fun _ i _ => l.length - (intOf i).toNat)
  case atStart => exact H0.out
  case round =>
    obtain ⟨k, vO, hvv, rfl, hk, hout, hbs, hon⟩ := hrel
    subst hvv
    clear H0
    obtain ⟨Av, cv, rfl⟩ := hout.form
    by_cases hlt : k < l.length
    · have hki : (k : Int) < (l.length : Int) := by omega
      obtain ⟨ad, va, vk, hA, hatt, hkids, hnm, htx, hki2, hsp, hbl, c0, c1, c2, c3, c4, c5⟩ := HG.out k hlt
      subst hA
      have hz := hbs.size
      have hzb := HB.out.size
      have hbw0 := HS.out _ hbl
      have hbwr : Below w0.heap.size w0 wr := HB.out.trans (hbs.mono (by omega))
      have q : ∀ (j : Nat), wr.cell? ⟨(ad.add (k * 6)).block, j, none⟩ = w0.cell? ⟨(ad.add (k * 6)).block, j, none⟩ := fun j => hbwr.cell (by rw [block_of_add]; exact hbw0)
      have d0 := (hbwr.cell (p := ad.add (k * 6)) (by rw [block_of_add]; exact hbw0)).trans c0
      have d1 := (q _).trans c1
      have d2 := (q _).trans c2
      have d3 := (q _).trans c3
      have d4 := (q _).trans c4
      have d5 := (q _).trans c5
      clear c0 c1 c2 c3 c4 c5 q
      obtain ⟨Aa, ma, ca, rfl⟩ := hatt.shape
      obtain ⟨Ak, mk, ck, rfl⟩ := hkids.shape
      have hstep := HLs.out k hlt
      have hwk := HLw.out k hlt
      rw [wt_take n l k hlt] at hwk
      have hlen : (L k).length ≤ wt (D + 1) (L k) := rowWt_len (K := List (NT D)) (wt D) (L k)
      have htxs : ∀ z ∈ L k, (NodeD.text z).size ≤ 1000000 := fun z hz => by
        have h8 : 1 + z.text.size / 8 + z.name.size / 8 ≤ wt (D + 1) (L k) := rowWt_mem (K := List (NT D)) (wt D) hz
        omega
      obtain ⟨y, hy⟩ : ∃ y : NodeD (List (NT n)), l[k] = y := ⟨_, rfl⟩
      rw [hy] at hstep hwk d0 d1 d2 d4 hatt hkids hnm htx hki2 hsp
      obtain ⟨kd, sp, nm, at', tx, ks⟩ := y
      simp only at hwk d0 d1 d2 d4 hnm htx hki2 hsp
      have hatl := attrs_len_le at'
      have hfit : Fits at' := fun a ha => by
        have hm := attrsWt_mem ha
        have hm2 : attrsWt at' ≤ 100000 := by
          have := hwk
          omega
        omega
      have hlow : ∀ g, (Value.slice Av (L k).length cv).ownBlock = some g → g < wr.heap.size := fun g hg => by
        obtain ⟨css, _, _, h3, _⟩ := hout
        exact (h3.lt g hg).2
      have HSt := Lib.hid hstep; have HTx := Lib.hid htxs; have HAt := Lib.hid hatt; have HKd := Lib.hid hkids; have HF := Lib.hid hfit; have HOut := Lib.hid hout; have HBs := Lib.hid hbs; have HBwr := Lib.hid hbwr; have HOn := Lib.hid hon; have HLow := Lib.hid hlow
      obtain ⟨wa, hwa⟩ : ∃ wa, wr.alloc (.cells #[.int .u8 kd, .int .u8 sp, .string nm, .slice Aa ma ca, .string tx, .slice Ak mk ck] 48) = wa := ⟨_, rfl⟩
      have hba : Below wr.heap.size wr wa := by rw [← hwa]; exact (Below.refl _ wr).alloc (Nat.le_refl _) _
      have hza : wr.heap.size + 1 ≤ wa.heap.size ∧ wa.heap.size ≤ wr.heap.size + 1 := by rw [← hwa]; simp
      have hna : wa.heap[wr.heap.size]? = some (.cells #[.int .u8 kd, .int .u8 sp, .string nm, .slice Aa ma ca, .string tx, .slice Ak mk ck] 48 (0, 0)) := by rw [← hwa]; exact heap_alloc_new _ _
      have na := fun i => cell_of_row wa wr.heap.size i _ _ _ hna
      obtain ⟨⟨pa0, pa1, pa2⟩, qa0, qa1, qa2, qa3, qa4⟩ := HBx.out wa _ (hon.trans (Only.of_below hba) hz)
      have HWA := Lib.hid hwa; have HBA := Lib.hid hba; have HNA := Lib.hid hna
      have HOut1 := Lib.hid (hout.later hba)
      clear hstep htxs hatt hkids hfit hout hbs hbwr hwa hba hna hon hlow
      have hbr : base ≤ wr.heap.size := by omega
      by_cases hk2 : kd = 2
      · have z2 : ((kd : Int) == 2) = true := by rw [hk2]; rfl
        have z1 : ((kd : Int) != 1) = true := by rw [hk2]; rfl
        have hL := HSt.out.trans (stepN_text hk2)
        simp only at hL
        have HL := Lib.hid hL
        have HT := Lib.hid (reftext_any base D (.slice Av (L k).length cv) (L k) tx x.pre wa HOut1.out (by omega) (by omega) (by omega) (fun z hz => HTx.out z hz))
        clear hL hk2
        go_wp2_with fail
        rw [HWA.out]
        refine Calls.mono HT.out ?_
        rintro e w1 ⟨v1, rfl, ho1, hb1, hon1⟩
        obtain ⟨A1, c1, rfl⟩ := ho1.form
        have n1 := fun i => cell_of_row w1 wr.heap.size i _ _ _ ((hon1.1 _ (by omega) (fun e => by have := HLow.out _ e; omega)).trans HNA.out)
        have HON := Lib.hid ((Only.of_below (v := .slice Av (L k).length cv) HBA.out).trans hon1 (by omega))
        have HB1 := Lib.hid ((HBA.out.mono hbr).trans hb1)
        have HO1 := Lib.hid ho1
        clear ho1 hb1 hon1 na
        go_wp2
        go_roundw
        case rel => exact row_to hlt hbr HBs.out HOn.out HO1.out HB1.out HON.out (Below.refl _ _) HL.out
        case measure => simp [intOf]; omega
      · have z2 : ((kd : Int) == 2) = false := by simp; omega
        by_cases hk1 : kd = 1
        · have z1 : ((kd : Int) != 1) = false := by rw [hk1]; rfl
          have HK1 := Lib.hid hk1
          clear hk1
          have HDr := Lib.hid (drops_any kd sp nm tx Aa Ak ma ca mk ck wa)
          obtain ⟨db, hdb⟩ : ∃ db, (!(sp == 0) || hasS goneL nm) = db := ⟨_, rfl⟩
          rw [hdb] at HDr
          go_wp2_with fail
          rw [HWA.out]
          refine Calls.mono HDr.out ?_
          rintro e w2 ⟨rfl, hb2⟩
          have HB2 := Lib.hid hb2
          clear hb2 na
          cases db with
          | true =>
            have HL := Lib.hid (HSt.out.trans (stepN_gone (by simp only; omega) (by
              rw [Bool.or_eq_true] at hdb
              rcases hdb with h | h
              · exact .inr (.inl (by simpa using h))
              · exact .inr (.inr h))))
            clear hk2 hdb
            go_wp2
            go_roundw
            case rel => exact row_to hlt hbr HBs.out HOn.out HOut1.out (HBA.out.mono hbr) (Only.of_below HBA.out) HB2.out HL.out
            case measure => simp [intOf]; omega
          | false =>
            rw [Bool.or_eq_false_iff] at hdb
            obtain ⟨hs0', hgb⟩ := hdb
            have HS0 := Lib.hid (show sp = 0 by simpa using hs0'); have HGb := Lib.hid hgb
            clear hs0' hgb
            have n2 := fun i => cell_of_row w2 wr.heap.size i _ _ _ ((HB2.out.block _ (by omega)).trans HNA.out)
            have hs2 := HB2.out.size
            obtain ⟨⟨pb0, pb1, pb2⟩, qb0, qb1, qb2, qb3, qb4⟩ := HBx.out w2 _ (HOn.out.trans (Only.of_below (below_on HBA.out HB2.out)) hz)
            have HMy := Lib.hid (refmay_any vE vA vS E kd sp nm tx Aa Ak ma ca mk ck x w2 (HPl.out.later (below_on HBwr.out (below_on HBA.out HB2.out))) HP.out.lE HSh.out)
            unfold Pl.rv at HMy
            obtain ⟨mb, hmb⟩ : ∃ mb, (hasS E nm && (knownB nm && x.takes nm)) = mb := ⟨_, rfl⟩
            rw [hmb] at HMy
            have HMb := Lib.hid hmb
            clear hmb
            have HPk := Lib.hid (show (⟨kd, sp, nm, at', tx, ks⟩ : NodeD (List (NT n))).kind = 1 from HK1.out)
            go_wp2_with fail
            refine Calls.mono HMy.out ?_
            rintro e w3 ⟨rfl, hb3⟩
            have HB3 := Lib.hid (below_on HB2.out hb3)
            have hs3 := hb3.size
            clear hb3 n2 pb0 pb1 pb2 qb0 qb1 qb2 qb3 qb4
            cases mb with
            | false =>
              have hL := HSt.out.trans (stepN_flat HPk.out HS0.out HGb.out HMb.out)
              simp only at hL
              have HL := Lib.hid hL
              have n3 := fun i => cell_of_row w3 wr.heap.size i _ _ _ ((HB3.out.block _ (by omega)).trans HNA.out)
              obtain ⟨⟨pb0, pb1, pb2⟩, qb0, qb1, qb2, qb3, qb4⟩ := HBx.out w3 _ (HOn.out.trans (Only.of_below (below_on HBA.out HB3.out)) hz)
              have HFl := Lib.hid (HI.out D base x vE vA vS (.slice Av (L k).length cv) (.slice Ak mk ck) (L k) ks S0 w0 w3 (by omega) HP.out HKd.out HS.out (below_on HBwr.out (below_on HBA.out HB3.out)) hb0s (by omega) (HOut1.out.later HB3.out) (by omega))
              unfold Pl.rv at HFl
              clear hL hk2
              go_wp2_with fail
              refine Calls.mono HFl.out ?_
              rintro e w4 ⟨v1, rfl, ho1, hb1, hon1⟩
              obtain ⟨A1, c1, rfl⟩ := ho1.form
              have HON := Lib.hid ((Only.of_below (v := .slice Av (L k).length cv) (below_on HBA.out HB3.out)).trans hon1 (by omega))
              have HB1 := Lib.hid (((below_on HBA.out HB3.out).mono hbr).trans hb1)
              have HO1 := Lib.hid ho1
              clear ho1 hb1 hon1
              go_wp2
              go_roundw
              case rel => exact row_to hlt hbr HBs.out HOn.out HO1.out HB1.out HON.out (Below.refl _ _) HL.out
              case measure => simp [intOf]; omega
            | true =>
              have hL := HSt.out.trans (stepN_elem HPk.out HS0.out HGb.out HMb.out)
              simp only at hL
              have HL := Lib.hid hL
              clear hL hk2
              have hz3 := HB3.out.size
              have hsA : ∀ w' : World, Below w3.heap.size w3 w' → (w'.cell? ⟨w.heap.size, 0, none⟩ = some vE ∧ w'.cell? ⟨w.heap.size, 1, none⟩ = some vA ∧ w'.cell? ⟨w.heap.size, 2, none⟩ = some vS ∧ w'.cell? ⟨wr.heap.size, 0, none⟩ = some (.int .u8 kd) ∧ w'.cell? ⟨wr.heap.size, 1, none⟩ = some (.int .u8 sp) ∧ w'.cell? ⟨wr.heap.size, 2, none⟩ = some (.string nm) ∧ w'.cell? ⟨wr.heap.size, 3, none⟩ = some (.slice Aa ma ca) ∧ w'.cell? ⟨wr.heap.size, 4, none⟩ = some (.string tx) ∧ w'.cell? ⟨wr.heap.size, 5, none⟩ = some (.slice Ak mk ck) ∧ Below w3.heap.size w3 w') := fun w' hb' => by
                have hw := below_on HB3.out hb'
                have q2 := fun i => cell_of_row w' wr.heap.size i _ _ _ ((hw.block _ (by omega)).trans HNA.out)
                obtain ⟨⟨pb0, pb1, pb2⟩, _⟩ := HBx.out w' _ (HOn.out.trans (Only.of_below (below_on HBA.out hw)) hz)
                exact ⟨pb0, pb1, pb2, q2 0, q2 1, q2 2, q2 3, q2 4, q2 5, hb'⟩
              have HCa := Lib.hid hsA
              have HSa := Lib.hid (hsA w3 (Below.refl _ _))
              have HAtt := Lib.hid fun (w' : World) (hb' : Below w3.heap.size w3 w') => refattrs_any vE vA vS E A S kd sp nm tx (.slice Aa ma ca) (.slice Ak mk ck) at' S0 w' (HP.out.later (below_on HBwr.out (below_on HBA.out (below_on HB3.out hb')))) (HAt.out.keep fun j hj => (below_on HBwr.out (below_on HBA.out (below_on HB3.out hb'))).block j (HS.out j hj)) (fun j hj => by have := HS.out j hj; have := HBwr.out.size; have := hb'.size; omega) HF.out (by omega) ⟨_, _, _, rfl⟩
              have hb03 := below_on HBwr.out (below_on HBA.out HB3.out)
              have HB03 := Lib.hid hb03
              clear hsA hb03
              go_upto_region 13 with fail
              go_cut [15] from 53 to 58 (fun v13 wx => ElemB w3 nm (bareA E A S nm at') v13 wx)
              case first =>
                refine wp_region_held_drew (S := (fun w' => w'.cell? ⟨w.heap.size, 0, none⟩ = some vE ∧ w'.cell? ⟨w.heap.size, 1, none⟩ = some vA ∧ w'.cell? ⟨w.heap.size, 2, none⟩ = some vS ∧ w'.cell? ⟨wr.heap.size, 0, none⟩ = some (.int .u8 kd) ∧ w'.cell? ⟨wr.heap.size, 1, none⟩ = some (.int .u8 sp) ∧ w'.cell? ⟨wr.heap.size, 2, none⟩ = some (.string nm) ∧ w'.cell? ⟨wr.heap.size, 3, none⟩ = some (.slice Aa ma ca) ∧ w'.cell? ⟨wr.heap.size, 4, none⟩ = some (.string tx) ∧ w'.cell? ⟨wr.heap.size, 5, none⟩ = some (.slice Ak mk ck) ∧ Below w3.heap.size w3 w')) (by kernel_rfl) ?_ (fun hHeld => ?_)
                · exact HCa.out _ (Below.drew (Below.refl _ _))
                refine held_take (i := 0) (v := ?_) rfl (by kernel_rfl) (by kernel_rfl) (by kernel_rfl) (fun _ _ _ h => h) (by rfl) ?_ (by assumption) ?_
                rotate_left
                · (intro w hSw; (try dsimp only at hSw); go_simp; (try with_reducible rfl))
                try simp only [Act.put, List.setIfInBounds_toArray, List.set_cons_zero, List.set_cons_succ]
                refine held_take (i := 1) (v := ?_) rfl (by kernel_rfl) (by kernel_rfl) (by kernel_rfl) (fun _ _ _ h => h) (by rfl) ?_ (by assumption) ?_
                rotate_left
                · (intro w hSw; (try dsimp only at hSw); go_simp; (try with_reducible rfl))
                try simp only [Act.put, List.setIfInBounds_toArray, List.set_cons_zero, List.set_cons_succ]
                refine held_take (i := 2) (v := ?_) rfl (by kernel_rfl) (by kernel_rfl) (by kernel_rfl) (fun _ _ _ h => h) (by rfl) ?_ (by assumption) ?_
                rotate_left
                · (intro w hSw; (try dsimp only at hSw); go_simp; (try with_reducible rfl))
                try simp only [Act.put, List.setIfInBounds_toArray, List.set_cons_zero, List.set_cons_succ]
                refine held_take (i := 3) (v := ?_) rfl (by kernel_rfl) (by kernel_rfl) (by kernel_rfl) (fun _ _ _ h => h) (by rfl) ?_ (by assumption) ?_
                rotate_left
                · (intro w hSw; (try dsimp only at hSw); go_simp; (try with_reducible rfl))
                try simp only [Act.put, List.setIfInBounds_toArray, List.set_cons_zero, List.set_cons_succ]
                refine wpAnyH_ready (rs := [4, 6]) (by kernel_rfl) (by simp) ?_
                refine held_cons (i := 4) rfl (fun K hK => ?_) (held_cons (i := 6) rfl (fun K hK => ?_) AllReadyH.nil)
                · go_simp
                  (go_at_call 69; (with_reducible refine Calls.mono (HAtt.out _ (Below.drew (Below.refl _ _))) ?_); rintro e w5 ⟨v1, rfl, ha5, b5⟩; obtain ⟨A1, m1, c1, rfl⟩ := ha5.shape)
                  have B5 := Lib.hid (below_on (Below.drew (Below.refl _ _)) b5)
                  have HA5 := Lib.hid ha5
                  have H5 := Lib.hid b5
                  clear ha5 b5
                  go_wp2_with fail
                  refine hK.out _ _ ?_ (fun hHeld => ?_)
                  · (try dsimp only)
                    exact HCa.out _ (B5.out)
                  clear hK K
                  try simp only [Act.put, List.setIfInBounds_toArray, List.set_cons_zero, List.set_cons_succ]
                  refine held_take (i := 5) (v := ?_) rfl (by kernel_rfl) (by kernel_rfl) (by kernel_rfl) (fun _ _ _ h => h) (by rfl) ?_ (by assumption) ?_
                  rotate_left
                  · (intro w hSw; (try dsimp only at hSw); go_simp; (try with_reducible rfl))
                  try simp only [Act.put, List.setIfInBounds_toArray, List.set_cons_zero, List.set_cons_succ]
                  refine wpAnyH_ready (rs := [6]) (by kernel_rfl) (by simp) ?_
                  refine held_cons (i := 6) rfl (fun K hK => ?_) AllReadyH.nil
                  go_simp
                  refine hK.out _ _ ?_ (fun hHeld => ?_)
                  · (try dsimp only)
                    exact HCa.out _ (below_alloc B5.out _)
                  clear hK K
                  try simp only [Act.put, List.setIfInBounds_toArray, List.set_cons_zero, List.set_cons_succ]
                  refine wpAnyH_ready (rs := [7]) (by kernel_rfl) (by simp) ?_
                  refine held_cons (i := 7) rfl (fun K hK => ?_) AllReadyH.nil
                  go_simp
                  refine hK.out _ _ ?_ (fun hHeld => ?_)
                  · (try dsimp only)
                    exact HCa.out _ (below_alloc B5.out _)
                  clear hK K
                  try simp only [Act.put, List.setIfInBounds_toArray, List.set_cons_zero, List.set_cons_succ]
                  refine wpAnyH_done (by kernel_rfl) ?_ _
                  go_wp2_with fail
                  go_meet
                  exact elem_first (wc := w3.drew) rfl (Below.drew (Below.refl _ _)) HA5.out H5.out rfl (Below.refl _ _) rfl (by simp)
                · go_simp
                  refine hK.out _ _ ?_ (fun hHeld => ?_)
                  · (try dsimp only)
                    exact HCa.out _ (Below.drew (below_alloc (Below.refl _ _) _))
                  clear hK K
                  try simp only [Act.put, List.setIfInBounds_toArray, List.set_cons_zero, List.set_cons_succ]
                  refine wpAnyH_ready (rs := [4]) (by kernel_rfl) (by simp) ?_
                  refine held_cons (i := 4) rfl (fun K hK => ?_) AllReadyH.nil
                  go_simp
                  (go_at_call 69; (with_reducible refine Calls.mono (HAtt.out _ (Below.drew (below_alloc (Below.refl _ _) _))) ?_); rintro e w5 ⟨v1, rfl, ha5, b5⟩; obtain ⟨A1, m1, c1, rfl⟩ := ha5.shape)
                  have B5 := Lib.hid (below_on (Below.drew (below_alloc (Below.refl _ _) _)) b5)
                  have HA5 := Lib.hid ha5
                  have H5 := Lib.hid b5
                  have hx5 : w5.heap[w3.heap.size]? = some (.cells #[.int .u8 0, .int .u8 0, .string ⟨#[]⟩, .slice none 0 0, .string ⟨#[]⟩, .slice none 0 0] 48 (0, 0)) := (b5.block _ (by simp)).trans (heap_dr (heap_nw rfl))
                  have x5 := (fun i => cell_of_row w5 w3.heap.size i _ _ _ hx5)
                  have fx5 : ∀ i, w5.frozen? ⟨w3.heap.size, i, none⟩ = false := (fun i => by simp [World.frozen?, hx5])
                  clear hx5
                  clear ha5 b5
                  go_wp2_with fail
                  refine hK.out _ _ ?_ (fun hHeld => ?_)
                  · (try dsimp only)
                    exact HCa.out _ (B5.out)
                  clear hK K
                  try simp only [Act.put, List.setIfInBounds_toArray, List.set_cons_zero, List.set_cons_succ]
                  refine held_take (i := 5) (v := ?_) rfl (by kernel_rfl) (by kernel_rfl) (by kernel_rfl) (fun _ _ _ h => h) (by rfl) ?_ (by assumption) ?_
                  rotate_left
                  · (intro w hSw; (try dsimp only at hSw); go_simp; (try with_reducible rfl))
                  try simp only [Act.put, List.setIfInBounds_toArray, List.set_cons_zero, List.set_cons_succ]
                  refine wpAnyH_ready (rs := [7]) (by kernel_rfl) (by simp) ?_
                  refine held_cons (i := 7) rfl (fun K hK => ?_) AllReadyH.nil
                  go_simp
                  refine hK.out _ _ ?_ (fun hHeld => ?_)
                  · (try dsimp only)
                    exact HCa.out _ (six_below B5.out (Nat.le_refl _) _ _ _ _ _ _)
                  clear hK K
                  try simp only [Act.put, List.setIfInBounds_toArray, List.set_cons_zero, List.set_cons_succ]
                  refine wpAnyH_done (by kernel_rfl) ?_ _
                  go_wp2_with fail
                  go_meet
                  exact elem_later (n := w3.heap.size) rfl (by simp) (Below.drew (below_alloc (Below.refl _ _) _)) (heap_dr (heap_nw rfl)) HA5.out H5.out
              case rest =>
                obtain ⟨wx, hwx⟩ : ∃ wx : World, wx = wc := ⟨_, rfl⟩
                subst hwx
                obtain ⟨yb, A1, m1, c1, rfl, hy3, hyx, hyc, hyA, hbx⟩ := hcut
                have hsz3 := hbx.size
                have HBX := Lib.hid (below_on HB3.out hbx); have HYC := Lib.hid hyc; have HYA := Lib.hid hyA; have H3X := Lib.hid hbx
                have hsK : ∀ w' : World, Below w3.heap.size w3 w' → (w'.cell? ⟨w.heap.size, 0, none⟩ = some vE ∧ w'.cell? ⟨w.heap.size, 1, none⟩ = some vA ∧ w'.cell? ⟨w.heap.size, 2, none⟩ = some vS ∧ w'.cell? ⟨wr.heap.size, 5, none⟩ = some (.slice Ak mk ck) ∧ w'.cell? ⟨w.heap.size + 1, 0, none⟩ = some (.bool x.para) ∧ w'.cell? ⟨w.heap.size + 1, 1, none⟩ = some (.bool x.link) ∧ w'.cell? ⟨w.heap.size + 1, 2, none⟩ = some (.bool x.item) ∧ w'.cell? ⟨w.heap.size + 1, 3, none⟩ = some (.bool x.pair) ∧ w'.cell? ⟨w.heap.size + 1, 4, none⟩ = some (.bool x.head) ∧ w'.cell? ⟨wr.heap.size, 2, none⟩ = some (.string nm) ∧ Below w3.heap.size w3 w') := fun w' hb' => by
                  have hw := below_on HB3.out hb'
                  have q2 := fun i => cell_of_row w' wr.heap.size i _ _ _ ((hw.block _ (by omega)).trans HNA.out)
                  obtain ⟨⟨pb0, pb1, pb2⟩, qb0, qb1, qb2, qb3, qb4⟩ := HBx.out w' _ (HOn.out.trans (Only.of_below (below_on HBA.out hw)) hz)
                  exact ⟨pb0, pb1, pb2, q2 5, qb0, qb1, qb2, qb3, qb4, q2 2, hb'⟩
                have HCk := Lib.hid hsK
                have HSk := Lib.hid (hsK wx hbx)
                clear hsK hyc hyA hbx HCa HSa HAtt
                have HTb := Lib.hid (fun (w' : World) (hb : Below w3.heap.size w3 w') (vn : Value) (hn : NamesAt w' vn 3) => (show Calls Tryz.prog 70 #[.slice Ak mk ck, .agg #[vE, vA, vS], vn, .agg #[.bool x.para, .bool x.link, .bool x.item, .bool x.pair, .bool x.head]] w' (KidsR w' D (kidsN E A S n D 3 x ks)) from HGr.out D 3 x vE vA vS (.slice Ak mk ck) vn ks S0 w0 w' (by omega) (by omega) (by omega) HP.out HKd.out HS.out (below_on HB03.out hb) hn (by omega)))
                have HInn := Lib.hid (fun (w' : World) (hb : Below w3.heap.size w3 w') => ref_inner E A S n HI.out D (x.into nm) vE vA vS (.slice Ak mk ck) ks S0 w0 w' (by omega) HP.out HKd.out HS.out (below_on HB03.out hb) (by omega))
                have HWi := Lib.hid (fun (w' : World) => (show Calls Tryz.prog 71 #[.string nm, .agg #[.bool x.para, .bool x.link, .bool x.item, .bool x.pair, .bool x.head]] w' (fun e w'' => e = .returned (x.into nm).rv ∧ Below w'.heap.size w' w'') from within_any x nm w'))
                obtain ⟨pb, hpb⟩ : ∃ pb, isT nm ⟨#[112, 114, 101]⟩ = pb := ⟨_, rfl⟩
                rw [show (x.into nm).pre = pb from hpb] at HInn
                obtain ⟨q1, e1⟩ : ∃ q, isT nm ⟨#[98, 114]⟩ = q := ⟨_, rfl⟩
                obtain ⟨q2, e2⟩ : ∃ q, isT nm ⟨#[104, 114]⟩ = q := ⟨_, rfl⟩
                obtain ⟨q3, e3⟩ : ∃ q, isT nm ⟨#[105, 109, 103]⟩ = q := ⟨_, rfl⟩
                obtain ⟨q4, e4⟩ : ∃ q, isT nm ⟨#[116, 97, 98, 108, 101]⟩ = q := ⟨_, rfl⟩
                have hvd : hasS voidL nm = (q1 || (q2 || q3)) := by
                  rw [← e1, ← e2, ← e3]
                  unfold hasS voidL isT
                  simp [Bool.beq_comm]
                obtain ⟨kds, hkds⟩ : ∃ kds : List (NT D), (if hasS voidL nm then [] else if isT nm ⟨#[116, 97, 98, 108, 101]⟩ then kidsN E A S n D 3 x ks else kidsN E A S n D 0 (x.into nm) ks) = kds := ⟨_, rfl⟩
                rw [hkds] at HL
                rw [hvd, e4] at hkds
                have HKds := Lib.hid hkds
                have HT1 := Lib.hid (isT_tests e1); have HT2 := Lib.hid (isT_tests e2); have HT3 := Lib.hid (isT_tests e3); have HT4 := Lib.hid (isT_tests e4); have HT5 := Lib.hid (isT_tests hpb)
                clear hkds hvd e1 e2 e3 e4 hpb
                obtain ⟨ya0, ya1, ya2, ya5, yp0, yp1, yp2, yp3, yp4, ynm, _⟩ := HSk.out
                go_upto_region 14 with fail
                go_upto_block 2 with fail
                go_cut [] (fun wz => ElemK D yb wx nm (.slice A1 m1 c1) kds wz)
                case first =>
                  have hkz := HKds.out
                  obtain ⟨f1, g1⟩ := HT1.out
                  obtain ⟨f2, g2⟩ := HT2.out
                  obtain ⟨f3, g3⟩ := HT3.out
                  obtain ⟨f4, g4⟩ := HT4.out
                  cases q1 with
                  | true =>
                    have hkz : [] = kds := hkz
                    have HKz := Lib.hid hkz
                    have h1 := of_decide_eq_true g1
                    clear hkz g1 g2 g3 g4 f2 f3 f4
                    go_wp2
                    go_meet
                    rw [← HKz.out]
                    exact elem_none (Below.refl _ _) hyx HYC.out
                  | false =>
                    have h1 := of_decide_eq_false g1
                    cases q2 with
                    | true =>
                      have hkz : [] = kds := hkz
                      have HKz := Lib.hid hkz
                      have h2 := of_decide_eq_true g2
                      clear hkz g1 g2 g3 g4 f3 f4
                      go_wp2
                      go_meet
                      rw [← HKz.out]
                      exact elem_none (Below.refl _ _) hyx HYC.out
                    | false =>
                      have h2 := of_decide_eq_false g2
                      cases q3 with
                      | true =>
                        have hkz : [] = kds := hkz
                        have HKz := Lib.hid hkz
                        have h3 := of_decide_eq_true g3
                        clear hkz g1 g2 g3 g4 f4
                        go_wp2
                        go_meet
                        rw [← HKz.out]
                        exact elem_none (Below.refl _ _) hyx HYC.out
                      | false =>
                        have h3 := of_decide_eq_false g3
                        cases q4 with
                        | true =>
                          have hkz : kidsN E A S n D 3 x ks = kds := hkz
                          have HKz := Lib.hid hkz
                          have h4 := of_decide_eq_true g4
                          have hbn : Below w3.heap.size w3 ((((wx.alloc (.cells #[.string ⟨#[116, 98, 111, 100, 121]⟩, .string ⟨#[116, 102, 111, 111, 116]⟩, .string ⟨#[116, 104, 101, 97, 100]⟩] 9)).alloc (.cells #[.string ⟨#[116, 114]⟩] 9)).alloc (.cells #[.string ⟨#[116, 100]⟩, .string ⟨#[116, 104]⟩] 9)).alloc (.cells #[.slice (some ⟨wx.heap.size, 0, none⟩) 3 3, .slice (some ⟨wx.heap.size + 1, 0, none⟩) 1 1, .slice (some ⟨wx.heap.size + 1 + 1, 0, none⟩) 2 2] 22)) := below_alloc (below_alloc (below_alloc (below_alloc H3X.out _) _) _) _
                          have hbx4 : Below wx.heap.size wx ((((wx.alloc (.cells #[.string ⟨#[116, 98, 111, 100, 121]⟩, .string ⟨#[116, 102, 111, 111, 116]⟩, .string ⟨#[116, 104, 101, 97, 100]⟩] 9)).alloc (.cells #[.string ⟨#[116, 114]⟩] 9)).alloc (.cells #[.string ⟨#[116, 100]⟩, .string ⟨#[116, 104]⟩] 9)).alloc (.cells #[.slice (some ⟨wx.heap.size, 0, none⟩) 3 3, .slice (some ⟨wx.heap.size + 1, 0, none⟩) 1 1, .slice (some ⟨wx.heap.size + 1 + 1, 0, none⟩) 2 2] 22)) := below_alloc (below_alloc (below_alloc (below_alloc (Below.refl _ _) _) _) _) _
                          have HCl := Lib.hid (HTb.out _ hbn _ (names_made wx rfl rfl rfl rfl))
                          obtain ⟨_, _, _, _, yq0, yq1, yq2, yq3, yq4, _, _⟩ := HCk.out _ hbn
                          have HB4 := Lib.hid hbx4
                          clear hkz g1 g2 g3 g4 hbn hbx4
                          go_wp2_with fail
                          refine Calls.mono HCl.out ?_
                          rintro e w7 ⟨v2, rfl, hk7, b7⟩; obtain ⟨A2, m2, c2, rfl⟩ := hk7.shape; have hb7 : Below wx.heap.size wx w7 := below_on HB4.out b7; have hx7 := (hb7.block _ hyx).trans HYC.out; have x7 := (fun i => cell_of_row w7 yb i _ _ _ hx7); have fx7 : ∀ i, w7.frozen? ⟨yb, i, none⟩ = false := (fun i => by simp [World.frozen?, hx7]); have HB7 := Lib.hid hb7; have HK7 := Lib.hid hk7; clear hx7 hb7 hk7
                          go_wp2
                          go_meet
                          rw [← HKz.out]
                          exact elem_kids hyx HYC.out HB7.out (NodesAt.mono (fun j hj => ⟨by have := HB4.out.size; have := hj.1; omega, hj.2⟩) D HK7.out)
                        | false =>
                          have hkz : kidsN E A S n D 0 (x.into nm) ks = kds := hkz
                          have HKz := Lib.hid hkz
                          have h4 := of_decide_eq_false g4
                          obtain ⟨f5, g5⟩ := HT5.out
                          clear hkz g1 g2 g3 g4
                          go_wp2_with fail
                          go_region_held3 (fun w' => w'.cell? ⟨w.heap.size, 0, none⟩ = some vE ∧ w'.cell? ⟨w.heap.size, 1, none⟩ = some vA ∧ w'.cell? ⟨w.heap.size, 2, none⟩ = some vS ∧ w'.cell? ⟨wr.heap.size, 5, none⟩ = some (.slice Ak mk ck) ∧ w'.cell? ⟨w.heap.size + 1, 0, none⟩ = some (.bool x.para) ∧ w'.cell? ⟨w.heap.size + 1, 1, none⟩ = some (.bool x.link) ∧ w'.cell? ⟨w.heap.size + 1, 2, none⟩ = some (.bool x.item) ∧ w'.cell? ⟨w.heap.size + 1, 3, none⟩ = some (.bool x.pair) ∧ w'.cell? ⟨w.heap.size + 1, 4, none⟩ = some (.bool x.head) ∧ w'.cell? ⟨wr.heap.size, 2, none⟩ = some (.string nm) ∧ Below w3.heap.size w3 w') (first | assumption | exact HSk.out | (with_reducible exact HCk.out _ (Below.drew H3X.out)) | (with_reducible exact HCk.out _ (Below.drew (s_elf (by assumption)))) | (with_reducible exact HCk.out _ (below_on (s_elf (by assumption)) (by assumption))) | (with_reducible exact HCk.out _ (Below.setCell (p := ⟨yb, 5, none⟩) (s_elf (by assumption)) hy3 _))) (first
                            | (go_at_call 71; (with_reducible refine Calls.mono (HWi.out _) ?_); rintro e w6 ⟨rfl, b6⟩)
                            | (go_at_call 44; (with_reducible refine Calls.mono (HInn.out _ (s_elf (by assumption))) ?_); rintro e w7 ⟨v2, rfl, hk7, b7⟩; have H66 := Lib.hid (below_on (Below.drew (Below.refl wx.heap.size wx)) b6); obtain ⟨A2, m2, c2, rfl⟩ := hk7.shape; have hb7 : Below wx.heap.size wx w7 := below_on H66.out b7; have hx7 := (hb7.block _ hyx).trans HYC.out; have x7 := (fun i => cell_of_row w7 yb i _ _ _ hx7); have fx7 : ∀ i, w7.frozen? ⟨yb, i, none⟩ = false := (fun i => by simp [World.frozen?, hx7]); have HB7 := Lib.hid hb7; have HK7 := Lib.hid hk7; clear hx7 hb7 hk7))
                          all_goals
                            go_wp2_with fail
                            go_meet
                            rw [← HKz.out]
                            exact elem_kids hyx HYC.out HB7.out (NodesAt.mono (fun j hj => ⟨by have := H66.out.size; have := hj.1; omega, hj.2⟩) D HK7.out)
                case rest =>
                  obtain ⟨wz, hwz⟩ : ∃ wz : World, wz = wc := ⟨_, rfl⟩
                  subst hwz
                  obtain ⟨A2, m2, c2, hzc, hzk, hzg⟩ := hcut
                  have hzs := hzg.size
                  have hba := HBA.out.size
                  have hoz : OutAt base D wz (.slice Av (L k).length cv) (L k) := HOut1.out.keep (by omega) (fun j hj1 hj2 => (hzg.block j (by omega) (fun e => by have := Option.some.inj e; omega)).trans (HBX.out.block j hj2))
                  obtain ⟨css, b1, b2, h3, h4⟩ := hoz
                  have HNd := Lib.hid (elem_built (base := base) (vO := .slice Av (L k).length cv) (fun g hg => by have := HLow.out g hg; omega) (by omega) HYA.out hzk hzg hsz3 (show nm.size ≤ 9223372036854775807 by omega))
                  have hbwz : Below wr.heap.size wr wz := (below_on HBA.out HBX.out).trans (grown_below hzg (by omega) (by omega))
                  have HBwz := Lib.hid hbwz
                  have HC1 := Lib.hid b1; have HC2 := Lib.hid b2; have H3 := Lib.hid h3; have H4 := Lib.hid h4
                  have HOw := Lib.hid (World.ownsRow.alloc h3 (.cells #[.int .u8 1, .int .u8 0, .string nm, .slice A1 m1 c1, .string ⟨#[]⟩, .slice A2 m2 c2] 48))
                  have HNw := Lib.hid fun i => cell_of_row (wz.alloc (.cells #[.int .u8 1, .int .u8 0, .string nm, .slice A1 m1 c1, .string ⟨#[]⟩, .slice A2 m2 c2] 48)) wz.heap.size i _ _ _ (heap_alloc_new wz _)
                  have yz := fun i => cell_of_row wz yb i _ _ _ hzc
                  have hbz2 : base ≤ wz.heap.size := by omega
                  clear b1 b2 h3 h4 hzc hzk hzg hbwz
                  have HA1 := Lib.hid (show ∀ (j : Nat) (u : Value), ([.int .u8 1, .int .u8 0, .string nm, .slice A1 m1 c1, .string ⟨#[]⟩, .slice A2 m2 c2] : List Value)[j]? = some u → (wz.alloc (.cells #[.int .u8 1, .int .u8 0, .string nm, .slice A1 m1 c1, .string ⟨#[]⟩, .slice A2 m2 c2] 48)).cell? ((⟨wz.heap.size, 0, none⟩ : Addr).add j) = some u from fun j u hu => by rw [add_off, Nat.zero_add, HNw.out j]; simpa using hu)
                  have HA2 := Lib.hid (show ∀ u ∈ ([.int .u8 1, .int .u8 0, .string nm, .slice A1 m1 c1, .string ⟨#[]⟩, .slice A2 m2 c2] : List Value), u.oneCell' = true from fun u hu => by
                    simp at hu
                    rcases hu with rfl | rfl | rfl | rfl | rfl | rfl <;> rfl)
                  have ha3 : (L k).length + 1 ≤ maxLen := by unfold maxLen; omega
                  have ha4 : ((L k).length + 1) * 88 ≤ 140737488355328 := by omega
                  have ha5 : base ≤ (wz.alloc (.cells #[.int .u8 1, .int .u8 0, .string nm, .slice A1 m1 c1, .string ⟨#[]⟩, .slice A2 m2 c2] 48)).heap.size := by rw [World.size_alloc]; omega
                  go_upto_region 21 with fail
                  go_wp2_with (at_builtin; refine wpList_append_own_at _ rfl _ _ 37 rfl (base) 48 iN _ 6 88 Tryz.underlying37 hiN hzN0 hzN1 hzN2 rfl (by decide) _ (L k).length css.flatten rfl HOw.out ⟨wz.heap.size, 0, none⟩ 1 1 [.int .u8 1, .int .u8 0, .string nm, .slice A1 m1 c1, .string ⟨#[]⟩, .slice A2 m2 c2] rfl rfl HA1.out HA2.out ha3 ha4 ha5 ?_)
                  intro v5 w5 hown5 hgrow _ hob5
                  obtain ⟨g5, cap5, rfl⟩ := Joins.ownsRow_form hown5 (Nat.succ_pos _)
                  have hpush := ref_push (acc := L k) (ob := .cells #[.int .u8 1, .int .u8 0, .string nm, .slice A1 m1 c1, .string ⟨#[]⟩, .slice A2 m2 c2] 48) [.int .u8 1, .int .u8 0, .string nm, .slice A1 m1 c1, .string ⟨#[]⟩, .slice A2 m2 c2] ⟨1, 0, nm, bareA E A S nm at', ByteArray.empty, kds⟩ HC1.out HC2.out H3.out H4.out rfl HNd.out hbz2 (by simpa using hown5) (by simpa using hgrow) (by simpa using hob5)
                  have HPush := Lib.hid hpush
                  clear hown5 hgrow hob5 hpush
                  go_wp2
                  go_roundw
                  case rel => exact row_to hlt hbr HBs.out HOn.out HPush.out.1 ((HBwz.out.mono hbr).trans HPush.out.2.1) ((Only.of_below HBwz.out).trans HPush.out.2.2 HBwz.out.size) (Below.refl _ _) HL.out
                  case measure => simp [intOf]; omega
        · have z1 : ((kd : Int) != 1) = true := by simp; omega
          have HL := Lib.hid (HSt.out.trans (stepN_gone (by simp only; omega) (.inl (by simp only; omega))))
          have HBA0 := Lib.hid (show Below wr.heap.size wr (wr.alloc (.cells #[.int .u8 kd, .int .u8 sp, .string nm, .slice Aa ma ca, .string tx, .slice Ak mk ck] 48)) from (Below.refl _ wr).alloc (Nat.le_refl _) _)
          clear hk1 hk2
          go_wp2
          go_roundw
          case rel => exact row_to hlt hbr HBs.out HOn.out HOut.out (Below.refl _ _) (Only.of_below (Below.refl _ _)) HBA0.out HL.out
          case measure => simp [intOf]; omega
    · obtain rfl : k = l.length := by omega
      have HO := Lib.hid hout
      have hzs := hbs.size
      have HBs := Lib.hid hbs; have HOn := Lib.hid hon
      clear hbs hon hout
      go_wp2
      go_ret
      exact ⟨_, rfl, HO.out, (HBW.out.mono hbs0).trans HBs.out, (Only.of_below HBW.out).trans HOn.out HBW.out.size⟩
end Go.Proofs.YtdkjenbncmedbaaGreatDoor
