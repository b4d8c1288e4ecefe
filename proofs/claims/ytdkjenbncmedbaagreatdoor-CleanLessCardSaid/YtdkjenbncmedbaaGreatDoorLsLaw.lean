/- CleanLess. -/
import Derived.Test.YtdkjenbncmedbaaGreatDoorErase
import Derived.Test.YtdkjenbncmedbaaGreatDoorLessLaw
import Derived.Deep.RegionLaw
import Derived.Deep.DeepCutAuto
namespace Go.Proofs.YtdkjenbncmedbaaGreatDoor
open Go.RowKit

theorem pol_sub {w wx : World} {vE vA vS qE qA qS : Value} {E : List ByteArray} {A A' : Prs} {S : List ByteArray} (h : PolAt w (.agg #[vE, vA, vS]) E A S) (hE : SlS wx qE E) (hA : SlA wx qA A') (hS : SlS wx qS S) (hs : A'.Sublist A) : PolAt wx (.agg #[qE, qA, qS]) E A' S :=
  ⟨⟨_, _, _, rfl, hE, hA, hS⟩, h.lE, Nat.le_trans hs.length_le h.lA, h.lS, h.sE, fun x hx => h.sA x (hs.subset hx), h.sS⟩
set_option maxHeartbeats 8000000 in
set_option maxRecDepth 100000 in
theorem lessc_law (n : Nat) (vl v : Value) (k : UInt8) (l : List (NT n)) (E : List ByteArray) (A : Prs) (S : List ByteArray) (w : World) (h : NodesAt n w (fun k => k < w.heap.size) vl l) (hp : PolAt w v E A S) (ht : SpTab w) (hG : Glob w) : Calls Tryz.prog 7 #[vl, v, .int .u8 (k.toNat : Int)] w (Yes w) := by
  obtain ⟨iA, hiA, hzA0, hzA1, hzA2⟩ := info_parts infoA
  obtain ⟨vE, vA, vS, rfl, _, _, _⟩ := hp.is
  obtain ⟨Al, m, c, rfl⟩ := h.shape
  obtain ⟨wa, hwa⟩ : ∃ wa, w.alloc (.cells #[vE, vA, vS] 25) = wa := ⟨_, rfl⟩
  have hba : Below w.heap.size w wa := by rw [← hwa]; exact (Below.refl _ w).alloc (Nat.le_refl _) _
  have hna : wa.heap[w.heap.size]? = some (.cells #[vE, vA, vS] 25 (0, 0)) := by rw [← hwa]; exact heap_alloc_new _ _
  have hza : w.heap.size < wa.heap.size := lt_block hna
  have hcells : ∀ w' : World, Below wa.heap.size wa w' → (w'.cell? ⟨w.heap.size, 0, none⟩ = some vE ∧ w'.cell? ⟨w.heap.size, 1, none⟩ = some vA ∧ w'.cell? ⟨w.heap.size, 2, none⟩ = some vS) := fun w' hb' => by
    have q := fun i => cell_of_row w' w.heap.size i _ _ _ ((hb'.block _ hza).trans hna)
    exact ⟨q 0, q 1, q 2⟩
  have HCe := Lib.hid hcells; have HBA := Lib.hid hba; have HWA := Lib.hid hwa
  have hha : NodesAt n wa (fun k => k < w.heap.size) _ l := h.keep fun j hj => hba.block j hj
  have HHv := Lib.hid (heavy_any n _ vE vA vS l E A S (fun k => k < w.heap.size) wa hha (fun k hk => Nat.lt_trans hk hza) (hp.later hba))
  have HKn := Lib.hid fun (w' : World) (hb : Below wa.heap.size wa w') => known_any20 w' (ht.later (below_on hba hb)) (hG.later (below_on hba hb))
  have HC := Lib.hid (show Ctx w vE vA vS E A S from ⟨hp, hG, ht⟩)
  have HH := Lib.hid h
  obtain ⟨p0, p1, p2⟩ := HCe.out wa (Below.refl _ _)
  clear h hp ht hG hba hna hcells hwa hha
  go_enter Tryz.func7, Tryz.ntmps7
  go_upto_region 1 with fail
  rw [HWA.out]
  go_wp2_with fail
  refine Calls.mono HHv.out ?_
  rintro e w1 ⟨hv, rfl, b1, hle⟩
  have HB1 := Lib.hid b1
  clear b1
  cases hv with
  | true =>
    go_wp2_with fail
    refine Calls.mono (HKn.out _ HB1.out) ?_
    rintro e w2 ⟨rfl, b2⟩
    have HB2 := Lib.hid (below_on HB1.out b2)
    clear b2
    go_wp2
    go_ret
    exact ⟨rfl, below_on HBA.out HB2.out⟩
  | false =>
    obtain ⟨hw, lE, lA, lS⟩ := hle rfl
    clear hle
    go_wp2_with fail
    refine Calls.mono (HKn.out _ HB1.out) ?_
    rintro e w3 ⟨rfl, b3⟩
    have hb3 := below_on HB1.out b3
    obtain ⟨p0, p1, p2⟩ := HCe.out w3 hb3
    have B3 := Lib.hid hb3
    clear b3 hb3
    go_wp2_with fail
    refine Calls.mono (lent_any _ E A S w3 (HC.out.pol.later (below_on HBA.out B3.out)) (by omega) (by omega) (by omega)) ?_
    rintro e w4 ⟨v4, rfl, hp4, b4⟩
    have B4 := Lib.hid (below_on B3.out b4)
    obtain ⟨⟨qE, qA, qS, rfl, sE, sA, sS⟩, _⟩ := hp4
    obtain ⟨aE, cE, rfl, _, _⟩ := sE.open
    obtain ⟨aA, cA, rfl, kcA, kA⟩ := sA.open
    obtain ⟨aS, cS, rfl, kcS, kS⟩ := sS.open
    obtain ⟨p0, p1, p2⟩ := HCe.out w4 B4.out
    clear b4
    obtain ⟨W5, hW5⟩ : ∃ W5, w4.alloc (.cells #[.slice aE E.length cE, .slice aA A.length cA, .slice aS S.length cS] 25) = W5 := ⟨_, rfl⟩
    have hb5 : Below w4.heap.size w4 W5 := by rw [← hW5]; exact (Below.refl _ w4).alloc (Nat.le_refl _) _
    have q5 : W5.heap[w4.heap.size]? = some (.cells #[.slice aE E.length cE, .slice aA A.length cA, .slice aS S.length cS] 25 (0, 0)) := by rw [← hW5]; exact heap_alloc_new w4 _
    have HW5 := Lib.hid hW5
    have HSE := Lib.hid sE; have HSA := Lib.hid sA; have HSS := Lib.hid sS
    have HKA := Lib.hid kA; have HKS := Lib.hid kS
    have HB5 := Lib.hid hb5
    have G5 := Lib.hid q5
    clear hW5 hb5 q5 sE sA sS kA kS
    have l5 := fun i => cell_of_row W5 w4.heap.size i _ _ _ G5.out
    go_upto_region 4 with fail
    rw [HW5.out]
    by_cases hA0 : A.length = 0
    · have zA : ((A.length : Int) == 0) = true := by rw [hA0]; rfl
      go_wp2
      go_ret
      exact ⟨rfl, below_on HBA.out (below_on B4.out HB5.out)⟩
    · have zA0 : ((A.length : Int) == 0) = false := by rw [beq_eq_false_iff_ne]; omega
      have zA : (0 : Int) < (A.length : Int) := by omega
      have hrem : ((k.toNat : Int)).tmod (A.length : Int) = ((k.toNat % A.length : Nat) : Int) := by rw [Int.tmod_eq_emod_of_nonneg (by omega)]; omega
      have hil : k.toNat % A.length < A.length := Nat.mod_lt _ (by omega)
      obtain ⟨i, hi⟩ : ∃ i, k.toNat % A.length = i := ⟨_, rfl⟩
      rw [hi] at hrem hil
      clear hi
      obtain ⟨b, off, hAa, hbl, _⟩ := HKA.out 0 (by omega)
      subst hAa
      have hk256 : (k.toNat : Int) < 256 := by have := UInt8.toNat_lt k; omega
      have y1' : (i : Int) ≤ (cA : Int) := by omega
      have hSA5 := HSA.out.later HB5.out
      have hcs := slv_cells hSA5 (by omega)
      obtain ⟨i1, hi1⟩ : ∃ i1, i1 = i + 1 := ⟨_, rfl⟩
      have hwi : IntKind.i64.wrap ((i : Int) + 1) = (i1 : Int) := by rw [hi1]; exact wrap_small_i64 _ (by omega) (by omega)
      have y2' : (i1 : Int) ≤ (A.length : Int) := by omega
      have y4' : (0 : Int) ≤ (i1 : Int) := by omega
      obtain ⟨ad2, had2, hnews⟩ := drop_cells (b := b) (off := off) (c := cA) (size := 2) (w := W5) (n := A.length) (vs := (A.map pairCs).flatten) i1 (pairCs_len A) (by omega) kcA (by omega) hcs
      have HCS := Lib.hid (take_cells (i := i * 2) hcs)
      have HNews := Lib.hid hnews
      have HI1 := Lib.hid hi1
      have hbl5 : b < W5.drew.heap.size := Nat.lt_of_lt_of_le hbl HB5.out.size
      have f5 : ∀ i, W5.frozen? ⟨w4.heap.size, i, none⟩ = false := fun i => by simp [World.frozen?, G5.out]
      clear hnews hcs hSA5 hi1
      go_upto_region 7 with fail
      go_cut [] (fun wx => QOne w4 (.slice aE E.length cE) (.slice aS S.length cS) A wx)
      case first =>
        go_region_law (refine step_cut rfl (.tmp 35) (.tmp 40) 23 rfl 31 iA _ 2 32 Tryz.underlying23 hiA hzA0 hzA1 hzA2 b off i ((A.map pairCs).flatten.take (i * 2)) rfl (by rw [List.length_take, pairCs_len]; omega) HCS.out hbl5 ad2 (A.length - i1) (cA - i1) ((A.map pairCs).flatten.drop (i1 * 2)) rfl (by rw [List.length_drop, pairCs_len]; omega) HNews.out (by have := HI1.out; omega) (by omega) w4.heap.size (Nat.ne_of_lt hbl) (by rw [← HW5.out]; simp) ?_; intro v7 w7 hv7 hb7; have H7 := Lib.hid hv7; obtain ⟨A7, c7, rfl, _⟩ := hv7; have B7 := Lib.hid ((show Below w4.heap.size w4 W5.drew from HB5.out.drew).trans (hb7.mono (by simpa using HB5.out.size))); have r7 := (hb7.block w4.heap.size (by rw [← HW5.out]; simp)).trans (show W5.drew.heap[w4.heap.size]? = _ from G5.out); have l7 := fun i => cell_of_row w7 w4.heap.size i _ _ _ r7; have f7 : ∀ i, w7.frozen? ⟨w4.heap.size, i, none⟩ = false := fun i => by simp [World.frozen?, r7])
        all_goals
          go_wp2_with fail
          go_meet
          exact q_one r7 B7.out HI1.out hil H7.out
      case rest =>
        clear l5
        obtain ⟨x, hx⟩ : ∃ x, wc = x := ⟨_, rfl⟩
        rw [hx] at hcut ⊢
        clear hx
        obtain ⟨vA1, A1, rx, hAx, hsA, bx⟩ := hcut
        have hq := pol_sub HC.out.pol (HSE.out.later bx) (show SlA x vA1 A1 from hAx.here) (HSS.out.later bx) hsA
        obtain ⟨aA1, cA1, rfl, _, _⟩ := (show SlA x vA1 A1 from hAx.here).open
        have hbx := below_on B4.out bx
        have hax := below_on HBA.out hbx
        have HQc := Lib.hid fun (w' : World) (hb : Below x.heap.size x w') => (fun i => cell_of_row w' w4.heap.size i _ _ _ ((hb.block _ (lt_block rx)).trans rx))
        have HPc := Lib.hid fun (w' : World) (hb : Below x.heap.size x w') => HCe.out w' (below_on hbx hb)
        have hcq : Ctx x (.slice aE E.length cE) (.slice aA1 A1.length cA1) (.slice aS S.length cS) E A1 S := ⟨hq, HC.out.glob.later hax, HC.out.sp.later hax⟩
        have hcp : Ctx x vE vA vS E A S := ⟨HC.out.pol.later hax, HC.out.glob.later hax, HC.out.sp.later hax⟩
        have hnx : NodesAt n x (fun k => k < w.heap.size) _ l := HH.out.keep fun j hj => hax.block j hj
        have hSx : ∀ k, k < w.heap.size → k < x.heap.size := fun k hk => Nat.lt_of_lt_of_le hk hax.size
        have HX := Lib.hid (clean_any E A1 S n n _ _ _ _ l _ x x (Nat.le_refl _) hcq hnx hSx (Below.refl _ _) (by omega))
        have HY := Lib.hid fun (w' : World) (hb : Below x.heap.size x w') => clean_any E A S n n _ _ _ _ l _ x w' (Nat.le_refl _) hcp hnx hSx hb (by omega)
        have HCq := Lib.hid hcq; have HCp := Lib.hid hcp; have HAX := Lib.hid hax
        have lx := HQc.out x (Below.refl _ _)
        obtain ⟨p0, p1, p2⟩ := HPc.out x (Below.refl _ _)
        clear hAx hq bx hbx hax hcq hcp hnx hSx rx
        go_wp2_with fail
        refine Calls.mono HX.out ?_
        rintro e w6 ⟨v6, rfl, hk6, b6⟩
        obtain ⟨A6, m6, c6, rfl⟩ := hk6.shape
        have hk6' : NodesAt n w6 (fun k => k < w6.heap.size) _ _ := NodesAt.mono (fun j hj => hj.2) n hk6
        have HK6 := Lib.hid hk6'
        have HB6 := Lib.hid b6
        have l6 := HQc.out w6 b6
        obtain ⟨p0, p1, p2⟩ := HPc.out w6 b6
        clear b6 hk6 hk6'
        go_wp2_with fail
        refine Calls.mono (HY.out _ HB6.out) ?_
        rintro e w7 ⟨v7, rfl, hk7, b7⟩
        obtain ⟨A7, m7, c7, rfl⟩ := hk7.shape
        have hb7 := below_on HB6.out b7
        have hk7' : NodesAt n w7 (fun k => k < w7.heap.size) _ _ := NodesAt.mono (fun j hj => hj.2) n hk7
        have hk67 : NodesAt n w7 (fun k => k < w6.heap.size) _ _ := HK6.out.keep fun j hj => b7.block j hj
        have hS67 : ∀ k, k < w6.heap.size → k < w7.heap.size := fun k hk => Nat.lt_of_lt_of_le hk b7.size
        have hwx : wt n (kidsN E A1 S n n 0 zeroPl l) ≤ 100000 := by have := kids_wt E A1 S n n 0 zeroPl l; omega
        have hwy : wt n (kidsN E A S n n 0 zeroPl l) ≤ 100000 := by have := kids_wt E A S n n 0 zeroPl l; omega
        have hR1 := right_all E A1 S n _ _ _ _ _ _ w7 w7 (⟨HCq.out.pol.later hb7, HCq.out.glob.later hb7, HCq.out.sp.later hb7⟩ : Ctx w7 _ _ _ E A1 S) hk67 hS67 (Below.refl _ _) hwx
        have hR2 := fun (w' : World) (hb : Below w7.heap.size w7 w') => right_all E A S n _ _ _ _ _ _ w7 w' (⟨HCp.out.pol.later hb7, HCp.out.glob.later hb7, HCp.out.sp.later hb7⟩ : Ctx w7 _ _ _ E A S) hk67 hS67 hb hwx
        rw [kids_right] at hR1
        rw [right_more (fun u hu => hsA.subset hu) n _ (kids_right E A1 S n n 0 zeroPl l)] at hR2
        have HR1 := Lib.hid hR1; have HR2 := Lib.hid hR2
        have HX2 := Lib.hid fun (w' : World) (hb : Below w7.heap.size w7 w') => bare_str n _ _ _ w' (NodesAt.keep (w' := w') (fun j hj => hb.block j (hS67 j hj)) n hk67) hwx
        have HY2 := Lib.hid fun (w' : World) (hb : Below w7.heap.size w7 w') => bare_str n _ _ _ w' (NodesAt.keep (w' := w') (fun j hj => hb.block j hj) n hk7') hwy
        rw [bareB_same E A1 A S S] at HX2
        obtain ⟨X, hX⟩ : ∃ X, bareB n (kidsN E A S n n 0 zeroPl l) = X := ⟨_, rfl⟩
        rw [hX] at HX2 HY2
        have l7 := HQc.out w7 hb7
        obtain ⟨p0, p1, p2⟩ := HPc.out w7 hb7
        have HB7 := Lib.hid hb7
        clear b7 hb7 hk7 hk7' hk67 hR1 hR2 hwx hwy hX
        go_wp2_with fail
        refine Calls.mono HR1.out ?_
        rintro e w8 ⟨rfl, b8⟩
        have HB8 := Lib.hid b8
        obtain ⟨p0, p1, p2⟩ := HPc.out w8 (below_on HB7.out b8)
        clear b8
        go_wp2_with fail
        refine Calls.mono (HR2.out _ HB8.out) ?_
        rintro e w9 ⟨rfl, b9⟩
        have HB9 := Lib.hid (below_on HB8.out b9)
        clear b9
        go_wp2_with fail
        refine Calls.mono (HX2.out _ HB9.out) ?_
        rintro e w10 ⟨rfl, d1, rfl⟩
        go_wp2_with fail
        refine Calls.mono (HY2.out _ (below_drewN HB9.out d1)) ?_
        rintro e w11 ⟨rfl, d2, rfl⟩
        go_wp2
        go_ret
        exact ⟨rfl, below_on HAX.out (below_on HB7.out (below_drewN HB9.out (d1 + d2)))⟩
end Go.Proofs.YtdkjenbncmedbaaGreatDoor
