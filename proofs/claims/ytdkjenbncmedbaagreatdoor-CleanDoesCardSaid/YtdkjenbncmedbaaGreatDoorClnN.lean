/- (*clean.keeper).nodes. -/
import Derived.Test.YtdkjenbncmedbaaGreatDoorClnB
import Derived.Deep.CutBlock
namespace Go.Proofs.YtdkjenbncmedbaaGreatDoor
open Go.RowKit

theorem Ctx.has {w0 w : World} {vE vA vS : Value} {E : List ByteArray} {A : Prs} {S : List ByteArray} (h : Ctx w0 vE vA vS E A S) (hb : Below w0.heap.size w0 w) (s : ByteArray) : Calls Tryz.prog 28 #[.agg #[vE, vA, vS], .string s] w (BoolR w (hasS E s)) := by
  obtain ⟨⟨vE', vA', vS', e, sE, _, _⟩, lE, _⟩ := h.pol.later hb
  cases e
  exact has_any _ _ _ E s w sE lE
theorem s_four {a b c d e : Prop} (s : a ∧ b ∧ c ∧ d ∧ e) : e := s.2.2.2.2
theorem s_eight {a b c d e f g h : Prop} (s : a ∧ b ∧ c ∧ d ∧ e ∧ f ∧ g ∧ h) : h := s.2.2.2.2.2.2.2
/-- Block xb is the element that is being made; its kids lie behind it. -/
def ElemW (D xb : Nat) (w5 : World) (nm : ByteArray) (v1 : Value) (kd : List (NT D)) (wz : World) : Prop :=
  ∃ v2, wz.heap[xb]? = some (.cells #[.int .u8 1, .int .u8 0, .string nm, v1, .string ⟨#[]⟩, v2] 48 (0, 0)) ∧ NodesAt D wz (fun j => xb < j ∧ j < wz.heap.size) v2 kd ∧ Below w5.heap.size w5 wz
theorem rowWt_mem {K : Type} (f : K → Nat) {x : NodeD K} : ∀ {l : List (NodeD K)}, x ∈ l → 1 + x.text.size / 8 + x.name.size / 8 ≤ rowWt f l
  | [], h => by cases h
  | a :: l, h => by
    rw [rowWt_cons]
    rcases List.mem_cons.1 h with e | e
    · subst e; omega
    · have := rowWt_mem f e; omega
theorem attrsWt_mem {x : AttrD} : ∀ {l : List AttrD}, x ∈ l → 1 + x.name.size / 8 + x.value.size / 8 ≤ attrsWt l
  | [], h => by cases h
  | a :: l, h => by
    have e0 : attrsWt (a :: l) = (1 + a.name.size / 8 + a.value.size / 8) + attrsWt l := by unfold attrsWt; simp
    rw [e0]
    rcases List.mem_cons.1 h with e | e
    · subst e; omega
    · have := attrsWt_mem e; omega
theorem stepN_text {K K' : Type} {nil : K'} {E : List ByteArray} {A : Prs} {S : List ByteArray} {x : Pl} {flat : List (NodeD K') → K → List (NodeD K')} {kids : Nat → Pl → K → K'} {acc : List (NodeD K')} {y : NodeD K} (h : y.kind = 2) : stepA nil E A S 0 x flat kids acc y = txt nil x.pre acc y.text := by
  unfold stepA stepN
  rw [if_pos rfl, if_pos h]
theorem stepN_gone {K K' : Type} {nil : K'} {E : List ByteArray} {A : Prs} {S : List ByteArray} {x : Pl} {flat : List (NodeD K') → K → List (NodeD K')} {kids : Nat → Pl → K → K'} {acc : List (NodeD K')} {y : NodeD K} (h : y.kind ≠ 2) (h2 : y.kind ≠ 1 ∨ y.space ≠ 0 ∨ hasS goneL y.name = true) : stepA nil E A S 0 x flat kids acc y = acc := by
  unfold stepA stepN
  rw [if_pos rfl, if_neg h, if_pos h2]
theorem stepN_flat {K K' : Type} {nil : K'} {E : List ByteArray} {A : Prs} {S : List ByteArray} {x : Pl} {flat : List (NodeD K') → K → List (NodeD K')} {kids : Nat → Pl → K → K'} {acc : List (NodeD K')} {y : NodeD K} (h : y.kind = 1) (h0 : y.space = 0) (hg : hasS goneL y.name = false) (h2 : (hasS E y.name && (knownB y.name && x.takes y.name)) = false) : stepA nil E A S 0 x flat kids acc y = flat acc y.kids := by
  unfold stepA stepN
  rw [if_pos rfl, if_neg (by omega), if_neg (by rw [hg]; simp [h, h0]), h2]
  rfl
theorem stepN_elem {K K' : Type} {nil : K'} {E : List ByteArray} {A : Prs} {S : List ByteArray} {x : Pl} {flat : List (NodeD K') → K → List (NodeD K')} {kids : Nat → Pl → K → K'} {acc : List (NodeD K')} {y : NodeD K} (h : y.kind = 1) (h0 : y.space = 0) (hg : hasS goneL y.name = false) (h2 : (hasS E y.name && (knownB y.name && x.takes y.name)) = true) : stepA nil E A S 0 x flat kids acc y = acc ++ [⟨1, 0, y.name, bareA E A S y.name y.attrs, ByteArray.empty, if hasS voidL y.name then nil else if isT y.name ⟨#[116, 97, 98, 108, 101]⟩ then kids 3 x y.kids else kids 0 (x.into y.name) y.kids⟩] := by
  unfold stepA stepN
  rw [if_pos rfl, if_neg (by omega), if_neg (by rw [hg]; simp [h, h0]), if_pos h2]
set_option maxHeartbeats 40000000 in
set_option maxRecDepth 100000 in
theorem nodes_step (E : List ByteArray) (A : Prs) (S : List ByteArray) (n : Nat) (hN : NodesC E A S n) (hI : InnerC E A S n) (hGr : GridC E A S n) : NodesC E A S (n + 1) := by
  intro D kb base x vE vA vS v0 vl acc l S0 w0 w hn hc hv hS hb hkb0 h1 h2 hk ho hwt
  obtain ⟨iN, hiN, hzN0, hzN1, hzN2⟩ := info_parts infoN
  obtain ⟨Al, cl', rfl, _, hget⟩ := hv.get
  obtain ⟨L, hLd⟩ : ∃ L : Nat → List (NodeD (List (NT D))), (fun k => cl E A S (n + 1) D 0 x (l.take k) acc) = L := ⟨_, rfl⟩
  have hLs : ∀ (k : Nat) (hk : k < l.length), L (k + 1) = stepC E A S n D 0 x (L k) l[k] := fun k hk => by rw [← hLd]; exact cl_take E A S n D 0 x l acc k hk
  have hLe : cl E A S (n + 1) D 0 x l acc = L l.length := by rw [← hLd]; show cl E A S (n + 1) D 0 x l acc = cl E A S (n + 1) D 0 x (l.take l.length) acc; rw [List.take_length]
  have hL0 : L 0 = acc := by rw [← hLd]; exact cl_nil E A S (n + 1) D 0 x acc
  have hLw : ∀ k, k < l.length → wt (D + 1) (L k) + wt (n + 1) (l.take (k + 1)) ≤ 100000 + wt (n + 1) (l.take k) := fun k hk => by
    have e1 := cl_wt E A S (n + 1) D 0 x (l.take k) acc
    have e2 := wt_take_le n l (k + 1)
    have e3 : L k = cl E A S (n + 1) D 0 x (l.take k) acc := by rw [← hLd]
    rw [e3]
    omega
  rw [hLe]
  have HLs := Lib.hid hLs; have HLw := Lib.hid hLw
  have HG := Lib.hid hget; have HS := Lib.hid hS; have HC := Lib.hid hc; have HB := Lib.hid hb; have HN := Lib.hid hN; have HI := Lib.hid hI; have HGr := Lib.hid hGr
  have H0 := Lib.hid (show NodW kb base D x vE vA vS L l.length w (.int .i64 (0 : Nat)) w from ⟨0, v0, rfl, Nat.zero_le _, hk, by rw [hL0]; exact ho, Beside.refl _ _ _⟩)
  clear hLd hLs hLe hL0 hLw hget hS hc hb hN hI hGr hv hk ho hwt
  go_enter Tryz.func41, Tryz.ntmps41
  go_wp2_with fail
  go_loopw [9] (fun vi wr => NodW kb base D x vE vA vS L l.length w vi wr) (fun vi _ => l.length - (intOf vi).toNat)
  case atStart => exact H0.out
  case round =>
    obtain ⟨k, v, rfl, hk, hkp, hout, hbs⟩ := hrel
    clear H0
    by_cases hlt : k < l.length
    · have hki : (k : Int) < (l.length : Int) := by omega
      obtain ⟨ad, va, vk, hA, hatt, hkids, hnm, htx, hki2, hsp, hbl, c0, c1, c2, c3, c4, c5⟩ := HG.out k hlt
      subst hA
      have hz := hbs.size
      have hzb := HB.out.size
      have hbw0 := HS.out _ hbl
      have hbwr : Below w0.heap.size w0 wr := HB.out.trans (hbs.1.mono hkb0)
      have q : ∀ (j : Nat), wr.cell? ⟨(ad.add (k * 6)).block, j, none⟩ = w0.cell? ⟨(ad.add (k * 6)).block, j, none⟩ := fun j => hbwr.cell (by rw [block_of_add]; exact hbw0)
      have d0 := (hbwr.cell (p := ad.add (k * 6)) (by rw [block_of_add]; exact hbw0)).trans c0
      have d1 := (q _).trans c1
      have d2 := (q _).trans c2
      have d3 := (q _).trans c3
      have d4 := (q _).trans c4
      have d5 := (q _).trans c5
      clear c0 c1 c2 c3 c4 c5 q
      obtain ⟨Aa, ma, ca, rfl⟩ := hatt.shape
      obtain ⟨Ak, mk, ck, rfl⟩ := hkids.shape
      have hstep := HLs.out k hlt
      have hwk := HLw.out k hlt
      rw [wt_take n l k hlt] at hwk
      have hlen : (L k).length ≤ wt (D + 1) (L k) := rowWt_len (K := List (NT D)) (wt D) (L k)
      have htxs : ∀ z ∈ L k, (NodeD.text z).size ≤ 1000000 := fun z hz => by
        have h8 : 1 + z.text.size / 8 + z.name.size / 8 ≤ wt (D + 1) (L k) := rowWt_mem (K := List (NT D)) (wt D) hz
        omega
      obtain ⟨y, hy⟩ : ∃ y : NodeD (List (NT n)), l[k] = y := ⟨_, rfl⟩
      rw [hy] at hstep hwk d0 d1 d2 d4 hatt hkids hnm htx hki2 hsp
      obtain ⟨kd, sp, nm, at', tx, ks⟩ := y
      simp only at hwk d0 d1 d2 d4 hnm htx hki2 hsp
      have hatl := attrs_len_le at'
      have hfit : Fits at' := fun a ha => by
        have hm := attrsWt_mem ha
        have hm2 : attrsWt at' ≤ 100000 := by
          have := hwk
          omega
        omega
      have HSt := Lib.hid hstep; have HTx := Lib.hid htxs; have HAt := Lib.hid hatt; have HKd := Lib.hid hkids; have HF := Lib.hid hfit; have HKp := Lib.hid hkp; have HOut := Lib.hid hout; have HBs := Lib.hid hbs; have HBwr := Lib.hid hbwr
      obtain ⟨wa, hwa⟩ : ∃ wa, wr.alloc (.cells #[.int .u8 kd, .int .u8 sp, .string nm, .slice Aa ma ca, .string tx, .slice Ak mk ck] 48) = wa := ⟨_, rfl⟩
      have hba : Below wr.heap.size wr wa := by rw [← hwa]; exact (Below.refl _ wr).alloc (Nat.le_refl _) _
      have hza : wr.heap.size + 1 ≤ wa.heap.size ∧ wa.heap.size ≤ wr.heap.size + 1 := by rw [← hwa]; simp
      have hna : wa.heap[wr.heap.size]? = some (.cells #[.int .u8 kd, .int .u8 sp, .string nm, .slice Aa ma ca, .string tx, .slice Ak mk ck] 48 (0, 0)) := by rw [← hwa]; exact heap_alloc_new _ _
      have HWA := Lib.hid hwa; have HBA := Lib.hid hba; have HNA := Lib.hid hna
      clear hstep htxs hatt hkids hfit hkp hout hbs hbwr hwa hba hna
      by_cases hk2 : kd = 2
      · have hL := HSt.out.trans (stepN_text hk2)
        have z2 : ((kd : Int) == 2) = true := by rw [hk2]; rfl
        clear hk2
        simp only at hL
        have HL := Lib.hid hL
        have HT := Lib.hid (text_any kb base D x vE vA vS v (L k) tx wa (HKp.out.below HBA.out (by omega)) (HOut.out.later HBA.out) h1 (by omega) (HC.out.glob.later (below_on HBwr.out HBA.out)) (by omega) (by omega) (fun z hz => by have := HTx.out z hz; omega))
        clear hL
        go_wp2_with fail
        rw [HWA.out]
        refine Calls.mono HT.out ?_
        rintro e w1 ⟨rfl, ht⟩
        have HTR := Lib.hid (show TextR kb base D x vE vA vS wa _ (.returned (.tuple #[])) w1 from ⟨rfl, ht⟩)
        clear ht
        go_wp2
        go_roundw
        case rel => exact nod_text hlt h1 h2 HBs.out HBA.out HTR.out HL.out
        case measure => simp [intOf]; omega
      · have z2 : ((kd : Int) == 2) = false := by simp; omega
        have hbA0 : Below wr.heap.size wr (wr.alloc (.cells #[.int .u8 kd, .int .u8 sp, .string nm, .slice Aa ma ca, .string tx, .slice Ak mk ck] 48)) := (Below.refl _ wr).alloc (Nat.le_refl _) _
        have HBA0 := Lib.hid hbA0
        clear hbA0
        by_cases hk1 : kd = 1
        · have z1 : ((kd : Int) != 1) = false := by rw [hk1]; rfl
          by_cases hs0 : sp = 0
          · have z0 : ((sp : Int) != 0) = false := by rw [hs0]; rfl
            have HHas := Lib.hid (has_word goneT goneL nm wa row_gone (HC.out.glob.later (below_on HBwr.out HBA.out)) (by omega))
            obtain ⟨gb, hgb⟩ : ∃ gb, hasS goneL nm = gb := ⟨_, rfl⟩
            rw [hgb] at HHas
            cases gb with
            | true =>
              have HL := Lib.hid (HSt.out.trans (stepN_gone (by simp only; omega) (.inr (.inr hgb))))
              clear hgb hk1 hk2 hs0
              go_wp2_with fail
              rw [HWA.out]
              refine Calls.mono HHas.out ?_
              rintro e w1 ⟨rfl, hw1⟩
              rw [← hw1]
              clear hw1
              go_wp2
              go_roundw
              case rel => exact nod_same hlt h1 h2 HKp.out HOut.out HBs.out HBA.out HL.out
              case measure => simp [intOf]; omega
            | false =>
              have HFlat := Lib.hid (fun h => HSt.out.trans (stepN_flat (y := ⟨kd, sp, nm, at', tx, ks⟩) hk1 hs0 hgb h))
              have HElem := Lib.hid (fun h => HSt.out.trans (stepN_elem (y := ⟨kd, sp, nm, at', tx, ks⟩) hk1 hs0 hgb h))
              have HFl := Lib.hid fun (w' : World) (hb : Below wa.heap.size wa w') => HN.out D kb base x vE vA vS v (.slice Ak mk ck) (L k) ks S0 w0 w' (by omega) HC.out HKd.out HS.out (below_on HBwr.out (below_on HBA.out hb)) hkb0 h1 (by have := hb.size; omega) (HKp.out.below (below_on HBA.out hb) (by omega)) (HOut.out.later (below_on HBA.out hb)) (by omega)
              simp only at HFlat HElem
              clear hgb hk1 hk2 hs0
              go_wp2_with fail
              rw [HWA.out]
              refine Calls.mono HHas.out ?_
              rintro e w1 ⟨rfl, hw1⟩
              rw [← hw1]
              clear hw1
              have hcells : ∀ w' : World, Below wa.heap.size wa w' → (w'.cell? ⟨kb, 6, none⟩ = some vE ∧ w'.cell? ⟨kb, 7, none⟩ = some vA ∧ w'.cell? ⟨kb, 8, none⟩ = some vS ∧ w'.cell? ⟨wr.heap.size, 2, none⟩ = some (.string nm) ∧ Below wa.heap.size wa w') := fun w' hb => by
                have q1 := (HKp.out.below (below_on HBA.out hb) (by omega)).cell
                have q2 := fun i => cell_of_row w' wr.heap.size i _ _ _ ((hb.block _ (by omega)).trans HNA.out)
                exact ⟨q1 6, q1 7, q1 8, q2 2, hb⟩
              have HCe := Lib.hid hcells
              have HS5 := Lib.hid (hcells wa (Below.refl _ _))
              have na := fun i => cell_of_row wa wr.heap.size i _ _ _ HNA.out
              clear hcells
              have HHs := Lib.hid fun (w' : World) (hb : Below wa.heap.size wa w') => HC.out.has (below_on HBwr.out (below_on HBA.out hb)) nm
              obtain ⟨eb, heb⟩ : ∃ eb, hasS E nm = eb := ⟨_, rfl⟩
              rw [heb] at HHs HFlat HElem
              clear heb
              cases eb with
              | false =>
                have HL := Lib.hid (HFlat.out (Bool.false_and _))
                clear HFlat HElem
                go_wp2_with fail
                go_region_held3 (fun w' => w'.cell? ⟨kb, 6, none⟩ = some vE ∧ w'.cell? ⟨kb, 7, none⟩ = some vA ∧ w'.cell? ⟨kb, 8, none⟩ = some vS ∧ w'.cell? ⟨wr.heap.size, 2, none⟩ = some (.string nm) ∧ Below wa.heap.size wa w') (first | assumption | exact HS5.out | exact HCe.out _ (Below.drew (Below.refl _ _)) | exact HCe.out _ (Below.drew (s_four (by assumption))) | exact HCe.out _ (below_on (s_four (by assumption)) (by assumption))) (first
                  | (go_at_call 28; refine Calls.mono (HHs.out _ (s_four (by assumption))) ?_; rintro e w2 ⟨rfl, b2⟩))
                all_goals
                  have hb2 := s_four (by assumption)
                  have HB2 := Lib.hid hb2
                  have nb := fun i => cell_of_row _ wr.heap.size i _ _ _ ((hb2.block _ (by omega)).trans HNA.out)
                  clear hb2
                  go_wp2_with fail
                  refine Calls.mono (HFl.out _ HB2.out) ?_
                  rintro e w9 ⟨rfl, ht⟩
                  have HTR := Lib.hid (show TextR kb base D x vE vA vS _ _ (.returned (.tuple #[])) w9 from ⟨rfl, ht⟩)
                  clear ht
                  go_wp2
                  go_roundw
                  case rel => exact nod_text hlt h1 h2 HBs.out (below_on HBA.out HB2.out) HTR.out HL.out
                  case measure => simp [intOf]; omega
              | true =>
                go_wp2_with fail
                go_region_held3 (fun w' => w'.cell? ⟨kb, 6, none⟩ = some vE ∧ w'.cell? ⟨kb, 7, none⟩ = some vA ∧ w'.cell? ⟨kb, 8, none⟩ = some vS ∧ w'.cell? ⟨wr.heap.size, 2, none⟩ = some (.string nm) ∧ Below wa.heap.size wa w') (first | assumption | exact HS5.out | exact HCe.out _ (Below.drew (Below.refl _ _)) | exact HCe.out _ (Below.drew (s_four (by assumption))) | exact HCe.out _ (below_on (s_four (by assumption)) (by assumption))) (first
                  | (go_at_call 28; refine Calls.mono (HHs.out _ (s_four (by assumption))) ?_; rintro e w2 ⟨rfl, b2⟩))
                all_goals
                  have hb2 := s_four (by assumption)
                  have HB2 := Lib.hid hb2
                  have nb := fun i => cell_of_row _ wr.heap.size i _ _ _ ((hb2.block _ (by omega)).trans HNA.out)
                  have HKn := Lib.hid (known_el nm w2 (HC.out.sp.later (below_on HBwr.out (below_on HBA.out hb2))) (by unfold maxLen; omega))
                  obtain ⟨kn, hkn⟩ : ∃ kn, knownB nm = kn := ⟨_, rfl⟩
                  rw [hkn] at HKn HFlat HElem
                  clear hb2 hkn b2
                  go_wp2_with fail
                  refine Calls.mono HKn.out ?_
                  rintro e w3 ⟨rfl, b3⟩
                  have HB3 := Lib.hid (below_on HB2.out b3)
                  have nc := fun i => cell_of_row w3 wr.heap.size i _ _ _ ((HB3.out.block _ (by omega)).trans HNA.out)
                  clear b3 nb
                  cases kn with
                  | false =>
                    have HL := Lib.hid (HFlat.out (by rw [Bool.false_and]; rfl))
                    clear HFlat HElem
                    go_wp2_with fail
                    refine Calls.mono (HFl.out _ HB3.out) ?_
                    rintro e w9 ⟨rfl, ht⟩
                    have HTR := Lib.hid (show TextR kb base D x vE vA vS _ _ (.returned (.tuple #[])) w9 from ⟨rfl, ht⟩)
                    clear ht
                    go_wp2
                    go_roundw
                    case rel => exact nod_text hlt h1 h2 HBs.out (below_on HBA.out HB3.out) HTR.out HL.out
                    case measure => simp [intOf]; omega
                  | true =>
                    have HTk := Lib.hid fun (w' : World) (hb : Below wa.heap.size wa w') => takes_any x nm w' (HC.out.glob.later (below_on HBwr.out (below_on HBA.out hb))) (by omega)
                    obtain ⟨tk, htk⟩ : ∃ tk, x.takes nm = tk := ⟨_, rfl⟩
                    rw [htk] at HTk HFlat HElem
                    have hct : ∀ w' : World, Below wa.heap.size wa w' → (w'.cell? ⟨kb, 0, none⟩ = some (.bool x.para) ∧ w'.cell? ⟨kb, 1, none⟩ = some (.bool x.link) ∧ w'.cell? ⟨kb, 2, none⟩ = some (.bool x.item) ∧ w'.cell? ⟨kb, 3, none⟩ = some (.bool x.pair) ∧ w'.cell? ⟨kb, 4, none⟩ = some (.bool x.head) ∧ w'.cell? ⟨kb, 5, none⟩ = some (.bool x.pre) ∧ w'.cell? ⟨wr.heap.size, 2, none⟩ = some (.string nm) ∧ Below wa.heap.size wa w') := fun w' hb => by
                      have q1 := (HKp.out.below (below_on HBA.out hb) (by omega)).cell
                      have q2 := fun i => cell_of_row w' wr.heap.size i _ _ _ ((hb.block _ (by omega)).trans HNA.out)
                      exact ⟨q1 0, q1 1, q1 2, q1 3, q1 4, q1 5, q2 2, hb⟩
                    have HCt := Lib.hid hct
                    have HS8 := Lib.hid (hct w3 HB3.out)
                    clear hct htk
                    unfold Pl.val at HTk
                    cases tk with
                    | false =>
                      have HL := Lib.hid (HFlat.out (by simp))
                      clear HFlat HElem
                      go_wp2_with fail
                      go_region_held3 (fun w' => w'.cell? ⟨kb, 0, none⟩ = some (.bool x.para) ∧ w'.cell? ⟨kb, 1, none⟩ = some (.bool x.link) ∧ w'.cell? ⟨kb, 2, none⟩ = some (.bool x.item) ∧ w'.cell? ⟨kb, 3, none⟩ = some (.bool x.pair) ∧ w'.cell? ⟨kb, 4, none⟩ = some (.bool x.head) ∧ w'.cell? ⟨kb, 5, none⟩ = some (.bool x.pre) ∧ w'.cell? ⟨wr.heap.size, 2, none⟩ = some (.string nm) ∧ Below wa.heap.size wa w') (first | assumption | exact HS8.out | exact HCt.out _ (Below.drew HB3.out) | exact HCt.out _ (Below.drew (s_eight (by assumption))) | exact HCt.out _ (below_on (s_eight (by assumption)) (by assumption))) (first
                        | (go_at_call 61; refine Calls.mono (HTk.out _ (s_eight (by assumption))) ?_; rintro e w4 ⟨rfl, b4⟩))
                      all_goals
                        have hb4 := s_eight (by assumption)
                        have HB4 := Lib.hid hb4
                        have nd := fun i => cell_of_row _ wr.heap.size i _ _ _ ((hb4.block _ (by omega)).trans HNA.out)
                        clear hb4 nc
                        go_wp2_with fail
                        refine Calls.mono (HFl.out _ HB4.out) ?_
                        rintro e w9 ⟨rfl, ht⟩
                        have HTR := Lib.hid (show TextR kb base D x vE vA vS _ _ (.returned (.tuple #[])) w9 from ⟨rfl, ht⟩)
                        clear ht
                        go_wp2
                        go_roundw
                        case rel => exact nod_text hlt h1 h2 HBs.out (below_on HBA.out HB4.out) HTR.out HL.out
                        case measure => simp [intOf]; omega
                    | true =>
                      go_wp2_with fail
                      go_region_held3 (fun w' => w'.cell? ⟨kb, 0, none⟩ = some (.bool x.para) ∧ w'.cell? ⟨kb, 1, none⟩ = some (.bool x.link) ∧ w'.cell? ⟨kb, 2, none⟩ = some (.bool x.item) ∧ w'.cell? ⟨kb, 3, none⟩ = some (.bool x.pair) ∧ w'.cell? ⟨kb, 4, none⟩ = some (.bool x.head) ∧ w'.cell? ⟨kb, 5, none⟩ = some (.bool x.pre) ∧ w'.cell? ⟨wr.heap.size, 2, none⟩ = some (.string nm) ∧ Below wa.heap.size wa w') (first | assumption | exact HS8.out | exact HCt.out _ (Below.drew HB3.out) | exact HCt.out _ (Below.drew (s_eight (by assumption))) | exact HCt.out _ (below_on (s_eight (by assumption)) (by assumption))) (first
                        | (go_at_call 61; refine Calls.mono (HTk.out _ (s_eight (by assumption))) ?_; rintro e w4 ⟨rfl, b4⟩))
                      all_goals
                        have hb4 := s_eight (by assumption)
                        have HB4 := Lib.hid hb4
                        have nd := fun i => cell_of_row _ wr.heap.size i _ _ _ ((hb4.block _ (by omega)).trans HNA.out)
                        have hL := HElem.out (by rfl)
                        have HBr := Lib.hid (bare_any kb x vE vA vS v E A S kd sp nm tx (.slice Aa ma ca) (.slice Ak mk ck) at' S0 w4 (HKp.out.below (below_on HBA.out hb4) (by omega)) (HC.out.pol.later (below_on HBwr.out (below_on HBA.out hb4))) (HC.out.glob.later (below_on HBwr.out (below_on HBA.out hb4))) (HAt.out.keep fun j hj => (below_on HBwr.out (below_on HBA.out hb4)).block j (HS.out j hj)) (fun j hj => by have := HS.out j hj; have := HBwr.out.size; have := hb4.size; omega) HF.out (by omega) ⟨_, _, _, rfl⟩)
                        have HL := Lib.hid hL
                        clear hb4 nc HFlat HElem hL b4
                        go_wp2_with fail
                        refine Calls.mono HBr.out ?_
                        rintro e w5 ⟨v1, rfl, ha5, b5⟩
                        obtain ⟨A1, m1, c1, rfl⟩ := ha5.shape
                        obtain ⟨Av, cv, hvv⟩ := HOut.out.form
                        subst hvv
                        obtain ⟨wx, hwx⟩ : ∃ wx, w5.alloc (.cells #[.int .u8 1, .int .u8 0, .string nm, .slice A1 m1 c1, .string ⟨#[]⟩, .slice none 0 0] 48) = wx := ⟨_, rfl⟩
                        have b5a := below_on HB4.out b5
                        have hbx5 : Below w5.heap.size w5 wx := by rw [← hwx]; exact (Below.refl _ w5).alloc (Nat.le_refl _) _
                        have hzx : w5.heap.size + 1 ≤ wx.heap.size ∧ wx.heap.size ≤ w5.heap.size + 1 := by rw [← hwx]; simp
                        have hxx : wx.heap[w5.heap.size]? = some (.cells #[.int .u8 1, .int .u8 0, .string nm, .slice A1 m1 c1, .string ⟨#[]⟩, .slice none 0 0] 48 (0, 0)) := by rw [← hwx]; exact heap_alloc_new _ _
                        have bx := below_on b5a hbx5
                        have HBX := Lib.hid bx; have HWX := Lib.hid hwx; have HXX := Lib.hid hxx; have HA5 := Lib.hid ha5; have H5X := Lib.hid hbx5; have H45 := Lib.hid b5
                        have nx := fun i => cell_of_row wx wr.heap.size i _ _ _ ((bx.block _ (by omega)).trans HNA.out)
                        have hz45 := b5.size
                        have n5 := fun (o : Obj) i => (World.cell?_alloc_lt w5 o ⟨wr.heap.size, i, none⟩ (by have := HB4.out.size; show wr.heap.size < _; omega)).trans (cell_of_row w5 wr.heap.size i _ _ _ ((b5a.block _ (by omega)).trans HNA.out))
                        have hz4 := HB4.out.size
                        have HVd := Lib.hid (has_word voidT voidL nm wx row_void (HC.out.glob.later (below_on HBwr.out (below_on HBA.out bx))) (by omega))
                        have HXb := Lib.hid (show base ≤ w5.heap.size by omega)
                        have hlow : ∀ g, (Value.slice Av (L k).length cv).ownBlock = some g → g < wr.heap.size := fun g hg => by
                          obtain ⟨css, _, _, h3, _⟩ := HOut.out
                          exact (h3.lt g hg).2
                        have HLow := Lib.hid hlow
                        have HXo := Lib.hid (show (Value.slice Av (L k).length cv).ownBlock ≠ some w5.heap.size from fun e => by have := hlow _ e; omega)
                        have HTb := Lib.hid (fun (w' : World) (hb : Below wa.heap.size wa w') (g : Nat) (hg1 : 1 ≤ g) (hg3 : g ≤ 3) (vn : Value) (hs : SlS w' vn (namesL g)) => HGr.out D kb g x vE vA vS (.slice Av (L k).length cv) (.slice Ak mk ck) vn ks S0 w0 w' (by omega) hg1 hg3 HC.out HKd.out HS.out (below_on HBwr.out (below_on HBA.out hb)) (HKp.out.below (below_on HBA.out hb) (by omega)) hs (by omega))
                        have HInn := Lib.hid (fun (w' : World) (hb : Below wa.heap.size wa w') (px : Pl) => HI.out D kb x px vE vA vS (.slice Av (L k).length cv) (.slice Ak mk ck) ks S0 w0 w' (by omega) HC.out HKd.out HS.out (below_on HBwr.out (below_on HBA.out hb)) (HKp.out.below (below_on HBA.out hb) (by omega)) (by omega))
                        have HInto := Lib.hid (fun (w' : World) (hb : Below wa.heap.size wa w') => into_any x nm w' (HC.out.glob.later (below_on HBwr.out (below_on HBA.out hb))) (by omega))
                        obtain ⟨kds, hkds⟩ : ∃ kds : List (NT D), (if hasS voidL nm then [] else if isT nm ⟨#[116, 97, 98, 108, 101]⟩ then kidsN E A S n D 3 x ks else kidsN E A S n D 0 (x.into nm) ks) = kds := ⟨_, rfl⟩
                        have HKds := Lib.hid hkds
                        have HB45 := Lib.hid b5a
                        rw [hkds] at HL
                        clear hwx hbx5 hxx b5a bx ha5 b5 hlow nd hkds
                        unfold bareV
                        go_upto_block 3 with fail
                        rw [HWX.out]
                        go_cut [] (fun wz => ElemW D w5.heap.size w5 nm (.slice A1 m1 c1) kds wz)
                        case first =>
                          obtain ⟨vb, hvb⟩ : ∃ vb, hasS voidL nm = vb := ⟨_, rfl⟩
                          rw [hvb] at HVd HKds
                          clear hvb
                          go_wp2_with fail
                          refine Calls.mono HVd.out ?_
                          rintro e wx1 ⟨rfl, hw1⟩
                          rw [← hw1]
                          clear hw1
                          cases vb with
                          | true =>
                            have hkz := HKds.out
                            rw [if_pos rfl] at hkz
                            subst hkz
                            go_wp2
                            go_meet
                            exact ⟨_, HXX.out, nodes_nil _ _ _, H5X.out⟩
                          | false =>
                            have hkz := HKds.out
                            rw [if_neg (by decide)] at hkz
                            have hxb6 : ∀ w' : World, Below wx.heap.size wx w' → w'.heap[w5.heap.size]? = some (.cells #[.int .u8 1, .int .u8 0, .string nm, .slice A1 m1 c1, .string ⟨#[]⟩, .slice none 0 0] 48 (0, 0)) := fun w' hb => (hb.block _ (by omega)).trans HXX.out
                            have HXB6 := Lib.hid hxb6
                            clear hxb6
                            obtain ⟨tb, htb⟩ : ∃ tb, isT nm ⟨#[116, 97, 98, 108, 101]⟩ = tb := ⟨_, rfl⟩
                            rw [htb] at hkz
                            have a0 : (nm.toList == [116, 97, 98, 108, 101]) = tb := by rw [← htb]; unfold isT; rw [Lib.toList_data ⟨#[116, 97, 98, 108, 101]⟩]
                            cases tb with
                            | true =>
                              rw [if_pos rfl] at hkz
                              have a1 : nm.toList = [116, 97, 98, 108, 101] := by simpa using a0
                              have hbn : Below wx.heap.size wx (wx.alloc (.cells #[.string ⟨#[116, 98, 111, 100, 121, 32, 116, 102, 111, 111, 116, 32, 116, 104, 101, 97, 100]⟩, .string ⟨#[116, 114]⟩, .string ⟨#[116, 100, 32, 116, 104]⟩] 9)) := (Below.refl _ wx).alloc (Nat.le_refl _) _
                              have hsn : SlS (wx.alloc (.cells #[.string ⟨#[116, 98, 111, 100, 121, 32, 116, 102, 111, 111, 116, 32, 116, 104, 101, 97, 100]⟩, .string ⟨#[116, 114]⟩, .string ⟨#[116, 100, 32, 116, 104]⟩] 9)) (.slice (some ⟨wx.heap.size, 0, none⟩) 3 3) (namesL 3) := ⟨_, 3, rfl, Nat.le_refl _, rfl, fun _ => ⟨wx.heap.size, 0, rfl, by simp, fun j u hu => by rw [Nat.zero_add, cell_of_row _ _ j _ _ _ (heap_alloc_new wx _)]; simpa [namesL] using hu⟩⟩
                              have HCall := Lib.hid (HTb.out _ (below_on HBX.out hbn) 3 (by decide) (by decide) _ hsn)
                              have HBN := Lib.hid hbn
                              have HKz2 := Lib.hid hkz
                              clear hbn hsn htb hkz a0
                              go_wp2_with fail
                              refine Calls.mono HCall.out ?_
                              rintro e w6 ⟨v2, rfl, hk6, b6⟩
                              obtain ⟨A2, m2, c2, rfl⟩ := hk6.shape
                              have hbx6 := below_on HBN.out b6
                              have hx6 := HXB6.out w6 hbx6
                              have x6 := fun i => cell_of_row w6 w5.heap.size i _ _ _ hx6
                              have fx6 : ∀ i, w6.frozen? ⟨w5.heap.size, i, none⟩ = false := fun i => by simp [World.frozen?, hx6]
                              have HX6 := Lib.hid hx6; have HB6 := Lib.hid hbx6; have HK6 := Lib.hid hk6; have hs6 := HBN.out.size
                              clear b6 hbx6 hx6 hk6
                              go_wp2
                              go_meet
                              exact ⟨_, Joins.block_setCell HX6.out (i := 5) _, by
                                rw [← HKz2.out]
                                exact NodesAt.mono (fun j hj => ⟨by have := hj.1; omega, by rw [size_setCell]; exact hj.2⟩) D (NodesAt.keep (fun j hj => Below.heap_setCell _ _ _ _ (show j ≠ w5.heap.size by have := hj.1; omega)) D HK6.out), Below.setCell (p := ⟨w5.heap.size, 5, none⟩) (below_on H5X.out HB6.out) (Nat.le_refl _) _⟩
                            | false =>
                              rw [if_neg (by decide)] at hkz
                              have a1 : ¬ nm.toList = [116, 97, 98, 108, 101] := by simpa using a0
                              have HKz2 := Lib.hid hkz
                              unfold Pl.val at HInto
                              have nk := (HKp.out.below (below_on HBA.out HBX.out) (by omega)).cell
                              clear htb hkz
                              go_wp2_with fail
                              go_region_with (first
                                | (go_at_call 65; refine Calls.mono (HInto.out _ (Below.drew HBX.out)) ?_; rintro e w6 ⟨rfl, b6⟩; have hb6 : Below wx.heap.size wx w6 := below_on (Below.drew (Below.refl wx.heap.size wx)) b6; have HB6 := Lib.hid hb6; have n6 := (fun i => cell_of_row w6 wr.heap.size i _ _ _ (((below_on HBX.out hb6).block _ (by omega)).trans HNA.out)); clear b6 hb6)
                                | (go_at_call 64; refine Calls.mono (HInn.out _ (below_on HBX.out HB6.out) (x.into nm)) ?_; rintro e w7 ⟨v2, rfl, hk7, b7⟩; obtain ⟨A2, m2, c2, rfl⟩ := hk7.shape; have hb7 := below_on HB6.out b7; have hx7 := HXB6.out w7 hb7; have x7 := (fun i => cell_of_row w7 w5.heap.size i _ _ _ hx7); have fx7 : ∀ i, w7.frozen? ⟨w5.heap.size, i, none⟩ = false := (fun i => by simp [World.frozen?, hx7]); have HX7 := Lib.hid hx7; have HB7 := Lib.hid hb7; have HK7 := Lib.hid hk7; clear b7 hb7 hx7 hk7))
                              all_goals
                                go_wp2
                                go_meet
                                have hs6 := HB6.out.size
                                exact ⟨_, Joins.block_setCell HX7.out (i := 5) _, by
                                  rw [← HKz2.out]
                                  exact NodesAt.mono (fun j hj => ⟨by have := hj.1; omega, by rw [size_setCell]; exact hj.2⟩) D (NodesAt.keep (fun j hj => Below.heap_setCell _ _ _ _ (show j ≠ w5.heap.size by have := hj.1; omega)) D HK7.out), Below.setCell (p := ⟨w5.heap.size, 5, none⟩) (below_on H5X.out HB7.out) (Nat.le_refl _) _⟩
                        case rest =>
                          obtain ⟨v2, hxz0, hkz0, hbz0⟩ := hcut
                          obtain ⟨wz, hwz⟩ : ∃ wz : World, wz = wc := ⟨_, rfl⟩
                          subst hwz
                          have hb5z := below_on HB45.out hbz0
                          have HKz := Lib.hid (HKp.out.below (below_on HBA.out hb5z) (by omega)); have HOz := Lib.hid (HOut.out.later (below_on HBA.out hb5z)); have HBz := Lib.hid (below_on HBA.out hb5z); have HXz := Lib.hid hxz0
                          obtain ⟨A2, m2, c2, rfl⟩ := hkz0.shape
                          have HEl := Lib.hid (show NodeIs (NodesAt D) wz (Mine base (.slice Av (L k).length cv) wz) [.int .u8 1, .int .u8 0, .string nm, .slice A1 m1 c1, .string ⟨#[]⟩, .slice A2 m2 c2] ⟨1, 0, nm, bareA E A S nm at', ByteArray.empty, kds⟩ from elem_is (wC := w5) (wD := wz) (fun g hg => by have := HLow.out g hg; omega) (by omega) HA5.out (NodesAt.mono (fun j hj => ⟨by omega, hj.2⟩) D hkz0) (fun j hj _ => hbz0.block j hj) (fun _ _ _ => rfl) hbz0.size (Nat.le_refl _) (by omega) (by omega))
                          clear hb5z hxz0 hkz0 hbz0
                          obtain ⟨css, hc1, hc2, hown, hE⟩ := HOz.out
                          have hcl := flat_six css hc2
                          rw [hc1] at hcl
                          have HOwn := Lib.hid hown; have HC1 := Lib.hid hc1; have HC2 := Lib.hid hc2; have HCl := Lib.hid hcl; have HE := Lib.hid hE
                          clear hown hc1 hc2 hcl hE
                          have hbz := HBz.out.size
                          have hkz : kb < wz.heap.size := by omega
                          have hxz : w5.heap.size < wz.heap.size := (Array.getElem?_eq_some_iff.1 HXz.out).1
                          have kz := HKz.out.cell
                          have la := fun (o : Obj) i => (World.cell?_alloc_lt wz o ⟨kb, i, none⟩ hkz).trans (kz i)
                          have xz := fun i => cell_of_row wz w5.heap.size i _ _ _ HXz.out
                          have xla := fun (o : Obj) i => (World.cell?_alloc_lt wz o ⟨w5.heap.size, i, none⟩ hxz).trans (xz i)
                          have hi1 : (0 : Int) ≤ ((L k).length : Int) := by omega
                          have hi2 : ((L k).length : Int) < ((L k).length : Int) + 1 := by omega
                          have hbx : base ≤ w5.heap.size := by have := HXb.out; omega
                          have hcap : (L k).length + 1 ≤ maxLen := by unfold maxLen; omega
                          have hbyt : ((L k).length + 1) * 88 ≤ 140737488355328 := by omega
                          have hbs1 : base ≤ (wz.drew.alloc zeroO).heap.size := by simp; omega
                          have hkl : kb < (wz.drew.alloc zeroO).heap.size := by simp; omega
                          have hxl : w5.heap.size < (wz.drew.alloc zeroO).heap.size := by simp; omega
                          have hkn : some kb ≠ (Value.slice Av (L k).length cv).ownBlock := by intro he; have := (HOwn.out.lt _ he.symm).1; omega
                          have hwzs : w5.heap.size ≠ wz.heap.size + 1 := by omega
                          have hkx : kb ≠ w5.heap.size := by omega
                          try clear HLs
                          try clear HLw
                          try clear HG
                          try clear HB
                          try clear HN
                          try clear HI
                          try clear HGr
                          try clear HSt
                          try clear HTx
                          try clear HAt
                          try clear HKd
                          try clear HF
                          try clear HCe
                          try clear HS5
                          try clear HHs
                          try clear HFl
                          try clear HCt
                          try clear HS8
                          try clear HTk
                          try clear HBr
                          try clear HTb
                          try clear HInn
                          try clear HInto
                          try clear nx
                          try clear n5
                          try clear na
                          try clear nc
                          try clear nd
                          try clear d0
                          try clear d1
                          try clear d2
                          try clear d3
                          try clear d4
                          try clear d5
                          try clear z0
                          try clear z1
                          try clear z2
                          try clear HVd
                          try clear HA5
                          try clear H5X
                          try clear H45
                          try clear HLow
                          try clear HKn
                          try clear HC
                          try clear HWA
                          try clear HBA
                          try clear HNA
                          try clear HBA0
                          try clear HB2
                          try clear HB3
                          try clear HB4
                          try clear HBX
                          try clear HWX
                          try clear HXX
                          try clear HKp
                          try clear HOut
                          try clear HBwr
                          try clear hstep
                          try clear hwk
                          try clear hlen
                          try clear hatl
                          try clear hnm
                          try clear htx
                          try clear hki2
                          try clear hsp
                          try clear hzN
                          try clear hz45
                          try clear hz4
                          try clear hzx
                          try clear hza
                          try clear hbw0
                          try clear hzb
                          try clear hn
                          try clear hkb0
                          try clear hHeld
                          try clear HHas
                          go_wp2_with fail
                          go_region_law (refine step_row rfl (.tmp 45) (.tmp 48) 37 rfl base 48 iN _ 6 88 Tryz.underlying37 hiN hzN0 hzN1 hzN2 rfl (by decide) _ rfl (L k).length _ (World.ownsRow.alloc (w := wz.drew) HOwn.out _) ⟨wz.heap.size, 0, none⟩ 1 1 zeroN rfl rfl zero_cells (by simp [Value.oneCell', zeroN]) hcap hbyt hbs1 ?_; intro v7 w7 hown7 hgrow0 hob70; obtain ⟨g7, cap7, rfl⟩ := Joins.ownsRow_form hown7 (Nat.succ_pos _); have hgrow : (wz.drew.alloc zeroO).grownBy w7 (Value.ownBlock (.slice Av (L k).length cv)) := hgrow0; have hob7 : (Value.slice (some ⟨g7, 0, none⟩) ((L k).length + 1) cap7).ownBlock = Value.ownBlock (.slice Av (L k).length cv) ∨ (Value.slice (some ⟨g7, 0, none⟩) ((L k).length + 1) cap7).ownBlock = some (wz.drew.alloc zeroO).heap.size := hob70; clear hgrow0 hob70; have hk7 := Lib.hid ((hgrow.block kb hkl hkn).trans ((Below.heap_alloc wz.drew _ _ hkz).trans HKz.out)); have hx7 := Lib.hid ((hgrow.block w5.heap.size hxl (by intro he; exact HXo.out he.symm)).trans ((Below.heap_alloc wz.drew _ _ hxz).trans HXz.out)); have hgx : ¬ g7 = w5.heap.size := (fun e => by rcases hob7 with h | h; (exact HXo.out (h.symm.trans (by rw [e]; rfl))); (have h9 : g7 = wz.heap.size + 1 := (by simpa [Value.ownBlock] using h); exact hwzs (e.symm.trans h9))); have hgx2 : ¬ w5.heap.size = g7 := (fun e => hgx e.symm); have c7 : ∀ i u, zeroN[i]? = some u → w7.cell? ⟨g7, (L k).length * 6 + i, none⟩ = some u := (fun i u hu => (hown7.cellAt ((L k).length * 6 + i) (by have := (List.getElem?_eq_some_iff.1 hu).1; simp [zeroN] at this; omega)).trans (by rw [List.getElem?_append_right (by rw [HCl.out]; exact Nat.le_add_right _ _), HCl.out, Nat.add_sub_cancel_left]; exact hu)); have d0 := (show w7.cell? ⟨g7, (L k).length * 6, none⟩ = some (.int .u8 0) from c7 0 _ rfl); have d1 := c7 1 _ rfl; have d2 := c7 2 _ rfl; have d3 := c7 3 _ rfl; have d4 := c7 4 _ rfl; have d5 := c7 5 _ rfl; have f7 := (fun i => hown7.frozenAt i); clear c7; have l7 := fun i => cell_of_row w7 kb i _ _ _ hk7.out; have x7 := fun i => cell_of_row w7 w5.heap.size i _ _ _ hx7.out; have fk7 : ∀ i, w7.frozen? ⟨kb, i, none⟩ = false := (fun i => by simp [World.frozen?, show w7.heap[kb]? = _ from hk7.out]); have hne7 : ¬ g7 = kb := (fun e => by have := (hown7.lt g7 rfl).1; omega); have hne8 : ¬ kb = g7 := (fun e => hne7 e.symm); have hnk : ¬ kb = w5.heap.size := hkx; have hnk2 : ¬ w5.heap.size = kb := hkx.symm; have HW7 := Lib.hid hown7; have HG7 := Lib.hid hgrow; have HB7 := Lib.hid hob7; clear hown7 hgrow hob7)
                          all_goals
                            go_wp2
                            go_roundw
                            case rel =>
                              first
                                | (with_reducible exact nod_push rfl hlt h1 h2 HBs.out HBz.out HKz.out HC1.out HC2.out HOwn.out HE.out HEl.out HG7.out HB7.out HW7.out HL.out)
                                | (with_reducible exact nod_push2 rfl hlt h1 h2 HBs.out HBz.out HKz.out HC1.out HC2.out HOwn.out HE.out HEl.out HG7.out HB7.out HW7.out HL.out)
                            case measure => simp [intOf]; omega
          · have z0 : ((sp : Int) != 0) = true := by simp; omega
            have HL := Lib.hid (HSt.out.trans (stepN_gone (by simp only; omega) (.inr (.inl (by simp only; omega)))))
            clear hk1 hk2 hs0
            go_wp2
            go_roundw
            case rel => exact nod_same hlt h1 h2 HKp.out HOut.out HBs.out HBA0.out HL.out
            case measure => simp [intOf]; omega
        · have z1 : ((kd : Int) != 1) = true := by simp; omega
          have HL := Lib.hid (HSt.out.trans (stepN_gone (by simp only; omega) (.inl (by simp only; omega))))
          clear hk1 hk2
          go_wp2
          go_roundw
          case rel => exact nod_same hlt h1 h2 HKp.out HOut.out HBs.out HBA0.out HL.out
          case measure => simp [intOf]; omega
    · obtain rfl : k = l.length := by omega
      go_wp2
      go_end0
      exact ⟨rfl, v, hkp, hout, hbs⟩
end Go.Proofs.YtdkjenbncmedbaaGreatDoor
