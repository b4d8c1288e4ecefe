/- tympanref20.Right. -/
import Derived.Test.YtdkjenbncmedbaaGreatDoorRfKeep
import Derived.Test.YtdkjenbncmedbaaGreatDoorHeavy
namespace Go.Proofs.YtdkjenbncmedbaaGreatDoor
open Go.RowKit

def RefRightC (E : List ByteArray) (A : Prs) (S : List ByteArray) (n : Nat) : Prop :=
  ∀ (vE vA vS vl : Value) (l : List (NT n)) (S0 : Nat → Prop) (w0 w : World), Ctx w0 vE vA vS E A S → NodesAt n w0 S0 vl l → (∀ k, S0 k → k < w0.heap.size) → Below w0.heap.size w0 w → wt n l ≤ 100000 → Calls Tryz.prog 21 #[vl, .agg #[vE, vA, vS]] w (BoolR w (rightN E A S n l))
theorem right_zero' (E : List ByteArray) (A : Prs) (S : List ByteArray) (l : List (NT 0)) : rightN E A S 0 l = true := rfl
def rightO (E : List ByteArray) (A : Prs) (S : List ByteArray) (n : Nat) (y : NodeD (List (NT n))) : Bool := y.kind == 2 || (y.kind == 1 && (y.space == 0 && (hasS E y.name && ((y.attrs.all fun a => keepsB E A S y.name a.name a.value) && rightN E A S n y.kids))))
theorem right_next (E : List ByteArray) (A : Prs) (S : List ByteArray) (n : Nat) (l : List (NT (n + 1))) (k : Nat) (hk : k < l.length) (h : rightN E A S (n + 1) (l.take k) = true) (h2 : rightO E A S n l[k] = true) : rightN E A S (n + 1) (l.take (k + 1)) = true := by
  rw [List.take_succ_eq_append_getElem hk]
  exact rightR_snoc (K := List (NT n)) h h2
theorem right_stop (E : List ByteArray) (A : Prs) (S : List ByteArray) (n : Nat) (l : List (NT (n + 1))) (k : Nat) (hk : k < l.length) (h2 : rightO E A S n l[k] = false) : rightN E A S (n + 1) l = false := by
  cases hr : rightN E A S (n + 1) l with
  | false => rfl
  | true =>
    have := List.all_eq_true.1 (show List.all (α := NodeD (List (NT n))) l (rightO E A S n) = true from hr) l[k] (List.getElem_mem hk)
    rw [this] at h2
    cases h2
theorem all_next (P : AttrD → Bool) (l : List AttrD) (k : Nat) (hk : k < l.length) (h : (l.take k).all P = true) (h2 : P l[k] = true) : (l.take (k + 1)).all P = true := by
  rw [List.take_succ_eq_append_getElem hk, List.all_append, h]
  simp [h2]
theorem all_stop (P : AttrD → Bool) (l : List AttrD) (k : Nat) (hk : k < l.length) (h2 : P l[k] = false) : l.all P = false := by
  cases hr : l.all P with
  | false => rfl
  | true => rw [List.all_eq_true.1 hr _ (List.getElem_mem hk)] at h2; cases h2
theorem s_eight8 {a b c d e f g h : Prop} (s : a ∧ b ∧ c ∧ d ∧ e ∧ f ∧ g ∧ h) : h := s.2.2.2.2.2.2.2
set_option maxHeartbeats 16000000 in
set_option maxRecDepth 100000 in
theorem refright_step (E : List ByteArray) (A : Prs) (S : List ByteArray) (n : Nat) (hR : RefRightC E A S n) : RefRightC E A S (n + 1) := by
  intro vE vA vS vl l S0 w0 w hc hv hS hb hwt
  obtain ⟨Al, cl', rfl, hl, hget⟩ := hv.get
  obtain ⟨wa, hwa⟩ : ∃ wa, w.alloc (.cells #[vE, vA, vS] 25) = wa := ⟨_, rfl⟩
  have hba : Below w.heap.size w wa := by rw [← hwa]; exact (Below.refl _ w).alloc (Nat.le_refl _) _
  have hna : wa.heap[w.heap.size]? = some (.cells #[vE, vA, vS] 25 (0, 0)) := by rw [← hwa]; exact heap_alloc_new _ _
  have hza : w.heap.size < wa.heap.size := lt_block hna
  have hb0 := hb.size
  have hcells : ∀ w' : World, Below wa.heap.size wa w' → (w'.cell? ⟨w.heap.size, 0, none⟩ = some vE ∧ w'.cell? ⟨w.heap.size, 1, none⟩ = some vA ∧ w'.cell? ⟨w.heap.size, 2, none⟩ = some vS) := fun w' hb' => by
    have q := fun i => cell_of_row w' w.heap.size i _ _ _ ((hb'.block _ hza).trans hna)
    exact ⟨q 0, q 1, q 2⟩
  have HB0 := Lib.hid (below_on hb hba)
  have HH := Lib.hid fun (w' : World) (hb' : Below wa.heap.size wa w') (nm : ByteArray) => hc.refhas (below_on hb (below_on hba hb')) nm
  have HKp := Lib.hid fun (w' : World) (hb' : Below wa.heap.size wa w') (el nm val : ByteArray) (hs : val.size ≤ 1000000000) => refkeeps_any (.agg #[vE, vA, vS]) E A S el nm val w' (hc.pol.later (below_on hb (below_on hba hb'))) hs
  have HR := Lib.hid fun (w' : World) (hb' : Below wa.heap.size wa w') (vk : Value) (l' : List (NT n)) (hk : NodesAt n w0 S0 vk l') (hw : wt n l' ≤ 100000) => hR vE vA vS vk l' S0 w0 w' hc hk hS (below_on hb (below_on hba hb')) hw
  have HCe := Lib.hid hcells; have HBA := Lib.hid hba; have HWA := Lib.hid hwa; have HG := Lib.hid hget; have HS := Lib.hid hS
  have HN := Lib.hid (right_next E A S n l); have HSt := Lib.hid (right_stop E A S n l)
  clear hget hv hS hb hc hR hba hna hcells hwa
  go_enter Tryz.func21, Tryz.ntmps21
  go_upto_region 1 with fail
  rw [HWA.out]
  go_wp2_with fail
  go_loopw [5] (fun i wr => ∃ k : Nat, i = .int .i64 k ∧ k ≤ l.length ∧ rightN E A S (n + 1) (l.take k) = true ∧ Below wa.heap.size wa wr) (fun i _ => l.length - (intOf i).toNat)
  case atStart => exact ⟨0, rfl, Nat.zero_le _, rfl, Below.refl _ _⟩
  case round =>
    obtain ⟨k, rfl, hk, hu, hbr⟩ := hrel
    obtain ⟨wo, hwo⟩ : ∃ wo : World, wo = wr := ⟨_, rfl⟩
    subst hwo
    have HU := Lib.hid hu; have HBr := Lib.hid hbr
    clear hu hbr
    by_cases hlt : k < l.length
    · have hki : (k : Int) < (l.length : Int) := by omega
      obtain ⟨ad, va, vk, hA, hatt, hkids, hnm, htx, hki2, hsp, hbl, c0, c1, c2, c3, c4, c5⟩ := HG.out k hlt
      subst hA
      have hbw0 := HS.out _ hbl
      have hbwr : Below w0.heap.size w0 wo := below_on HB0.out HBr.out
      have q : ∀ (j : Nat), wo.cell? ⟨(ad.add (k * 6)).block, j, none⟩ = w0.cell? ⟨(ad.add (k * 6)).block, j, none⟩ := fun j => hbwr.cell (by rw [block_of_add]; exact hbw0)
      have d0 := (hbwr.cell (p := ad.add (k * 6)) (by rw [block_of_add]; exact hbw0)).trans c0
      have d1 := (q _).trans c1
      have d2 := (q _).trans c2
      have d3 := (q _).trans c3
      have d4 := (q _).trans c4
      have d5 := (q _).trans c5
      clear c0 c1 c2 c3 c4 c5 q
      have HNx := Lib.hid (HN.out k hlt HU.out)
      have HSx := Lib.hid (HSt.out k hlt)
      have hwg := wt_get n l k hlt
      obtain ⟨Aa, ca, rfl, hla, hga⟩ := hatt.get
      obtain ⟨Ak, mk, ck, rfl⟩ := hkids.shape
      clear hatt
      obtain ⟨y, hy⟩ : ∃ y : NT (n + 1), l[k] = y := ⟨_, rfl⟩
      rw [hy] at HNx HSx d0 d1 d2 d3 d4 hwg hnm htx hki2 hsp hkids hga hla
      clear hy
      obtain ⟨kd, sp, nm, at', tx, ks⟩ := y
      unfold rightO at HNx HSx
      simp only at HNx HSx d0 d1 d2 d3 d4 hwg hnm htx hki2 hsp hga hla
      have HKd := Lib.hid (show NodesAt n w0 S0 (.slice Ak mk ck) ks from hkids)
      have HGa := Lib.hid hga
      have hka : attrsWt at' ≤ 100000 := by omega
      have hkk : wt n ks ≤ 100000 := by omega
      clear hkids hga
      obtain ⟨wn, hwn⟩ : ∃ wn, wo.alloc (.cells #[.int .u8 kd, .int .u8 sp, .string nm, .slice Aa at'.length ca, .string tx, .slice Ak mk ck] 48) = wn := ⟨_, rfl⟩
      have hbn : Below wo.heap.size wo wn := by rw [← hwn]; exact (Below.refl _ wo).alloc (Nat.le_refl _) _
      have hnn : wn.heap[wo.heap.size]? = some (.cells #[.int .u8 kd, .int .u8 sp, .string nm, .slice Aa at'.length ca, .string tx, .slice Ak mk ck] 48 (0, 0)) := by rw [← hwn]; exact heap_alloc_new _ _
      have HBn := Lib.hid (below_on HBr.out hbn)
      have HNc := Lib.hid fun (w' : World) (hb' : Below wn.heap.size wn w') => (fun i => cell_of_row w' wo.heap.size i _ _ _ ((hb'.block _ (lt_block hnn)).trans hnn))
      have HWN := Lib.hid hwn
      clear hbn hnn hwn
      have nn := HNc.out wn (Below.refl _ _)
      obtain ⟨p0, p1, p2⟩ := HCe.out wn HBn.out
      by_cases hk2 : kd = 2
      · have z2 : ((kd : Int) == 2) = true := by rw [hk2]; rfl
        have HT := Lib.hid (HNx.out (by rw [hk2]; rfl))
        clear hk2
        go_wp2
        go_roundw
        case rel => exact ⟨k + 1, by go_num, hlt, HT.out, below_al HBr.out _⟩
        case measure => simp [intOf]; omega
      · have z2 : ((kd : Int) == 2) = false := by simp; omega
        have e2 : (kd == 2) = false := by simp; omega
        rw [e2, Bool.false_or] at HNx HSx
        obtain ⟨he, ehe⟩ : ∃ he, hasS E nm = he := ⟨_, rfl⟩
        have hh := HH.out wn HBn.out nm
        rw [ehe] at hh HNx HSx
        have HHn := Lib.hid hh
        clear hh ehe hk2 e2
        go_upto_region 5 with fail
        rw [HWN.out]
        go_wp2_with fail
        refine Calls.mono HHn.out ?_
        rintro e w3 ⟨rfl, b3⟩
        have n3 := HNc.out w3 b3
        obtain ⟨p0, p1, p2⟩ := HCe.out w3 (below_on HBn.out b3)
        have HB3 := Lib.hid (below_on HBn.out b3)
        have HN3 := Lib.hid b3
        clear b3
        by_cases hk1 : kd = 1
        · have z1 : ((kd : Int) != 1) = false := by rw [hk1]; rfl
          have e1 : (kd == 1) = true := by rw [hk1]; rfl
          rw [e1, Bool.true_and] at HNx HSx
          by_cases hs0 : sp = 0
          · have z0 : ((sp : Int) != 0) = false := by rw [hs0]; rfl
            have e0 : (sp == 0) = true := by rw [hs0]; rfl
            rw [e0, Bool.true_and] at HNx HSx
            cases he with
            | false =>
              have HT := Lib.hid (HSx.out rfl)
              clear HNx HSx
              go_wp2
              go_ret
              exact ⟨by rw [HT.out]; rfl, below_on HBA.out HB3.out⟩
            | true =>
              rw [Bool.true_and] at HNx HSx
              go_wp2_with fail
              go_loopw [8] (fun i wi => ∃ j : Nat, i = .int .i64 j ∧ j ≤ at'.length ∧ ((at'.take j).all fun a => keepsB E A S nm a.name a.value) = true ∧ Below wn.heap.size wn wi) (fun i _ => at'.length - (intOf i).toNat)
              case atStart => exact ⟨0, rfl, Nat.zero_le _, rfl, HN3.out⟩
              case round =>
                obtain ⟨j, rfl, hj, ha, hbi⟩ := hrel
                have HA := Lib.hid ha; have HBi := Lib.hid hbi
                clear ha hbi
                have hca : ∀ w' : World, Below wr.heap.size wr w' → (w'.cell? ⟨w.heap.size, 0, none⟩ = some vE ∧ w'.cell? ⟨w.heap.size, 1, none⟩ = some vA ∧ w'.cell? ⟨w.heap.size, 2, none⟩ = some vS ∧ w'.cell? ⟨wo.heap.size, 2, none⟩ = some (.string nm) ∧ w'.cell? ⟨wo.heap.size, 3, none⟩ = some (.slice Aa at'.length ca) ∧ Below wr.heap.size wr w') := fun w' hb' => by
                  have hb2 := below_on HBi.out hb'
                  have q := HNc.out w' hb2
                  obtain ⟨r0, r1, r2⟩ := HCe.out w' (below_on HBn.out hb2)
                  exact ⟨r0, r1, r2, q 2, q 3, hb'⟩
                have HCa := Lib.hid hca
                have HSa := Lib.hid (hca wr (Below.refl _ _))
                obtain ⟨r0, r1, r2, r3, r4, _⟩ := HSa.out
                have HBwi := Lib.hid (below_on HBn.out HBi.out)
                clear hca
                by_cases hjt : j < at'.length
                · have hji : (j : Int) < (at'.length : Int) := by omega
                  obtain ⟨ad2, hA2, hz1, hz2, hbl2, c0, c1⟩ := HGa.out j hjt
                  subst hA2
                  have hbw2 := HS.out _ hbl2
                  have hb02 : Below w0.heap.size w0 wr := below_on HB0.out HBwi.out
                  have e0 := (hb02.cell (p := ad2.add (j * 2)) (by rw [block_of_add]; exact hbw2)).trans c0
                  have e1 := (hb02.cell (p := ⟨(ad2.add (j * 2)).block, (ad2.add (j * 2)).off + 1, none⟩) (by show (ad2.add (j * 2)).block < _; rw [block_of_add]; exact hbw2)).trans c1
                  have hma := attrsWt_mem (List.getElem_mem hjt)
                  have HAn := Lib.hid (all_next (fun a => keepsB E A S nm a.name a.value) at' j hjt HA.out)
                  have HAs := Lib.hid (all_stop (fun a => keepsB E A S nm a.name a.value) at' j hjt)
                  obtain ⟨aa, haa⟩ : ∃ aa, at'[j] = aa := ⟨_, rfl⟩
                  rw [haa] at e0 e1 hma HAn HAs
                  obtain ⟨an, av⟩ := aa
                  simp only at e0 e1 hma HAn HAs
                  have hkp := fun (w' : World) (hb' : Below wr.heap.size wr w') => HKp.out w' (below_on HBwi.out hb') nm an av (by omega)
                  obtain ⟨kb, ekb⟩ : ∃ kb, keepsB E A S nm an av = kb := ⟨_, rfl⟩
                  rw [ekb] at hkp HAn HAs
                  have HKq := Lib.hid hkp
                  have hcb : ∀ w' : World, Below wr.heap.size wr w' → (w'.cell? ⟨w.heap.size, 0, none⟩ = some vE ∧ w'.cell? ⟨w.heap.size, 1, none⟩ = some vA ∧ w'.cell? ⟨w.heap.size, 2, none⟩ = some vS ∧ w'.cell? ⟨wo.heap.size, 2, none⟩ = some (.string nm) ∧ w'.cell? ⟨wo.heap.size, 3, none⟩ = some (.slice (some ad2) at'.length ca) ∧ w'.cell? (ad2.add (j * 2)) = some (.string an) ∧ w'.cell? ⟨(ad2.add (j * 2)).block, (ad2.add (j * 2)).off + 1, none⟩ = some (.string av) ∧ Below wr.heap.size wr w') := fun w' hb' => by
                    obtain ⟨x0, x1, x2, x3, x4, x5⟩ := HCa.out w' hb'
                    have hl2 : ad2.block < wr.heap.size := Nat.lt_of_lt_of_le hbw2 hb02.size
                    exact ⟨x0, x1, x2, x3, x4, (hb'.cell (p := ad2.add (j * 2)) (by rw [block_of_add]; exact hl2)).trans e0, (hb'.cell (p := ⟨(ad2.add (j * 2)).block, (ad2.add (j * 2)).off + 1, none⟩) (by show (ad2.add (j * 2)).block < _; rw [block_of_add]; exact hl2)).trans e1, x5⟩
                  have HCb := Lib.hid hcb
                  have HSb := Lib.hid (hcb wr (Below.refl _ _))
                  clear haa ekb hkp hcb c0 c1
                  go_wp2_with fail
                  go_region_held3 (fun w' => w'.cell? ⟨w.heap.size, 0, none⟩ = some vE ∧ w'.cell? ⟨w.heap.size, 1, none⟩ = some vA ∧ w'.cell? ⟨w.heap.size, 2, none⟩ = some vS ∧ w'.cell? ⟨wo.heap.size, 2, none⟩ = some (.string nm) ∧ w'.cell? ⟨wo.heap.size, 3, none⟩ = some (.slice (some ad2) at'.length ca) ∧ w'.cell? (ad2.add (j * 2)) = some (.string an) ∧ w'.cell? ⟨(ad2.add (j * 2)).block, (ad2.add (j * 2)).off + 1, none⟩ = some (.string av) ∧ Below wr.heap.size wr w') (first | assumption | exact HSb.out | (with_reducible exact HCb.out _ (Below.drew (Below.refl _ _))) | (with_reducible exact HCb.out _ (Below.drew (s_eight8 (by assumption)))) | (with_reducible exact HCb.out _ (below_on (s_eight8 (by assumption)) (by assumption)))) (first
                    | (go_at_call 50; (with_reducible refine Calls.mono (HKq.out _ (s_eight8 (by assumption))) ?_); rintro e w4 ⟨rfl, b4⟩))
                  all_goals
                    have hb4 := s_eight8 (by assumption)
                    have HB4 := Lib.hid (below_on HBi.out hb4)
                    clear hb4
                    cases kb with
                    | true =>
                      go_wp2
                      go_roundw
                      case rel => exact ⟨j + 1, by go_num, hjt, HAn.out rfl, HB4.out⟩
                      case measure => simp [intOf]; omega
                    | false =>
                      have HT := Lib.hid (HSx.out (by rw [HAs.out rfl, Bool.false_and]))
                      go_wp2
                      go_ret
                      exact ⟨by rw [HT.out]; rfl, below_on HBA.out (below_on HBn.out HB4.out)⟩
                · obtain rfl : j = at'.length := by omega
                  have hv := HA.out
                  rw [List.take_length] at hv
                  rw [hv, Bool.true_and] at HNx HSx
                  have n4 := HNc.out wr HBi.out
                  have hrk := HR.out wr HBwi.out _ ks HKd.out hkk
                  obtain ⟨rb, erb⟩ : ∃ rb, rightN E A S n ks = rb := ⟨_, rfl⟩
                  rw [erb] at hrk HNx HSx
                  have HRk := Lib.hid hrk
                  clear hv hrk erb HA
                  go_wp2_with fail
                  refine Calls.mono HRk.out ?_
                  rintro e w5 ⟨rfl, b5⟩
                  have HB5 := Lib.hid (below_on HBwi.out b5)
                  clear b5
                  cases rb with
                  | true =>
                    have HT := Lib.hid (HNx.out rfl)
                    go_wp2
                    go_roundw
                    case rel => exact ⟨k + 1, by go_num, hlt, HT.out, HB5.out⟩
                    case measure => simp [intOf]; omega
                  | false =>
                    have HT := Lib.hid (HSx.out rfl)
                    go_wp2
                    go_ret
                    exact ⟨by rw [HT.out]; rfl, below_on HBA.out HB5.out⟩
          · have z0 : ((sp : Int) != 0) = true := by simp; omega
            have e0 : (sp == 0) = false := by simp; omega
            rw [e0, Bool.false_and] at HSx
            have HT := Lib.hid (HSx.out rfl)
            clear HNx HSx
            go_wp2
            go_ret
            exact ⟨by rw [HT.out]; rfl, below_on HBA.out HB3.out⟩
        · have z1 : ((kd : Int) != 1) = true := by simp; omega
          have e1 : (kd == 1) = false := by simp; omega
          rw [e1, Bool.false_and] at HSx
          have HT := Lib.hid (HSx.out rfl)
          clear HNx HSx
          go_wp2
          go_ret
          exact ⟨by rw [HT.out]; rfl, below_on HBA.out HB3.out⟩
    · obtain rfl : k = l.length := by omega
      have hv := HU.out
      rw [List.take_length] at hv
      have HV := Lib.hid hv
      clear hv HU
      go_wp2
      go_ret
      exact ⟨by rw [HV.out]; rfl, below_on HBA.out HBr.out⟩
end Go.Proofs.YtdkjenbncmedbaaGreatDoor
