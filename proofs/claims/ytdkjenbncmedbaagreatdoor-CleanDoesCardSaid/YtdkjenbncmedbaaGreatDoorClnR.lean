/- clean.Right. -/
import Derived.Test.YtdkjenbncmedbaaGreatDoorClnN
import Derived.Test.YtdkjenbncmedbaaGreatDoorClnQ
namespace Go.Proofs.YtdkjenbncmedbaaGreatDoor
open Go.RowKit

def lostB (E : List ByteArray) (A : Prs) (S : List ByteArray) (nm : ByteArray) (a : AttrD) : Bool := !keepsB E A S nm a.name a.value
def wrongN (E : List ByteArray) (A : Prs) (S : List ByteArray) (n : Nat) (y : NodeD (List (NT n))) : Bool := !(y.kind == 2 || (y.kind == 1 && (y.space == 0 && (hasS E y.name && ((y.attrs.all fun a => keepsB E A S y.name a.name a.value) && rightN E A S n y.kids)))))
theorem all_any {α : Type} (p : α → Bool) : ∀ l : List α, l.all p = !(l.any fun x => !(p x))
  | [] => rfl
  | a :: l => by rw [List.all_cons, List.any_cons, all_any p l, Bool.not_or, Bool.not_not]
theorem right_wrong (E : List ByteArray) (A : Prs) (S : List ByteArray) (n : Nat) (l : List (NT (n + 1))) : rightN E A S (n + 1) l = !(List.any (α := NT (n + 1)) l (wrongN E A S n)) :=
  all_any (α := NT (n + 1)) _ l
theorem all_lost (E : List ByteArray) (A : Prs) (S : List ByteArray) (nm : ByteArray) (l : List AttrD) : (l.all fun a => keepsB E A S nm a.name a.value) = !(l.any (lostB E A S nm)) := all_any _ l
set_option maxHeartbeats 2000000 in
set_option maxRecDepth 100000 in
theorem lost_any (E : List ByteArray) (A : Prs) (S : List ByteArray) (vE vA vS : Value) (x : AttrD) (nm : ByteArray) (g g2 : Nat) (w : World) (hp : PolAt w (.agg #[vE, vA, vS]) E A S) (hG : Glob w) (c0 : w.cell? ⟨g, 0, none⟩ = some vE) (c1 : w.cell? ⟨g, 1, none⟩ = some vA) (c2 : w.cell? ⟨g, 2, none⟩ = some vS) (hg : g < w.heap.size)
    (d2 : w.cell? ⟨g2, 2, none⟩ = some (.string nm)) (hg2 : g2 < w.heap.size) (hx : x.value.size ≤ 1000000000) : Calls Tryz.prog 46 #[.agg #[.string x.name, .string x.value], .pointer (some ⟨g, 0, none⟩), .pointer (some ⟨g2, 0, none⟩)] w (BoolR w (lostB E A S nm x)) := by
  have HK := Lib.hid fun (w' : World) (hb : Below w.heap.size w w') => keeps_any (.agg #[vE, vA, vS]) E A S nm x.name x.value w' (hp.later hb) (hG.later hb) hx
  have a0 := fun o => (World.cell?_alloc_lt w o ⟨g, 0, none⟩ hg).trans c0
  have a1 := fun o => (World.cell?_alloc_lt w o ⟨g, 1, none⟩ hg).trans c1
  have a2 := fun o => (World.cell?_alloc_lt w o ⟨g, 2, none⟩ hg).trans c2
  have a3 := fun o => (World.cell?_alloc_lt w o ⟨g2, 2, none⟩ hg2).trans d2
  clear hp hG c0 c1 c2 d2
  unfold lostB
  go_enter Tryz.func46, Tryz.ntmps46
  go_wp2_with fail
  refine Calls.mono (HK.out _ ((Below.refl _ _).alloc (Nat.le_refl _) _)) ?_
  rintro e w1 ⟨rfl, b1⟩
  have HB := Lib.hid (below_on ((Below.refl _ _).alloc (Nat.le_refl _) _) b1)
  clear b1
  go_wp2
  go_ret
  exact ⟨rfl, HB.out⟩
/-- The cells of a policy that lies at g. -/
def PolCell (w : World) (g : Nat) (vE vA vS : Value) : Prop := w.cell? ⟨g, 0, none⟩ = some vE ∧ w.cell? ⟨g, 1, none⟩ = some vA ∧ w.cell? ⟨g, 2, none⟩ = some vS
def RightC (E : List ByteArray) (A : Prs) (S : List ByteArray) (n : Nat) : Prop :=
  ∀ (vE vA vS vl : Value) (l : List (NT n)) (S0 : Nat → Prop) (w0 w : World), Ctx w0 vE vA vS E A S → NodesAt n w0 S0 vl l → (∀ k, S0 k → k < w0.heap.size) → Below w0.heap.size w0 w → wt n l ≤ 100000 → Calls Tryz.prog 20 #[vl, .agg #[vE, vA, vS]] w (BoolR w (rightN E A S n l))
theorem s_ten {a b c d e f g h i : Prop} (s : a ∧ b ∧ c ∧ d ∧ e ∧ f ∧ g ∧ h ∧ i) : i := s.2.2.2.2.2.2.2.2
set_option maxHeartbeats 4000000 in
set_option maxRecDepth 100000 in
theorem wrong_any (E : List ByteArray) (A : Prs) (S : List ByteArray) (n : Nat) (hR : RightC E A S n) (vE vA vS va vk : Value) (y : NodeD (List (NT n))) (g : Nat) (S0 : Nat → Prop) (w0 w : World) (hc : Ctx w0 vE vA vS E A S) (hat : AttrsAt w0 S0 va y.attrs) (hkd : NodesAt n w0 S0 vk y.kids) (hS : ∀ k, S0 k → k < w0.heap.size) (hb : Below w0.heap.size w0 w)
    (hP : PolCell w g vE vA vS) (hg : g < w.heap.size) (hw1 : attrsWt y.attrs ≤ 100000) (hw2 : wt n y.kids ≤ 100000) : Calls Tryz.prog 45 #[.agg #[.int .u8 y.kind, .int .u8 y.space, .string y.name, va, .string y.text, vk], .pointer (some ⟨g, 0, none⟩)] w (BoolR w (wrongN E A S n y)) := by
  obtain ⟨kd, sp, nm, at', tx, ks⟩ := y
  simp only at hat hkd hw1 hw2
  obtain ⟨Aa, ma, ca, rfl⟩ := hat.shape
  obtain ⟨Ak, mk, ck, rfl⟩ := hkd.shape
  unfold wrongN
  simp only
  obtain ⟨wa, hwa⟩ : ∃ wa, w.alloc (.cells #[.int .u8 kd, .int .u8 sp, .string nm, .slice Aa ma ca, .string tx, .slice Ak mk ck] 48) = wa := ⟨_, rfl⟩
  have hba : Below w.heap.size w wa := by rw [← hwa]; exact (Below.refl _ w).alloc (Nat.le_refl _) _
  have hza : w.heap.size + 1 ≤ wa.heap.size ∧ wa.heap.size ≤ w.heap.size + 1 := by rw [← hwa]; simp
  have hna : wa.heap[w.heap.size]? = some (.cells #[.int .u8 kd, .int .u8 sp, .string nm, .slice Aa ma ca, .string tx, .slice Ak mk ck] 48 (0, 0)) := by rw [← hwa]; exact heap_alloc_new _ _
  have hb0 := hb.size
  have hcells : ∀ w' : World, Below wa.heap.size wa w' → (w'.cell? ⟨g, 0, none⟩ = some vE ∧ w'.cell? ⟨g, 1, none⟩ = some vA ∧ w'.cell? ⟨g, 2, none⟩ = some vS ∧ w'.cell? ⟨w.heap.size, 0, none⟩ = some (.int .u8 kd) ∧ w'.cell? ⟨w.heap.size, 1, none⟩ = some (.int .u8 sp) ∧ w'.cell? ⟨w.heap.size, 2, none⟩ = some (.string nm) ∧ w'.cell? ⟨w.heap.size, 3, none⟩ = some (.slice Aa ma ca) ∧ w'.cell? ⟨w.heap.size, 5, none⟩ = some (.slice Ak mk ck) ∧ Below wa.heap.size wa w') := fun w' hb' => by
    have hb2 := below_on hba hb'
    have q := fun i => cell_of_row w' w.heap.size i _ _ _ ((hb'.block _ (by omega)).trans hna)
    exact ⟨(hb2.cell (p := ⟨g, 0, none⟩) hg).trans hP.1, (hb2.cell (p := ⟨g, 1, none⟩) hg).trans hP.2.1, (hb2.cell (p := ⟨g, 2, none⟩) hg).trans hP.2.2, q 0, q 1, q 2, q 3, q 5, hb'⟩
  have hH := fun (w' : World) (hb' : Below wa.heap.size wa w') => hc.has (below_on hb (below_on hba hb')) nm
  have hCL := fun (w' : World) (hb' : Below wa.heap.size wa w') => contains_lost at' (lostB E A S nm) (.slice Aa ma ca) g w.heap.size S0 w' (hat.keep fun j hj => (below_on hb (below_on hba hb')).block j (hS j hj)) (fun j hj => by have := hS j hj; have := hb'.size; omega) (fun a ha w2 hb2 => by
    have h2 := hcells w2 (below_on hb' hb2)
    have hm := attrsWt_mem ha
    have hz2 := (below_on hb' hb2).size
    exact lost_any E A S vE vA vS a nm g w.heap.size w2 (hc.pol.later (below_on hb (below_on hba (below_on hb' hb2)))) (hc.glob.later (below_on hb (below_on hba (below_on hb' hb2)))) h2.1 h2.2.1 h2.2.2.1 (by omega) h2.2.2.2.2.2.1 (by omega) (by omega))
  have hRt := fun (w' : World) (hb' : Below wa.heap.size wa w') => hR vE vA vS (.slice Ak mk ck) ks S0 w0 w' hc hkd hS (below_on hb (below_on hba hb')) hw2
  have HCe := Lib.hid hcells; have HS5 := Lib.hid (hcells wa (Below.refl _ _))
  have HH := Lib.hid hH; have HCL := Lib.hid hCL; have HR := Lib.hid hRt; have HBA := Lib.hid hba; have HWA := Lib.hid hwa
  have na := fun i => cell_of_row wa w.heap.size i _ _ _ hna
  have ng := hcells wa (Below.refl _ _)
  obtain ⟨ng0, ng1, ng2, _⟩ := ng
  rw [all_lost]
  clear hcells hH hCL hRt hba hwa hna hat hkd hS hb hc hP hR
  by_cases hk2 : kd = 2
  · have z2 : ((kd : Int) == 2) = true := by rw [hk2]; rfl
    have e2 : (kd == 2) = true := by rw [hk2]; rfl
    rw [e2, Bool.true_or]
    clear hk2
    go_enter Tryz.func45, Tryz.ntmps45
    go_wp2_with fail
    rw [HWA.out]
    go_wp2
    go_ret
    exact ⟨rfl, HBA.out⟩
  · have z2 : ((kd : Int) == 2) = false := by simp; omega
    have e2 : (kd == 2) = false := by simp; omega
    rw [e2, Bool.false_or]
    by_cases hk1 : kd = 1
    · have z1 : ((kd : Int) != 1) = false := by rw [hk1]; rfl
      have e1 : (kd == 1) = true := by rw [hk1]; rfl
      rw [e1, Bool.true_and]
      by_cases hs0 : sp = 0
      · have z0 : ((sp : Int) != 0) = false := by rw [hs0]; rfl
        have e0 : (sp == 0) = true := by rw [hs0]; rfl
        rw [e0, Bool.true_and]
        clear hk1 hk2 hs0 e0 e1 e2
        obtain ⟨eb, heb⟩ : ∃ eb, hasS E nm = eb := ⟨_, rfl⟩
        obtain ⟨lb, hlb⟩ : ∃ lb, at'.any (lostB E A S nm) = lb := ⟨_, rfl⟩
        obtain ⟨rb, hrb⟩ : ∃ rb, rightN E A S n ks = rb := ⟨_, rfl⟩
        rw [heb] at HH
        rw [hlb] at HCL
        rw [hrb] at HR
        rw [heb, hlb, hrb]
        clear heb hlb hrb
        cases eb with
        | false =>
          go_enter Tryz.func45, Tryz.ntmps45
          go_upto_region 1 with fail
          rw [HWA.out]
          go_wp2_with fail
          refine Calls.mono (HH.out _ (Below.refl _ _)) ?_
          rintro e w2 ⟨rfl, b2⟩
          have HB2 := Lib.hid b2
          clear b2
          go_wp2
          go_ret
          exact ⟨rfl, below_on HBA.out HB2.out⟩
        | true =>
          go_enter Tryz.func45, Tryz.ntmps45
          go_upto_region 1 with fail
          rw [HWA.out]
          go_wp2_with fail
          refine Calls.mono (HH.out _ (Below.refl _ _)) ?_
          rintro e w2 ⟨rfl, b2⟩
          obtain ⟨p0, p1, p2, p3, p4, p5, p6, p7, _⟩ := HCe.out w2 b2
          have HB2 := Lib.hid b2
          clear b2
          go_wp2_with fail
          refine Calls.mono (HCL.out _ HB2.out) ?_
          rintro e w3 ⟨rfl, b3⟩
          have hb3 := below_on HB2.out b3
          obtain ⟨p0, p1, p2, p3, p4, p5, p6, p7, _⟩ := HCe.out w3 hb3
          have HB3 := Lib.hid hb3
          clear b3 hb3
          cases lb with
          | true =>
            go_wp2
            go_ret
            exact ⟨rfl, below_on HBA.out HB3.out⟩
          | false =>
            go_wp2_with fail
            refine Calls.mono (HR.out _ HB3.out) ?_
            rintro e w4 ⟨rfl, b4⟩
            have HB4 := Lib.hid (below_on HB3.out b4)
            clear b4
            go_wp2
            go_ret
            exact ⟨rfl, below_on HBA.out HB4.out⟩
      · have z0 : ((sp : Int) != 0) = true := by simp; omega
        have e0 : (sp == 0) = false := by simp; omega
        rw [e0, Bool.false_and]
        clear hk1 hk2 hs0 e0 e1 e2
        go_enter Tryz.func45, Tryz.ntmps45
        go_wp2_with fail
        rw [HWA.out]
        go_wp2
        go_ret
        exact ⟨rfl, HBA.out⟩
    · have z1 : ((kd : Int) != 1) = true := by simp; omega
      have e1 : (kd == 1) = false := by simp; omega
      rw [e1, Bool.false_and]
      clear hk1 hk2 e1 e2
      go_enter Tryz.func45, Tryz.ntmps45
      go_wp2_with fail
      rw [HWA.out]
      go_wp2
      go_ret
      exact ⟨rfl, HBA.out⟩
set_option maxHeartbeats 4000000 in
set_option maxRecDepth 100000 in
theorem first_wrong (E : List ByteArray) (A : Prs) (S : List ByteArray) (n : Nat) (hR : RightC E A S n) (vE vA vS vl : Value) (l : List (NT (n + 1))) (g : Nat) (S0 : Nat → Prop) (w0 w : World) (hc : Ctx w0 vE vA vS E A S) (hv : NodesAt (n + 1) w0 S0 vl l) (hS : ∀ k, S0 k → k < w0.heap.size) (hb : Below w0.heap.size w0 w)
    (hP : PolCell w g vE vA vS) (hg : g < w.heap.size) (hwt : wt (n + 1) l ≤ 100000) : Calls Tryz.prog 73 #[vl, .func (.func 45) #[] #[.pointer (some ⟨g, 0, none⟩)]] w (FirstR w (List.any (α := NT (n + 1)) l (wrongN E A S n))) := by
  obtain ⟨Al, cl', rfl, hl, hget⟩ := hv.get
  have HG := Lib.hid hget; have HS := Lib.hid hS; have HB0 := Lib.hid hb
  have HM := Lib.hid fun (k : Nat) (hk : k < l.length) (va vk : Value) (ha : AttrsAt w0 S0 va (NodeD.attrs l[k])) (hkd : NodesAt n w0 S0 vk (NodeD.kids l[k])) (w' : World) (hb' : Below w.heap.size w w') =>
    wrong_any E A S n hR vE vA vS va vk l[k] g S0 w0 w' hc ha hkd hS (hb.trans (hb'.mono hb.size)) ⟨(hb'.cell (p := ⟨g, 0, none⟩) hg).trans hP.1, (hb'.cell (p := ⟨g, 1, none⟩) hg).trans hP.2.1, (hb'.cell (p := ⟨g, 2, none⟩) hg).trans hP.2.2⟩ (Nat.lt_of_lt_of_le hg hb'.size)
      (by have := wt_get n l k hk; omega) (by have := wt_get n l k hk; omega)
  obtain ⟨P, hPd⟩ : ∃ P : NT (n + 1) → Bool, wrongN E A S n = P := ⟨_, rfl⟩
  rw [hPd] at HM ⊢
  clear hget hv hS hb hc hP hPd hR
  go_enter Tryz.func73, Tryz.ntmps73
  go_wp2_with fail
  go_loopw [8] (fun v wr => ∃ k : Nat, v = .int .i64 k ∧ k ≤ l.length ∧ List.any (α := NT (n + 1)) (l.take k) P = false ∧ Below w.heap.size w wr) (fun v _ => l.length - (intOf v).toNat)
  case atStart => exact ⟨0, rfl, Nat.zero_le _, rfl, Below.refl _ _⟩
  case round =>
    obtain ⟨k, rfl, hk, hu, hb⟩ := hrel
    have HU := Lib.hid hu; have HB := Lib.hid hb
    clear hu hb
    by_cases hlt : k < l.length
    · have hki : (k : Int) < (l.length : Int) := by omega
      obtain ⟨ad, va, vk, hA, hatt, hkids, hnm, htx, hki2, hsp, hbl, c0, c1, c2, c3, c4, c5⟩ := HG.out k hlt
      subst hA
      have hbw0 := HS.out _ hbl
      have hbwr : Below w0.heap.size w0 wr := HB0.out.trans (HB.out.mono HB0.out.size)
      have q : ∀ (j : Nat), wr.cell? ⟨(ad.add (k * 6)).block, j, none⟩ = w0.cell? ⟨(ad.add (k * 6)).block, j, none⟩ := fun j => hbwr.cell (by rw [block_of_add]; exact hbw0)
      have d0 := (hbwr.cell (p := ad.add (k * 6)) (by rw [block_of_add]; exact hbw0)).trans c0
      have d1 := (q _).trans c1
      have d2 := (q _).trans c2
      have d3 := (q _).trans c3
      have d4 := (q _).trans c4
      have d5 := (q _).trans c5
      clear c0 c1 c2 c3 c4 c5 q
      have HMx := Lib.hid (HM.out k hlt va vk hatt hkids wr HB.out)
      have ht := any_take (α := NT (n + 1)) P l k hlt
      rw [HU.out, Bool.false_or] at ht
      have HY := Lib.hid (any_yes (α := NT (n + 1)) P l k hlt)
      obtain ⟨Aa, ma, ca, rfl⟩ := hatt.shape
      obtain ⟨Ak, mk, ck, rfl⟩ := hkids.shape
      clear hatt hkids
      obtain ⟨y, hy⟩ : ∃ y : NT (n + 1), l[k] = y := ⟨_, rfl⟩
      rw [hy] at ht HY HMx d0 d1 d2 d4
      clear hy
      obtain ⟨b, hPb⟩ : ∃ b, P y = b := ⟨_, rfl⟩
      rw [hPb] at ht HY HMx
      clear hPb
      have HT := Lib.hid ht
      clear ht
      obtain ⟨kd, sp, nm, at', tx, ks⟩ := y
      simp only at d0 d1 d2 d4 HMx
      go_wp2_with fail
      refine Calls.mono HMx.out ?_
      rintro e w1 ⟨rfl, b1⟩
      have HB1 := Lib.hid (HB.out.trans (b1.mono HB.out.size))
      clear b1
      cases b with
      | true =>
        go_wp2
        go_ret
        exact ⟨_, rfl, by rw [HY.out (by first | exact trivial | rfl)]; simp, HB1.out⟩
      | false =>
        go_wp2
        go_roundw
        case rel => exact ⟨k + 1, by go_num, hlt, HT.out, HB1.out⟩
        case measure => simp [intOf]; omega
    · obtain rfl : k = l.length := by omega
      have hv := HU.out
      rw [List.take_length] at hv
      have HV := Lib.hid hv
      clear hv HU
      go_wp2
      go_ret
      exact ⟨_, rfl, by rw [HV.out]; decide, HB.out⟩
set_option maxHeartbeats 4000000 in
set_option maxRecDepth 100000 in
theorem right_step (E : List ByteArray) (A : Prs) (S : List ByteArray) (n : Nat) (hR : RightC E A S n) : RightC E A S (n + 1) := by
  intro vE vA vS vl l S0 w0 w hc hv hS hb hwt
  have hshape := hv.shape
  obtain ⟨wa, hwa⟩ : ∃ wa, w.alloc (.cells #[vE, vA, vS] 25) = wa := ⟨_, rfl⟩
  have hba : Below w.heap.size w wa := by rw [← hwa]; exact (Below.refl _ w).alloc (Nat.le_refl _) _
  have hza : w.heap.size < wa.heap.size := by rw [← hwa]; simp
  have hna : wa.heap[w.heap.size]? = some (.cells #[vE, vA, vS] 25 (0, 0)) := by rw [← hwa]; exact heap_alloc_new _ _
  have q := fun i => cell_of_row wa w.heap.size i _ _ _ hna
  have HF := Lib.hid fun (w' : World) (hb' : Below wa.heap.size wa w') => first_wrong E A S n hR vE vA vS vl l w.heap.size S0 w0 w' hc hv hS (below_on hb (below_on hba hb')) ⟨(hb'.cell (p := ⟨w.heap.size, 0, none⟩) hza).trans (q 0), (hb'.cell (p := ⟨w.heap.size, 1, none⟩) hza).trans (q 1), (hb'.cell (p := ⟨w.heap.size, 2, none⟩) hza).trans (q 2)⟩ (Nat.lt_of_lt_of_le hza hb'.size) hwt
  have HC := Lib.hid fun (w' : World) (hb' : Below wa.heap.size wa w') => show Calls Tryz.prog 48 #[vl, .func (.func 45) #[] #[.pointer (some ⟨w.heap.size, 0, none⟩)]] w' (BoolR w' (List.any (α := NT (n + 1)) l (wrongN E A S n))) from by
    have HI := Lib.hid (HF.out w' hb')
    obtain ⟨Al, m, c, rfl⟩ := hshape
    clear hR hc hv hS hb HF
    go_enter Tryz.func48, Tryz.ntmps48
    go_wp2_with fail
    refine Calls.mono HI.out ?_
    rintro e w1 ⟨z, rfl, hz, b1⟩
    have HZ := Lib.hid hz; have HB1 := Lib.hid b1
    clear hz b1
    go_wp2
    go_ret
    exact ⟨by rw [← HZ.out]; rfl, HB1.out⟩
  rw [right_wrong]
  have HBA := Lib.hid hba; have HWA := Lib.hid hwa
  obtain ⟨Al, m, c, rfl⟩ := hshape
  clear hR hc hv hS hb HF hwa hba hna q
  go_enter Tryz.func20, Tryz.ntmps20
  go_upto_region 1 with fail
  rw [HWA.out]
  go_wp2_with fail
  refine Calls.mono (HC.out _ (Below.refl _ _)) ?_
  rintro e w1 ⟨rfl, b1⟩
  have HB1 := Lib.hid (below_on HBA.out b1)
  clear b1
  go_wp2
  go_ret
  exact ⟨rfl, HB1.out⟩
theorem right_zero (E : List ByteArray) (A : Prs) (S : List ByteArray) : RightC E A S 0 := by
  intro vE vA vS vl l S0 w0 w hc hv hS hb hwt
  have hl0 := nt_zero l
  subst hl0
  obtain ⟨A, c, rfl⟩ := hv.none_
  obtain ⟨wa, hwa⟩ : ∃ wa, w.alloc (.cells #[vE, vA, vS] 25) = wa := ⟨_, rfl⟩
  have hba : Below w.heap.size w wa := by rw [← hwa]; exact (Below.refl _ w).alloc (Nat.le_refl _) _
  have HC := Lib.hid fun (w' : World) => show Calls Tryz.prog 48 #[.slice A 0 c, .func (.func 45) #[] #[.pointer (some ⟨w.heap.size, 0, none⟩)]] w' (BoolR w' false) from by
    have HI := Lib.hid (show Calls Tryz.prog 73 #[.slice A 0 c, .func (.func 45) #[] #[.pointer (some ⟨w.heap.size, 0, none⟩)]] w' (FirstR w' false) from by
      clear hc hv hS hb hwa hba
      go_enter Tryz.func73, Tryz.ntmps73
      go_wp2_with fail
      go_loopw [8] (fun v wr => v = .int .i64 0 ∧ wr = w') (fun v _ => 0)
      case atStart => exact ⟨rfl, rfl⟩
      case round =>
        obtain ⟨rfl, rfl⟩ := hrel
        go_wp2
        go_ret
        exact ⟨_, rfl, rfl, Below.refl _ _⟩)
    clear hc hv hS hb hwa hba
    go_enter Tryz.func48, Tryz.ntmps48
    go_wp2_with fail
    refine Calls.mono HI.out ?_
    rintro e w1 ⟨z, rfl, hz, b1⟩
    have HZ := Lib.hid hz; have HB1 := Lib.hid b1
    clear hz b1
    go_wp2
    go_ret
    exact ⟨by rw [← HZ.out]; rfl, HB1.out⟩
  have HBA := Lib.hid hba; have HWA := Lib.hid hwa
  clear hc hv hS hb hwa hba
  go_enter Tryz.func20, Tryz.ntmps20
  go_upto_region 1 with fail
  rw [HWA.out]
  go_wp2_with fail
  refine Calls.mono (HC.out _) ?_
  rintro e w1 ⟨rfl, b1⟩
  have HB1 := Lib.hid (below_on HBA.out b1)
  clear b1
  go_wp2
  go_ret
  exact ⟨rfl, HB1.out⟩
theorem right_all (E : List ByteArray) (A : Prs) (S : List ByteArray) : ∀ n, RightC E A S n
  | 0 => right_zero E A S
  | n + 1 => right_step E A S n (right_all E A S n)
end Go.Proofs.YtdkjenbncmedbaaGreatDoor
