/- (*clean.keeper).grid. (*clean.keeper).grid. clean.Clean. -/
import Derived.Test.YtdkjenbncmedbaaGreatDoorClnN
import Derived.Shelf.Strings.SlTrimAscii
namespace Go.Proofs.YtdkjenbncmedbaaGreatDoor
open Go.RowKit

def blankT : ByteArray := ⟨#[32, 9, 10, 12, 13]⟩
theorem trim_blank (s : ByteArray) (w : World) (hs : s.size ≤ 1000000000) : Calls Tryz.prog 58 #[.string s, .string blankT] w fun e w' => e = .returned (.string ⟨(Lib.trimS s.data.toList blankT.data.toList).toArray⟩) ∧ Below w.heap.size w w' :=
  Any.strings_Trim_laid Tryz.lays160 (by kernel_rfl) s blankT w (by omega) (by decide +kernel) (ascii_of_all (by decide +kernel))
theorem dropWhile_nil {α : Type} (p : α → Bool) : ∀ l : List α, l.dropWhile p = [] ↔ ∀ x ∈ l, p x = true
  | [] => by simp
  | a :: l => by
    rw [List.dropWhile_cons]
    cases h : p a with
    | true => simp [h, dropWhile_nil p l]
    | false => simp [h]
theorem trimS_nil (l cs : List UInt8) : Lib.trimS l cs = [] ↔ ∀ x ∈ l, cs.contains x = true := by
  unfold Lib.trimS Lib.trimLeftS Lib.trimRightS
  rw [dropWhile_nil]
  constructor
  · intro h x hx
    by_cases hc : cs.contains x = true
    · exact hc
    · exfalso
      -- x stays in what is left of the right
      have hm : x ∈ (l.reverse.dropWhile (cs.contains ·)).reverse := by
        rw [List.mem_reverse]
        have : x ∈ l.reverse.takeWhile (cs.contains ·) ++ l.reverse.dropWhile (cs.contains ·) := by rw [List.takeWhile_append_dropWhile]; exact List.mem_reverse.2 hx
        rcases List.mem_append.1 this with h1 | h1
        · exact absurd (List.all_eq_true.1 List.all_takeWhile x h1) hc
        · exact h1
      exact hc (h x hm)
  · intro h x hx
    rw [List.mem_reverse] at hx
    exact h x (List.mem_reverse.1 ((List.dropWhile_suffix _).subset hx))
theorem blank_trim (s : ByteArray) : (Lib.trimS s.data.toList blankT.data.toList).isEmpty = blankB s := by
  rw [Bool.eq_iff_iff, List.isEmpty_iff, trimS_nil]
  unfold blankB
  rw [List.all_eq_true]
  refine forall_congr' fun x => forall_congr' fun _ => ?_
  simp [blankT, or_assoc]
def zeroPl : Pl := ⟨false, false, false, false, false, false⟩
def rowT (g : Nat) : ByteArray := if g = 3 then ⟨#[32, 116, 98, 111, 100, 121, 32, 116, 102, 111, 111, 116, 32, 116, 104, 101, 97, 100, 32]⟩ else if g = 2 then ⟨#[32, 116, 114, 32]⟩ else ⟨#[32, 116, 100, 32, 116, 104, 32]⟩
theorem row_g (g : Nat) : RowOf (rowT g) (rowL g) := by
  unfold rowT rowL
  by_cases h3 : g = 3
  · rw [if_pos h3, if_pos h3]; unfold RowOf; decide +kernel
  · rw [if_neg h3, if_neg h3]
    by_cases h2 : g = 2
    · rw [if_pos h2, if_pos h2]; unfold RowOf; decide +kernel
    · rw [if_neg h2, if_neg h2]; unfold RowOf; decide +kernel
theorem names_g {g : Nat} (h1 : 1 ≤ g) (h3 : g ≤ 3) : ∃ N0, namesL g = N0 :: (if 1 < g then namesL (g - 1) else []) ∧ (⟨#[32]⟩ : ByteArray) ++ N0 ++ ⟨#[32]⟩ = rowT g ∧ N0.size ≤ 100 := by
  obtain rfl | rfl | rfl : g = 1 ∨ g = 2 ∨ g = 3 := by omega
  · exact ⟨⟨#[116, 100, 32, 116, 104]⟩, rfl, by decide +kernel, by decide⟩
  · exact ⟨⟨#[116, 114]⟩, rfl, by decide +kernel, by decide⟩
  · exact ⟨⟨#[116, 98, 111, 100, 121, 32, 116, 102, 111, 111, 116, 32, 116, 104, 101, 97, 100]⟩, rfl, by decide +kernel, by decide⟩
theorem names_len {g : Nat} (h1 : 1 ≤ g) (h3 : g ≤ 3) : (namesL g).length = g := by
  obtain rfl | rfl | rfl : g = 1 ∨ g = 2 ∨ g = 3 := by omega
  · rfl
  · rfl
  · rfl
/-- The rest of the names. -/
theorem names_tail {w : World} {b off c g : Nat} (h1 : 1 < g) (h3 : g ≤ 3) (hs : SlS w (.slice (some ⟨b, off, none⟩) g c) (namesL g)) : SlS w (.slice (some ⟨b, off + 1, none⟩) (g - 1) (c - 1)) (namesL (g - 1)) := by
  obtain ⟨A, c', e, hc, hl, hp⟩ := hs
  injection e with e1 _ e3
  subst e1
  subst e3
  have hgl := names_len (g := g) (by omega) h3
  have hgl1 := names_len (g := g - 1) (by omega) (by omega)
  obtain ⟨N0, hN, _⟩ := names_g (g := g) (by omega) h3
  rw [if_pos h1] at hN
  refine ⟨_, c - 1, by rw [hgl1], by rw [hgl1]; omega, by simp, fun _ => ?_⟩
  obtain ⟨b', off', hA, hlt, hj⟩ := hp (by omega)
  cases hA
  refine ⟨b, off + 1, rfl, hlt, fun j u hu => ?_⟩
  have := hj (j + 1) u (by rw [hN]; simpa using hu)
  rwa [show off + (j + 1) = off + 1 + j by omega] at this
theorem stepG_text {K K' : Type} {nil : K'} {E : List ByteArray} {A : Prs} {S : List ByteArray} {g : Nat} {x : Pl} {flat : List (NodeD K') → K → List (NodeD K')} {kids : Nat → Pl → K → K'} {acc : List (NodeD K')} {y : NodeD K} (hg : 1 ≤ g) (h : y.kind = 2) (hb : blankB y.text = true) : stepA nil E A S g x flat kids acc y = txt nil false acc y.text := by
  unfold stepA stepG
  rw [if_neg (by omega), if_pos h, if_pos hb]
theorem stepG_other {K K' : Type} {nil : K'} {E : List ByteArray} {A : Prs} {S : List ByteArray} {g : Nat} {x : Pl} {flat : List (NodeD K') → K → List (NodeD K')} {kids : Nat → Pl → K → K'} {acc : List (NodeD K')} {y : NodeD K} (hg : 1 ≤ g) (h : y.kind = 2) (hb : blankB y.text = false) : stepA nil E A S g x flat kids acc y = acc := by
  unfold stepA stepG
  rw [if_neg (by omega), if_pos h, if_neg (by rw [hb]; decide)]
theorem stepG_gone {K K' : Type} {nil : K'} {E : List ByteArray} {A : Prs} {S : List ByteArray} {g : Nat} {x : Pl} {flat : List (NodeD K') → K → List (NodeD K')} {kids : Nat → Pl → K → K'} {acc : List (NodeD K')} {y : NodeD K} (hg : 1 ≤ g) (h : y.kind ≠ 2) (h2 : y.kind ≠ 1 ∨ y.space ≠ 0 ∨ hasS (rowL g) y.name = false ∨ hasS E y.name = false) : stepA nil E A S g x flat kids acc y = acc := by
  unfold stepA stepG
  rw [if_neg (by omega), if_neg h, if_pos h2]
theorem stepG_elem {K K' : Type} {nil : K'} {E : List ByteArray} {A : Prs} {S : List ByteArray} {g : Nat} {x : Pl} {flat : List (NodeD K') → K → List (NodeD K')} {kids : Nat → Pl → K → K'} {acc : List (NodeD K')} {y : NodeD K} (hg : 1 ≤ g) (h : y.kind = 1) (h0 : y.space = 0) (h1 : hasS (rowL g) y.name = true) (h2 : hasS E y.name = true) : stepA nil E A S g x flat kids acc y = acc ++ [⟨1, 0, y.name, bareA E A S y.name y.attrs, ByteArray.empty, if 1 < g then kids (g - 1) x y.kids else kids 0 (linkPl x.link) y.kids⟩] := by
  unfold stepA stepG
  rw [if_neg (by omega), if_neg (by omega), if_neg (by rw [h1, h2]; simp [h, h0])]

theorem has_below (row : ByteArray) (ws : List ByteArray) (x : ByteArray) (w : World) (hr : RowOf row ws) (hG : Glob w) (hx : x.size ≤ 1099511627776) : Calls Tryz.prog 60 #[.string row, .string x] w (BoolR w (hasS ws x)) :=
  (has_word row ws x w hr hG hx).mono fun _ _ ⟨a, b⟩ => ⟨a, by rw [← b]; exact Below.refl _ _⟩
theorem s_six {a b c d e f : Prop} (s : a ∧ b ∧ c ∧ d ∧ e ∧ f) : f := s.2.2.2.2.2
set_option maxHeartbeats 40000000 in
set_option maxRecDepth 100000 in
theorem grid_step (E : List ByteArray) (A : Prs) (S : List ByteArray) (n : Nat) (hI : InnerC E A S n) (hGr : GridC E A S n) : GridC E A S (n + 1) := by
  intro D0 ko g x vE vA vS v0 vl vn l S0 w0 w hn hg1 hg3 hc hv hS hb hk hs hwt
  obtain ⟨D, rfl⟩ : ∃ D, D0 = D + 1 := ⟨D0 - 1, by omega⟩
  obtain ⟨iN, hiN, hzN0, hzN1, hzN2⟩ := info_parts infoN
  obtain ⟨Al, cl', rfl, _, hget⟩ := hv.get
  have hko : ko < w.heap.size := (Array.getElem?_eq_some_iff.1 (show w.heap[ko]? = _ from hk)).1
  have ko1 := hk.cell
  have hb0 := hb.size
  obtain ⟨L, hLd⟩ : ∃ L : Nat → List (NodeD (List (NT D))), (fun k => cl E A S (n + 1) D g x (l.take k) []) = L := ⟨_, rfl⟩
  have hLs : ∀ (k : Nat) (hk : k < l.length), L (k + 1) = stepC E A S n D g x (L k) l[k] := fun k hk => by rw [← hLd]; exact cl_take E A S n D g x l [] k hk
  have hLe : kidsN E A S (n + 1) (D + 1) g x l = L l.length := by rw [← hLd]; show cl E A S (n + 1) D g x l [] = cl E A S (n + 1) D g x (l.take l.length) []; rw [List.take_length]
  have hL0 : L 0 = [] := by rw [← hLd]; exact cl_nil E A S (n + 1) D g x []
  have hLw : ∀ k, k < l.length → wt (D + 1) (L k) + wt (n + 1) (l.take (k + 1)) ≤ 100000 + wt (n + 1) (l.take k) := fun k hk => by
    have e1 := cl_wt E A S (n + 1) D g x (l.take k) []
    have e2 := wt_take_le n l (k + 1)
    have e3 : L k = cl E A S (n + 1) D g x (l.take k) [] := by rw [← hLd]
    have e4 : wt (D + 1) ([] : List (NT (D + 1))) = 0 := rfl
    rw [e3]
    omega
  have hLend : wt (D + 1) (L l.length) ≤ 100000 := by
    have e1 := cl_wt E A S (n + 1) D g x l []
    have e4 : wt (D + 1) ([] : List (NT (D + 1))) = 0 := rfl
    have e5 : L l.length = cl E A S (n + 1) D g x l [] := hLe.symm
    rw [e5]
    omega
  rw [hLe]
  obtain ⟨W, hW⟩ : ∃ W, w.alloc (.cells #[.bool false, .bool false, .bool false, .bool false, .bool false, .bool false, vE, vA, vS, .slice none 0 0] 68) = W := ⟨_, rfl⟩
  have hbW : Below w.heap.size w W := by rw [← hW]; exact (Below.refl _ w).alloc (Nat.le_refl _) _
  have hzW : w.heap.size + 1 ≤ W.heap.size ∧ W.heap.size ≤ w.heap.size + 1 := by rw [← hW]; simp
  have hkW : KeepAt w.heap.size W zeroPl vE vA vS (.slice none 0 0) := by rw [← hW]; exact heap_alloc_new w _
  have HLs := Lib.hid hLs; have HLw := Lib.hid hLw; have HLend := Lib.hid hLend
  have HG := Lib.hid hget; have HS := Lib.hid hS; have HC := Lib.hid hc; have HB := Lib.hid (below_on hb hbW); have HI := Lib.hid hI; have HGr := Lib.hid hGr; have HW := Lib.hid hW; have HBW := Lib.hid hbW; have HKo := Lib.hid (hk.below hbW hko)
  have H0 := Lib.hid (show NodW w.heap.size (w.heap.size + 1) D zeroPl vE vA vS L l.length W (.int .i64 (0 : Nat)) W from ⟨0, .slice none 0 0, rfl, Nat.zero_le _, hkW, by rw [hL0]; exact OutAt.nil _ _ _, Beside.refl _ _ _⟩)
  obtain ⟨An, cn, hvn, hcn, hnm0⟩ := hs.open
  rw [names_len hg1 hg3] at hvn hcn
  subst hvn
  have HSl := Lib.hid hs; have HNm := Lib.hid hnm0
  clear hLd hLs hLe hL0 hLw hLend hget hS hc hb hI hGr hv hk hwt hW hbW hkW hs hnm0
  go_enter Tryz.func63, Tryz.ntmps63
  go_wp2_with fail
  rw [HW.out]
  go_loopw [19] (fun vi wr => NodW w.heap.size (w.heap.size + 1) D zeroPl vE vA vS L l.length W vi wr) (fun vi _ => l.length - (intOf vi).toNat)
  case atStart => exact H0.out
  case round =>
    obtain ⟨k, v, rfl, hk, hkp, hout, hbs⟩ := hrel
    clear H0
    by_cases hlt : k < l.length
    · have hki : (k : Int) < (l.length : Int) := by omega
      obtain ⟨ad, va, vk, hA, hatt, hkids, hnm, htx, hki2, hsp, hbl, c0, c1, c2, c3, c4, c5⟩ := HG.out k hlt
      subst hA
      have hz := hbs.size
      have hzb := HB.out.size
      have hbw0 := HS.out _ hbl
      have hbwr : Below w0.heap.size w0 wr := HB.out.trans (hbs.1.mono (by omega))
      have q : ∀ (j : Nat), wr.cell? ⟨(ad.add (k * 6)).block, j, none⟩ = w0.cell? ⟨(ad.add (k * 6)).block, j, none⟩ := fun j => hbwr.cell (by rw [block_of_add]; exact hbw0)
      have d0 := (hbwr.cell (p := ad.add (k * 6)) (by rw [block_of_add]; exact hbw0)).trans c0
      have d1 := (q _).trans c1
      have d2 := (q _).trans c2
      have d3 := (q _).trans c3
      have d4 := (q _).trans c4
      have d5 := (q _).trans c5
      clear c0 c1 c2 c3 c4 c5 q
      obtain ⟨Aa, ma, ca, rfl⟩ := hatt.shape
      obtain ⟨Ak, mk, ck, rfl⟩ := hkids.shape
      have hstep := HLs.out k hlt
      have hwk := HLw.out k hlt
      rw [wt_take n l k hlt] at hwk
      have hlen : (L k).length ≤ wt (D + 1) (L k) := rowWt_len (K := List (NT D)) (wt D) (L k)
      have htxs : ∀ z ∈ L k, (NodeD.text z).size ≤ 1000000 := fun z hz => by
        have h8 : 1 + z.text.size / 8 + z.name.size / 8 ≤ wt (D + 1) (L k) := rowWt_mem (K := List (NT D)) (wt D) hz
        omega
      obtain ⟨y, hy⟩ : ∃ y : NodeD (List (NT n)), l[k] = y := ⟨_, rfl⟩
      rw [hy] at hstep hwk d0 d1 d2 d4 hatt hkids hnm htx hki2 hsp
      obtain ⟨kd, sp, nm, at', tx, ks⟩ := y
      simp only at hwk d0 d1 d2 d4 hnm htx hki2 hsp
      have hatl := attrs_len_le at'
      have hfit : Fits at' := fun a ha => by
        have hm := attrsWt_mem ha
        have hm2 : attrsWt at' ≤ 100000 := by
          have := hwk
          omega
        omega
      have HSt := Lib.hid hstep; have HTx := Lib.hid htxs; have HAt := Lib.hid hatt; have HKd := Lib.hid hkids; have HF := Lib.hid hfit; have HKp := Lib.hid hkp; have HOut := Lib.hid hout; have HBs := Lib.hid hbs; have HBwr := Lib.hid hbwr
      obtain ⟨wa, hwa⟩ : ∃ wa, wr.alloc (.cells #[.int .u8 kd, .int .u8 sp, .string nm, .slice Aa ma ca, .string tx, .slice Ak mk ck] 48) = wa := ⟨_, rfl⟩
      have hba : Below wr.heap.size wr wa := by rw [← hwa]; exact (Below.refl _ wr).alloc (Nat.le_refl _) _
      have hza : wr.heap.size + 1 ≤ wa.heap.size ∧ wa.heap.size ≤ wr.heap.size + 1 := by rw [← hwa]; simp
      have hna : wa.heap[wr.heap.size]? = some (.cells #[.int .u8 kd, .int .u8 sp, .string nm, .slice Aa ma ca, .string tx, .slice Ak mk ck] 48 (0, 0)) := by rw [← hwa]; exact heap_alloc_new _ _
      have HWA := Lib.hid hwa; have HBA := Lib.hid hba; have HNA := Lib.hid hna
      clear hstep htxs hatt hkids hfit hkp hout hbs hbwr hwa hba hna
      by_cases hk2 : kd = 2
      · have z2 : ((kd : Int) == 2) = true := by rw [hk2]; rfl
        have z1 : ((kd : Int) != 1) = true := by rw [hk2]; rfl
        have HTr := Lib.hid (trim_blank tx wa (by omega))
        have hbt := blank_trim tx
        obtain ⟨T, hT⟩ : ∃ T : ByteArray, (⟨(Lib.trimS tx.data.toList blankT.data.toList).toArray⟩ : ByteArray) = T := ⟨_, rfl⟩
        have hTl : T.toList = Lib.trimS tx.data.toList blankT.data.toList := by rw [← hT, Lib.toList_data]
        rw [hT] at HTr
        rw [← hTl] at hbt
        by_cases hTn : T.toList = []
        · have hTe : T.toList.isEmpty = true := by rw [hTn]; rfl
          have hL := HSt.out.trans (stepG_text hg1 hk2 (by show blankB tx = true; rw [← hbt, hTe]))
          simp only at hL
          have HL := Lib.hid hL
          clear hL hk2 hT hTl hbt
          go_wp2_with fail
          rw [HWA.out]
          refine Calls.mono HTr.out ?_
          rintro e w1 ⟨rfl, b1⟩
          have HB1 := Lib.hid (below_on HBA.out b1)
          have n1 := fun i => cell_of_row w1 wr.heap.size i _ _ _ ((b1.block _ (by omega)).trans HNA.out)
          have HT := Lib.hid (text_any w.heap.size (w.heap.size + 1) D zeroPl vE vA vS v (L k) tx w1 (HKp.out.below HB1.out (by omega)) (HOut.out.later HB1.out) (Nat.lt_succ_self _) (by have := HB1.out.size; omega) (HC.out.glob.later (below_on HBwr.out HB1.out)) (by omega) (by omega) (fun z hz => by have := HTx.out z hz; omega))
          clear b1
          go_wp2_with fail
          refine Calls.mono HT.out ?_
          rintro e w2 ⟨rfl, ht⟩
          have HTR := Lib.hid (show TextR w.heap.size (w.heap.size + 1) D zeroPl vE vA vS w1 _ (.returned (.tuple #[])) w2 from ⟨rfl, ht⟩)
          clear ht
          go_wp2
          go_roundw
          case rel => exact nod_text hlt (Nat.lt_succ_self _) hzW.1 HBs.out HB1.out HTR.out HL.out
          case measure => simp [intOf]; omega
        · have hTe : T.toList.isEmpty = false := by cases hq : T.toList with | nil => exact absurd hq hTn | cons _ _ => rfl
          have HL := Lib.hid (HSt.out.trans (stepG_other hg1 hk2 (by show blankB tx = false; rw [← hbt, hTe])))
          clear hk2 hT hTl hbt
          go_wp2_with fail
          rw [HWA.out]
          refine Calls.mono HTr.out ?_
          rintro e w1 ⟨rfl, b1⟩
          have HB1 := Lib.hid (below_on HBA.out b1)
          have n1 := fun i => cell_of_row w1 wr.heap.size i _ _ _ ((b1.block _ (by omega)).trans HNA.out)
          clear b1
          go_wp2
          go_roundw
          case rel => exact nod_same hlt (Nat.lt_succ_self _) hzW.1 HKp.out HOut.out HBs.out HB1.out HL.out
          case measure => simp [intOf]; omega
      · have z2 : ((kd : Int) == 2) = false := by simp; omega
        have HBA0 := Lib.hid (show Below wr.heap.size wr (wr.alloc (.cells #[.int .u8 kd, .int .u8 sp, .string nm, .slice Aa ma ca, .string tx, .slice Ak mk ck] 48)) from (Below.refl _ wr).alloc (Nat.le_refl _) _)
        by_cases hk1 : kd = 1
        · have z1 : ((kd : Int) != 1) = false := by rw [hk1]; rfl
          by_cases hs0 : sp = 0
          · have z0 : ((sp : Int) != 0) = false := by rw [hs0]; rfl
            obtain ⟨N0, hN0, hNr, hNs⟩ := names_g hg1 hg3
            obtain ⟨nb, no, hAn, hnb, _, hnc⟩ := HNm.out 0 (by rw [names_len hg1 hg3]; omega)
            have hnc : w.cell? ⟨nb, no, none⟩ = some (.string N0) := by
              rw [Nat.add_zero] at hnc
              rw [hnc]
              simp only [hN0, List.getElem_cons_zero]
            subst hAn
            have HBww := Lib.hid (show Below w.heap.size w wr from HBW.out.trans (HBs.out.1.mono (Nat.le_refl _)))
            have HKoR := Lib.hid (show KeepAt ko wr x vE vA vS v0 from HKo.out.below HBs.out.1 hko)
            have hgi : (0 : Int) < (g : Int) := by omega
            have hgn : 0 < g := by omega
            have hs1 : ¬ 9223372036854775807 < (⟨#[32]⟩ : ByteArray).size + N0.size := by
              have : (⟨#[32]⟩ : ByteArray).size = 1 := rfl
              omega
            have hs2 : ¬ 9223372036854775807 < ((⟨#[32]⟩ : ByteArray) ++ N0).size + (⟨#[32]⟩ : ByteArray).size := by
              have : (⟨#[32]⟩ : ByteArray).size = 1 := rfl
              rw [ByteArray.size_append]
              omega
            have hs3 : ¬ 9223372036854775807 < 1 + N0.size := by omega
            have hs4 : ¬ 9223372036854775807 < 1 + N0.size + 1 := by omega
            have hs5 : 1 + N0.size ≤ 9223372036854775807 := by omega
            have hs6 : 1 + N0.size + 1 ≤ 9223372036854775807 := by omega
            have HHas := Lib.hid fun (w' : World) (hb : Below wa.heap.size wa w') => has_below (⟨#[32]⟩ ++ N0 ++ ⟨#[32]⟩) (rowL g) nm w' (by rw [hNr]; exact row_g g) (HC.out.glob.later (below_on HBwr.out (below_on HBA.out hb))) (by omega)
            have HHs := Lib.hid fun (w' : World) (hb : Below wa.heap.size wa w') => HC.out.has (below_on HBwr.out (below_on HBA.out hb)) nm
            have hcn0 : ∀ w' : World, Below wa.heap.size wa w' → (w'.cell? ⟨nb, no, none⟩ = some (.string N0) ∧ w'.cell? ⟨wr.heap.size, 2, none⟩ = some (.string nm) ∧ w'.cell? ⟨ko, 6, none⟩ = some vE ∧ w'.cell? ⟨ko, 7, none⟩ = some vA ∧ w'.cell? ⟨ko, 8, none⟩ = some vS ∧ Below wa.heap.size wa w') := fun w' hb => by
              have q1 := (HKoR.out.below (below_on HBA.out hb) (by have := HBww.out.size; omega)).cell
              have q2 := fun i => cell_of_row w' wr.heap.size i _ _ _ ((hb.block _ (by omega)).trans HNA.out)
              exact ⟨(((HBww.out.trans (HBA.out.mono (by have := HBww.out.size; omega))).trans (hb.mono (by have := HBww.out.size; omega))).cell (p := ⟨nb, no, none⟩) hnb).trans hnc, q2 2, q1 6, q1 7, q1 8, hb⟩
            have HCe := Lib.hid hcn0
            have HS5 := Lib.hid (hcn0 wa (Below.refl _ _))
            have na := fun i => cell_of_row wa wr.heap.size i _ _ _ HNA.out
            clear hcn0 hNr hN0
            obtain ⟨gb, hgb⟩ : ∃ gb, hasS (rowL g) nm = gb := ⟨_, rfl⟩
            rw [hgb] at HHas
            cases gb with
            | false =>
              have HL := Lib.hid (HSt.out.trans (stepG_gone hg1 (by simp only; omega) (.inr (.inr (.inl hgb)))))
              clear hgb hk1 hk2 hs0
              go_wp2_with fail
              rw [HWA.out]
              go_region_held3 (fun w' => w'.cell? ⟨nb, no, none⟩ = some (.string N0) ∧ w'.cell? ⟨wr.heap.size, 2, none⟩ = some (.string nm) ∧ w'.cell? ⟨ko, 6, none⟩ = some vE ∧ w'.cell? ⟨ko, 7, none⟩ = some vA ∧ w'.cell? ⟨ko, 8, none⟩ = some vS ∧ Below wa.heap.size wa w') (first | assumption | exact HS5.out | exact HCe.out _ (Below.drew (Below.refl _ _)) | exact HCe.out _ (Below.drew (s_six (by assumption))) | exact HCe.out _ (below_on (s_six (by assumption)) (by assumption))) (first
                | (go_at_call 60; refine Calls.mono (HHas.out _ (s_six (by assumption))) ?_; rintro e w2 ⟨rfl, b2⟩))
              all_goals
                have hb2 := s_six (by assumption)
                have HB2 := Lib.hid hb2
                clear hb2
                go_wp2
                go_roundw
                case rel => exact nod_same hlt (Nat.lt_succ_self _) hzW.1 HKp.out HOut.out HBs.out (below_on HBA.out HB2.out) HL.out
                case measure => simp [intOf]; omega
            | true =>
              have HElem := Lib.hid (fun h => HSt.out.trans (stepG_elem hg1 hk1 hs0 hgb h))
              have HGone := Lib.hid (fun h => HSt.out.trans (stepG_gone hg1 hk2 (.inr (.inr (.inr h)))))
              obtain ⟨eb, heb⟩ : ∃ eb, hasS E nm = eb := ⟨_, rfl⟩
              rw [heb] at HHs
              simp only [heb] at HElem HGone
              clear hgb hk1 hk2 hs0 heb
              go_wp2_with fail
              rw [HWA.out]
              go_region_held3 (fun w' => w'.cell? ⟨nb, no, none⟩ = some (.string N0) ∧ w'.cell? ⟨wr.heap.size, 2, none⟩ = some (.string nm) ∧ w'.cell? ⟨ko, 6, none⟩ = some vE ∧ w'.cell? ⟨ko, 7, none⟩ = some vA ∧ w'.cell? ⟨ko, 8, none⟩ = some vS ∧ Below wa.heap.size wa w') (first | assumption | exact HS5.out | exact HCe.out _ (Below.drew (Below.refl _ _)) | exact HCe.out _ (Below.drew (s_six (by assumption))) | exact HCe.out _ (below_on (s_six (by assumption)) (by assumption))) (first
                | (go_at_call 60; refine Calls.mono (HHas.out _ (s_six (by assumption))) ?_; rintro e w2 ⟨rfl, b2⟩))
              all_goals
                have hb2 := s_six (by assumption)
                have HB2 := Lib.hid hb2
                have HS6 := Lib.hid (HCe.out _ hb2)
                obtain ⟨nb0, nb1, nb2, nb3, nb4, _⟩ := HCe.out _ hb2
                clear hb2
                cases eb with
                | false =>
                  have HL := Lib.hid (HGone.out rfl)
                  clear HGone HElem
                  go_wp2_with fail
                  go_region_held3 (fun w' => w'.cell? ⟨nb, no, none⟩ = some (.string N0) ∧ w'.cell? ⟨wr.heap.size, 2, none⟩ = some (.string nm) ∧ w'.cell? ⟨ko, 6, none⟩ = some vE ∧ w'.cell? ⟨ko, 7, none⟩ = some vA ∧ w'.cell? ⟨ko, 8, none⟩ = some vS ∧ Below wa.heap.size wa w') (first | assumption | exact HS6.out | exact HCe.out _ (Below.drew HB2.out) | exact HCe.out _ (Below.drew (s_six (by assumption))) | exact HCe.out _ (below_on (s_six (by assumption)) (by assumption))) (first
                    | (go_at_call 28; refine Calls.mono (HHs.out _ (s_six (by assumption))) ?_; rintro e w3 ⟨rfl, b3⟩))
                  all_goals
                    have hb3 := s_six (by assumption)
                    have HB3 := Lib.hid hb3
                    clear hb3
                    go_wp2
                    go_roundw
                    case rel => exact nod_same hlt (Nat.lt_succ_self _) hzW.1 HKp.out HOut.out HBs.out (below_on HBA.out HB3.out) HL.out
                    case measure => simp [intOf]; omega
                | true =>
                  have HL := Lib.hid (HElem.out rfl)
                  clear HGone HElem
                  go_wp2_with fail
                  go_region_held3 (fun w' => w'.cell? ⟨nb, no, none⟩ = some (.string N0) ∧ w'.cell? ⟨wr.heap.size, 2, none⟩ = some (.string nm) ∧ w'.cell? ⟨ko, 6, none⟩ = some vE ∧ w'.cell? ⟨ko, 7, none⟩ = some vA ∧ w'.cell? ⟨ko, 8, none⟩ = some vS ∧ Below wa.heap.size wa w') (first | assumption | exact HS6.out | exact HCe.out _ (Below.drew HB2.out) | exact HCe.out _ (Below.drew (s_six (by assumption))) | exact HCe.out _ (below_on (s_six (by assumption)) (by assumption))) (first
                    | (go_at_call 28; refine Calls.mono (HHs.out _ (s_six (by assumption))) ?_; rintro e w3 ⟨rfl, b3⟩))
                  all_goals
                    have hb3 := s_six (by assumption)
                    have hw3 := HBww.out.size
                    have nd := fun i => cell_of_row _ wr.heap.size i _ _ _ ((hb3.block _ (by omega)).trans HNA.out)
                    have HBr := Lib.hid (bare_any ko x vE vA vS v0 E A S kd sp nm tx (.slice Aa ma ca) (.slice Ak mk ck) at' S0 w3 (HKoR.out.below (below_on HBA.out hb3) (by omega)) (HC.out.pol.later (below_on HBwr.out (below_on HBA.out hb3))) (HC.out.glob.later (below_on HBwr.out (below_on HBA.out hb3))) (HAt.out.keep fun j hj => (below_on HBwr.out (below_on HBA.out hb3)).block j (HS.out j hj)) (fun j hj => by have := HS.out j hj; have := HBwr.out.size; have := hb3.size; omega) HF.out (by omega) ⟨_, _, _, rfl⟩)
                    have HB3 := Lib.hid hb3
                    clear hb3
                    go_wp2_with fail
                    refine Calls.mono HBr.out ?_
                    rintro e w5 ⟨v1, rfl, ha5, b5⟩
                    obtain ⟨A1, m1, c1, rfl⟩ := ha5.shape
                    obtain ⟨Av, cv, hvv⟩ := HOut.out.form
                    subst hvv
                    obtain ⟨wx, hwx⟩ : ∃ wx, w5.alloc (.cells #[.int .u8 1, .int .u8 0, .string nm, .slice A1 m1 c1, .string ⟨#[]⟩, .slice none 0 0] 48) = wx := ⟨_, rfl⟩
                    have b5a := below_on HB3.out b5
                    have hbx5 : Below w5.heap.size w5 wx := by rw [← hwx]; exact (Below.refl _ w5).alloc (Nat.le_refl _) _
                    have hzx : w5.heap.size + 1 ≤ wx.heap.size ∧ wx.heap.size ≤ w5.heap.size + 1 := by rw [← hwx]; simp
                    have hxx : wx.heap[w5.heap.size]? = some (.cells #[.int .u8 1, .int .u8 0, .string nm, .slice A1 m1 c1, .string ⟨#[]⟩, .slice none 0 0] 48 (0, 0)) := by rw [← hwx]; exact heap_alloc_new _ _
                    have bx := below_on b5a hbx5
                    have HBX := Lib.hid bx; have HWX := Lib.hid hwx; have HXX := Lib.hid hxx; have HA5 := Lib.hid ha5; have H5X := Lib.hid hbx5; have H35 := Lib.hid b5
                    have nx := fun i => cell_of_row wx wr.heap.size i _ _ _ ((bx.block _ (by omega)).trans HNA.out)
                    have kx := (HKoR.out.below (below_on HBA.out bx) (by omega)).cell
                    have hz35 := b5.size
                    have hz3 := HB3.out.size
                    have HXb := Lib.hid (show w.heap.size + 1 ≤ w5.heap.size by omega)
                    have hlow : ∀ g', (Value.slice Av (L k).length cv).ownBlock = some g' → g' < wr.heap.size := fun g' hg' => by
                      obtain ⟨css, _, _, h3, _⟩ := HOut.out
                      exact (h3.lt g' hg').2
                    have HLow := Lib.hid hlow
                    have HXo := Lib.hid (show (Value.slice Av (L k).length cv).ownBlock ≠ some w5.heap.size from fun e => by have := hlow _ e; omega)
                    have HNmw := Lib.hid (fun (w' : World) (hb : Below wa.heap.size wa w') => HSl.out.later (HBww.out.trans ((below_on HBA.out hb).mono hw3)))
                    have HTb := Lib.hid (fun (w' : World) (hb : Below wa.heap.size wa w') (h1g : 1 < g) => HGr.out D ko (g - 1) x vE vA vS v0 (.slice Ak mk ck) (.slice (some ⟨nb, no + 1, none⟩) (g - 1) (cn - 1)) ks S0 w0 w' (by omega) (by omega) (by omega) HC.out HKd.out HS.out (below_on HBwr.out (below_on HBA.out hb)) (HKoR.out.below (below_on HBA.out hb) (by omega)) (names_tail h1g hg3 (HNmw.out w' hb)) (by omega))
                    have HInn := Lib.hid (fun (w' : World) (hb : Below wa.heap.size wa w') => HI.out D ko x (linkPl x.link) vE vA vS v0 (.slice Ak mk ck) ks S0 w0 w' (by omega) HC.out HKd.out HS.out (below_on HBwr.out (below_on HBA.out hb)) (HKoR.out.below (below_on HBA.out hb) (by omega)) (by omega))
                    obtain ⟨kds, hkds⟩ : ∃ kds : List (NT D), (if 1 < g then kidsN E A S n D (g - 1) x ks else kidsN E A S n D 0 (linkPl x.link) ks) = kds := ⟨_, rfl⟩
                    have HKds := Lib.hid hkds
                    have HB35 := Lib.hid b5a
                    rw [hkds] at HL
                    clear hwx hbx5 hxx b5a bx ha5 b5 hlow nd hkds
                    unfold bareV
                    obtain ⟨gt, hgt⟩ : ∃ gt : Bool, decide (1 < g) = gt := ⟨_, rfl⟩
                    have hgt2 : decide ((1 : Int) < (g : Int)) = gt := by
                      rw [← hgt]
                      exact decide_eq_decide.2 ⟨fun h => by omega, fun h => by omega⟩
                    have HGt := Lib.hid hgt
                    go_upto_if 28 with fail
                    rw [HWX.out]
                    go_cut [] (fun wz => ElemW D w5.heap.size w5 nm (.slice A1 m1 c1) kds wz)
                    case first =>
                      have hkz := HKds.out
                      have hxb6 : ∀ w' : World, Below wx.heap.size wx w' → w'.heap[w5.heap.size]? = some (.cells #[.int .u8 1, .int .u8 0, .string nm, .slice A1 m1 c1, .string ⟨#[]⟩, .slice none 0 0] 48 (0, 0)) := fun w' hb => (hb.block _ (by omega)).trans HXX.out
                      have HXB6 := Lib.hid hxb6
                      clear hxb6
                      cases gt with
                      | true =>
                        have h1g : 1 < g := of_decide_eq_true HGt.out
                        rw [if_pos h1g] at hkz
                        have HKz2 := Lib.hid hkz
                        have g1 : (1 : Int) < (g : Int) := by omega
                        have g2 : (1 : Int) ≤ (g : Int) := by omega
                        have g3 : (g : Int) ≤ (cn : Int) := by omega
                        have hcn1 : ¬ cn = 1 := by omega
                        clear hkz
                        go_wp2_with fail
                        go_region_with (first
                          | (go_at_call 63; refine Calls.mono (HTb.out _ (Below.drew HBX.out) h1g) ?_; rintro e w7 ⟨v2, rfl, hk7, b7⟩; obtain ⟨A2, m2, c2, rfl⟩ := hk7.shape; have hb7 : Below wx.heap.size wx w7 := below_on (Below.drew (Below.refl wx.heap.size wx)) b7; have hx7 := HXB6.out w7 hb7; have x7 := (fun i => cell_of_row w7 w5.heap.size i _ _ _ hx7); have fx7 : ∀ i, w7.frozen? ⟨w5.heap.size, i, none⟩ = false := (fun i => by simp [World.frozen?, hx7]); have HX7 := Lib.hid hx7; have HB7 := Lib.hid hb7; have HK7 := Lib.hid hk7; clear b7 hb7 hx7 hk7))
                        all_goals
                          go_wp2
                          go_meet
                          exact ⟨_, Joins.block_setCell HX7.out (i := 5) _, by
                            rw [← HKz2.out]
                            exact NodesAt.mono (fun j hj => ⟨by have h7 : wx.drew.heap.size ≤ j := hj.1; have h8 : wx.drew.heap.size = wx.heap.size := rfl; omega, by rw [size_setCell]; exact hj.2⟩) D (NodesAt.keep (fun j hj => Below.heap_setCell _ _ _ _ (show j ≠ w5.heap.size by have h7 : wx.drew.heap.size ≤ j := hj.1; have h8 : wx.drew.heap.size = wx.heap.size := rfl; omega)) D HK7.out), Below.setCell (p := ⟨w5.heap.size, 5, none⟩) (below_on H5X.out HB7.out) (Nat.le_refl _) _⟩
                      | false =>
                        have h1g : ¬ 1 < g := of_decide_eq_false HGt.out
                        rw [if_neg h1g] at hkz
                        have HKz2 := Lib.hid hkz
                        have g1 : ¬ (1 : Int) < (g : Int) := by omega
                        clear hkz
                        have HInn2 := Lib.hid (fun w' hb => HInn.out w' hb)
                        unfold linkPl Pl.val at HInn2
                        go_wp2_with fail
                        go_region_with (first
                          | (go_at_call 64; refine Calls.mono (HInn2.out _ (Below.drew HBX.out)) ?_; rintro e w7 ⟨v2, rfl, hk7, b7⟩; obtain ⟨A2, m2, c2, rfl⟩ := hk7.shape; have hb7 : Below wx.heap.size wx w7 := below_on (Below.drew (Below.refl wx.heap.size wx)) b7; have hx7 := HXB6.out w7 hb7; have x7 := (fun i => cell_of_row w7 w5.heap.size i _ _ _ hx7); have fx7 : ∀ i, w7.frozen? ⟨w5.heap.size, i, none⟩ = false := (fun i => by simp [World.frozen?, hx7]); have HX7 := Lib.hid hx7; have HB7 := Lib.hid hb7; have HK7 := Lib.hid hk7; clear b7 hb7 hx7 hk7))
                        all_goals
                          go_wp2
                          go_meet
                          exact ⟨_, Joins.block_setCell HX7.out (i := 5) _, by
                            rw [← HKz2.out]
                            exact NodesAt.mono (fun j hj => ⟨by have h7 : wx.drew.heap.size ≤ j := hj.1; have h8 : wx.drew.heap.size = wx.heap.size := rfl; omega, by rw [size_setCell]; exact hj.2⟩) D (NodesAt.keep (fun j hj => Below.heap_setCell _ _ _ _ (show j ≠ w5.heap.size by have h7 : wx.drew.heap.size ≤ j := hj.1; have h8 : wx.drew.heap.size = wx.heap.size := rfl; omega)) D HK7.out), Below.setCell (p := ⟨w5.heap.size, 5, none⟩) (below_on H5X.out HB7.out) (Nat.le_refl _) _⟩
                    case rest =>
                      obtain ⟨v2, hxz0, hkz0, hbz0⟩ := hcut
                      obtain ⟨wz, hwz⟩ : ∃ wz : World, wz = wc := ⟨_, rfl⟩
                      subst hwz
                      have hb5z := below_on HB35.out hbz0
                      have HKz := Lib.hid (HKp.out.below (below_on HBA.out hb5z) (by omega)); have HOz := Lib.hid (HOut.out.later (below_on HBA.out hb5z)); have HBz := Lib.hid (below_on HBA.out hb5z); have HXz := Lib.hid hxz0
                      obtain ⟨A2, m2, c2, rfl⟩ := hkz0.shape
                      have HEl := Lib.hid (show NodeIs (NodesAt D) wz (Mine (w.heap.size + 1) (.slice Av (L k).length cv) wz) [.int .u8 1, .int .u8 0, .string nm, .slice A1 m1 c1, .string ⟨#[]⟩, .slice A2 m2 c2] ⟨1, 0, nm, bareA E A S nm at', ByteArray.empty, kds⟩ from elem_is (wC := w5) (wD := wz) (fun g hg => by have := HLow.out g hg; omega) (by omega) HA5.out (NodesAt.mono (fun j hj => ⟨by omega, hj.2⟩) D hkz0) (fun j hj _ => hbz0.block j hj) (fun _ _ _ => rfl) hbz0.size (Nat.le_refl _) (by omega) (by omega))
                      clear hb5z hxz0 hkz0 hbz0
                      obtain ⟨css, hc1, hc2, hown, hE⟩ := HOz.out
                      have hcl := flat_six css hc2
                      rw [hc1] at hcl
                      have HOwn := Lib.hid hown; have HC1 := Lib.hid hc1; have HC2 := Lib.hid hc2; have HCl := Lib.hid hcl; have HE := Lib.hid hE
                      clear hown hc1 hc2 hcl hE
                      have hbz := HBz.out.size
                      have hkz : w.heap.size < wz.heap.size := by omega
                      have hxz : w5.heap.size < wz.heap.size := (Array.getElem?_eq_some_iff.1 HXz.out).1
                      have kz := HKz.out.cell
                      have la := fun (o : Obj) i => (World.cell?_alloc_lt wz o ⟨w.heap.size, i, none⟩ hkz).trans (kz i)
                      have xz := fun i => cell_of_row wz w5.heap.size i _ _ _ HXz.out
                      have xla := fun (o : Obj) i => (World.cell?_alloc_lt wz o ⟨w5.heap.size, i, none⟩ hxz).trans (xz i)
                      have hi1 : (0 : Int) ≤ ((L k).length : Int) := by omega
                      have hi2 : ((L k).length : Int) < ((L k).length : Int) + 1 := by omega
                      have hbx : w.heap.size + 1 ≤ w5.heap.size := by have := HXb.out; omega
                      have hcap : (L k).length + 1 ≤ maxLen := by unfold maxLen; omega
                      have hbyt : ((L k).length + 1) * 88 ≤ 140737488355328 := by omega
                      have hbs1 : w.heap.size + 1 ≤ (wz.drew.alloc zeroO).heap.size := by simp; omega
                      have hkl : w.heap.size < (wz.drew.alloc zeroO).heap.size := by simp; omega
                      have hxl : w5.heap.size < (wz.drew.alloc zeroO).heap.size := by simp; omega
                      have hkn : some w.heap.size ≠ (Value.slice Av (L k).length cv).ownBlock := by intro he; have := (HOwn.out.lt _ he.symm).1; omega
                      have hwzs : w5.heap.size ≠ wz.heap.size + 1 := by omega
                      have hkx : w.heap.size ≠ w5.heap.size := by omega
                      try clear HLs
                      try clear HLend
                      try clear hgt2
                      try clear hs6
                      try clear hs5
                      try clear hs4
                      try clear hs3
                      try clear hs2
                      try clear hs1
                      try clear hgi
                      try clear hnb
                      try clear hcn
                      try clear nb4
                      try clear nb3
                      try clear nb2
                      try clear nb1
                      try clear nb0
                      try clear kx
                      try clear HS6
                      try clear HCe
                      try clear HInn2
                      try clear H35
                      try clear HGt
                      try clear HKo
                      try clear HKoR
                      try clear HBww
                      try clear HNm
                      try clear HSl
                      try clear HNmw
                      try clear HLw
                      try clear HG
                      try clear HB
                      try clear HN
                      try clear HI
                      try clear HGr
                      try clear HSt
                      try clear HTx
                      try clear HAt
                      try clear HKd
                      try clear HF
                      try clear HCe
                      try clear HS5
                      try clear HHs
                      try clear HFl
                      try clear HCt
                      try clear HS8
                      try clear HTk
                      try clear HBr
                      try clear HTb
                      try clear HInn
                      try clear HInto
                      try clear nx
                      try clear n5
                      try clear na
                      try clear nc
                      try clear nd
                      try clear d0
                      try clear d1
                      try clear d2
                      try clear d3
                      try clear d4
                      try clear d5
                      try clear z0
                      try clear z1
                      try clear z2
                      try clear HVd
                      try clear HA5
                      try clear H5X
                      try clear H45
                      try clear HLow
                      try clear HKn
                      try clear HC
                      try clear HWA
                      try clear HBA
                      try clear HNA
                      try clear HBA0
                      try clear HB2
                      try clear HB3
                      try clear HB4
                      try clear HBX
                      try clear HWX
                      try clear HXX
                      try clear HKp
                      try clear HOut
                      try clear HBwr
                      try clear hstep
                      try clear hwk
                      try clear hlen
                      try clear hatl
                      try clear hnm
                      try clear htx
                      try clear hki2
                      try clear hsp
                      try clear hzN
                      try clear hz45
                      try clear hz4
                      try clear hzx
                      try clear hza
                      try clear hbw0
                      try clear hzb
                      try clear hn
                      try clear hkb0
                      try clear hHeld
                      try clear HHas
                      go_wp2_with fail
                      go_region_law (refine step_row rfl (.tmp 50) (.tmp 53) 37 rfl (w.heap.size + 1) 48 iN _ 6 88 Tryz.underlying37 hiN hzN0 hzN1 hzN2 rfl (by decide) _ rfl (L k).length _ (World.ownsRow.alloc (w := wz.drew) HOwn.out _) ⟨wz.heap.size, 0, none⟩ 1 1 zeroN rfl rfl zero_cells (by simp [Value.oneCell', zeroN]) hcap hbyt hbs1 ?_; intro v7 w7 hown7 hgrow0 hob70; obtain ⟨g7, cap7, rfl⟩ := Joins.ownsRow_form hown7 (Nat.succ_pos _); have hgrow : (wz.drew.alloc zeroO).grownBy w7 (Value.ownBlock (.slice Av (L k).length cv)) := hgrow0; have hob7 : (Value.slice (some ⟨g7, 0, none⟩) ((L k).length + 1) cap7).ownBlock = Value.ownBlock (.slice Av (L k).length cv) ∨ (Value.slice (some ⟨g7, 0, none⟩) ((L k).length + 1) cap7).ownBlock = some (wz.drew.alloc zeroO).heap.size := hob70; clear hgrow0 hob70; have hk7 := Lib.hid ((hgrow.block w.heap.size hkl hkn).trans ((Below.heap_alloc wz.drew _ _ hkz).trans HKz.out)); have hx7 := Lib.hid ((hgrow.block w5.heap.size hxl (by intro he; exact HXo.out he.symm)).trans ((Below.heap_alloc wz.drew _ _ hxz).trans HXz.out)); have hgx : ¬ g7 = w5.heap.size := (fun e => by rcases hob7 with h | h; (exact HXo.out (h.symm.trans (by rw [e]; rfl))); (have h9 : g7 = wz.heap.size + 1 := (by simpa [Value.ownBlock] using h); exact hwzs (e.symm.trans h9))); have hgx2 : ¬ w5.heap.size = g7 := (fun e => hgx e.symm); have c7 : ∀ i u, zeroN[i]? = some u → w7.cell? ⟨g7, (L k).length * 6 + i, none⟩ = some u := (fun i u hu => (hown7.cellAt ((L k).length * 6 + i) (by have := (List.getElem?_eq_some_iff.1 hu).1; simp [zeroN] at this; omega)).trans (by rw [List.getElem?_append_right (by rw [HCl.out]; exact Nat.le_add_right _ _), HCl.out, Nat.add_sub_cancel_left]; exact hu)); have d0 := (show w7.cell? ⟨g7, (L k).length * 6, none⟩ = some (.int .u8 0) from c7 0 _ rfl); have d1 := c7 1 _ rfl; have d2 := c7 2 _ rfl; have d3 := c7 3 _ rfl; have d4 := c7 4 _ rfl; have d5 := c7 5 _ rfl; have f7 := (fun i => hown7.frozenAt i); clear c7; have l7 := fun i => cell_of_row w7 w.heap.size i _ _ _ hk7.out; have x7 := fun i => cell_of_row w7 w5.heap.size i _ _ _ hx7.out; have fk7 : ∀ i, w7.frozen? ⟨w.heap.size, i, none⟩ = false := (fun i => by simp [World.frozen?, show w7.heap[w.heap.size]? = _ from hk7.out]); have hne7 : ¬ g7 = w.heap.size := (fun e => by have := (hown7.lt g7 rfl).1; omega); have hne8 : ¬ w.heap.size = g7 := (fun e => hne7 e.symm); have hnk : ¬ w.heap.size = w5.heap.size := hkx; have hnk2 : ¬ w5.heap.size = w.heap.size := hkx.symm; have HW7 := Lib.hid hown7; have HG7 := Lib.hid hgrow; have HB7 := Lib.hid hob7; clear hown7 hgrow hob7)
                      all_goals
                        go_wp2
                        go_roundw
                        case rel =>
                          first
                            | (with_reducible exact nod_push rfl hlt (Nat.lt_succ_self _) hzW.1 HBs.out HBz.out HKz.out HC1.out HC2.out HOwn.out HE.out HEl.out HG7.out HB7.out HW7.out HL.out)
                            | (with_reducible exact nod_push2 rfl hlt (Nat.lt_succ_self _) hzW.1 HBs.out HBz.out HKz.out HC1.out HC2.out HOwn.out HE.out HEl.out HG7.out HB7.out HW7.out HL.out)
                        case measure => simp [intOf]; omega
          · have z0 : ((sp : Int) != 0) = true := by simp; omega
            have HL := Lib.hid (HSt.out.trans (stepG_gone hg1 (by simp only; omega) (.inr (.inl (by simp only; omega)))))
            clear hk1 hk2 hs0
            go_wp2
            go_roundw
            case rel => exact nod_same hlt (Nat.lt_succ_self _) hzW.1 HKp.out HOut.out HBs.out HBA0.out HL.out
            case measure => simp [intOf]; omega
        · have z1 : ((kd : Int) != 1) = true := by simp; omega
          have HL := Lib.hid (HSt.out.trans (stepG_gone hg1 (by simp only; omega) (.inl (by simp only; omega))))
          clear hk1 hk2
          go_wp2
          go_roundw
          case rel => exact nod_same hlt (Nat.lt_succ_self _) hzW.1 HKp.out HOut.out HBs.out HBA0.out HL.out
          case measure => simp [intOf]; omega
    · obtain rfl : k = l.length := by omega
      have kg := hkp.cell
      have HO := Lib.hid hout
      have hlen : (L l.length).length ≤ wt (D + 1) (L l.length) := rowWt_len (K := List (NT D)) (wt D) (L l.length)
      have hle := HLend.out
      obtain ⟨Av, cv, rfl⟩ := hout.form
      have hzs := hbs.size
      go_wp2
      go_ret
      exact ⟨_, rfl, NodesAt.mono (fun j hj => ⟨by omega, hj.2⟩) (D + 1) (HO.out.nodes (by omega)), HBW.out.trans (hbs.1.mono (Nat.le_refl _))⟩

set_option maxHeartbeats 4000000 in
set_option maxRecDepth 100000 in
theorem nodes_none (E : List ByteArray) (A : Prs) (S : List ByteArray) : NodesC E A S 0 := by
  intro D kb base x vE vA vS v0 vl acc l S0 w0 w hn hc hv hS hb hkb0 h1 h2 hk ho hwt
  obtain ⟨Al, cl', rfl⟩ := hv.none_
  have HK := Lib.hid hk; have HO := Lib.hid ho
  clear hc hv hS hb hwt hk ho
  go_enter Tryz.func41, Tryz.ntmps41
  go_wp2_with fail
  go_loopw [9] (fun vi wr => vi = .int .i64 0 ∧ wr = w) (fun vi _ => 0)
  case atStart => exact ⟨rfl, rfl⟩
  case round =>
    obtain ⟨rfl, rfl⟩ := hrel
    go_wp2
    go_end0
    exact ⟨rfl, v0, HK.out, HO.out, Beside.refl _ _ _⟩
theorem kids_none (E : List ByteArray) (A : Prs) (S : List ByteArray) (D g : Nat) (x : Pl) (l : List (NT 0)) : kidsN E A S 0 D g x l = [] := by
  cases D with
  | zero => rfl
  | succ D => rfl
set_option maxHeartbeats 4000000 in
set_option maxRecDepth 100000 in
theorem grid_none (E : List ByteArray) (A : Prs) (S : List ByteArray) : GridC E A S 0 := by
  intro D ko g x vE vA vS v0 vl vn l S0 w0 w hn hg1 hg3 hc hv hS hb hk hs hwt
  obtain ⟨Al, cl', rfl⟩ := hv.none_
  obtain ⟨An, cn, rfl, _, _⟩ := hs.open
  have hko : ko < w.heap.size := (Array.getElem?_eq_some_iff.1 (show w.heap[ko]? = _ from hk)).1
  have ko1 := hk.cell
  rw [kids_none]
  obtain ⟨W, hW⟩ : ∃ W, w.alloc (.cells #[.bool false, .bool false, .bool false, .bool false, .bool false, .bool false, vE, vA, vS, .slice none 0 0] 68) = W := ⟨_, rfl⟩
  have hbW : Below w.heap.size w W := by rw [← hW]; exact (Below.refl _ w).alloc (Nat.le_refl _) _
  have hkW : KeepAt w.heap.size W zeroPl vE vA vS (.slice none 0 0) := by rw [← hW]; exact heap_alloc_new w _
  have kg := hkW.cell
  have HW := Lib.hid hW; have HBW := Lib.hid hbW
  clear hc hv hS hb hwt hk hs hW hbW hkW
  go_enter Tryz.func63, Tryz.ntmps63
  go_wp2_with fail
  rw [HW.out]
  go_loopw [19] (fun vi wr => vi = .int .i64 0 ∧ wr = W) (fun vi _ => 0)
  case atStart => exact ⟨rfl, rfl⟩
  case round =>
    obtain ⟨rfl, rfl⟩ := hrel
    go_wp2
    go_ret
    exact ⟨_, rfl, nodes_nil _ _ _, HBW.out⟩
theorem both_all (E : List ByteArray) (A : Prs) (S : List ByteArray) : ∀ n, NodesC E A S n ∧ GridC E A S n
  | 0 => ⟨nodes_none E A S, grid_none E A S⟩
  | n + 1 => by
    obtain ⟨hN, hG⟩ := both_all E A S n
    have hI := inner_any E A S n hN
    exact ⟨nodes_step E A S n hN hI hG, grid_step E A S n hI hG⟩
set_option maxHeartbeats 4000000 in
set_option maxRecDepth 100000 in
theorem clean_any (E : List ByteArray) (A : Prs) (S : List ByteArray) (n D : Nat) (vE vA vS vl : Value) (l : List (NT n)) (S0 : Nat → Prop) (w0 w : World) (hn : n ≤ D) (hc : Ctx w0 vE vA vS E A S) (hv : NodesAt n w0 S0 vl l) (hS : ∀ k, S0 k → k < w0.heap.size) (hb : Below w0.heap.size w0 w) (hwt : wt n l ≤ 100000) :
    Calls Tryz.prog 15 #[vl, .agg #[vE, vA, vS]] w (KidsR w D (kidsN E A S n D 0 zeroPl l)) := by
  obtain ⟨Al, ml, cl', rfl⟩ := hv.shape
  have hw0 := hb.size
  obtain ⟨W, hW⟩ : ∃ W, ((w.alloc (.cells #[vE, vA, vS] 25)).alloc (.cells #[.bool false, .bool false, .bool false, .bool false, .bool false, .bool false, vE, vA, vS, .slice none 0 0] 68)) = W := ⟨_, rfl⟩
  have hbW : Below w.heap.size w W := by rw [← hW]; exact ((Below.refl _ w).alloc (Nat.le_refl _) _).alloc (by simp) _
  have hzW : W.heap.size = w.heap.size + 1 + 1 := by rw [← hW]; simp
  have hkW : KeepAt (w.heap.size + 1) W zeroPl vE vA vS (.slice none 0 0) := by
    rw [← hW]
    show ((w.alloc (.cells #[vE, vA, vS] 25)).alloc (.cells #[.bool false, .bool false, .bool false, .bool false, .bool false, .bool false, vE, vA, vS, .slice none 0 0] 68)).heap[w.heap.size + 1]? = _
    exact two_new w _ _ _
  have hcall := (both_all E A S n).1 (D - 1) (w.heap.size + 1) (w.heap.size + 1 + 1) zeroPl vE vA vS (.slice none 0 0) _ [] l S0 w0 W (by omega) hc hv hS (hb.trans (hbW.mono hw0)) (by omega) (by omega) (by omega) hkW (OutAt.nil _ _ _) (by rw [show wt (D - 1 + 1) ([] : List (NodeD (List (NT (D - 1))))) = 0 from rfl]; omega)
  have HC := Lib.hid hcall; have HW := Lib.hid hW; have HBW := Lib.hid hbW; have HZ := Lib.hid hzW
  clear hc hb hcall hW hbW hkW hzW hv hS
  go_enter Tryz.func15, Tryz.ntmps15
  go_wp2_with fail
  rw [HW.out]
  refine Calls.mono HC.out ?_
  rintro e w1 ⟨rfl, v', hk1, ho1, hb1⟩
  have q1 := hk1.cell
  obtain ⟨A1, c1, hv1⟩ := ho1.form
  subst hv1
  have hsz := hb1.size
  have HO1 := Lib.hid ho1; have HB1 := Lib.hid hb1
  clear ho1 hb1 hk1
  go_wp2
  go_ret
  refine ⟨_, rfl, NodesAt.mono (fun j hj => ⟨by have := HZ.out; omega, hj.2⟩) D (kids_of E A S (base := w.heap.size + 1 + 1) hn (fun D' e => ?_) (fun e => ?_) hwt), HBW.out.trans (HB1.out.1.mono (by omega))⟩
  · subst e
    exact HO1.out
  · subst e
    have hn0 : n = 0 := by omega
    subst hn0
    exact HO1.out
end Go.Proofs.YtdkjenbncmedbaaGreatDoor
