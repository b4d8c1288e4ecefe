/- The ends of lines make no difference. -/
import Derived.Test.YtebfjlfkofibpaaGreatDoorBkKn
import Derived.Test.YtebfjlfkofibpaaGreatDoorBkNr
import Derived.Test.YtebfjlfkofibpaaGreatDoorBkLp
namespace Go.Proofs.YtebfjlfkofibpaaGreatDoor
set_option maxHeartbeats 8000000
set_option maxRecDepth 100000
open Go.RowKit
def ParseG (n : Nat) (x : BD (List (TR n))) (R : List RefT) (dp : Nat) (w : World) (e : Ending) (w' : World) : Prop := ∃ va vk rv,
 e = .returned (.tuple #[.agg (blkCs x.kind x.level x.mark x.start x.tight x.info x.text va vk).toArray, rv, .int .i64 dp]) ∧
 AlS w' (fun k => k < w'.heap.size) va x.align ∧ BlksAt n w' (fun k => k < w'.heap.size) vk x.kids ∧ w'.ownsRow w.heap.size 43 3 rv R.length (refCells R) ∧ Below w.heap.size w w'
theorem parseR_congr {s t : ByteArray} (h : finT s = finT t) : ParseR s = ParseR t := by
 unfold ParseR treT fueT;rw [h]
theorem fin_same {s t : ByteArray} (h : nlB s = nlB t) : finT s = finT t := by unfold finT; rw [lines_same h]
def EdW (xl : List UInt8) (w : World) (v8 v9 : Value) (wr : World) : Prop := ∃ (k : Nat) (acc : ByteArray), v9 = .int .i64 k ∧ v8 = .string acc ∧ k ≤ xl.length ∧ acc.data.toList = (xl.take k).map crOf ∧ wr = w
theorem ends_core (A : Option Addr) (m c : Nat) (l : List UInt8) (w : World) (hl : SlU8 w (.slice A m c) l) (hG : GlobB w) (hm : m = l.length) (hb : m ≤ 1200) (t X : ByteArray) (ht : ⟨(textL l).toArray⟩ = t) (hX : nlB t = X) (n : Nat) (x : BD (List (TR n))) (R : List RefT) (dp : Nat) (hR : R.length ≤ 1000000)
  (HP : ∀ (s : ByteArray) (w' : World), (s = t ∨ s = X ∨ s.data.toList = X.data.toList.map crOf) -> GlobB w' -> Calls Tryz.prog 10 #[.string s] w' (ParseG n x R dp w')) :
  Calls Tryz.prog 3 #[.slice A m c] w fun e w' => e = .returned (.bool true) ∧ Below w.heap.size w w' := by
 have hbi : ¬ (1200 : Int) < (m : Int) := by omega
 have HK := hdn (known_any w hG);have hts : t.size ≤ 3600 := by
  have := textL_len l;rw [<- ht];show (textL l).toArray.size ≤ _;simp;omega
 have HT := hdn fun w' (h : Below w.heap.size w w') => show Calls Tryz.prog _ #[.slice A m c] w' (StrR w' (textL l)) from reftext_any (.slice A m c) l w' (by omega) (hl.later h);unfold StrR at HT;rw [ht] at HT;have HN := hdn fun w' => refnewlines_any t w' (by omega);unfold StrR at HN;rw [show (⟨(nlL t.data.toList).toArray⟩ : ByteArray) = X from hX] at HN;have HP1 := hdn fun w' (h : Below w.heap.size w w') => HP t w' (.inl rfl) (hG.later h);have HP2 := hdn fun w' (h : Below w.heap.size w w') => HP X w' (.inr (.inl rfl)) (hG.later h)
 have HP3 := hdn fun s (hs : s.data.toList = X.data.toList.map crOf) w' (h : Below w.heap.size w w') => HP s w' (.inr (.inr hs)) (hG.later h);unfold ParseG blkCs at HP1 HP2 HP3;have hXs : X.size ≤ 3600 := by rw [<- hX]; exact Nat.le_trans (nlB_size t) hts
 have HSb := hdn (@same_blk n (same_blks n) x);unfold blkCs at HSb;clear hl hm ht hts hX hG HP;go_enter Tryz.func3, Tryz.ntmps3;go_wp2_with fail;refine Calls.mono HK.out ?_;rintro e w1 ⟨rfl, hb1⟩;have HB1 := hdn hb1;clear hb1;go_wp2_with fail;refine Calls.mono (HT.out w1 HB1.out) ?_;rintro e w2 ⟨rfl, hb2⟩;have HB2 := hdn (HB1.out.trans (hb2.mono HB1.out.size));clear hb2;go_wp2_with fail;refine Calls.mono (HP1.out w2 HB2.out) ?_;rintro e wa ⟨va1, vk1, rv1, rfl, ha1, hk1, hr1, hb3⟩
 have HBa := hdn (HB2.out.trans (hb3.mono HB2.out.size));obtain ⟨A1, m1, c1, rfl, -⟩ := id ha1.1;obtain ⟨A1k, c1k, hvk1⟩ := hk1.form;obtain ⟨N1, hN1⟩ : ∃ N1, vk1 = .slice A1k N1 c1k := ⟨_, hvk1⟩;clear hvk1;subst hN1;have HA1 := hdn ha1; have HK1 := hdn hk1; have HR1 := hdn hr1;clear ha1 hk1 hr1 hb3;go_wp2_with fail;refine Calls.mono (HN.out _) ?_;rintro e wn ⟨rfl, hbn⟩;have R4 := hdn ((hbn.block _ (by simp)).trans (heap_alloc_new wa _));have HBan := hdn (((Below.refl _ wa).alloc (Nat.le_refl _) _).trans (hbn.mono (by simp)))
 have hsa : wa.heap.size < wn.heap.size := Nat.lt_of_lt_of_le (by simp) hbn.size;have HBn := hdn (HBa.out.trans (HBan.out.mono HBa.out.size));have HXl := hdn (show X.data.toList.length = X.size from Array.length_toList);have H0 := hdn (show EdW X.data.toList wn (.string ⟨#[]⟩) (.int .i64 0) wn from ⟨0, ⟨#[]⟩, rfl, rfl, Nat.zero_le _, rfl, rfl⟩);clear hbn;go_wp2_with fail
 go_loopw [8, 9] (fun v8 v9 wr => EdW X.data.toList wn v8 v9 wr) (fun _ i _ => X.size - (intOf i).toNat)
 case atStart => exact H0.out
 case round =>
  obtain ⟨k, acc, rfl, rfl, hk, hacc, rfl⟩ := hrel;rw [HXl.out] at hk;clear H0;have hal : acc.size ≤ k := by
   have h1 : acc.data.toList.length = acc.size := Array.length_toList;rw [<- h1, hacc, List.length_map, List.length_take];omega
  by_cases hlt : k < X.size
  ·have hki : (k : Int) < (X.size : Int) := by omega
   obtain ⟨b, hbx⟩ : ∃ b, X[k] = b := ⟨_, rfl⟩;have hkl : k < X.data.toList.length := by rw [HXl.out]; exact hlt
   have hbl : X.data.toList[k] = b := by rw [<- hbx]; rfl
   have htk : (X.data.toList.take (k + 1)).map crOf = (X.data.toList.take k).map crOf ++ [crOf b] := by
    rw [List.take_succ_eq_append_getElem hkl, List.map_append, hbl]; rfl
   have n1 : ¬ 9223372036854775807 < acc.size + (⟨#[13]⟩ : ByteArray).size := by rw [show (⟨#[13]⟩ : ByteArray).size = 1 from rfl]; omega
   have n2 : ¬ 9223372036854775807 < acc.size + (X.extract k (k + 1)).size := by rw [ByteArray.size_extract]; omega
   have hex : (X.extract k (k + 1)).data.toList = [b] := by
    rw [ext_to, List.take_succ_eq_append_getElem hkl, hbl, List.drop_append_of_le_length (by rw [List.length_take]; omega), List.drop_of_length_le (by rw [List.length_take]; omega)];rfl
   have HTk := hdn htk; have HAc := hdn hacc; have HEx := hdn hex;clear htk hacc hbl hkl hex
   by_cases h10 : b = 10
   ·have z : ((b.toNat : Int) == 10) = true := by rw [h10]; rfl
    go_wp2
    go_roundw
    case rel => exact ⟨k + 1, acc ++ ⟨#[13]⟩, by go_num, rfl, by rw [HXl.out]; omega, by rw [HTk.out, <- HAc.out, h10]; simp [ByteArray.data_append, crOf], rfl⟩
    case measure => simp [intOf]; omega
   ·have z : ((b.toNat : Int) == 10) = false := by rw [beq_eq_false_iff_ne]; intro e; exact h10 (UInt8.toNat_inj.1 (by show b.toNat = 10; omega))
    go_wp2
    go_roundw
    case rel => exact ⟨k + 1, acc ++ X.extract k (k + 1), by go_num, rfl, by rw [HXl.out]; omega, by rw [HTk.out, <- HAc.out, show crOf b = b from if_neg h10, <- HEx.out]; simp [ByteArray.data_append], rfl⟩
    case measure => simp [intOf]; omega
  ·obtain rfl : k = X.size := by omega
   rw [<- HXl.out, List.take_length] at hacc;have HP3a := hdn (HP3.out acc hacc);clear hacc;go_wp2_with fail;refine Calls.mono (HP2.out _ HBn.out) ?_;rintro e wb ⟨va2, vk2, rv2, rfl, ha2, hk2, hr2, hb4⟩;obtain ⟨A2, m2, c2, rfl, -⟩ := id ha2.1;obtain ⟨A2k, c2k, hvk2⟩ := hk2.form;obtain ⟨N2, hN2⟩ : ∃ N2, vk2 = .slice A2k N2 c2k := ⟨_, hvk2⟩;clear hvk2;subst hN2;have HBb := hdn (HBn.out.trans (hb4.mono HBn.out.size));have HBnb := hdn hb4;have HA2 := hdn ha2; have HK2 := hdn hk2; have HR2 := hdn hr2;clear ha2 hk2 hr2 hb4;go_wp2_with fail
   refine Calls.mono (HP3a.out _ (HBb.out.alloc HBb.out.size _)) ?_;rintro e wc ⟨va3, vk3, rv3, rfl, ha3, hk3, hr3, hb5⟩;obtain ⟨A3, m3, c3, rfl, -⟩ := id ha3.1;obtain ⟨A3k, c3k, hvk3⟩ := hk3.form;obtain ⟨N3, hN3⟩ : ∃ N3, vk3 = .slice A3k N3 c3k := ⟨_, hvk3⟩;clear hvk3;subst hN3;have R5 := hdn ((hb5.block _ (by simp)).trans (heap_alloc_new wb _));have HBbc := hdn (((Below.refl _ wb).alloc (Nat.le_refl _) _).trans (hb5.mono (by simp)));have hsb : wb.heap.size < wc.heap.size := Nat.lt_of_lt_of_le (by simp) hb5.size;have HBc := hdn (HBb.out.trans (HBbc.out.mono HBb.out.size))
   have HBnc := hdn (HBnb.out.trans (HBbc.out.mono HBnb.out.size));have HBac := hdn (HBan.out.trans (HBnc.out.mono HBan.out.size));clear hb5;have hsn := HBnb.out.size;have ba := fun o => (Below.refl _ wc).alloc (Nat.le_refl _) o;have r4 := fun o => ((ba o).block _ (by omega)).trans ((HBnc.out.block _ (by omega)).trans R4.out);have r5 := fun o => ((ba o).block _ (by omega)).trans R5.out;have v4 := fun o i => cell_of_row (wc.alloc o) wa.heap.size i _ _ _ (r4 o);have v5 := fun o i => cell_of_row (wc.alloc o) wb.heap.size i _ _ _ (r5 o);have HA3 := hdn ha3; have HK3 := hdn hk3; have HR3 := hdn hr3
   have ac : ∀ W, Below wc.heap.size wc W -> ∀ k, k < wa.heap.size -> W.heap[k]? = wa.heap[k]? := fun W h k hk => (h.block k (by omega)).trans (HBac.out.block k hk);have bc : ∀ W, Below wc.heap.size wc W -> ∀ k, k < wb.heap.size -> W.heap[k]? = wb.heap[k]? := fun W h k hk => (h.block k (by omega)).trans (HBbc.out.block k hk);have cc : ∀ W, Below wc.heap.size wc W -> ∀ k, k < wc.heap.size -> W.heap[k]? = wc.heap[k]? := fun W h k hk => h.block k hk
   have S12 := hdn fun W (h : Below wc.heap.size wc W) => HSb.out _ _ _ _ _ _ W (HA1.out.keep (ac W h)) (BlksAt.keep (ac W h) n HK1.out) (HA2.out.keep (bc W h)) (BlksAt.keep (bc W h) n HK2.out) (fun k hk => by have := h.size; omega) (fun k hk => by have := h.size; omega);have S13 := hdn fun W (h : Below wc.heap.size wc W) => HSb.out _ _ _ _ _ _ W (HA1.out.keep (ac W h)) (BlksAt.keep (ac W h) n HK1.out) (HA3.out.keep (cc W h)) (BlksAt.keep (cc W h) n HK3.out) (fun k hk => by have := h.size; omega) (fun k hk => by have := h.size; omega)
   have Q12 := hdn fun W (h : Below wc.heap.size wc W) => same_refs W rv1 rv2 R _ _ (own_keep HR1.out fun g hg => ac W h g (own_lt HR1.out g hg)) (own_keep HR2.out fun g hg => bc W h g (own_lt HR2.out g hg)) hR;have Q13 := hdn fun W (h : Below wc.heap.size wc W) => same_refs W rv1 rv3 R _ _ (own_keep HR1.out fun g hg => ac W h g (own_lt HR1.out g hg)) (own_keep HR3.out fun g hg => cc W h g (own_lt HR3.out g hg)) hR;clear ac bc cc ha3 hk3 hr3;go_wp2_with fail;refine Calls.mono (S12.out _ (ba _)) ?_;rintro e w3 ⟨rfl, h3⟩;have h3c := (ba _).trans (h3.mono (by simp))
   have hs3 : wc.heap.size < w3.heap.size := Nat.lt_of_lt_of_le (by simp) h3.size;have z4 := fun i => cell_of_row w3 wa.heap.size i _ _ _ ((h3.block _ (by simp; omega)).trans (r4 _));have z6 := fun i => cell_of_row w3 wc.heap.size i _ _ _ ((h3.block _ (by simp)).trans (heap_alloc_new wc _));have H3c := hdn h3c;clear h3 h3c;go_wp2_with fail;refine Calls.mono (S13.out _ H3c.out) ?_;rintro e w4 ⟨rfl, h4⟩;have H4c := hdn (H3c.out.trans (h4.mono H3c.out.size));clear h4 z4 z6;go_wp2_with fail;refine Calls.mono (Q12.out _ H4c.out) ?_;rintro e w5 ⟨rfl, h5⟩
   have H5c := hdn (H4c.out.trans (h5.mono H4c.out.size));clear h5;go_wp2_with fail;refine Calls.mono (Q13.out _ H5c.out) ?_;rintro e w6 ⟨rfl, h6⟩;go_wp2;go_ret;exact ⟨rfl, HBc.out.trans ((H5c.out.trans (h6.mono H5c.out.size)).mono HBc.out.size)⟩
theorem ends_law (A : Option Addr) (m c : Nat) (l : List UInt8) (w : World) (hl : SlU8 w (.slice A m c) l) (hll : l.length ≤ 9223372036854775807) (hG : GlobB w) : Calls Tryz.prog 3 #[.slice A m c] w fun e w' => e = .returned (.bool true) ∧ Below w.heap.size w w' := by
 have hm : m = l.length := by obtain ⟨_, _, _, e, h, _⟩ := hl; cases e; exact h
 by_cases hb : 1200 < m
 ·have hbi : (1200 : Int) < (m : Int) := by omega
  have HK := hdn (known_any w hG);clear hl hm;go_enter Tryz.func3, Tryz.ntmps3;go_wp2_with fail;refine Calls.mono HK.out ?_;rintro e w1 ⟨rfl, hb1⟩;go_wp2;go_ret;exact ⟨rfl, hb1⟩
 ·obtain ⟨t, ht⟩ : ∃ t : ByteArray, (⟨(textL l).toArray⟩ : ByteArray) = t := ⟨_, rfl⟩;have hts : t.size ≤ 3600 := by
   have := textL_len l;rw [<- ht];show (textL l).toArray.size ≤ _;simp;omega
  have hXs := nlB_size t;refine ends_core A m c l w hl hG hm (by omega) t (nlB t) ht rfl (fueT t + 2) (treT t) (finT t).refs (deepT (fueT t) (finT t) 0) (Nat.le_trans (fin_facts (by omega)).2.2.1 (by omega)) ?_;intro s w' hs hg;rcases hs with rfl | rfl | hs
  ·exact parse_any s w' (by omega) hg
  ·have h := parse_any (nlB t) w' (by omega) hg;rw [parseR_congr (fin_same (nlB_nl t))] at h;exact h
  ·have hsz : s.size ≤ 3600 := by
    have h1 : s.data.toList.length = s.size := Array.length_toList;have h2 : (nlB t).data.toList.length = (nlB t).size := Array.length_toList;rw [hs, List.length_map] at h1;omega
   have h := parse_any s w' (by omega) hg;have hcr : nlB s = nlB t := by
    rw [ba_list hs];exact nlB_cr t
   rw [parseR_congr (fin_same hcr)] at h;exact h
