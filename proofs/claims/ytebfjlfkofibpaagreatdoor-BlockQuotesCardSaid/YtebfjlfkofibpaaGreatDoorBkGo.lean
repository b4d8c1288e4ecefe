/- Whether an open block goes on. -/
import Derived.Test.YtebfjlfkofibpaaGreatDoorBkIt
namespace Go.Proofs.YtebfjlfkofibpaaGreatDoor
set_option maxHeartbeats 8000000
set_option maxRecDepth 100000
open Go.RowKit
variable {F : Frm}
theorem gt_prefix (l : List UInt8) : Lib.hasPrefix l (⟨#[62]⟩ : ByteArray).data.toList = decide (l.head? = some 62) := by
 show ([62] : List UInt8).isPrefixOf l = _
 cases l with
 | nil => rfl
 | cons b l =>
  have h : ∀ b : UInt8, ((62 : UInt8) == b) = decide (b = 62) := fun b => by
   by_cases hb : b = 62
   ·subst hb; rfl
   ·rw [decide_eq_false hb]; exact beq_eq_false_iff_ne.2 (fun e => hb e.symm)
  simp [List.isPrefixOf, h]
theorem gt_any (t : ByteArray) (w : World) : Calls Tryz.prog 47 #[.string t, .string ⟨#[62]⟩] w fun e w' => e = .returned (.bool (decide (t.data.toList.head? = some 62))) ∧ w' = w := by
 have h := Tryz.strings_HasPrefix t ⟨#[62]⟩ w;rw [gt_prefix] at h;exact h
theorem head_size {t : ByteArray} (h : t.data.toList.head? = some 62) : 1 ≤ t.size := by
 have hl : t.data.toList.length = t.size := lTq
 cases ht : t.data.toList with
 | nil => rw [ht] at h; cases h
 | cons b l => rw [ht] at hl; simp at hl; omega
def GoesR (F : Frm) (w : World) (base rp : Nat) (P : List Nat) (x : Rd × Bool × Bool) (e : Ending) (w' : World) : Prop := e = .returned (.tuple #[.bool x.2.1, .bool x.2.2]) ∧ Below base w w' ∧ ∃ own', St F w' base rp own' P x.1
theorem goes_b {B : Nat} (hB : B ≤ 1000000) {w : World} {base rp : Nat} {own : Nat -> Nat} {P : List Nat} {r : Rd} (h : St F w base rp own P r) (hb : base ≤ w.heap.size) (hr : Ok B r) (hp : r.pot ≤ 1000000) (k : Nat) (hk : k < r.nds.length) (hko : (r.nd k).opn = true) :
  Calls Tryz.prog 29 #[.pointer (some ⟨rp, 0, none⟩), .pointer (some ⟨ptN P k, 0, none⟩)] w (GoesR F w base rp P (r.goes k)) := by
 have HBa := hdn (bare_s h hp);have hbs := r.bare_size;obtain ⟨t, ht⟩ : ∃ t, r.bareT = t := ⟨_, rfl⟩;obtain ⟨W, hW⟩ : ∃ W, r.bareW = W := ⟨_, rfl⟩;rw [ht, hW] at HBa hbs;obtain ⟨D, hD⟩ : ∃ D, r.nd k = D := ⟨_, rfl⟩;have hDn : r.nds[k]? = some D := by rw [<- hD]; exact Rd.at_lt hk
 have hdk := hr.nd k hk;rw [hD] at hdk hko;obtain ⟨K, hK⟩ : ∃ K, D.kind = K := ⟨_, rfl⟩;have hgo : r.goes k = (if K = 2 then
  (if 4 ≤ W ∨ t.data.toList.head? ≠ some 62 then (r, false, false)
  else (((r.pass 1).cut 1).turn k fun x => { x with last := r.n }, true, false))
 else if K = 4 then
  (if t.size = 0 then (r, !D.kids.isEmpty, false)
  else if (W : Int) < D.indent then (r, false, false)
  else (r.cut D.indent.toNat, true, false))
 else if K = 5 ∨ K = 10 then (r, t.size != 0, false)
 else if K = 8 then (r, t.size != 0 || decide (D.html < 6), false)
 else if K = 7 then
  (if 0 < D.fm then
   (if W < 4 ∧ shutB t.data.toList D.fc D.fm = true then (((r.turn k fun x => { x with last := r.n }).close k), true, true)
   else (r.cut D.offset.toNat, true, false))
  else if 4 ≤ W then (r.cut 4, true, false)
  else if t.size = 0 then ({ r with rest := ⟨#[]⟩ }, true, false)
  else (r, false, false))
 else (r, true, false)) := by
  unfold Rd.goes;simp only [ht, hW, hD, hK]
 have HGo := hdn hgo;have HS := hdn h; have HOk := hdn hr; have HDn := hdn hDn; have HDk := hdn hdk;have HT := hdn ht; have HKo := hdn hko; have HD := hdn hD;have hPl := h.len;clear hgo ht hW hDn hdk hko h hr hD;go_enter Tryz.func29, Tryz.ntmps29;go_wp2_with fail;refine cMq HBa.out ?_;rintro e w1 ⟨rfl, b1⟩;have hst1 := HS.out.below b1;have hbz1 : base ≤ w1.heap.size := Nat.le_trans hb b1.size;obtain ⟨kv, lv, av, hn⟩ := hst1.nodes k _ HDn.out;have hkids := hn.kids;obtain ⟨Ak, ck, rfl⟩ := bk_own_slice hkids;have hrow := hn.row
 have hge := hn.ge;have f1 : ∀ i, w1.frozen? ⟨ptN P k, i, none⟩ = false := fun i => by simp [World.frozen?, hrow]
 unfold ndCells at hrow;have q := fun i => cell_of_row w1 (ptN P k) i _ _ _ hrow;rw [hK] at q;obtain ⟨rv, hrd⟩ := hst1.rd;have hrowr := hrd.row;have hrpge := hrd.ge;have fr : ∀ i, w1.frozen? ⟨rp, i, none⟩ = false := fun i => by simp [World.frozen?, hrowr]
 unfold rdCells at hrowr;have qr := fun i => cell_of_row w1 rp i _ _ _ hrowr;have HS1 := hdn hst1; have HB1 := hdn (b1.mono hb);have hkn : D.kids.length ≤ 100000 := by have := HOk.out.kn hk; rw [HD.out] at this; have := HOk.out.few; omega
 have hKr := HDk.out.kind;rw [hK] at hKr;clear hst1 b1 hn hkids hrow hrd hrowr HBa
 by_cases k2 : K = 2
 ·subst k2;have hgo := HGo.out;rw [if_pos rfl] at hgo;obtain ⟨GB, hGB⟩ : ∃ GB, decide (t.data.toList.head? = some 62) = GB := ⟨_, rfl⟩;have HP := hdn fun w' => gt_any t w';rw [hGB] at HP;have HGo2 := hdn hgo;have HGB := hdn hGB;clear hgo hGB HGo
  go_upto_region 4 with fail
  go_cut [28] (fun v28 wx => Value.bool (decide (4 ≤ W) || !GB) = v28 ∧ w1 = wx)
  case first =>
   by_cases h4 : 4 ≤ W
   ·go_wp2
    go_meet
    case rel => exact ⟨by rw [decide_eq_true h4]; rfl, rfl⟩
   ·go_wp2_with fail;refine cMq (HP.out _) ?_;rintro e w2 ⟨rfl, rfl⟩;go_wp2
    go_meet
    case rel => exact ⟨by rw [decide_eq_false h4]; first | rfl | rw [decide_eq_false (show ¬ (4 : Int) ≤ (W : Int) by omega)], rfl⟩
  case rest =>
   obtain ⟨rfl, hwc⟩ := hcut;subst hwc
   by_cases h4 : 4 ≤ W ∨ t.data.toList.head? ≠ some 62
   ·have hb2 : (decide (4 ≤ W) || !GB) = true := by rw [<- HGB.out]; simpa using h4
    rw [hb2];have HV := hdn (show r.goes k = (r, false, false) by rw [HGo2.out, if_pos h4]);clear h4 HGo2 hb2;go_wp2
    go_ret2
    rw [HV.out];exact ⟨rfl, HB1.out, _, HS1.out⟩
   ·have hb2 : (decide (4 ≤ W) || !GB) = false := by rw [<- HGB.out]; simpa using h4
    rw [hb2];have HV := hdn (show r.goes k = (((r.pass 1).cut 1).turn k fun x => { x with last := r.n }, true, false) by rw [HGo2.out, if_neg h4]);have hsz : 1 ≤ r.bareT.size := by rw [HT.out]; exact head_size (Classical.byContradiction fun h => h4 (.inr h))
    have HPa := hdn (pass_s HS1.out hbz1 hp 1 hsz);have hp1 := Nat.le_trans (r.pass_pot 1 hsz) hp;clear h4 HGo2 hb2 hsz q f1 qr fr;go_wp2_with fail;refine cMq HPa.out ?_;rintro e w2 ⟨own2, ⟨v2, rfl⟩, hst2, hb2⟩;have hbz2 : base ≤ w2.heap.size := by have := hb2.size; omega
    have HCu := hdn (cut_s hst2 hbz2 hp1 1 (by decide));have HB2 := hdn (HB1.out.trans hb2);clear hst2 hb2 HPa;go_wp2_with fail;refine cMq HCu.out ?_;rintro e w3 ⟨own3, ⟨v3, rfl⟩, hst3, hb3⟩;have hn3 : ((r.pass 1).cut 1).nds[k]? = some D := HDn.out;obtain ⟨kv3, lv3, av3, hn⟩ := hst3.nodes k _ hn3;have hrow := hn.row;have f3 : ∀ i, w3.frozen? ⟨ptN P k, i, none⟩ = false := fun i => by simp [World.frozen?, hrow]
    unfold ndCells at hrow;have q3 := fun i => cell_of_row w3 (ptN P k) i _ _ _ hrow;obtain ⟨rv3, hrd3⟩ := hst3.rd;have hrowr := hrd3.row;unfold rdCells at hrowr;have hnn : ((r.pass 1).cut 1).n = r.n := rfl;rw [hnn] at hrowr;have qr3 := fun i => cell_of_row w3 rp i _ _ _ hrowr;have s1 := hst3.set hn3 14 (.int .i64 (r.n : Int)) (d' := { D with last := r.n }) (fun _ _ _ => rfl) rfl rfl rfl (hst3.wf.upd hn3 rfl rfl);have hfin : (((r.pass 1).cut 1).turn k fun x => { x with last := r.n }) = ((r.pass 1).cut 1).upd k { D with last := r.n } := by
     unfold Rd.turn;rw [Rd.nd_of hn3]
    rw [<- hfin] at s1;have HF := hdn s1;have HBf := hdn ((HB2.out.trans hb3).setCell (p := ⟨ptN P k, 14, none⟩) hge (.int .i64 (r.n : Int)));clear hst3 hb3 hn hrow hrd3 hrowr s1 hfin hn3;go_wp2
    go_ret2
    rw [HV.out];exact ⟨rfl, HBf.out, _, HF.out⟩
 ·have i2 : ((K : Int) == 2) = false := by rw [beq_eq_false_iff_ne]; omega
  by_cases k4 : K = 4
  ·subst k4;have hgo := HGo.out;rw [if_neg k2, if_pos rfl] at hgo
   by_cases h0 : t.size = 0
   ·have hb0 := bytes_no h0;have e1 := hb0.1;have e2 := hb0.2;have hke : (!D.kids.isEmpty) = decide (0 < D.kids.length) := by cases D.kids <;> simp
    have HV := hdn (show r.goes k = (r, decide (0 < D.kids.length), false) by rw [hgo, if_pos h0, hke]);clear hgo HGo h0 hb0 hke;go_wp2
    go_ret2
    rw [HV.out];exact ⟨by simp, HB1.out, _, HS1.out⟩
   ·have hb0 := bytes_ne h0;have e1 := hb0.1;have e2 := hb0.2;rw [if_neg h0] at hgo
    by_cases hi : (W : Int) < D.indent
    ·have HV := hdn (show r.goes k = (r, false, false) by rw [hgo, if_pos hi]);clear hgo HGo h0 hb0;go_wp2
     go_ret2
     rw [HV.out];exact ⟨rfl, HB1.out, _, HS1.out⟩
    ·have HV := hdn (show r.goes k = (r.cut D.indent.toNat, true, false) by rw [hgo, if_neg hi]);have hind := HDk.out.ind;have hii : D.indent = ((D.indent.toNat : Nat) : Int) := by omega
     have HCu := hdn (cut_s (HS1.out.below (Below.refl _ w1).drew) (by simpa using hbz1) hp D.indent.toNat (by omega));rw [<- hii] at HCu;clear hgo HGo h0 hb0 hii;go_wp2_with fail
     go_region_with (first
      | (go_at_call 49; refine cMq HCu.out ?_; rintro e w3 ⟨own3, ⟨v3, rfl⟩, hst3, hb3⟩; have HS3 := hdn hst3; have HB3 := hdn (HB1.out.drew.trans hb3); clear hst3 hb3))
     all_goals
      go_wp2
      go_ret2
      rw [HV.out];exact ⟨rfl, HB3.out, _, HS3.out⟩
  ·have i4 : ((K : Int) == 4) = false := by rw [beq_eq_false_iff_ne]; omega
   by_cases k5 : K = 5 ∨ K = 10
   ·have hgo := HGo.out;rw [if_neg k2, if_neg k4, if_pos k5] at hgo
    by_cases h0 : t.size = 0
    ·have hb0 := bytes_no h0;have e1 := hb0.1;have e2 := hb0.2;have HV := hdn (show r.goes k = (r, false, false) by rw [hgo, h0]; rfl);clear hgo HGo h0 hb0;rcases k5 with rfl | rfl
     all_goals
      go_wp2
      go_ret2
      rw [HV.out];exact ⟨rfl, HB1.out, _, HS1.out⟩
    ·have hb0 := bytes_ne h0;have e1 := hb0.1;have e2 := hb0.2;have HV := hdn (show r.goes k = (r, true, false) by rw [hgo, show (t.size != 0) = true from bne_iff_ne.2 h0]);clear hgo HGo h0 hb0;rcases k5 with rfl | rfl
     all_goals
      go_wp2
      go_ret2
      rw [HV.out];exact ⟨rfl, HB1.out, _, HS1.out⟩
   ·have i5 : ((K : Int) == 5) = false := by rw [beq_eq_false_iff_ne]; omega
    have i10 : ((K : Int) == 10) = false := by rw [beq_eq_false_iff_ne]; omega
    by_cases k8 : K = 8
    ·subst k8;have hgo := HGo.out;rw [if_neg k2, if_neg k4, if_neg k5, if_pos rfl] at hgo
     by_cases h0 : t.size = 0
     ·have hb0 := bytes_no h0;have e1 := hb0.1;have e2 := hb0.2;have HV := hdn (show r.goes k = (r, decide (D.html < 6), false) by rw [hgo, h0]; rfl);clear hgo HGo h0 hb0;go_wp2
      go_ret2
      rw [HV.out];exact ⟨rfl, HB1.out, _, HS1.out⟩
     ·have hb0 := bytes_ne h0;have e1 := hb0.1;have e2 := hb0.2;have HV := hdn (show r.goes k = (r, true, false) by rw [hgo, show (t.size != 0) = true from bne_iff_ne.2 h0]; rfl);clear hgo HGo h0 hb0;go_wp2
      go_ret2
      rw [HV.out];exact ⟨rfl, HB1.out, _, HS1.out⟩
    ·have i8 : ((K : Int) == 8) = false := by rw [beq_eq_false_iff_ne]; omega
     by_cases k7 : K = 7
     ·subst k7;have hgo := HGo.out;rw [if_neg k2, if_neg k4, if_neg k5, if_neg k8, if_pos rfl] at hgo;have HFe := hdn (fenced_any HS1.out k hk);rw [HD.out] at HFe;have hfc := HDk.out.html.2.2;have hts : t.size ≤ 1000000 := by omega
      have HSh := hdn fun w' => shut_any t D.fc D.fm D.fi w' (by omega) hfc;obtain ⟨fe, hfe⟩ : ∃ fe, decide (0 < D.fm) = fe := ⟨_, rfl⟩;rw [hfe] at HFe;obtain ⟨SB, hSB⟩ : ∃ SB, shutB t.data.toList D.fc D.fm = SB := ⟨_, rfl⟩;rw [hSB] at HSh hgo;have hfp : (0 < D.fm) ↔ fe = true := by rw [<- hfe]; simp
      have HGo2 := hdn hgo;have HFp := hdn hfp;clear hgo HGo hfe hSB hfp
      go_upto_region 22 with fail
      go_cut [86] (fun v86 wx => Value.bool (fe && decide (W < 4) && SB) = v86 ∧ Below w1.heap.size w1 wx)
      case first =>
       cases fe with
       | false =>
        go_wp2_with fail;refine cMq HFe.out ?_;rintro e w3 ⟨rfl, rfl⟩;go_wp2
        go_meet
        case rel => exact ⟨rfl, Below.refl _ _⟩
       | true =>
        by_cases h4 : W < 4
        ·go_wp2_with fail;refine cMq HFe.out ?_;rintro e w3 ⟨rfl, rfl⟩;go_wp2_with fail;refine cMq (HSh.out _) ?_;rintro e w4 ⟨rfl, b4⟩;have HB4 := hdn b4;clear b4;go_wp2
         go_meet
         case rel => exact ⟨by rw [decide_eq_true h4]; rfl, HB4.out⟩
        ·go_wp2_with fail;refine cMq HFe.out ?_;rintro e w3 ⟨rfl, rfl⟩;go_wp2
         go_meet
         case rel => exact ⟨by rw [decide_eq_false h4]; first | rfl | rw [decide_eq_false (show ¬ (W : Int) < (4 : Int) by omega)], Below.refl _ _⟩
      case rest =>
       obtain ⟨rfl, hbc⟩ := hcut;have hst2 := HS1.out.below hbc;have HB2 := hdn (HB1.out.trans (hbc.mono hbz1));have hbz2 : base ≤ wc.heap.size := Nat.le_trans hbz1 hbc.size;obtain ⟨kv2, lv2, av2, hn⟩ := hst2.nodes k _ HDn.out;have hrow := hn.row;have f2 : ∀ i, wc.frozen? ⟨ptN P k, i, none⟩ = false := fun i => by simp [World.frozen?, hrow]
       unfold ndCells at hrow;have q2 := fun i => cell_of_row wc (ptN P k) i _ _ _ hrow;rw [hK] at q2;obtain ⟨rv2, hrd2⟩ := hst2.rd;have hrowr := hrd2.row;have fr2 : ∀ i, wc.frozen? ⟨rp, i, none⟩ = false := fun i => by simp [World.frozen?, hrowr]
       unfold rdCells at hrowr;have qr2 := fun i => cell_of_row wc rp i _ _ _ hrowr;have HS2 := hdn hst2;have HFe2 := hdn (fenced_any hst2 k hk);rw [HD.out] at HFe2;have hfe2 : decide (0 < D.fm) = fe := by
        cases hf : fe with
        | true => exact decide_eq_true (HFp.out.2 hf)
        | false => exact decide_eq_false (fun h => by have := HFp.out.1 h; rw [hf] at this; cases this)
       rw [hfe2] at HFe2;clear hst2 hbc hn hrow hrd2 hrowr q f1 qr fr HFe HSh hfe2 HS1 HB1;obtain ⟨XB, hXB⟩ : ∃ XB, (fe && decide (W < 4) && SB) = XB := ⟨_, rfl⟩;rw [hXB];have HXB := hdn hXB;clear hXB
       cases XB with
       | true =>
        have hx := HXB.out;simp only [Bool.and_eq_true, decide_eq_true_eq] at hx;have HV := hdn (show r.goes k = (((r.turn k fun x => { x with last := r.n }).close k), true, true) by rw [HGo2.out, if_pos (HFp.out.2 hx.1.1), if_pos ⟨hx.1.2, hx.2⟩]);have s1 := HS2.out.set HDn.out 14 (.int .i64 (r.n : Int)) (d' := { D with last := r.n }) (fun _ _ _ => rfl) rfl rfl rfl (HS2.out.wf.upd HDn.out rfl rfl);have hfin : (r.turn k fun x => { x with last := r.n }) = r.upd k { D with last := r.n } := by
         unfold Rd.turn;rw [HD.out]
        have hok1 : Ok B (r.upd k { D with last := r.n }) := by
         have hd := HDk.out;have hn := HOk.out.nn;refine HOk.out.upd hk (d := { D with last := r.n }) (by rw [HD.out]) (by rw [HD.out]) (Nat.le_refl _) ⟨hd.asc, hd.lines, hd.kind, hd.txt, ⟨hd.num.1, hd.num.2.1, by show (0 : Int) ≤ (r.n : Int); omega, by show (r.n : Int) ≤ 1000000; omega⟩, hd.ind, hd.html⟩ (.inl (by rw [HD.out])) (.inl (by rw [HD.out])) (fun _ h => by rw [show Nd.opn _ = true from HKo.out] at h; cases h) ?_;have := HOk.out.refs;rw [HD.out];show r.refs.length + r.openW + ow D ≤ B + ow D;omega
        rw [<- hfin] at s1 hok1;have hlt1 : k < (r.turn k fun x => { x with last := r.n }).nds.length := by rw [hfin, Rd.upd_len]; exact hk
        have ho1 : ((r.turn k fun x => { x with last := r.n }).nd k).opn = true := by rw [hfin, Rd.nd_of (Rd.upd_self hk)]; exact HKo.out
        have b3 := HB2.out.setCell (p := ⟨ptN P k, 14, none⟩) hge (.int .i64 (r.n : Int));have HS3 := hdn s1; have HB3 := hdn b3; have HOk1 := hdn hok1;clear s1 b3 hfin hok1 hx;go_wp2_with fail;obtain ⟨W3, hW3⟩ : ∃ W3, wc.setCell ⟨ptN P k, 14, none⟩ (.int .i64 (r.n : Int)) = W3 := ⟨_, rfl⟩;have s3 := HS3.out;have b3 := HB3.out;rw [hW3] at s3 b3 ⊢;refine cMq (closeC hB base rp F W3 _ _ _ k s3 (by have := b3.size; omega) HOk1.out hlt1 ho1) ?_;rintro e w5 ⟨own5, ⟨v5, rfl⟩, hst5, hb5⟩;have HS5 := hdn hst5; have HB5 := hdn (b3.trans hb5);clear hst5 hb5 s3 b3 hW3;go_wp2
        go_ret2
        rw [HV.out];exact ⟨rfl, HB5.out, _, HS5.out⟩
       | false =>
        cases fe with
        | true =>
         have HV := hdn (show r.goes k = (r.cut D.offset.toNat, true, false) by
          have hx := HXB.out;rw [HGo2.out, if_pos (HFp.out.2 rfl), if_neg (fun h => by rw [decide_eq_true h.1, h.2] at hx; cases hx)])
         have hind := HDk.out.ind;have hii : D.offset = ((D.offset.toNat : Nat) : Int) := by omega
         have HCu := hdn (cut_s (HS2.out.below (Below.refl _ wc).drew) (by simpa using hbz2) hp D.offset.toNat (by omega));rw [<- hii] at HCu;clear hii HXB HGo2;go_wp2_with fail;refine cMq HFe2.out ?_;rintro e w3 ⟨rfl, rfl⟩;go_wp2_with fail
         go_region_with (first
          | (go_at_call 49; refine cMq HCu.out ?_; rintro e w4 ⟨own3, ⟨v3, rfl⟩, hst3, hb3⟩; have HS3 := hdn hst3; have HB3 := hdn (HB2.out.drew.trans hb3); clear hst3 hb3))
         all_goals
          go_wp2
          go_ret2
          rw [HV.out];exact ⟨rfl, HB3.out, _, HS3.out⟩
        | false =>
         have hgo := HGo2.out;rw [if_neg (fun h => by have := HFp.out.1 h; cases this)] at hgo
         by_cases h4 : 4 ≤ W
         ·have HV := hdn (show r.goes k = (r.cut 4, true, false) by rw [hgo, if_pos h4]);have HCu := hdn (cut_s HS2.out hbz2 hp 4 (by decide));clear hgo HXB HGo2;go_wp2_with fail;refine cMq HFe2.out ?_;rintro e w3 ⟨rfl, rfl⟩;go_wp2_with fail;refine cMq HCu.out ?_;rintro e w4 ⟨own3, ⟨v3, rfl⟩, hst3, hb3⟩;have HS3 := hdn hst3; have HB3 := hdn (HB2.out.trans hb3);clear hst3 hb3;go_wp2
          go_ret2
          rw [HV.out];exact ⟨rfl, HB3.out, _, HS3.out⟩
         ·rw [if_neg h4] at hgo
          by_cases h0 : t.size = 0
          ·have hb0 := bytes_no h0;have e1 := hb0.1;have e2 := hb0.2;have HV := hdn (show r.goes k = ({ r with rest := ⟨#[]⟩ }, true, false) by rw [hgo, if_pos h0]);obtain ⟨rv9, hrd9⟩ := HS2.out.rd;have hw9 := HS2.out.wf;have s9 := HS2.out.reader (w' := wc.setCell ⟨rp, 0, none⟩ (.string ⟨#[]⟩)) (r' := { r with rest := ⟨#[]⟩ }) (grown_put (grown_refl wc _) 0 _) hrd9 (by rw [Joins.block_setCell hrd9.row]; rfl) rfl rfl ⟨hw9.kids, hw9.par, hw9.nk, hw9.cur, hw9.tip, hw9.doc⟩;have HS9 := hdn s9;have HB9 := hdn (HB2.out.setCell (p := ⟨rp, 0, none⟩) hrpge (.string ⟨#[]⟩))
           clear hgo HXB HGo2 h0 hb0 s9 hw9 hrd9;go_wp2_with fail;refine cMq HFe2.out ?_;rintro e w3 ⟨rfl, rfl⟩;go_wp2
           go_ret2
           rw [HV.out];exact ⟨rfl, HB9.out, _, HS9.out⟩
          ·have hb0 := bytes_ne h0;have e1 := hb0.1;have e2 := hb0.2;have HV := hdn (show r.goes k = (r, false, false) by rw [hgo, if_neg h0]);clear hgo HXB HGo2 h0 hb0;go_wp2_with fail;refine cMq HFe2.out ?_;rintro e w3 ⟨rfl, rfl⟩;go_wp2
           go_ret2
           rw [HV.out];exact ⟨rfl, HB2.out, _, HS2.out⟩
     ·have i7 : ((K : Int) == 7) = false := by rw [beq_eq_false_iff_ne]; omega
      have HV := hdn (show r.goes k = (r, true, false) by rw [HGo.out, if_neg k2, if_neg k4, if_neg k5, if_neg k8, if_neg k7]);clear HGo;go_wp2
      go_ret2
      rw [HV.out];exact ⟨rfl, HB1.out, _, HS1.out⟩
