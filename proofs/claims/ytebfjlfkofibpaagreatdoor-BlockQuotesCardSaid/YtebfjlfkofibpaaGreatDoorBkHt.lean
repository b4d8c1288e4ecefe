/- HTML begins. -/
import Derived.Test.YtebfjlfkofibpaaGreatDoorBkCo
namespace Go.Proofs.YtebfjlfkofibpaaGreatDoor
set_option maxHeartbeats 4000000
set_option maxRecDepth 100000
section
open Go.RowKit
variable {F : Frm}
theorem htmlN_le (l : List UInt8) : htmlN l ≤ 7 := by
 unfold htmlN
 repeat (first | omega | split)
def parB (r : Rd) (t : ByteArray) : Bool := decide (r.curK = 5) || (r.lzy && decide (t.size ≠ 0) && decide (r.tipK = 5))
theorem html_b {B C : Nat} (hC : C ≤ 1000000) {w : World} {base rp : Nat} {own : Nat -> Nat} {P : List Nat} {r : Rd} (h : St F w base rp own P r) (hb : base ≤ w.heap.size) (hG : GlobX base w) (hr : Rdy B r) (hfew : r.nds.length + 1 ≤ 100000) (hp : r.pot ≤ 1000000) (hBC : B + r.pot + 1 ≤ C) (tp : Nat) (htp : r.tip = some tp) (t : ByteArray) (ht : t.size ≤ 1000000) :
  Calls Tryz.prog 55 #[.pointer (some ⟨rp, 0, none⟩), .string t] w (Looks F w base rp P r (r.html t)) := by
 have hB : B ≤ 1000000 := by omega
 have HH := hdn (html_any t w (by omega) hG.glob.sp);unfold RIb at HH;obtain ⟨k, hk⟩ : ∃ k, htmlN t.data.toList = k := ⟨_, rfl⟩;have hk7 := htmlN_le t.data.toList;rw [hk] at HH hk7;obtain ⟨PB, hPB⟩ : ∃ PB, parB r t = PB := ⟨_, rfl⟩;have hv0 : r.html t = if k = 0 ∨ (k = 7 ∧ PB = true) then none else some (if endsB t.data.toList k = true then ((r.fresh (Nd.new 8)).turn r.nds.length fun x => { x with html := k, lines := [r.rest] }).close r.nds.length else ((r.fresh (Nd.new 8)).turn r.nds.length fun x => { x with html := k, lines := [r.rest] })) := by
  unfold Rd.html;simp only;rw [hk];have e : (k = 0 ∨ (k = 7 ∧ (r.curK = 5 ∨ (r.lzy = true ∧ t.size ≠ 0 ∧ r.tipK = 5)))) ↔ (k = 0 ∨ (k = 7 ∧ PB = true)) := by
   rw [<- hPB];unfold parB;simp [and_assoc]
  by_cases h1 : k = 0 ∨ (k = 7 ∧ PB = true)
  ·rw [if_pos h1, if_pos (e.2 h1)]
  ·rw [if_neg h1, if_neg (fun h2 => h1 (e.1 h2))]
 obtain ⟨a, hc, ha⟩ := hr.cur;obtain ⟨rv, hrd⟩ := h.rd;have hrow := hrd.row;have hrow0 := hrow;unfold rdCells at hrow;rw [htp, hc, show ptrV P (some tp) = Value.pointer (some ⟨ptN P tp, 0, none⟩) from rfl, show ptrV P (some a) = Value.pointer (some ⟨ptN P a, 0, none⟩) from rfl] at hrow;obtain ⟨kv, lv, av, hnt⟩ := h.nodes tp _ (Rd.at_lt (h.wf.tip tp htp));have hrowt := hnt.row;unfold ndCells at hrowt;obtain ⟨kv2, lv2, av2, hna⟩ := h.nodes a _ (Rd.at_lt (opn_lt ha));have hrowa := hna.row;unfold ndCells at hrowa;have hK1 : r.curK = (r.nd a).kind := by unfold Rd.curK; rw [hc]
 have hK2 : r.tipK = (r.nd tp).kind := by unfold Rd.tipK; rw [htp]
 obtain ⟨K1, hKK1⟩ : ∃ K, (r.nd a).kind = K := ⟨_, rfl⟩;obtain ⟨K2, hKK2⟩ : ∃ K, (r.nd tp).kind = K := ⟨_, rfl⟩;rw [hKK1] at hrowa hK1;rw [hKK2] at hrowt hK2;obtain ⟨L, hL⟩ : ∃ L, r.lzy = L := ⟨_, rfl⟩;rw [hL] at hrow;have hPB2 : (decide (K1 = 5) || (L && decide (t.size ≠ 0) && decide (K2 = 5))) = PB := by rw [<- hPB]; unfold parB; rw [hK1, hK2, hL]
 have HPB := hdn hPB2;have HV0 := hdn hv0;have HS := hdn h; have HG := hdn hG; have HR := hdn hr;obtain ⟨a9, hf⟩ := fresh_r hB hr (new_ok B 8 (by decide) (by decide)) hfew (fun e => by cases e);have HF := hdn hf;have HRow := hdn hrow; have HRowt := hdn hrowt; have HRowa := hdn hrowa;have HBe := hdn fun (w1 : World) (b1 : Below w.heap.size w w1) => begin_s hB 8 (by decide) (by decide) (h.below b1) (Nat.le_trans hb b1.size) hr hfew (fun e => by cases e);have hP := h.len;clear hv0 hPB hPB2 hK1 hK2 hKK1 hKK2 hL hrow hrow0 hrowt hrowa hnt hna hrd h hG hr hf hc ha htp hk
 go_enter Tryz.func55, Tryz.ntmps55;go_wp2_with fail;refine cMq HH.out ?_;rintro e w1 ⟨rfl, b1⟩;have HB1 := hdn b1;have qr := fun i => cell_of_row w1 rp i _ _ _ ((b1.block _ (gSq.1 HRow.out).1).trans HRow.out);have qt := fun i => cell_of_row w1 (ptN P tp) i _ _ _ ((b1.block _ (gSq.1 HRowt.out).1).trans HRowt.out);have qa := fun i => cell_of_row w1 (ptN P a) i _ _ _ ((b1.block _ (gSq.1 HRowa.out).1).trans HRowa.out);clear b1 HRow HRowt HRowa
 go_upto_region 2 with fail
 go_cut [6] (fun v6 wx => v6 = .bool PB ∧ wx = w1)
 case first =>
  by_cases h1 : K1 = 5
  ·have i1 : ((K1 : Int) == 5) = true := by rw [h1]; rfl
   obtain rfl : PB = true := by rw [<- HPB.out, decide_eq_true h1]; rfl
   clear h1;go_wp2
   go_meet
   case rel => exact ⟨rfl, rfl⟩
  ·have i1 : ((K1 : Int) == 5) = false := by rw [beq_eq_false_iff_ne]; omega
   cases L with
   | false =>
    obtain rfl : PB = false := by rw [<- HPB.out, decide_eq_false h1]; rfl
    clear h1;go_wp2
    go_meet
    case rel => exact ⟨rfl, rfl⟩
   | true =>
    by_cases h0 : t.size = 0
    ·obtain rfl : PB = false := by rw [<- HPB.out, decide_eq_false h1, decide_eq_false (show ¬ t.size ≠ 0 from fun h => h h0)]; rfl
     have h0' := bytes_no h0;have e1 := h0'.1;have e2 := h0'.2;clear h1 h0';go_wp2
     go_meet
     case rel => exact ⟨rfl, rfl⟩
    ·have h0' := bytes_ne h0;have e1 := h0'.1;have e2 := h0'.2
     by_cases h2 : K2 = 5
     ·have i2 : ((K2 : Int) == 5) = true := by rw [h2]; rfl
      obtain rfl : PB = true := by rw [<- HPB.out, decide_eq_false h1, decide_eq_true (show t.size ≠ 0 from h0), decide_eq_true h2]; rfl
      clear h1 h0' h2;go_wp2
      go_meet
      case rel => exact ⟨rfl, rfl⟩
     ·have i2 : ((K2 : Int) == 5) = false := by rw [beq_eq_false_iff_ne]; omega
      obtain rfl : PB = false := by rw [<- HPB.out, decide_eq_false h1, decide_eq_true (show t.size ≠ 0 from h0), decide_eq_false h2]; rfl
      clear h1 h0' h2;go_wp2
      go_meet
      case rel => exact ⟨rfl, rfl⟩
 case rest =>
  obtain ⟨rfl, rfl⟩ := hcut;clear HPB qt qa
  by_cases hno : k = 0 ∨ (k = 7 ∧ PB = true)
  ·have HV := hdn (show r.html t = none by rw [HV0.out, if_pos hno]);have HS1 := hdn (HS.out.below HB1.out);have HB2 := hdn (HB1.out.mono hb)
   by_cases hk0 : k = 0
   ·have i0 : ((k : Int) == 0) = true := by rw [hk0]; rfl
    clear hno hk0 HV0;go_wp2;go_ret;rw [HV.out];exact ⟨HB2.out, rfl, own, HS1.out⟩
   ·obtain ⟨hk7', rfl⟩ := hno.resolve_left hk0;have i0 : ((k : Int) == 0) = false := by rw [beq_eq_false_iff_ne]; omega
    have i7 : ((k : Int) == 7) = true := by rw [hk7']; rfl
    clear hno hk0 hk7' HV0;go_wp2;go_ret;rw [HV.out];exact ⟨HB2.out, rfl, own, HS1.out⟩
  ·have hv1 : r.html t = some (if endsB t.data.toList k = true then ((r.fresh (Nd.new 8)).turn r.nds.length fun x => { x with html := k, lines := [r.rest] }).close r.nds.length else ((r.fresh (Nd.new 8)).turn r.nds.length fun x => { x with html := k, lines := [r.rest] })) := by rw [HV0.out, if_neg hno]
   have HV1 := hdn hv1;have hk0 : k ≠ 0 := fun e => hno (.inl e);have i0 : ((k : Int) == 0) = false := by rw [beq_eq_false_iff_ne]; omega
   have HNo := hdn hno;clear hv1 HV0 hno hk0
   go_upto_region 3 with fail
   go_cut [48] (fun v48 wx => v48 = .bool false ∧ wx = wc)
   case first =>
    by_cases h7 : k = 7
    ·have i7 : ((k : Int) == 7) = true := by rw [h7]; rfl
     have hp0 : PB = false := by
      cases hpb : PB with
      | false => rfl
      | true => exact absurd (.inr ⟨h7, hpb⟩) HNo.out
     subst hp0;clear h7;go_wp2
     go_meet
     case rel => exact ⟨rfl, rfl⟩
    ·have i7 : ((k : Int) == 7) = false := by rw [beq_eq_false_iff_ne]; omega
     clear h7;go_wp2
     go_meet
     case rel => exact ⟨rfl, rfl⟩
   case rest =>
    obtain ⟨rfl, hwc⟩ := hcut;subst hwc;clear HNo;have HBe1 := hdn (HBe.out _ HB1.out);clear HBe qr;go_wp2_with fail;refine cMq (kind_any 8 _) ?_;rintro e w2 ⟨rfl, hw2⟩;subst hw2;go_wp2_with fail;refine cMq HBe1.out ?_;rintro e w3 ⟨own3, rfl, hst, hbb⟩;have hB3 := (HB1.out.mono hb).trans hbb;obtain ⟨e1, e2⟩ := fresh_at hst hP HF.out;have hlt := (List.getElem?_eq_some_iff.1 e1).1;obtain ⟨D, hD⟩ : ∃ D : Nd, ({ Nd.new 8 with parent := some a9, opn := true, first := r.n, last := r.n } : Nd) = D := ⟨_, rfl⟩
    have hFn := HF.out.new;rw [hD] at e1 hFn;obtain ⟨rv3, hrd3⟩ := hst.rd;have hrow3 := hrd3.row;have hrl3 : rp < w3.heap.size := (gSq.1 hrow3).1;unfold rdCells at hrow3;rw [HF.out.rest] at hrow3;have qr3 := fun i => cell_of_row w3 rp i _ _ _ hrow3;obtain ⟨kv9, lv9, av9, hn⟩ := hst.nodes _ _ e1;have hrow := hn.row;have hge := hn.ge;rw [e2] at hrow hge;have hgl : wc.heap.size < w3.heap.size := (gSq.1 hrow).1;have f3 : ∀ i, w3.frozen? ⟨wc.heap.size, i, none⟩ = false := fun i => by simp [World.frozen?, hrow]
    unfold ndCells at hrow;have q3 := fun i => cell_of_row w3 wc.heap.size i _ _ _ hrow;have hfree := hst.free (Nat.le_refl _);have hbz3 : base ≤ w3.heap.size := by have := hB3.size; omega
    have s1 := (hst.local #[.string r.rest] 9).set e1 21 (.int .i64 (k : Int)) (d' := { D with html := k }) (fun _ _ _ => rfl) rfl rfl rfl (hst.wf.upd e1 rfl rfl);have s2 := St.lines_loc s1 hfree hbz3 (Rd.upd_self hlt);rw [Rd.upd_upd, e2, World.setCell_alloc_past _ _ _ _ hgl, World.setCell_alloc_past _ _ _ _ (by simp [World.setCell]; exact hgl)] at s2
    have b5 := ((hB3.setCell (p := ⟨wc.heap.size, 21, none⟩) hge (.int .i64 (k : Int))).setCell (p := ⟨wc.heap.size, 15, none⟩) hge (.slice (some ⟨w3.heap.size, 0, none⟩) 1 1)).alloc (by simp [World.setCell]; exact hbz3) (.cells #[.string r.rest] 9);obtain ⟨R, hR⟩ : ∃ R, r.rest = R := ⟨_, rfl⟩;have hturn : ((r.fresh (Nd.new 8)).turn r.nds.length fun x => { x with html := k, lines := [r.rest] }) = (r.fresh (Nd.new 8)).upd r.nds.length { D with html := k, lines := [r.rest] } := by
     unfold Rd.turn;rw [hFn]
    have hRl : R.size + 1 ≤ C := by have := r.rest_pot; rw [hR] at this; omega
    have hDo : D.opn = true := by rw [<- hD]
    have hok : Ok C ((r.fresh (Nd.new 8)).upd r.nds.length { D with html := k, lines := [r.rest] }) := by
     have hFo := HF.out.rdy.ok;have hDD := hFo.nd r.nds.length hlt;rw [hFn] at hDD;have hD8 : D.kind = 8 := by rw [<- hD]; rfl
     refine hFo.upd hlt (d := { D with html := k, lines := [r.rest] }) (by rw [hFn]) (by rw [hFn]) (by omega) ⟨hDD.asc, ?_, hDD.kind, fun h1 => ?_, hDD.num, hDD.ind, ⟨by show (0 : Int) ≤ (k : Int); omega, by show (k : Int) ≤ 7; omega, hDD.html.2.2⟩⟩ (.inl (by rw [hFn])) (.inl (by rw [hFn])) (fun e => ?_) ?_
     ·show sumZ [r.rest] + 1 ≤ C;rw [show sumZ [r.rest] = r.rest.size by simp [sumZ], hR]; exact hRl
     ·have h1 : D.kind ≤ 4 ∨ D.kind = 10 ∨ (D.opn = true ∧ (D.kind = 5 ∨ D.kind = 7)) := h1;omega
     ·have e : D.kind = 5 := e;omega
     ·have h1 := hFo.refs;rw [ow_other (show Nd.kind { D with html := k, lines := [r.rest] } ≠ 5 from by show D.kind ≠ 5; omega)];omega
    rw [<- hturn] at s2 hok;obtain ⟨r5, hr5⟩ : ∃ r5, ((r.fresh (Nd.new 8)).turn r.nds.length fun x => { x with html := k, lines := [r.rest] }) = r5 := ⟨_, rfl⟩;have hn5 : r5.nds[r.nds.length]? = some { D with html := k, lines := [r.rest] } := by rw [<- hr5, hturn]; exact Rd.upd_self hlt
    have hv2 := HV1.out;rw [hr5] at s2 hok hv2;rw [hR] at qr3 s2 b5;have HV := hdn hv2; have HS5 := hdn s2; have HB5 := hdn b5; have HOk := hdn hok;have hlt5 := (List.getElem?_eq_some_iff.1 hn5).1;have ho5 : (r5.nd r.nds.length).opn = true := by rw [Rd.nd_of hn5]; exact hDo
    have HG5 := hdn (HG.out.next b5)
    have HO5 := hdn ho5;clear s1 s2 b5 hok hturn hr5 hn5 hv2 HV1 hn hrow hrd3 hrow3 hst hbb hB3 hFn hD hDo e1 ho5;go_wp2_with fail;obtain ⟨W5, hW5⟩ : ∃ W5, (((w3.setCell ⟨wc.heap.size, 21, none⟩ (.int .i64 (k : Int))).setCell ⟨wc.heap.size, 15, none⟩ (.slice (some ⟨w3.heap.size, 0, none⟩) 1 1)).alloc (.cells #[.string R] 9)) = W5 := ⟨_, rfl⟩;have hs5 := HS5.out;have hb5 := HB5.out;have hg5 := HG5.out;rw [hW5] at hs5 hb5 hg5 ⊢;clear hW5 HS5 HB5 HG5 q3 f3 qr3;refine cMq (ends_any t k W5 (by omega) hg5.glob) ?_;rintro e w6 ⟨rfl, b6⟩;have HS6 := hdn (hs5.below b6)
    have hbz5 : base ≤ W5.heap.size := by have := hb5.size; omega
    have HB6 := hdn (hb5.trans (b6.mono hbz5));have hbz6 : base ≤ w6.heap.size := Nat.le_trans hbz5 b6.size;obtain ⟨EB, hEB⟩ : ∃ EB, endsB t.data.toList k = EB := ⟨_, rfl⟩;rw [hEB] at HV ⊢;clear hs5 hb5 hg5 b6
    cases EB with
    | false =>
     have hv := HV.out;rw [if_neg Bool.false_ne_true] at hv;have HV9 := hdn hv;clear hv HV hEB;go_wp2;go_ret;rw [HV9.out];exact ⟨HB6.out, rfl, _, _, HS6.out, Ext.one P _⟩
    | true =>
     have hv := HV.out;rw [if_pos rfl] at hv;have HV9 := hdn hv;have hcl := closeC hC base rp F w6 _ _ r5 r.nds.length HS6.out hbz6 HOk.out hlt5 HO5.out;rw [e2] at hcl;have HCl := hdn hcl;clear hv HV hEB hcl;go_wp2_with fail;refine cMq HCl.out ?_;rintro e w7 ⟨own7, ⟨v7, rfl⟩, hst7, b7⟩;have HS7 := hdn hst7;have HB7 := hdn (HB6.out.trans b7);clear hst7 b7;go_wp2;go_ret;rw [HV9.out];exact ⟨HB7.out, rfl, _, _, HS7.out, Ext.one P _⟩
end
section
open Go.RowKit
variable {F : Frm}
theorem under_b {B : Nat} (hB : B ≤ 1000000) {w : World} {base rp : Nat} {own : Nat -> Nat} {P : List Nat} {r : Rd} (h : St F w base rp own P r) (hb : base ≤ w.heap.size) (hr : Rdy B r) (t : ByteArray) (ht : t.size ≤ 1000000) :
  Calls Tryz.prog 57 #[.pointer (some ⟨rp, 0, none⟩), .string t] w fun e w' => e = .returned (.bool (r.under t).2) ∧ Below base w w' ∧ ∃ own', St F w' base rp own' P (r.under t).1 := by
 obtain ⟨a, hc, ha⟩ := hr.cur;have hal := opn_lt ha;have HU := hdn fun w' => under_any t w' (by omega);unfold RIb at HU;obtain ⟨U, hU⟩ : ∃ U, underN t.data.toList = U := ⟨_, rfl⟩;rw [hU] at HU;obtain ⟨D, hD⟩ : ∃ D, r.nd a = D := ⟨_, rfl⟩;have hDn : r.nds[a]? = some D := by rw [<- hD]; exact Rd.at_lt hal
 obtain ⟨K, hK⟩ : ∃ K, D.kind = K := ⟨_, rfl⟩;obtain ⟨rv, hrd⟩ := h.rd;have hrow := hrd.row;unfold rdCells at hrow;rw [hc, show ptrV P (some a) = Value.pointer (some ⟨ptN P a, 0, none⟩) from rfl] at hrow;have hrl := (gSq.1 hrow).1;have q := fun i => cell_of_row w rp i _ _ _ hrow;have HRow := hdn hrow;have HS := hdn h; have HR := hdn hr; have HDn := hdn hDn;have hun : r.under t = if K ≠ 5 ∨ U = 0 then (r, false) else
   (let x := defineF (joinN D.lines).size (joinN D.lines) r.refs
   let r1 := { (r.turn a fun d => { d with lines := [] }) with refs := x.2 }
   if (trimN x.1).size = 0 then (r1, false) else (r1.turn a fun d => { d with kind := 6, level := U, text := trimN x.1, last := r.n, opn := false }, true)) := by
  unfold Rd.under;rw [hc];simp only;rw [hD, hK, hU]
 have HUn := hdn hun;have hDl : lw D.lines ≤ B := by rw [<- hD]; exact (hr.ok.nd a hal).lines
 have hrefs : r.refs.length ≤ B := by have := hr.ok.refs; omega
 clear h hr hrow hrd hU hDn hun hc ha;go_enter Tryz.func57, Tryz.ntmps57
 go_upto_region 1 with fail
 go_cut [5, 6] (fun v5 v6 wx => v5 = .pointer (some ⟨ptN P a, 0, none⟩) ∧ v6 = .int .i64 (U : Int) ∧ Below w.heap.size w wx)
 case first =>
  go_region_with (first
   | (go_at_call 92; refine cMq (HU.out _) ?_; rintro e w' ⟨rfl, hb'⟩; have HBW := hdn (show Below w.heap.size w w' from ⟨hb'.os, hb'.tape, hb'.output, hb'.size, hb'.block⟩); have q2 := (fun i => cell_of_row w' rp i _ _ _ ((HBW.out.block _ hrl).trans HRow.out)); clear hb'))
  all_goals
   go_wp2_with fail
   go_meet
   case rel => exact ⟨rfl, rfl, HBW.out⟩
 case rest =>
  obtain ⟨rfl, rfl, hbc⟩ := hcut;have hst := HS.out.below hbc;have hbz : base ≤ wc.heap.size := by have := hbc.size; omega
  obtain ⟨kv, lv, av, hn⟩ := hst.nodes a _ HDn.out;have hlines := hn.lines;obtain ⟨Al, cl, rfl⟩ := bk_own_slice hlines;have hrowa := hn.row;have hbge := hn.ge;unfold ndCells at hrowa;have qa := fun i => cell_of_row wc (ptN P a) i _ _ _ hrowa;rw [hK] at qa;have HSt := hdn hst; have HB := hdn (hbc.mono hb); have HL := hdn hlines;clear q hst hbc hn hlines hrowa HU
  by_cases h1 : K ≠ 5 ∨ U = 0
  ·have HV := hdn (show r.under t = (r, false) by rw [HUn.out, if_pos h1])
   by_cases h5 : K = 5
   ·subst h5;have hU0 : U = 0 := h1.resolve_left (fun h => h rfl);have i0 : ((U : Int) == 0) = true := by rw [hU0]; rfl
    clear h1 hU0;go_wp2;go_ret;rw [HV.out];exact ⟨rfl, HB.out, _, HSt.out⟩
   ·have i5 : ((K : Int) != 5) = true := by rw [bne_iff_ne]; omega
    clear h1 h5;go_wp2;go_ret;rw [HV.out];exact ⟨rfl, HB.out, _, HSt.out⟩
  ·have h5 : K = 5 := by omega
   have hU0 : U ≠ 0 := by omega
   subst h5;have i0 : ((U : Int) == 0) = false := by rw [beq_eq_false_iff_ne]; omega
   have hun2 := HUn.out;rw [if_neg h1] at hun2;have HJ := hdn (join_own D.lines _ base wc HL.out (by omega));obtain ⟨s, hs⟩ : ∃ s, joinN D.lines = s := ⟨_, rfl⟩;rw [hs] at HJ hun2;have hsz : s.size ≤ 1000000 := by have := joinN_size D.lines; rw [hs] at this; omega
   obtain ⟨X, hX⟩ : ∃ X, defineF s.size s r.refs = X := ⟨_, rfl⟩;have hXl := defineF_len s.size s r.refs;rw [hX] at hXl hun2;have HDe := hdn fun (w3 : World) (b3 : Below wc.heap.size wc w3) => define_b (HSt.out.below b3) (Nat.le_trans hbz b3.size) s (by omega) (by omega);rw [hX] at HDe;obtain ⟨X1, X2⟩ := X;simp only at HDe hXl hun2;have HT := hdn fun w' => trim3_any X1 w' (by omega);obtain ⟨T, hT⟩ : ∃ T, trimN X1 = T := ⟨_, rfl⟩;rw [hT] at hun2;unfold trimN at hT;rw [hT] at HT;have HUn2 := hdn hun2;clear hs hX hXl hT hun2 h1 HUn;go_wp2_with fail;refine cMq HJ.out ?_
   rintro e w3 ⟨rfl, b3⟩;have HDe3 := hdn (HDe.out w3 b3);have HB3 := hdn (HB.out.trans (b3.mono hbz));clear b3 HJ HDe;go_wp2_with fail;refine cMq HDe3.out ?_;rintro e w4 ⟨own4, rfl, hst4, b4⟩;have HS4 := hdn hst4;have HB4 := hdn (HB3.out.trans b4);clear hst4 b4 HDe3;go_wp2_with fail;refine cMq (HT.out _) ?_;rintro e w5 ⟨rfl, b5⟩;have hst5 := HS4.out.below b5;have hn5 : ({ r with refs := X2 } : Rd).nds[a]? = some D := HDn.out;obtain ⟨kv5, lv5, av5, hN5⟩ := hst5.nodes a _ hn5;have hrow5 := hN5.row;unfold ndCells at hrow5;have q5 := fun i => cell_of_row w5 (ptN P a) i _ _ _ hrow5
   have f5 : ∀ i, w5.frozen? ⟨ptN P a, i, none⟩ = false := fun i => by simp [World.frozen?, hrow5]
   have hst6 := St.lines hst5 hn5 hN5 [] (Below.refl _ _) (grown_refl _ _) (World.ownsRow_nil _ _ _ _) (fun g hg => absurd hg (by simp [Value.ownBlock])) (hst5.wf.upd hn5 rfl rfl);have hb6 := (HB4.out.trans (b5.mono (by have := HB4.out.size; omega))).setCell (p := ⟨ptN P a, 15, none⟩) hbge (.slice none 0 0);have HS6 := hdn hst6; have HB6 := hdn hb6;clear hst5 b5 hN5 hrow5 hst6 hb6 hn5 qa HT
   go_upto_region 6 with fail
   obtain ⟨W6, hW6⟩ : ∃ W6, w5.setCell ⟨ptN P a, 15, none⟩ (.slice none 0 0) = W6 := ⟨_, rfl⟩;have hst6 := HS6.out;have hb6 := HB6.out;rw [hW6] at hst6 hb6 ⊢;clear q5 f5 hW6 HS6 HB6;obtain ⟨D6, hD6⟩ : ∃ D6 : Nd, { D with lines := [] } = D6 := ⟨_, rfl⟩;obtain ⟨q6, hq6⟩ : ∃ q6, ({ r with refs := X2 } : Rd).upd a { D with lines := [] } = q6 := ⟨_, rfl⟩;rw [hq6] at hst6;have hn6 : q6.nds[a]? = some D6 := by rw [<- hq6, hD6]; exact Rd.upd_self hal
   have hq6e : ({ (r.turn a fun d => { d with lines := [] }) with refs := X2 } : Rd) = q6 := by
    rw [<- hq6];unfold Rd.turn;rw [Rd.nd_of HDn.out];rfl
   have hun3 := HUn2.out;rw [hq6e] at hun3;have hD6k : D6.kind = 5 := by rw [<- hD6]; exact hK
   obtain ⟨kv6, lv6, av6, hN6⟩ := hst6.nodes a _ hn6;have hrow6 := hN6.row;have f6 : ∀ i, W6.frozen? ⟨ptN P a, i, none⟩ = false := fun i => by simp [World.frozen?, hrow6]
   unfold ndCells at hrow6;have q6c := fun i => cell_of_row W6 (ptN P a) i _ _ _ hrow6;obtain ⟨rv6, hrd6⟩ := hst6.rd;have hrow6r := hrd6.row;unfold rdCells at hrow6r;have hq6n : q6.n = r.n := by rw [<- hq6]; rfl
   rw [hq6n] at hrow6r;have q6r := fun i => cell_of_row W6 rp i _ _ _ hrow6r;have hlt := (List.getElem?_eq_some_iff.1 hn6).1
   by_cases hTz : T.size = 0
   ·have hTe := bytes_no hTz;have e1 := hTe.1;have e2 := hTe.2;rw [if_pos hTz] at hun3;have HV := hdn hun3; have HFin := hdn hst6; have HBf := hdn hb6;clear hun3 hst6 hb6 hTe hTz hrow6 hrow6r hrd6 hN6 hn6 hq6 hq6e HUn2;go_wp2;go_ret;rw [HV.out];exact ⟨rfl, HBf.out, _, HFin.out⟩
   ·have hTe := bytes_ne hTz;have e1 := hTe.1;have e2 := hTe.2;rw [if_neg hTz] at hun3;have s1 := hst6.set hn6 0 (.int .u8 6) (d' := { D6 with kind := 6 }) (fun _ _ _ => rfl) rfl rfl rfl (hst6.wf.upd hn6 rfl rfl);have s2 := s1.set (Rd.upd_self hlt) 1 (.int .i64 (U : Int)) (d' := { D6 with kind := 6, level := U }) (fun _ _ _ => rfl) rfl rfl rfl (s1.wf.upd (Rd.upd_self hlt) rfl rfl);rw [Rd.upd_upd] at s2;have s3 := s2.set (Rd.upd_self hlt) 6 (.string T) (d' := { D6 with kind := 6, level := U, text := T }) (fun _ _ _ => rfl) rfl rfl rfl (s2.wf.upd (Rd.upd_self hlt) rfl rfl);rw [Rd.upd_upd] at s3
    have s4 := s3.set (Rd.upd_self hlt) 14 (.int .i64 (r.n : Int)) (d' := { D6 with kind := 6, level := U, text := T, last := r.n }) (fun _ _ _ => rfl) rfl rfl rfl (s3.wf.upd (Rd.upd_self hlt) rfl rfl);rw [Rd.upd_upd] at s4;have s5 := s4.set (Rd.upd_self hlt) 12 (.bool false) (d' := { D6 with kind := 6, level := U, text := T, last := r.n, opn := false }) (fun _ _ _ => rfl) rfl rfl rfl (s4.wf.upd (Rd.upd_self hlt) rfl rfl);rw [Rd.upd_upd] at s5
    have b5 := ((((hb6.setCell (p := ⟨ptN P a, 0, none⟩) hbge (.int .u8 6)).setCell (p := ⟨ptN P a, 1, none⟩) hbge (.int .i64 (U : Int))).setCell (p := ⟨ptN P a, 6, none⟩) hbge (.string T)).setCell (p := ⟨ptN P a, 14, none⟩) hbge (.int .i64 (r.n : Int))).setCell (p := ⟨ptN P a, 12, none⟩) hbge (.bool false);have hfin : (q6.turn a fun d => { d with kind := 6, level := U, text := T, last := r.n, opn := false }) = q6.upd a { D6 with kind := 6, level := U, text := T, last := r.n, opn := false } := by
     unfold Rd.turn;rw [Rd.nd_of hn6]
    rw [hfin] at hun3;have HV := hdn hun3; have HFin := hdn s5; have HBf := hdn b5;clear s1 s2 s3 s4 s5 b5 hfin hun3 hst6 hb6 hTe hTz hrow6 hrow6r hrd6 hN6 hn6 hq6 hq6e HUn2;go_wp2;go_ret;rw [HV.out];exact ⟨rfl, HBf.out, _, HFin.out⟩
end
