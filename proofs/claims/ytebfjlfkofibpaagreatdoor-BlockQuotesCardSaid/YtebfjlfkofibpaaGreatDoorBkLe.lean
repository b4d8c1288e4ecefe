/- What becomes of the rest of a line. -/
import Derived.Test.YtebfjlfkofibpaaGreatDoorBkGo
namespace Go.Proofs.YtebfjlfkofibpaaGreatDoor
set_option maxHeartbeats 8000000
set_option maxRecDepth 100000
open Go.RowKit
variable {F : Frm}
theorem str_info9 : (Tryz.prog.info? 9).map (fun i => (i.zero, i.size, i.bytes)) = some (some (.string ⟨#[]⟩), 1, 16) := by kernel_rfl
theorem St.push_line {w W w7 : World} {base rp : Nat} {own : Nat -> Nat} {P : List Nat} {r : Rd} (h : St F w base rp own P r) (hb : base ≤ w.heap.size) {i : Nat} {d : Nd} (hd : r.nds[i]? = some d) {kv lv av v7 : Value} (hn : NdAt w base own P i d kv lv av) (x : ByteArray)
  (hW : Below w.heap.size w W) (hgrow : (W.alloc (oneO x)).grownBy w7 lv.ownBlock) (hown : w7.ownsRow base 9 1 v7 (d.lines.length + 1) (d.lines.map Value.string ++ [.string x])) (hob : v7.ownBlock = lv.ownBlock ∨ v7.ownBlock = some (W.alloc (oneO x)).heap.size) :
  St F (w7.setCell ⟨ptN P i, 15, none⟩ v7) base rp (ownUp own w i) P (r.upd i { d with lines := d.lines ++ [x] }) ∧ Below base w (w7.setCell ⟨ptN P i, 15, none⟩ v7) := by
 have hWz := hW.size;have hba : Below w.heap.size w (W.alloc (oneO x)) := hW.alloc hWz _;refine ⟨St.lines h hd hn (d.lines ++ [x]) hba hgrow (by rw [List.length_append, List.map_append]; exact hown) (fun g hg => ?_) (h.wf.upd hd rfl rfl), ?_⟩
 ·rcases hob with e | e
  ·left; exact e.symm.trans hg
  ·right;have := Option.some.inj (hg.symm.trans e);simp at this;omega
 ·exact ((hba.mono hb).grown hgrow (by simp; omega) (fun k hk => (hn.lines.lt _ hk).1)).setCell (p := ⟨ptN P i, 15, none⟩) hn.ge _
def leftB (r : Rd) (t : ByteArray) : Bool := r.lzy && decide (t.size ≠ 0) && decide (r.tipK = 5)
theorem left_eq {r : Rd} {a tp : Nat} (hc : r.cur = some a) (htp : r.tip = some tp) {bb : Nat} {r1 : Rd} (hbb : (if leftB r r.bareT = true then tp else a) = bb) (hr1 : (if leftB r r.bareT = true then r else r.settle) = r1) {d : Nd} (hd : r1.nd bb = d) :
  r.left = if d.kind = 7 then r1.upd bb { d with lines := d.lines ++ [r1.rest], last := if 0 < d.fm ∨ r.bareT.size ≠ 0 then r1.n else d.last }
   else if d.kind = 8 then
    (if endsB r1.rest.data.toList d.html = true then (r1.upd bb { d with lines := d.lines ++ [r1.rest], last := r1.n }).close bb else r1.upd bb { d with lines := d.lines ++ [r1.rest], last := r1.n })
   else if d.kind = 5 ∨ d.kind = 10 then r1.upd bb { d with lines := d.lines ++ [r.bareT], last := r1.n }
   else if r.bareT.size ≠ 0 then (r1.fresh (Nd.new 5)).turn r1.nds.length fun x => { x with lines := [r.bareT] }
   else r1 := by
 have e : (r.lzy = true ∧ r.bareT.size ≠ 0 ∧ r.tipK = 5) ↔ leftB r r.bareT = true := by
  unfold leftB;simp [and_assoc]
 have h1 : (if r.lzy = true ∧ r.bareT.size ≠ 0 ∧ r.tipK = 5 then r else r.settle) = r1 := by
  rw [<- hr1]
  by_cases h : leftB r r.bareT = true
  ·rw [if_pos h, if_pos (e.2 h)]
  ·rw [if_neg h, if_neg (fun h2 => h (e.1 h2))]
 have h2 : (if r.lzy = true ∧ r.bareT.size ≠ 0 ∧ r.tipK = 5 then r.tip else r.cur).getD 0 = bb := by
  rw [<- hbb]
  by_cases h : leftB r r.bareT = true
  ·rw [if_pos h, if_pos (e.2 h), htp]; rfl
  ·rw [if_neg h, if_neg (fun h2 => h (e.1 h2)), hc]; rfl
 unfold Rd.left;simp only [h1, h2, hd]
theorem left_b {B C : Nat} (hC : C ≤ 1000000) {w : World} {base rp : Nat} {own : Nat -> Nat} {P : List Nat} {r : Rd} (h : St F w base rp own P r) (hb : base ≤ w.heap.size) (hG : GlobX base w) (hr : Rdy B r) (hfew : r.nds.length + 1 ≤ 100000) (hp : r.pot ≤ 1000000) (hBC : B + r.pot + 1 ≤ C) (tp : Nat) (htp : r.tip = some tp) :
  Calls Tryz.prog 32 #[.pointer (some ⟨rp, 0, none⟩)] w fun e w' => (∃ v, e = .returned v) ∧ Below base w w' ∧ ∃ own' Q, St F w' base rp own' Q r.left := by
 have hB : B ≤ 1000000 := by omega
 have HBa := hdn (bare_s h hp);have hbs := r.bare_size;obtain ⟨a, hc, ha⟩ := hr.cur;have hal := opn_lt ha;obtain ⟨bb, hbb⟩ : ∃ bb, (if leftB r r.bareT = true then tp else a) = bb := ⟨_, rfl⟩;obtain ⟨r1, hr1⟩ : ∃ r1, (if leftB r r.bareT = true then r else r.settle) = r1 := ⟨_, rfl⟩;obtain ⟨d, hd⟩ : ∃ d, r1.nd bb = d := ⟨_, rfl⟩;have hleft := left_eq hc htp hbb hr1 hd;obtain ⟨s1, s2, s3, s4, s5⟩ := settle_facts hB hr.ok hc ha;have htl := h.wf.tip tp htp;have hlen1 : r1.nds.length = r.nds.length := by rw [<- hr1]; split; rfl; exact s4.len
 have hrest1 : r1.rest = r.rest := by rw [<- hr1]; split; rfl; exact s4.rest
 have hn1 : r1.n = r.n := by rw [<- hr1]; split; rfl; exact s4.n
 have hok1 : Ok B r1 := by rw [<- hr1]; split; exact hr.ok; exact s1
 have hcur1 : r1.cur = some a := by rw [<- hr1]; split; exact hc; exact s4.cur.trans hc
 have hao1 : (r1.nd a).opn = true := by rw [<- hr1]; split; exact ha; exact (s5 a (Nat.le_refl _)).trans ha
 have hd01 : (r1.nd 0).opn = true := by rw [<- hr1]; split; exact hr.d0; exact (s5 0 (Nat.zero_le _)).trans hr.d0
 have hrdy1 : Rdy B r1 := ⟨hok1, hd01, a, hcur1, hao1⟩;have hbbl : bb < r1.nds.length := by rw [hlen1, <- hbb]; split; exact htl; exact hal
 have hko : d.kind = 8 -> d.opn = true := fun h8 => by
  rw [<- hd]
  by_cases hl : leftB r r.bareT = true
  ·exfalso;rw [if_pos hl] at hbb hr1;have : r.tipK = 5 := by
    unfold leftB at hl;simp at hl;exact hl.2
   unfold Rd.tipK at this;rw [htp] at this;rw [<- hbb, <- hr1] at hd;have h5 : (r.nd tp).kind = 5 := this;rw [hd] at h5;omega
  ·rw [if_neg hl] at hbb;rw [<- hbb]; exact hao1
 have hdm1 : r1.nds[bb]? = some d := by rw [<- hd]; exact Rd.at_lt hbbl
 have hdk := hok1.nd bb hbbl;rw [hd] at hdk;obtain ⟨LB, hLB⟩ : ∃ LB, leftB r r.bareT = LB := ⟨_, rfl⟩;rw [hLB] at hbb hr1;have hSe := fun (w1 : World) (b1 : Below w.heap.size w w1) => settle_any (inv_ok hB) (closeC hB base rp) (h.below b1) (Nat.le_trans hb b1.size) hr.ok a hc;have HSe := hdn hSe;obtain ⟨t, ht⟩ : ∃ t, r.bareT = t := ⟨_, rfl⟩;rw [ht] at HBa hbs hleft hLB;obtain ⟨K1, hK1⟩ : ∃ K1, (r.nd tp).kind = K1 := ⟨_, rfl⟩;have hK1' : r.tipK = K1 := by unfold Rd.tipK; rw [htp]; exact hK1
 obtain ⟨L, hL⟩ : ∃ L, r.lzy = L := ⟨_, rfl⟩;have hLB2 : (L && decide (t.size ≠ 0) && decide (K1 = 5)) = LB := by rw [<- hLB]; unfold leftB; rw [hL, hK1']
 have HLB := hdn hLB2;have HS := hdn h; have HG := hdn hG; have HLeft := hdn hleft; have HBB := hdn hbb; have HR1 := hdn hr1;have HRdy := hdn hrdy1; have HDn := hdn hdm1; have HDk := hdn hdk; have HKo := hdn hko;have Htp := hdn htp; have Hc := hdn hc; have HL := hdn hL; have HK1 := hdn hK1;have Hc1 := hdn hcur1; have Hr1 := hdn hrest1; have Hn1 := hdn hn1;have HOk1 := hdn hok1;have hrp := r.rest_pot;clear h hG hr hleft hbb hr1 hrdy1 hdm1 hdk hko htp hc hL hK1 hK1' hLB hLB2 s1 s2 s3 s4 s5 ht hok1 hcur1 hao1 hd01 hrest1 hn1 hSe ha
 go_enter Tryz.func32, Tryz.ntmps32;go_wp2_with fail;refine cMq HBa.out ?_;rintro e w1 ⟨rfl, b1⟩;have hst1 := HS.out.below b1;obtain ⟨rv, hrd⟩ := hst1.rd;have hrowr := hrd.row;unfold rdCells at hrowr;rw [Htp.out, Hc.out, HL.out, show ptrV P (some tp) = Value.pointer (some ⟨ptN P tp, 0, none⟩) from rfl, show ptrV P (some a) = Value.pointer (some ⟨ptN P a, 0, none⟩) from rfl] at hrowr;have qr := fun i => cell_of_row w1 rp i _ _ _ hrowr;obtain ⟨kv, lv, av, hnt⟩ := hst1.nodes tp _ (Rd.at_lt htl);have hrowt := hnt.row
 unfold ndCells at hrowt;rw [HK1.out] at hrowt;have qt := fun i => cell_of_row w1 (ptN P tp) i _ _ _ hrowt;have HS1 := hdn hst1; have HB1 := hdn (b1.mono hb);have HSe1 := hdn (HSe.out w1 b1);clear hst1 b1 hrd hrowr hnt hrowt HBa HSe
 go_upto_region 2 with fail
 go_cut [34] (fun v34 wx => Value.bool LB = v34 ∧ w1 = wx)
 case first =>
  cases L with
  | false =>
   obtain rfl : LB = false := by rw [<- HLB.out]; rfl
   go_wp2
   go_meet
   case rel => exact ⟨rfl, rfl⟩
  | true =>
   by_cases h0 : t.size = 0
   ·obtain rfl : LB = false := by rw [<- HLB.out, decide_eq_false (show ¬ t.size ≠ 0 from fun h => h h0)]; rfl
    have h0' := bytes_no h0;have e1 := h0'.1;have e2 := h0'.2;clear h0';go_wp2
    go_meet
    case rel => exact ⟨rfl, rfl⟩
   ·have h0' := bytes_ne h0;have e1 := h0'.1;have e2 := h0'.2
    by_cases h2 : K1 = 5
    ·have i2 : ((K1 : Int) == 5) = true := by rw [h2]; rfl
     obtain rfl : LB = true := by rw [<- HLB.out, decide_eq_true (show t.size ≠ 0 from h0), decide_eq_true h2]; rfl
     clear h0' h2;go_wp2
     go_meet
     case rel => exact ⟨rfl, rfl⟩
    ·have i2 : ((K1 : Int) == 5) = false := by rw [beq_eq_false_iff_ne]; omega
     obtain rfl : LB = false := by rw [<- HLB.out, decide_eq_true (show t.size ≠ 0 from h0), decide_eq_false h2]; rfl
     clear h0' h2;go_wp2
     go_meet
     case rel => exact ⟨rfl, rfl⟩
 case rest =>
  obtain ⟨rfl, hwc⟩ := hcut;subst hwc
  go_upto_if 34 with fail
  go_cut [4] (fun v4 wx => Value.pointer (some ⟨ptN P bb, 0, none⟩) = v4 ∧ MidW F w base rp P r1 wx)
  case first =>
   cases LB with
   | true =>
    have e1 : tp = bb := by rw [<- HBB.out, if_pos rfl]
    have e2 : r = r1 := by rw [<- HR1.out, if_pos rfl]
    have H1 := hdn e1; have H2 := hdn e2;clear e1 e2;go_wp2
    go_meet
    case rel => exact ⟨by rw [H1.out], _, by rw [<- H2.out]; exact HS1.out, HB1.out⟩
   | false =>
    have e1 : a = bb := by rw [<- HBB.out, if_neg Bool.false_ne_true]
    have e2 : r.settle = r1 := by rw [<- HR1.out, if_neg Bool.false_ne_true]
    have H1 := hdn e1; have H2 := hdn e2;clear e1 e2;go_wp2_with fail;refine cMq HSe1.out ?_;rintro e w2 ⟨own2, ⟨v2, rfl⟩, hst2, hb2⟩;have HS2 := hdn hst2; have HB2 := hdn (HB1.out.trans hb2);clear hst2 hb2;go_wp2
    go_meet
    case rel => exact ⟨by rw [H1.out], _, by rw [<- H2.out]; exact HS2.out, HB2.out⟩
  case rest =>
   obtain ⟨rfl, own2, hst2, hb2⟩ := hcut;have hbz2 : base ≤ wc.heap.size := by have := hb2.size; omega
   obtain ⟨kv2, lv2, av2, hn2⟩ := hst2.nodes bb _ HDn.out;have hlines2 := hn2.lines;obtain ⟨Al, cl, rfl⟩ := bk_own_slice hlines2;have hrow2 := hn2.row;have hbge := hn2.ge;have hbpl : ptN P bb < wc.heap.size := (gSq.1 hrow2).1;have f2 : ∀ i, wc.frozen? ⟨ptN P bb, i, none⟩ = false := fun i => by simp [World.frozen?, hrow2]
   unfold ndCells at hrow2;have HRow2 := hdn hrow2;have q2 := fun i => cell_of_row wc (ptN P bb) i _ _ _ hrow2;obtain ⟨K, hK⟩ : ∃ K, d.kind = K := ⟨_, rfl⟩;rw [hK] at q2;obtain ⟨rv2, hrd2⟩ := hst2.rd;have hrowr2 := hrd2.row;have hrpl : rp < wc.heap.size := (gSq.1 hrowr2).1;have HRowr2 := hdn hrowr2;unfold rdCells at hrowr2;rw [Hr1.out, Hn1.out] at hrowr2;have qr2 := fun i => cell_of_row wc rp i _ _ _ hrowr2;have HS2 := hdn hst2; have HB2 := hdn hb2; have HN2 := hdn hn2; have HL2 := hdn hlines2;have hleft := HLeft.out;rw [Hr1.out, Hn1.out] at hleft
   have HLeft2 := hdn hleft;have hlw := HDk.out.lines;have hll : d.lines.length ≤ 1000000 := by unfold lw at hlw; omega
   obtain ⟨iS, hiS, hzS0, hzS1, hzS2⟩ := info_parts str_info9;clear qr qt hst2 hb2 hn2 hrow2 hrd2 hrowr2 hlines2 HS1 HB1 HSe1 HLB HBB HR1 HLeft hleft hlw
   by_cases k7 : K = 7
   ·subst k7;rw [if_pos hK] at HLeft2;go_wp2_with fail
    go_region_law (refine step_rowb rfl (.tmp 61) (.tmp 67) 36 rfl base 9 iS _ 1 16 Tryz.underlying36 hiS hzS0 hzS1 hzS2 rfl (by decide) _ rfl d.lines.length _ (World.ownsRow.alloc (w := wc.drew) HL2.out _) ⟨wc.heap.size, 0, none⟩ 1 1 [.string r.rest] rfl rfl (cell_one_new _ _ _) (by simp [Value.oneCell']) (by unfold maxLen; omega) (by omega) (by simp; omega) ?_; intro v7 w7 hown7 hgrow hob7; obtain ⟨g7, cap7, rfl⟩ := Joins.ownsRow_form hown7 (by omega); have hk7 := hdn ((hgrow.block (ptN P bb) (by simp; omega) (by intro he; exact row_ne HN2.out.lines HRow2.out (by decide) (ptN P bb) he.symm rfl)).trans ((Below.heap_alloc wc.drew _ _ (by simp; omega)).trans HRow2.out)); have q7 := (fun i => cell_of_row w7 (ptN P bb) i _ _ _ hk7.out); have f7 : ∀ i, w7.frozen? ⟨ptN P bb, i, none⟩ = false := (fun i => by simp [World.frozen?, hk7.out]); have HO7 := hdn hown7; have HG7 := hdn hgrow; have HV7 := hdn hob7; clear hown7 hgrow hob7)
    all_goals
     obtain ⟨s8, b8⟩ := HS2.out.push_line hbz2 HDn.out HN2.out r.rest (Below.refl _ wc).drew HG7.out HO7.out HV7.out;obtain ⟨W8, hW8⟩ : ∃ W8, w7.setCell ⟨ptN P bb, 15, none⟩ (.slice (some ⟨g7, 0, none⟩) (d.lines.length + 1) cap7) = W8 := ⟨_, rfl⟩;rw [hW8] at s8 b8 ⊢;have hn8 : (r1.upd bb { d with lines := d.lines ++ [r.rest] }).nds[bb]? = some { d with lines := d.lines ++ [r.rest] } := Rd.upd_self hbbl;have hbl8 := (List.getElem?_eq_some_iff.1 hn8).1;have HFe := hdn (fenced_any s8 bb hbl8);rw [Rd.nd_of hn8] at HFe;obtain ⟨fe, hfe⟩ : ∃ fe, decide (0 < d.fm) = fe := ⟨_, rfl⟩
     rw [show decide (0 < ({ d with lines := d.lines ++ [r.rest] } : Nd).fm) = fe from hfe] at HFe;obtain ⟨kv8, lv8, av8, hn9⟩ := s8.nodes bb _ hn8;have hrow8 := hn9.row;have f8 : ∀ i, W8.frozen? ⟨ptN P bb, i, none⟩ = false := fun i => by simp [World.frozen?, hrow8]
     unfold ndCells at hrow8;have q8 := fun i => cell_of_row W8 (ptN P bb) i _ _ _ hrow8;obtain ⟨rv8, hrd8⟩ := s8.rd;have hrowr8 := hrd8.row;unfold rdCells at hrowr8;rw [show (r1.upd bb { d with lines := d.lines ++ [r.rest] }).n = r.n from Hn1.out] at hrowr8;have qr8 := fun i => cell_of_row W8 rp i _ _ _ hrowr8;have s9 := s8.set hn8 14 (.int .i64 (r.n : Int)) (d' := { d with lines := d.lines ++ [r.rest], last := r.n }) (fun _ _ _ => rfl) rfl rfl rfl (s8.wf.upd hn8 rfl rfl);rw [Rd.upd_upd] at s9;have HS8 := hdn s8; have HB8 := hdn (HB2.out.trans b8); have HS9 := hdn s9
     have HB9 := hdn ((HB2.out.trans b8).setCell (p := ⟨ptN P bb, 14, none⟩) hbge (.int .i64 (r.n : Int)));have HFd := hdn hfe;clear s8 b8 s9 hW8 hn9 hrow8 hrd8 hrowr8 q7 f7 q2 f2 qr2 hfe
     go_upto_region 10 with fail
     go_cut [76] (fun v76 wx => Value.bool (fe || decide (t.size ≠ 0)) = v76 ∧ W8 = wx)
     case first =>
      cases fe with
      | true =>
       go_wp2_with fail;refine cMq HFe.out ?_;rintro e w9 ⟨rfl, rfl⟩;go_wp2
       go_meet
       case rel => exact ⟨rfl, rfl⟩
      | false =>
       by_cases h0 : t.size = 0
       ·have h0' := bytes_no h0;have e1 := h0'.1;have e2 := h0'.2;go_wp2_with fail;refine cMq HFe.out ?_;rintro e w9 ⟨rfl, rfl⟩;go_wp2
        go_meet
        case rel => exact ⟨by rw [decide_eq_false (show ¬ t.size ≠ 0 from fun h => h h0)]; rfl, rfl⟩
       ·have h0' := bytes_ne h0;have e1 := h0'.1;have e2 := h0'.2;go_wp2_with fail;refine cMq HFe.out ?_;rintro e w9 ⟨rfl, rfl⟩;go_wp2
        go_meet
        case rel => exact ⟨by rw [decide_eq_true (show t.size ≠ 0 from h0)]; rfl, rfl⟩
     case rest =>
      obtain ⟨rfl, hwc⟩ := hcut;subst hwc
      by_cases hx : 0 < d.fm ∨ t.size ≠ 0
      ·have hxb : (fe || decide (t.size ≠ 0)) = true := by rw [<- HFd.out]; simpa using hx
       rw [hxb];have HV := hdn (show r.left = r1.upd bb { d with lines := d.lines ++ [r.rest], last := r.n } by rw [HLeft2.out, if_pos hx]);clear hx hxb HLeft2 HFe;go_wp2
       go_end0
       rw [HV.out];exact ⟨⟨_, rfl⟩, HB9.out, _, _, HS9.out⟩
      ·have hxb : (fe || decide (t.size ≠ 0)) = false := by rw [<- HFd.out]; simpa using hx
       rw [hxb];have HV := hdn (show r.left = r1.upd bb { d with lines := d.lines ++ [r.rest] } by rw [HLeft2.out, if_neg hx]);clear hx hxb HLeft2 HFe;go_wp2
       go_end0
       rw [HV.out];exact ⟨⟨_, rfl⟩, HB8.out, _, _, HS8.out⟩
   ·have i7 : ((K : Int) == 7) = false := by rw [beq_eq_false_iff_ne]; omega
    by_cases k8 : K = 8
    ·subst k8;rw [if_neg (by rw [hK]; exact k7), if_pos hK] at HLeft2;go_wp2_with fail
     go_region_law (refine step_rowb rfl (.tmp 90) (.tmp 96) 36 rfl base 9 iS _ 1 16 Tryz.underlying36 hiS hzS0 hzS1 hzS2 rfl (by decide) _ rfl d.lines.length _ (World.ownsRow.alloc (w := wc.drew) HL2.out _) ⟨wc.heap.size, 0, none⟩ 1 1 [.string r.rest] rfl rfl (cell_one_new _ _ _) (by simp [Value.oneCell']) (by unfold maxLen; omega) (by omega) (by simp; omega) ?_; intro v7 w7 hown7 hgrow hob7; obtain ⟨g7, cap7, rfl⟩ := Joins.ownsRow_form hown7 (by omega); have hk7 := hdn ((hgrow.block (ptN P bb) (by simp; omega) (by intro he; exact row_ne HN2.out.lines HRow2.out (by decide) (ptN P bb) he.symm rfl)).trans ((Below.heap_alloc wc.drew _ _ (by simp; omega)).trans HRow2.out)); have q7 := (fun i => cell_of_row w7 (ptN P bb) i _ _ _ hk7.out); have f7 : ∀ i, w7.frozen? ⟨ptN P bb, i, none⟩ = false := (fun i => by simp [World.frozen?, hk7.out]); have HO7 := hdn hown7; have HG7 := hdn hgrow; have HV7 := hdn hob7; clear hown7 hgrow hob7)
     all_goals
      obtain ⟨s8, b8⟩ := HS2.out.push_line hbz2 HDn.out HN2.out r.rest (Below.refl _ wc).drew HG7.out HO7.out HV7.out;obtain ⟨W8, hW8⟩ : ∃ W8, w7.setCell ⟨ptN P bb, 15, none⟩ (.slice (some ⟨g7, 0, none⟩) (d.lines.length + 1) cap7) = W8 := ⟨_, rfl⟩;rw [hW8] at s8 b8 ⊢;have hn8 : (r1.upd bb { d with lines := d.lines ++ [r.rest] }).nds[bb]? = some { d with lines := d.lines ++ [r.rest] } := Rd.upd_self hbbl;obtain ⟨kv8, lv8, av8, hn9⟩ := s8.nodes bb _ hn8;have hrow8 := hn9.row;have f8 : ∀ i, W8.frozen? ⟨ptN P bb, i, none⟩ = false := fun i => by simp [World.frozen?, hrow8]
      unfold ndCells at hrow8;have q8 := fun i => cell_of_row W8 (ptN P bb) i _ _ _ hrow8;obtain ⟨rv8, hrd8⟩ := s8.rd;have hrowr8 := hrd8.row;unfold rdCells at hrowr8;rw [show (r1.upd bb { d with lines := d.lines ++ [r.rest] }).n = r.n from Hn1.out] at hrowr8;have qr8 := fun i => cell_of_row W8 rp i _ _ _ hrowr8;have s9 := s8.set hn8 14 (.int .i64 (r.n : Int)) (d' := { d with lines := d.lines ++ [r.rest], last := r.n }) (fun _ _ _ => rfl) rfl rfl rfl (s8.wf.upd hn8 rfl rfl);rw [Rd.upd_upd] at s9;have b9 := (HB2.out.trans b8).setCell (p := ⟨ptN P bb, 14, none⟩) hbge (.int .i64 (r.n : Int))
      have HS9 := hdn s9; have HB9 := hdn b9;clear s8 b8 s9 b9 hW8 hn9 hrow8 hrd8 hrowr8 q7 f7 q2 f2 qr2
      go_upto_region 15 with fail
      obtain ⟨W9, hW9⟩ : ∃ W9, W8.setCell ⟨ptN P bb, 14, none⟩ (.int .i64 (r.n : Int)) = W9 := ⟨_, rfl⟩;have s9 := HS9.out;have b9 := HB9.out;rw [hW9] at s9 b9 ⊢;clear q8 f8 qr8 hW9 HS9 HB9 hn8;obtain ⟨r9, hr9⟩ : ∃ r9, r1.upd bb { d with lines := d.lines ++ [r.rest], last := (r.n : Int) } = r9 := ⟨_, rfl⟩;have hok9 : Ok C r9 := by
       rw [<- hr9];have hd := HDk.out;have hn := HOk1.out.nn;have hd8 : d.kind = 8 := hK;refine HOk1.out.upd hbbl (d := { d with lines := d.lines ++ [r.rest], last := r.n }) (by rw [Rd.nd_of HDn.out]) (by rw [Rd.nd_of HDn.out]) (by omega) ⟨hd.asc, ?_, hd.kind, hd.txt, ⟨hd.num.1, hd.num.2.1, by show (0 : Int) ≤ (r.n : Int); omega, by show (r.n : Int) ≤ 1000000; rw [<- Hn1.out]; omega⟩, hd.ind, hd.html⟩ (.inl (by rw [Rd.nd_of HDn.out])) (.inl (by rw [Rd.nd_of HDn.out])) (fun e => ?_) ?_
       ·show sumZ (d.lines ++ [r.rest]) + (d.lines ++ [r.rest]).length ≤ C;have := hd.lines;unfold lw at this;rw [sumZ_snocK, List.length_append];simp;omega
       ·have e : d.kind = 5 := e;omega
       ·have h1 := HOk1.out.refs;rw [ow_other (show Nd.kind { d with lines := d.lines ++ [r.rest], last := (r.n : Int) } ≠ 5 from by show d.kind ≠ 5; omega)];omega
      have hn9 : r9.nds[bb]? = some { d with lines := d.lines ++ [r.rest], last := r.n } := by rw [<- hr9]; exact Rd.upd_self hbbl
      rw [hr9] at s9 HLeft2;have hlt9 := (List.getElem?_eq_some_iff.1 hn9).1;have ho9 : (r9.nd bb).opn = true := by rw [Rd.nd_of hn9]; exact HKo.out hK
      obtain ⟨kv8, lv8, av8, hn8⟩ := s9.nodes bb _ hn9;have hrow8 := hn8.row;unfold ndCells at hrow8;have q8 := fun i => cell_of_row W9 (ptN P bb) i _ _ _ hrow8;obtain ⟨rv8, hrd8⟩ := s9.rd;have hrowr8 := hrd8.row;unfold rdCells at hrowr8;rw [show r9.rest = r.rest by rw [<- hr9]; exact Hr1.out] at hrowr8;have qr8 := fun i => cell_of_row W9 rp i _ _ _ hrowr8;have hht := HDk.out.html;have hhi : d.html = ((d.html.toNat : Nat) : Int) := by omega
      have HG9 := hdn ((HG.out.next b9).next (Below.refl _ W9).drew)
      have HEn := hdn (ends_any r.rest d.html.toNat W9.drew (by omega) HG9.out.glob);rw [<- hhi] at HEn;obtain ⟨EB, hEB⟩ : ∃ EB, endsB r.rest.data.toList d.html = EB := ⟨_, rfl⟩;rw [hEB] at HEn HLeft2;unfold RBw at HEn;have HS9 := hdn s9; have HB9 := hdn b9; have HOk9 := hdn hok9;clear s9 b9 hok9 hr9 hn8 hrow8 hrd8 hrowr8 hhi hEB;go_cut [116] (fun v116 wx => Value.bool EB = v116 ∧ Below W9.heap.size W9 wx)
      case first =>
       go_region_with (first
        | (go_at_call 61; refine cMq HEn.out ?_; rintro e w4 ⟨rfl, hb4⟩; have HB4 := hdn (show Below W9.heap.size W9 w4 from ⟨hb4.os, hb4.tape, hb4.output, hb4.size, hb4.block⟩); clear hb4))
       all_goals
        go_wp2_with fail
        go_meet
        case rel => exact ⟨rfl, HB4.out⟩
      case rest =>
       obtain ⟨rfl, hbx⟩ := hcut;have hbz9 : base ≤ W9.heap.size := by have := HB9.out.size; omega
       have s10 := HS9.out.below hbx;have b10 := HB9.out.trans (hbx.mono hbz9);have HS10 := hdn s10; have HB10 := hdn b10;have HCl := hdn (closeC hC base rp F _ _ _ r9 bb s10 (Nat.le_trans hbz9 hbx.size) HOk9.out hlt9 ho9);clear s10 b10 hbx q8 qr8 HEn
       cases EB with
       | true =>
        have HV := hdn (show r.left = r9.close bb by rw [HLeft2.out, if_pos rfl]);clear HLeft2;go_wp2_with fail;refine cMq HCl.out ?_;rintro e w11 ⟨own11, ⟨v11, rfl⟩, hst11, hb11⟩;have HS11 := hdn hst11; have HB11 := hdn (HB10.out.trans hb11);clear hst11 hb11;go_wp2
        go_end0
        rw [HV.out];exact ⟨⟨_, rfl⟩, HB11.out, _, _, HS11.out⟩
       | false =>
        have HV := hdn (show r.left = r9 by rw [HLeft2.out, if_neg Bool.false_ne_true]);clear HLeft2;go_wp2
        go_end0
        rw [HV.out];exact ⟨⟨_, rfl⟩, HB10.out, _, _, HS10.out⟩
    ·have i8 : ((K : Int) == 8) = false := by rw [beq_eq_false_iff_ne]; omega
     by_cases k5 : K = 5 ∨ K = 10
     ·rw [if_neg (by rw [hK]; exact k7), if_neg (by rw [hK]; exact k8), if_pos (by rw [hK]; exact k5)] at HLeft2;have HA1 := hdn (cell_one_new wc (.string t) 9);have HA2 := hdn (show ∀ u ∈ [Value.string t], u.oneCell' = true by simp [Value.oneCell']);have ha3 : d.lines.length + 1 ≤ maxLen := by unfold maxLen; omega
      have ha4 : (d.lines.length + 1) * 16 ≤ 140737488355328 := by omega
      have ha5 : base ≤ (wc.alloc (oneO t)).heap.size := by simp; omega
      have HOw := hdn (World.ownsRow.alloc (w := wc) HL2.out (oneO t));rcases k5 with rfl | rfl
      all_goals
       go_wp2_with (at_builtin; refine wpList_append_own_at _ rfl _ _ 36 rfl base 9 iS _ 1 16 Tryz.underlying36 hiS hzS0 hzS1 hzS2 rfl (by decide) _ d.lines.length (d.lines.map Value.string) rfl HOw.out ⟨wc.heap.size, 0, none⟩ 1 1 [.string t] rfl rfl HA1.out HA2.out ha3 ha4 ha5 ?_);intro v7 w7 hown7 hgrow _ hob7;obtain ⟨g7, cap7, rfl⟩ := Joins.ownsRow_form hown7 (by omega)
       have hk7 := (hgrow.block (ptN P bb) (by simp; omega) (by intro he; exact row_ne HN2.out.lines HRow2.out (by decide) (ptN P bb) he.symm rfl)).trans ((Below.heap_alloc wc _ _ hbpl).trans HRow2.out);have hr7 := (hgrow.block rp (by simp; omega) (by intro he; exact row_ne HN2.out.lines HRowr2.out (by decide) rp he.symm rfl)).trans ((Below.heap_alloc wc _ _ hrpl).trans HRowr2.out);have q7 := fun i => cell_of_row w7 (ptN P bb) i _ _ _ hk7;have f7 : ∀ i, w7.frozen? ⟨ptN P bb, i, none⟩ = false := fun i => by simp [World.frozen?, hk7]
       unfold rdCells at hr7;rw [Hr1.out, Hn1.out] at hr7;have q7r := fun i => cell_of_row w7 rp i _ _ _ hr7;obtain ⟨s8, b8⟩ := HS2.out.push_line hbz2 HDn.out HN2.out t (Below.refl _ wc) hgrow hown7 (by simpa using hob7);have hn8 : (r1.upd bb { d with lines := d.lines ++ [t] }).nds[bb]? = some { d with lines := d.lines ++ [t] } := Rd.upd_self hbbl;have s9 := s8.set hn8 14 (.int .i64 (r.n : Int)) (d' := { d with lines := d.lines ++ [t], last := r.n }) (fun _ _ _ => rfl) rfl rfl rfl (s8.wf.upd hn8 rfl rfl);rw [Rd.upd_upd] at s9
       have b9 := (HB2.out.trans b8).setCell (p := ⟨ptN P bb, 14, none⟩) hbge (.int .i64 (r.n : Int));have HS9 := hdn s9; have HB9 := hdn b9;have HV := hdn HLeft2.out;clear s8 b8 s9 b9 hn8 hk7 hr7 hown7 hgrow hob7 HLeft2 q2 f2 qr2;go_wp2
       go_end0
       rw [HV.out];exact ⟨⟨_, rfl⟩, HB9.out, _, _, HS9.out⟩
     ·have i5 : ((K : Int) == 5) = false := by rw [beq_eq_false_iff_ne]; omega
      have i10 : ((K : Int) == 10) = false := by rw [beq_eq_false_iff_ne]; omega
      rw [if_neg (by rw [hK]; exact k7), if_neg (by rw [hK]; exact k8), if_neg (by rw [hK]; exact k5)] at HLeft2
      by_cases h0 : t.size = 0
      ·have h0' := bytes_no h0;have e1 := h0'.1;have e2 := h0'.2;have HV := hdn (show r.left = r1 by rw [HLeft2.out, if_neg (fun h => h h0)]);clear HLeft2 h0';go_wp2
       go_end0
       rw [HV.out];exact ⟨⟨_, rfl⟩, HB2.out, _, _, HS2.out⟩
      ·have h0' := bytes_ne h0;have e1 := h0'.1;have e2 := h0'.2;have HV := hdn (show r.left = (r1.fresh (Nd.new 5)).turn r1.nds.length fun x => { x with lines := [t] } by rw [HLeft2.out, if_pos h0]);have hP := HS2.out.len;have hfew1 : r1.nds.length + 1 ≤ 100000 := by rw [hlen1]; exact hfew
       have HBe := hdn (begin_l hB (by decide) (by decide) hP hbz2 HRdy.out hfew1 (fun e => by cases e) (preL_a 5 t HS2.out hbz2 hfew1 (Below.refl _ _)));clear HLeft2 h0' h0;go_wp2_with fail;refine cMq (kind_any 5 _) ?_;rintro e w3 ⟨rfl, hw3⟩;subst hw3;go_wp2_with fail;refine cMq HBe.out ?_;rintro e w3 ⟨rfl, hpo⟩;obtain ⟨kv3, lv3, av3, rv3, a3, hg3, hr3, hrs, hne3, hge3⟩ := hpo.cells hP hB HRdy.out (by decide) (by decide) hfew1 (fun e => by cases e);have hzg : wc.heap.size < w3.heap.size := (gSq.1 hg3).1
       have f3 : (∀ i, w3.frozen? ⟨wc.heap.size, i, none⟩ = false) := (fun i => by simp [World.frozen?, hg3]);unfold ndCells at hg3;have q4 := (fun i => cell_of_row w3 wc.heap.size i _ _ _ hg3);have HPo := hdn (postL_made hpo hbz2);clear hpo hg3 hr3 hrs q2 f2 qr2;go_wp2
       go_end0
       obtain ⟨own9, h9, b9⟩ := HPo.out.stored hP hB HRdy.out (by decide) (by decide) hfew1 (fun e => by cases e);rw [World.setCell_alloc_past _ _ _ _ hzg] at h9 b9;rw [HV.out];exact ⟨⟨_, rfl⟩, HB2.out.trans b9, _, _, h9⟩
