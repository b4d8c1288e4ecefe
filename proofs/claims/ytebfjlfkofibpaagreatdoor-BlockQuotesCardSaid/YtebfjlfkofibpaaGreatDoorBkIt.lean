/- An item begins. -/
import Derived.Test.YtebfjlfkofibpaaGreatDoorBkHt
namespace Go.Proofs.YtebfjlfkofibpaaGreatDoor
set_option maxHeartbeats 8000000
set_option maxRecDepth 100000
open Go.RowKit
variable {F : Frm}
def MidL (F : Frm) (w : World) (base rp : Nat) (r : Rd) (wx : World) : Prop := ∃ own P, St F wx base rp own P r ∧ Below base w wx
theorem more_upd (r : Rd) (d e : Nd) : (r.more d).upd r.nds.length e = r.more e := by unfold Rd.more Rd.upd; simp
theorem itemN_le {l : List UInt8} {c : UInt8} {s : Int} {k : Nat} (h : itemN l = some (c, s, k)) : 1 ≤ k ∧ k ≤ l.length := by
 unfold itemN at h
 by_cases h9 : 9 < digN l
 ·rw [if_pos h9] at h; cases h
 ·rw [if_neg h9] at h
  cases hc : l[digN l]? with
  | none => rw [hc] at h; cases h
  | some c' =>
   rw [hc] at h;have hlt := (List.getElem?_eq_some_iff.1 hc).1;simp only [Option.ite_none_right_eq_some, Option.some.injEq, Prod.mk.injEq] at h;omega
theorem new_list (B : Nat) (mk : Nat) (s : Int) : NewOk B { Nd.new 3 with mark := mk, start := s } :=
 ⟨⟨List.Pairwise.nil, Nat.zero_le _, ⟨by simp [Nd.new], by simp [Nd.new]⟩, fun _ => rfl, by simp [Nd.new], by simp [Nd.new], by simp [Nd.new]⟩, rfl, rfl, rfl, rfl, rfl⟩
theorem new_item (B : Nat) (v : Nat) (hv : v ≤ 10000000) : NewOk B { Nd.new 4 with indent := (v : Int) } :=
 ⟨⟨List.Pairwise.nil, Nat.zero_le _, ⟨by simp [Nd.new], by simp [Nd.new]⟩, fun _ => rfl, by simp [Nd.new], by simp [Nd.new]; omega, by simp [Nd.new]⟩, rfl, rfl, rfl, rfl, rfl⟩
def noItem (r : Rd) (t : ByteArray) (c : UInt8) (start : Int) (width : Nat) : Bool := decide (r.curK = 5) && ((blankT (t.data.toList.drop width)).isEmpty || ((c == 46 || c == 41) && decide (start ≠ 1)))
def itemV (r1 : Rd) : Nat := if 5 ≤ widthN r1.rest.data.toList r1.col ∨ (blankT r1.rest.data.toList).isEmpty = true then 1 else widthN r1.rest.data.toList r1.col
def newList (r2 : Rd) (c : UInt8) : Bool := decide (r2.curK ≠ 3 ∨ (match r2.cur with | some i => (r2.nd i).mark | none => 0) ≠ c.toNat)
def itemR3 (r2 : Rd) (c : UInt8) (start : Int) : Rd := if newList r2 c = true then { (r2.fresh { Nd.new 3 with mark := c.toNat, start := start }) with cur := some r2.nds.length } else r2
theorem item_eq (r : Rd) (t : ByteArray) (w : Nat) {c : UInt8} {start : Int} {width : Nat} (hi : itemN t.data.toList = some (c, start, width)) :
  r.item t w = if noItem r t c start width = true then (r, 0) else
   ({ ((itemR3 ((r.pass width).cut (itemV (r.pass width))) c start).fresh { Nd.new 4 with indent := ((w + width + itemV (r.pass width) : Nat) : Int) }) with cur := some (itemR3 ((r.pass width).cut (itemV (r.pass width))) c start).nds.length }, 1) := by
 have e : (r.curK = 5 ∧ ((blankT (t.data.toList.drop width)).isEmpty = true ∨ ((c = 46 ∨ c = 41) ∧ start ≠ 1))) ↔ noItem r t c start width = true := by
  unfold noItem;simp
 have h3 : ∀ r2 : Rd, (if r2.curK ≠ 3 ∨ (match r2.cur with | some i => (r2.nd i).mark | none => 0) ≠ c.toNat then
   { (r2.fresh { Nd.new 3 with mark := c.toNat, start := start }) with cur := some r2.nds.length } else r2) = itemR3 r2 c start := by
  intro r2;unfold itemR3 newList
  by_cases h2 : r2.curK ≠ 3 ∨ (match r2.cur with | some i => (r2.nd i).mark | none => 0) ≠ c.toNat
  ·rw [if_pos h2, if_pos (decide_eq_true h2)]
  ·rw [if_neg h2, if_neg (by rw [decide_eq_false h2]; exact Bool.false_ne_true)]
 let G : Rd -> Rd × Nat := fun r3 => ({ (r3.fresh { Nd.new 4 with indent := (w : Int) + (width : Int) + (itemV (r.pass width) : Int) }) with cur := some r3.nds.length }, 1)
 have hG : r.item t w = if r.curK = 5 ∧ ((blankT (t.data.toList.drop width)).isEmpty = true ∨ ((c = 46 ∨ c = 41) ∧ start ≠ 1)) then (r, 0) else G (if ((r.pass width).cut (itemV (r.pass width))).curK ≠ 3 ∨ (match ((r.pass width).cut (itemV (r.pass width))).cur with | some i => (((r.pass width).cut (itemV (r.pass width))).nd i).mark | none => 0) ≠ c.toNat then
   { (((r.pass width).cut (itemV (r.pass width))).fresh { Nd.new 3 with mark := c.toNat, start := start }) with cur := some ((r.pass width).cut (itemV (r.pass width))).nds.length } else ((r.pass width).cut (itemV (r.pass width)))) := by
  unfold Rd.item;rw [hi];rfl
 rw [hG, h3]
 by_cases h1 : noItem r t c start width = true
 ·rw [if_pos h1, if_pos (e.2 h1)]
 ·rw [if_neg h1, if_neg (fun h => h1 (e.1 h))];rfl
theorem itemR3_rdy {B : Nat} (hB : B ≤ 1000000) {r2 : Rd} (h : Rdy B r2) (c : UInt8) (start : Int) (hfew : r2.nds.length + 1 ≤ 100000) : Rdy B (itemR3 r2 c start) ∧ (itemR3 r2 c start).curK = 3 ∧ (itemR3 r2 c start).nds.length ≤ r2.nds.length + 1 := by
 unfold itemR3
 by_cases hn : newList r2 c = true
 ·rw [if_pos hn];obtain ⟨a, hf⟩ := fresh_r hB h (new_list B c.toNat start) hfew (fun e => by cases e);have hk : ((r2.fresh { Nd.new 3 with mark := c.toNat, start := start }).nd r2.nds.length).kind = 3 := by rw [hf.new]; rfl
  have ho : ((r2.fresh { Nd.new 3 with mark := c.toNat, start := start }).nd r2.nds.length).opn = true := by rw [hf.new]
  refine ⟨⟨hf.rdy.ok.same rfl (Nat.le_refl _) hf.rdy.ok.nn, hf.rdy.d0, _, rfl, ho⟩, hk, ?_⟩;show (r2.fresh _).nds.length ≤ _;rw [hf.len]; exact Nat.le_refl _
 ·rw [if_neg hn];refine ⟨h, ?_, Nat.le_succ _⟩;have : newList r2 c = false := by simpa using hn
  unfold newList at this;have := of_decide_eq_false this;omega
theorem item_b {B : Nat} (hB : B ≤ 1000000) {w : World} {base rp : Nat} {own : Nat -> Nat} {P : List Nat} {r : Rd} (h : St F w base rp own P r) (hb : base ≤ w.heap.size) (hr : Rdy B r) (hfew : r.nds.length + 2 ≤ 100000) (hp : r.pot ≤ 1000000) (t : ByteArray) (ht : r.bareT = t) (v : Nat) (hv : v ≤ 1000000) :
  Calls Tryz.prog 59 #[.pointer (some ⟨rp, 0, none⟩), .string t, .int .i64 (v : Int)] w fun e w' => e = .returned (.int .i64 ((r.item t v).2 : Nat)) ∧ Below base w w' ∧ ∃ own' Q, St F w' base rp own' Q (r.item t v).1 := by
 have hts : t.size ≤ 1000000 := by rw [<- ht]; have := r.bare_size; omega
 have HL := hdn (list_any t w (by omega));unfold ItemR at HL;have HS := hdn h
 cases ho : itemN t.data.toList with
 | none =>
  rw [ho] at HL;have HV := hdn (show r.item t v = (r, 0) by unfold Rd.item; rw [ho]);clear ho h hr;go_enter Tryz.func59, Tryz.ntmps59;go_wp2_with fail;refine cMq HL.out ?_;rintro e w1 ⟨he, b1⟩;subst he;have HS1 := hdn ((HS.out.below b1).below ((Below.refl _ w1).alloc (Nat.le_refl _) (.cells #[.int .u8 0, .int .i64 0, .int .i64 0] 127)));have HB2 := hdn ((b1.mono hb).alloc (Nat.le_trans hb b1.size) (.cells #[.int .u8 0, .int .i64 0, .int .i64 0] 127));clear b1;go_wp2;go_ret;rw [HV.out]
  exact ⟨rfl, HB2.out, _, _, HS1.out⟩
 | some x =>
  obtain ⟨c, start, width⟩ := x;rw [ho] at HL;simp only at HL;have hwl := itemN_le ho;have hveq := item_eq r t v ho;have HVeq := hdn hveq;obtain ⟨a, hc, ha⟩ := hr.cur;have hal := opn_lt ha;obtain ⟨NB, hNB⟩ : ∃ NB, (c == 46 || c == 41) = NB := ⟨_, rfl⟩;obtain ⟨XB, hXB⟩ : ∃ XB, noItem r t c start width = XB := ⟨_, rfl⟩;have hHlen : t.data.toList.length = t.size := lTq;have hHBl := hdn fun w' => show Calls Tryz.prog 76 #[.string (t.extract width t.size)] w' (RBw w' (blankT (t.data.toList.drop width)).isEmpty) by
   have h1 := colsBlank_any (t.extract width t.size) w' (by rw [ByteArray.size_extract]; omega);rw [(ext_at t width (by omega)).1] at h1;exact h1
  obtain ⟨BB, hBB⟩ : ∃ BB, (blankT (t.data.toList.drop width)).isEmpty = BB := ⟨_, rfl⟩;rw [hBB] at hHBl;obtain ⟨K, hK⟩ : ∃ K, (r.nd a).kind = K := ⟨_, rfl⟩;have hKc : r.curK = K := by unfold Rd.curK; rw [hc]; exact hK
  have hXB2 : (decide (K = 5) && (BB || (NB && decide (start ≠ 1)))) = XB := by rw [<- hXB, <- hKc, <- hBB, <- hNB]; rfl
  have HXB := hdn hXB2;have HNB := hdn hNB;have HHBl := hdn fun w' (b : Below 0 w' w') => hHBl.out w';have HRdy := hdn hr;have HP0 := hdn hp;have Hc := hdn hc;have HXB0 := hdn hXB;have hww : width ≤ t.size := by omega
  have HT := hdn ht;have Hw1 := hdn hwl.1;have HK := hdn hK;clear ho hveq hXB hXB2 hNB hBB hKc h hr hwl ha HHBl hHlen hK hc ht;go_enter Tryz.func59, Tryz.ntmps59;go_wp2_with fail;refine cMq HL.out ?_;rintro e w1 ⟨he, b1⟩;subst he;have hloc := (HS.out.below b1).local #[.int .u8 (c.toNat : Int), .int .i64 start, .int .i64 (width : Int)] 127;have hbl := (b1.mono hb).alloc (Nat.le_trans hb b1.size) (.cells #[.int .u8 (c.toNat : Int), .int .i64 start, .int .i64 (width : Int)] 127)
  obtain ⟨W1, hW1⟩ : ∃ W1, w1.alloc (.cells #[.int .u8 (c.toNat : Int), .int .i64 start, .int .i64 (width : Int)] 127) = W1 := ⟨_, rfl⟩;obtain ⟨g, hg⟩ : ∃ g, w1.heap.size = g := ⟨_, rfl⟩;have HSw1 := hdn (HS.out.below b1);rw [hW1, hg] at hloc;rw [hW1] at hbl;have HL1 := hdn hloc;have HB1 := hdn hbl;have HG := hdn hg;have qm := fun i => cell_of_row W1 g i _ _ _ hloc.mine;obtain ⟨rv, hrd⟩ := hloc.rd;have hrow := hrd.row;unfold rdCells at hrow;rw [Hc.out, show ptrV P (some a) = Value.pointer (some ⟨ptN P a, 0, none⟩) from rfl] at hrow;have q := fun i => cell_of_row W1 rp i _ _ _ hrow
  obtain ⟨kv, lv, av, hna⟩ := hloc.nodes a _ (Rd.at_lt hal);have hrowa := hna.row;unfold ndCells at hrowa;have qa := fun i => cell_of_row W1 (ptN P a) i _ _ _ hrowa;rw [HK.out] at qa;have hbz1 : base ≤ W1.heap.size := by have := hbl.size; omega
  clear b1 hloc hbl hrd hrow hna hrowa
  go_upto_region 4 with fail
  go_cut [9] (fun v9 wx => Value.bool NB = v9 ∧ W1 = wx)
  case first =>
   have j46 : ((c.toNat : Int) == 46) = (c == 46) := beqc c 46;have j41 : ((c.toNat : Int) == 41) = (c == 41) := beqc c 41;have hnb := HNB.out
   cases h46 : (c == 46) with
   | true =>
    rw [h46] at j46 hnb;obtain rfl : NB = true := by rw [<- hnb]; rfl
    clear hnb h46;go_wp2
    go_meet
    case rel => exact ⟨rfl, rfl⟩
   | false =>
    rw [h46] at j46 hnb
    cases h41 : (c == 41) with
    | true =>
     rw [h41] at j41 hnb;obtain rfl : NB = true := by rw [<- hnb]; rfl
     clear hnb h46 h41;go_wp2
     go_meet
     case rel => exact ⟨rfl, rfl⟩
    | false =>
     rw [h41] at j41 hnb;obtain rfl : NB = false := by rw [<- hnb]; rfl
     clear hnb h46 h41;go_wp2
     go_meet
     case rel => exact ⟨rfl, rfl⟩
  case rest =>
   obtain ⟨rfl, hwc⟩ := hcut;subst hwc
   go_upto_region 5 with fail
   go_cut [51] (fun v51 wx => Value.bool XB = v51 ∧ Below W1.heap.size W1 wx)
   case first =>
    by_cases h5 : K = 5
    ·have i5 : ((K : Int) == 5) = true := by rw [h5]; rfl
     have hx := HXB.out;rw [decide_eq_true h5, Bool.true_and] at hx;have hwi : (width : Int) ≤ (t.size : Int) := by omega
     have HX := hdn hx;clear hx h5;go_wp2_with fail;refine cMq (hHBl.out _) ?_;rintro e w2 ⟨rfl, b2⟩;have qm2 := fun i => (Eq.trans (b2.cell (p := ⟨g, i, none⟩) (World.block_lt_of_cell? W1 ⟨g, 0, none⟩ ((qm 0).trans rfl))) (qm i));have HB2 := hdn b2;clear b2 qm q qa
     cases BB with
     | true =>
      obtain rfl : XB = true := by rw [<- HX.out]; rfl
      go_wp2
      go_meet
      case rel => exact ⟨rfl, HB2.out⟩
     | false =>
      cases NB with
      | false =>
       obtain rfl : XB = false := by rw [<- HX.out]; rfl
       go_wp2
       go_meet
       case rel => exact ⟨rfl, HB2.out⟩
      | true =>
       by_cases h1 : start = 1
       ·have i1 : (start != 1) = false := by rw [h1]; rfl
        obtain rfl : XB = false := by rw [<- HX.out, decide_eq_false (fun h => h h1)]; rfl
        clear h1;go_wp2
        go_meet
        case rel => exact ⟨rfl, HB2.out⟩
       ·have i1 : (start != 1) = true := by rw [bne_iff_ne]; exact h1
        obtain rfl : XB = true := by rw [<- HX.out, decide_eq_true h1]; rfl
        clear h1;go_wp2
        go_meet
        case rel => exact ⟨rfl, HB2.out⟩
    ·have i5 : ((K : Int) == 5) = false := by rw [beq_eq_false_iff_ne]; omega
     obtain rfl : XB = false := by rw [<- HXB.out, decide_eq_false h5]; rfl
     clear h5;go_wp2
     go_meet
     case rel => exact ⟨rfl, Below.refl _ _⟩
   case rest =>
    obtain ⟨rfl, hbc⟩ := hcut;have HL2 := hdn (HL1.out.below hbc);have HB2 := hdn (HB1.out.trans (hbc.mono hbz1));have hbz2 : base ≤ wc.heap.size := Nat.le_trans hbz1 hbc.size;clear q qm qa hbc HL1 HB1 hbz1
    cases XB with
    | true =>
     have HV := hdn (show r.item t v = (r, 0) by rw [HVeq.out, if_pos HXB0.out]);have HSf := hdn (St.forget (w0 := w1) (by rw [HG.out]; exact HL2.out) HSw1.out);go_wp2;go_ret;rw [HV.out];exact ⟨rfl, HB2.out, _, _, HSf.out⟩
    | false =>
     obtain ⟨r1, hr1⟩ : ∃ r1, r.pass width = r1 := ⟨_, rfl⟩;obtain ⟨V, hV⟩ : ∃ V, itemV r1 = V := ⟨_, rfl⟩;obtain ⟨r2, hr2⟩ : ∃ r2, r1.cut V = r2 := ⟨_, rfl⟩;obtain ⟨r3, hr3⟩ : ∃ r3, itemR3 r2 c start = r3 := ⟨_, rfl⟩;have hvv : r.item t v = ({ (r3.fresh { Nd.new 4 with indent := ((v + width + V : Nat) : Int) }) with cur := some r3.nds.length }, 1) := by
      rw [HVeq.out, HXB0.out, if_neg Bool.false_ne_true, hr1, hV, hr2, hr3]
     have HV := hdn hvv;have hnt : width ≤ r.bareT.size := by rw [HT.out]; exact hww
     have hp1 : r1.pot ≤ 1000000 := by rw [<- hr1]; exact Nat.le_trans (r.pass_pot width hnt) hp
     have hrr1 : Rdy B r1 := HRdy.out.ln (by rw [<- hr1]; rfl) (by rw [<- hr1]; rfl) (by rw [<- hr1]; rfl) (by rw [<- hr1]; rfl);have hVl : V ≤ 4000001 := by
      rw [<- hV];unfold itemV;split
      ·omega
      ·have := colF_le r1.rest.data.toList r1.col;have h2 := r1.rest_pot;have hl : r1.rest.data.toList.length = r1.rest.size := lTq;unfold widthN;omega
     have hrr2 : Rdy B r2 := hrr1.ln (by rw [<- hr2]; rfl) (by rw [<- hr2]; rfl) (by rw [<- hr2]; rfl) (by rw [<- hr2]; rfl);have hlen2 : r2.nds.length = r.nds.length := by rw [<- hr2, <- hr1]; rfl
     have hcur2 : r2.cur = some a := by rw [<- hr2, <- hr1]; exact Hc.out
     have hnd2 : ∀ i, r2.nd i = r.nd i := fun i => by rw [<- hr2, <- hr1]; rfl
     have hcur1 : r1.cur = some a := by rw [<- hr1]; exact Hc.out
     have hPa := pass_s (HL2.out.below (Below.refl _ wc).drew) (by simpa using hbz2) HP0.out width hnt;rw [hr1] at hPa;have HPa := hdn hPa;have Hr2 := hdn hr2;have HVv := hdn hV;have Hr3 := hdn hr3;have HR2 := hdn hrr2;have qm := fun i => cell_of_row wc g i _ _ _ HL2.out.mine;clear hvv hr1 hV hr2 hr3 hPa hrr1 hrr2 hnt HL HXB HNB hHBl
     go_upto_region 7 with fail
     go_cut [] (fun wx => ∃ own, St (fadd F g (.cells #[.int .u8 (c.toNat : Int), .int .i64 start, .int .i64 (width : Int)] 127)) wx base rp own P r1 ∧ Below base w wx)
     case first =>
      go_region_with (first
       | (go_at_call 48; refine cMq HPa.out ?_; rintro e w3 ⟨own3, ⟨v3, rfl⟩, hst3, hb3⟩; have HS3 := hdn hst3; have HB3 := hdn (HB2.out.drew.trans hb3); clear hst3 hb3))
      all_goals
       go_wp2_with fail
       go_meet
       case rel => exact ⟨_, HS3.out, HB3.out⟩
     case rest =>
      obtain ⟨own3, hst3, hb3⟩ := hcut;have HS3 := hdn hst3;have HB3 := hdn hb3;have hbz3 : base ≤ wc.heap.size := by have := hb3.size; omega
      obtain ⟨rv3, hrd3⟩ := hst3.rd;have hrow3 := hrd3.row;unfold rdCells at hrow3;have q3 := fun i => cell_of_row wc rp i _ _ _ hrow3;have HRow3 := hdn hrow3;have hrp := r1.rest_pot;have HW := hdn fun w' => width_any r1.rest r1.col w' (by omega) (by omega);unfold IntB at HW;obtain ⟨V0, hV0⟩ : ∃ V0, widthN r1.rest.data.toList r1.col = V0 := ⟨_, rfl⟩;rw [hV0] at HW;have HBl := hdn fun w' => colsBlank_any r1.rest w' (by omega);obtain ⟨BL, hBL⟩ : ∃ BL, (blankT r1.rest.data.toList).isEmpty = BL := ⟨_, rfl⟩;rw [hBL] at HBl
      have hVe : V = if 5 ≤ V0 ∨ BL = true then 1 else V0 := by rw [<- HVv.out, <- hV0, <- hBL]; rfl
      have HVe := hdn hVe;have hV0l : V0 ≤ 4000001 := by
       have := colF_le r1.rest.data.toList r1.col;have hl : r1.rest.data.toList.length = r1.rest.size := lTq;rw [<- hV0];unfold widthN;omega
      clear hst3 hb3 hrd3 hrow3 hV0 hBL hVe qm HL2 HB2 hbz2 HPa
      go_upto_region 8 with fail
      go_cut [10] (fun v10 wx => Value.int .i64 (V0 : Int) = v10 ∧ Below wc.heap.size wc wx)
      case first =>
       go_region_with (first
        | (go_at_call 82; refine cMq (HW.out _) ?_; rintro e w4 ⟨rfl, hb4⟩; have HB4 := hdn (show Below wc.heap.size wc w4 from ⟨hb4.os, hb4.tape, hb4.output, hb4.size, hb4.block⟩); clear hb4))
       all_goals
        go_wp2_with fail
        go_meet
        case rel => exact ⟨rfl, HB4.out⟩
      case rest =>
       obtain ⟨rfl, hb4⟩ := hcut;have HS4 := hdn (HS3.out.below hb4);have HB4 := hdn (HB3.out.trans (hb4.mono hbz3));have hbz4 : base ≤ wc.heap.size := by have := HB4.out.size; omega
       obtain ⟨rv4, hrd4⟩ := HS4.out.rd;have hrow4 := hrd4.row;unfold rdCells at hrow4;have q4 := fun i => cell_of_row wc rp i _ _ _ hrow4;clear hb4 hrd4 hrow4 q3 HRow3 HS3 HB3 hbz3 HW
       go_upto_region 9 with fail
       go_cut [78] (fun v78 wx => Value.bool (decide (5 ≤ V0) || BL) = v78 ∧ Below wc.heap.size wc wx)
       case first =>
        by_cases h5 : 5 ≤ V0
        ·go_wp2
         go_meet
         case rel => exact ⟨by rw [decide_eq_true h5]; rfl, Below.refl _ _⟩
        ·go_wp2_with fail;refine cMq (HBl.out _) ?_;rintro e w5 ⟨rfl, b5⟩;have HB5 := hdn b5;clear b5;go_wp2
         go_meet
         case rel => exact ⟨by rw [decide_eq_false h5, decide_eq_false (show ¬ (5 : Int) ≤ (V0 : Int) by omega)], HB5.out⟩
       case rest =>
        obtain ⟨rfl, hb5⟩ := hcut;have HS5 := hdn (HS4.out.below hb5);have HB5 := hdn (HB4.out.trans (hb5.mono hbz4));have hbz5 : base ≤ wc.heap.size := by have := HB5.out.size; omega
        obtain ⟨VB, hVB⟩ : ∃ VB, (decide (5 ≤ V0) || BL) = VB := ⟨_, rfl⟩;rw [hVB];have hVe : V = if VB = true then 1 else V0 := by
         rw [HVe.out, <- hVB]
         by_cases h1 : 5 ≤ V0 ∨ BL = true
         ·rw [if_pos h1, if_pos (by simpa using h1)]
         ·rw [if_neg h1, if_neg (by simpa using h1)]
        have HVe2 := hdn hVe;have HCu := hdn (cut_s HS5.out hbz5 hp1 V (by omega));rw [Hr2.out] at HCu;clear hb5 hVB hVe q4 HS4 HB4 hbz4 HBl HVe
        go_upto_if 78 with fail
        go_cut [10] (fun v10 wx => Value.int .i64 (V : Int) = v10 ∧ wc = wx)
        case first =>
         cases VB with
         | true =>
          obtain rfl : V = 1 := by rw [HVe2.out, if_pos rfl]
          go_wp2
          go_meet
          case rel => exact ⟨rfl, rfl⟩
         | false =>
          obtain rfl : V = V0 := by rw [HVe2.out, if_neg Bool.false_ne_true]
          go_wp2
          go_meet
          case rel => exact ⟨rfl, rfl⟩
        case rest =>
         obtain ⟨rfl, hwc⟩ := hcut;subst hwc;go_wp2_with fail;refine cMq HCu.out ?_;rintro e w6 ⟨own6, ⟨v6, rfl⟩, hst6, hb6⟩;have HB6 := hdn (HB5.out.trans hb6);have hbz6 : base ≤ w6.heap.size := by have := HB6.out.size; omega
         obtain ⟨rv6, hrd6⟩ := hst6.rd;have hrow6 := hrd6.row;unfold rdCells at hrow6;rw [hcur2, show ptrV P (some a) = Value.pointer (some ⟨ptN P a, 0, none⟩) from rfl] at hrow6;have q6 := fun i => cell_of_row w6 rp i _ _ _ hrow6;have hal2 : a < r2.nds.length := by rw [hlen2]; exact hal
         obtain ⟨kv6, lv6, av6, hn6⟩ := hst6.nodes a _ (Rd.at_lt hal2);have hrowa := hn6.row;unfold ndCells at hrowa;rw [hnd2] at hrowa;rw [HK.out] at hrowa;have qa := fun i => cell_of_row w6 (ptN P a) i _ _ _ hrowa;have qm := fun i => cell_of_row w6 g i _ _ _ hst6.mine;obtain ⟨MK, hMK⟩ : ∃ MK, (r.nd a).mark = MK := ⟨_, rfl⟩;rw [hMK] at qa;obtain ⟨LB, hLB⟩ : ∃ LB, newList r2 c = LB := ⟨_, rfl⟩;have hLB2 : LB = (decide (K ≠ 3) || decide (MK ≠ c.toNat)) := by
          rw [<- hLB];unfold newList Rd.curK;rw [hcur2];simp only [hnd2, HK.out, hMK]
          by_cases h1 : K = 3
          ·by_cases h2 : MK = c.toNat <;> simp [h1, h2]
          ·simp [h1]
         have HLB := hdn hLB; have HLB2 := hdn hLB2;have HS6 := hdn hst6;clear hst6 hb6 hrd6 hrow6 hn6 hrowa hMK hLB hLB2 HS5 HB5 hbz5 HCu HVe2
         go_upto_region 12 with fail
         go_cut [105] (fun v105 wx => Value.bool LB = v105 ∧ Below w6.heap.size w6 wx)
         case first =>
          by_cases h3 : K = 3
          ·have i3 : ((K : Int) != 3) = false := by rw [h3]; rfl
           by_cases hmk : MK = c.toNat
           ·have im : ((MK : Int) != (c.toNat : Int)) = false := by rw [hmk]; simp
            obtain rfl : LB = false := by rw [HLB2.out, decide_eq_false (fun h => h h3), decide_eq_false (fun h => h hmk)]; rfl
            clear h3 hmk;go_wp2_with fail
            go_quiet (fail)
            go_wp2
            go_meet
            case rel => exact ⟨rfl, below_drewN (Below.refl _ _) _⟩
           ·have im : ((MK : Int) != (c.toNat : Int)) = true := by rw [bne_iff_ne]; omega
            obtain rfl : LB = true := by rw [HLB2.out, decide_eq_false (fun h => h h3), decide_eq_true hmk]; rfl
            clear h3 hmk;go_wp2_with fail
            go_quiet (fail)
            go_wp2
            go_meet
            case rel => exact ⟨rfl, below_drewN (Below.refl _ _) _⟩
          ·have i3 : ((K : Int) != 3) = true := by rw [bne_iff_ne]; omega
           obtain rfl : LB = true := by rw [HLB2.out, decide_eq_true h3]; rfl
           clear h3;go_wp2_with fail
           go_quiet (fail)
           go_wp2
           go_meet
           case rel => exact ⟨rfl, below_drewN (Below.refl _ _) _⟩
         case rest =>
          obtain ⟨rfl, hb7⟩ := hcut;have HS7 := hdn (HS6.out.below hb7);have HB7 := hdn (HB6.out.trans (hb7.mono hbz6));have hbz7 : base ≤ wc.heap.size := by have := HB7.out.size; omega
          obtain ⟨hr3r, hr3k, hr3l⟩ := itemR3_rdy hB HR2.out c start (by rw [hlen2]; omega);rw [Hr3.out] at hr3r hr3k hr3l;have HR3 := hdn hr3r;have HK3 := hdn hr3k;clear hb7 q6 qa qm HS6 HB6 hbz6 HLB2 hr3r hr3k
          go_upto_if 105 with fail
          go_cut [] (fun wx => MidL (fadd F g (.cells #[.int .u8 (c.toNat : Int), .int .i64 start, .int .i64 (width : Int)] 127)) w base rp r3 wx)
          case first =>
           cases LB with
           | false =>
            have h3 : r3 = r2 := by rw [<- Hr3.out]; unfold itemR3; rw [HLB.out, if_neg Bool.false_ne_true]
            have H3 := hdn h3;clear h3;go_wp2
            go_meet
            case rel => exact ⟨_, _, by rw [H3.out]; exact HS7.out, HB7.out⟩
           | true =>
            have h3 : r3 = { (r2.fresh { Nd.new 3 with mark := c.toNat, start := start }) with cur := some r2.nds.length } := by rw [<- Hr3.out]; unfold itemR3; rw [HLB.out, if_pos rfl]
            have H3 := hdn h3;have hm := HS7.out.more 3 hbz7 (by rw [hlen2]; omega);have hPl := HS7.out.len;have hptr := ptN_new P _ wc.heap.size hPl;have HM := hdn hm;have hge8 := hbz7;clear h3 hm;go_wp2_with fail;refine cMq (kind_any 3 _) ?_;rintro e w8 ⟨rfl, hw8⟩;have hm8 := HM.out;rw [<- hw8] at hm8;have hb8 : Below base w w8 := by rw [hw8]; exact HB7.out.alloc hbz7 _
            have e8 : (r2.more (Nd.new 3)).nds[r2.nds.length]? = some (Nd.new 3) := by unfold Rd.more; simp
            obtain ⟨kv8, lv8, av8, hn8⟩ := hm8.nodes _ _ e8;have hrow8 := hn8.row;rw [hptr] at hrow8;have f8 : ∀ i, w8.frozen? ⟨wc.heap.size, i, none⟩ = false := fun i => by simp [World.frozen?, hrow8]
            unfold ndCells at hrow8;have q8 := fun i => cell_of_row w8 wc.heap.size i _ _ _ hrow8;have qm := fun i => cell_of_row w8 g i _ _ _ hm8.mine;have HM8 := hdn hm8;have HB8 := hdn hb8;have HE8 := hdn e8;clear hw8 hm8 hb8 hn8 hrow8 e8 HM HS7 HB7;go_wp2_with fail
            go_region
            have hltm : r2.nds.length < (r2.more (Nd.new 3)).nds.length := by rw [Rd.more_len]; omega
            have s1 := HM8.out.set HE8.out 2 (.int .u8 (c.toNat : Int)) (d' := { Nd.new 3 with mark := c.toNat }) (fun _ _ _ => rfl) rfl rfl rfl (HM8.out.wf.upd HE8.out rfl rfl);have s2 := s1.set (Rd.upd_self hltm) 3 (.int .i64 start) (d' := { Nd.new 3 with mark := c.toNat, start := start }) (fun _ _ _ => rfl) rfl rfl rfl (s1.wf.upd (Rd.upd_self hltm) rfl rfl);rw [Rd.upd_upd, more_upd, hptr] at s2;have b2 := (HB8.out.setCell (p := ⟨wc.heap.size, 2, none⟩) hge8 (.int .u8 (c.toNat : Int))).setCell (p := ⟨wc.heap.size, 3, none⟩) hge8 (.int .i64 start)
            obtain ⟨W9, hW9⟩ : ∃ W9, ((w8.setCell ⟨wc.heap.size, 2, none⟩ (.int .u8 (c.toNat : Int))).setCell ⟨wc.heap.size, 3, none⟩ (.int .i64 start)) = W9 := ⟨_, rfl⟩;rw [hW9] at s2 b2 ⊢;have s3 := s2.below (Below.refl _ W9).drew;have b3 := b2.drew;have hBe := begin_g hB s3 (by have := b3.size; omega) HR2.out (new_list B c.toNat start) (by rw [hlen2]; omega) (fun e => by cases e);rw [hptr] at hBe;have HBe := hdn hBe; have HB9 := hdn b3;clear q8 f8 qm s1 s2 s3 b2 b3 hW9 hBe hltm;go_wp2_with fail;refine cMq HBe.out ?_;rintro e w9 ⟨own9, rfl, hst9, hb9⟩
            have hfin := hst9.cur_set (some r2.nds.length) (fun i e => by cases e; rw [fresh_len]; omega);rw [show ptrV (P ++ [wc.heap.size]) (some r2.nds.length) = Value.pointer (some ⟨wc.heap.size, 0, none⟩) from by show Value.pointer (some ⟨ptN (P ++ [wc.heap.size]) r2.nds.length, 0, none⟩) = _; rw [hptr]] at hfin;obtain ⟨rv9, hrd9⟩ := hst9.rd;have hrow9 := hrd9.row;have hrpge := hrd9.ge;unfold rdCells at hrow9;have q9 := fun i => cell_of_row w9 rp i _ _ _ hrow9;have f9 : ∀ i, w9.frozen? ⟨rp, i, none⟩ = false := fun i => by simp [World.frozen?, hrow9]
            rw [<- H3.out] at hfin;have HFin := hdn hfin;have HBf := hdn ((HB9.out.trans hb9).setCell (p := ⟨rp, 4, none⟩) hrpge (.pointer (some ⟨wc.heap.size, 0, none⟩)));clear hst9 hb9 hrd9 hrow9 hfin;go_wp2
            go_meet
            case rel => exact ⟨_, _, HFin.out, HBf.out⟩
          case rest =>
           obtain ⟨own8, P8, hst8, hb8⟩ := hcut;have hbz8 : base ≤ wc.heap.size := by have := hb8.size; omega
           have hm := hst8.more 4 hbz8 (by omega);have hPl := hst8.len;have hptr := ptN_new P8 _ wc.heap.size hPl;have HM := hdn hm; have HB8 := hdn hb8;clear hm hst8 hb8;go_wp2_with fail;refine cMq (kind_any 4 _) ?_;rintro e w8 ⟨rfl, hw8⟩;have hm8 := HM.out;rw [<- hw8] at hm8;have hb9 : Below base w w8 := by rw [hw8]; exact HB8.out.alloc hbz8 _
           have e8 : (r3.more (Nd.new 4)).nds[r3.nds.length]? = some (Nd.new 4) := by unfold Rd.more; simp
           obtain ⟨kv8, lv8, av8, hn8⟩ := hm8.nodes _ _ e8;have hrow8 := hn8.row;rw [hptr] at hrow8;have f8 : ∀ i, w8.frozen? ⟨wc.heap.size, i, none⟩ = false := fun i => by simp [World.frozen?, hrow8]
           unfold ndCells at hrow8;have q8 := fun i => cell_of_row w8 wc.heap.size i _ _ _ hrow8;have qm := fun i => cell_of_row w8 g i _ _ _ hm8.mine;have s1 := hm8.set e8 16 (.int .i64 ((v : Int) + (width : Int) + (V : Int))) (d' := { Nd.new 4 with indent := ((v + width + V : Nat) : Int) }) (fun _ _ _ => rfl) rfl rfl rfl (hm8.wf.upd e8 rfl rfl);rw [more_upd, hptr] at s1;have b1 := hb9.setCell (p := ⟨wc.heap.size, 16, none⟩) hbz8 (.int .i64 ((v : Int) + (width : Int) + (V : Int)));have HS9 := hdn s1; have HB9 := hdn b1;clear hw8 hm8 hb9 hn8 hrow8 e8 HM s1 b1;go_wp2_with fail
           obtain ⟨W9, hW9⟩ : ∃ W9, w8.setCell ⟨wc.heap.size, 16, none⟩ (.int .i64 ((v : Int) + (width : Int) + (V : Int))) = W9 := ⟨_, rfl⟩;have s1 := HS9.out;have b1 := HB9.out;rw [hW9] at s1 b1 ⊢;have hBe := begin_g hB s1 (by have := b1.size; omega) HR3.out (new_item B (v + width + V) (by omega)) (by omega) (fun _ => HK3.out);rw [hptr] at hBe;have HBe := hdn hBe; have HB1 := hdn b1;clear q8 f8 qm s1 b1 hW9 hBe HS9 HB9;refine cMq HBe.out ?_;rintro e w9 ⟨own9, rfl, hst9, hb9⟩;have hfin := hst9.cur_set (some r3.nds.length) (fun i e => by cases e; rw [fresh_len]; omega)
           rw [show ptrV (P8 ++ [wc.heap.size]) (some r3.nds.length) = Value.pointer (some ⟨wc.heap.size, 0, none⟩) from by show Value.pointer (some ⟨ptN (P8 ++ [wc.heap.size]) r3.nds.length, 0, none⟩) = _; rw [hptr]] at hfin;obtain ⟨rv9, hrd9⟩ := hst9.rd;have hrow9 := hrd9.row;have hrpge := hrd9.ge;unfold rdCells at hrow9;have q9 := fun i => cell_of_row w9 rp i _ _ _ hrow9;have f9 : ∀ i, w9.frozen? ⟨rp, i, none⟩ = false := fun i => by simp [World.frozen?, hrow9]
           have hfg := St.forget (w0 := w1) (by rw [HG.out]; exact hfin) HSw1.out;have HFin := hdn hfg;have HBf := hdn ((HB1.out.trans hb9).setCell (p := ⟨rp, 4, none⟩) hrpge (.pointer (some ⟨wc.heap.size, 0, none⟩)));clear hst9 hb9 hrd9 hrow9 hfin hfg;go_wp2;go_ret;rw [HV.out];exact ⟨rfl, HBf.out, _, _, HFin.out⟩
