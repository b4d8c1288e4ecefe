/- A heading begins. -/
import Derived.Test.YtebfjlfkofibpaaGreatDoorBkCl
namespace Go.Proofs.YtebfjlfkofibpaaGreatDoor
set_option maxHeartbeats 2000000
set_option maxRecDepth 100000
section
open Go.RowKit
variable {F : Frm}
theorem head_b {w : World} {base rp : Nat} {own : Nat -> Nat} {P : List Nat} {r : Rd} {I : Rd -> Prop} (HI0 : Inv I) (HC : CloseC I base rp) (h : St F w base rp own P r) (hb : base ≤ w.heap.size) (hs : I (r.more (Nd.new 6))) (a : Nat) (hc : r.cur = some a) (hu : Up r a) (hk5 : (r.nd a).opn = true) (t : ByteArray) (ht : t.size ≤ 1099511627) :
  Calls Tryz.prog 53 #[.pointer (some ⟨rp, 0, none⟩), .string t] w (Looks F w base rp P r (r.head t)) := by
 have HR := hdn (head_any t w ht);obtain ⟨L, hL⟩ : ∃ L, headLev t.data.toList = L := ⟨_, rfl⟩;obtain ⟨T, hT⟩ : ∃ T : ByteArray, (⟨(headText t.data.toList).toArray⟩ : ByteArray) = T := ⟨_, rfl⟩;have hr : r.head t = if L = 0 then none else some ((r.fresh (Nd.new 6)).turn r.nds.length fun x => { x with level := L, text := T, opn := false }) := by unfold Rd.head; rw [hL, hT]
 unfold HeadR at HR;rw [hL, hT] at HR;clear hL hT
 by_cases h0 : L = 0
 ·have HV := hdn (show r.head t = none by rw [hr, if_pos h0]);have hi : ((L : Int) == 0) = true := by rw [h0]; rfl
  have HS := hdn h;clear h HC HI0 hs hc hu hk5 hr h0;go_enter Tryz.func53, Tryz.ntmps53;go_wp2_with fail;refine cMq HR.out ?_;rintro e w1 ⟨rfl, b1⟩;have HB1 := hdn b1;clear b1;go_wp2;go_ret;rw [HV.out];exact ⟨HB1.out.mono hb, rfl, own, HS.out.below HB1.out⟩
 ·have HV := hdn (show r.head t = some ((r.fresh (Nd.new 6)).turn r.nds.length fun x => { x with level := L, text := T, opn := false }) by rw [hr, if_neg h0]);have hi : ((L : Int) == 0) = false := by rw [beq_eq_false_iff_ne]; omega
  have HF := hdn fun (w1 : World) (b1 : Below w.heap.size w w1) => fresh_begin HI0 HC (h.below b1) (Nat.le_trans hb b1.size) 6 hs a hc hu (.inl (by decide)) hk5;have hPl := h.len;clear h HC HI0 hs hc hu hk5 hr h0;go_enter Tryz.func53, Tryz.ntmps53;go_wp2_with fail;refine cMq HR.out ?_;rintro e w1 ⟨rfl, b1⟩;have HB1 := hdn b1;clear b1;go_wp2_with fail;refine cMq (kind_any 6 _) ?_;rintro e w2 ⟨rfl, hw2⟩;rw [hw2];clear hw2;go_wp2_with fail;refine cMq (HF.out w1 HB1.out) ?_;rintro e w3 ⟨own3, rfl, hst, hbb⟩
  have hn : (r.fresh (Nd.new 6)).nds[r.nds.length]? = some ((r.fresh (Nd.new 6)).nd r.nds.length) := Rd.at_lt (by rw [fresh_len]; omega);have hlt : r.nds.length < (r.fresh (Nd.new 6)).nds.length := by rw [fresh_len]; omega
  have hptr := ptN_new P _ w1.heap.size hPl;have h1 := hst.set hn 1 (.int .i64 (L : Int)) (d' := { (r.fresh (Nd.new 6)).nd r.nds.length with level := L }) (fun _ _ _ => rfl) rfl rfl rfl (hst.wf.upd hn rfl rfl);have h2 := h1.set (Rd.upd_self hlt) 6 (.string T) (d' := { (r.fresh (Nd.new 6)).nd r.nds.length with level := L, text := T }) (fun _ _ _ => rfl) rfl rfl rfl (h1.wf.upd (Rd.upd_self hlt) rfl rfl);rw [Rd.upd_upd] at h2
  have h3 := h2.set (Rd.upd_self hlt) 12 (.bool false) (d' := { (r.fresh (Nd.new 6)).nd r.nds.length with level := L, text := T, opn := false }) (fun _ _ _ => rfl) rfl rfl rfl (h2.wf.upd (Rd.upd_self hlt) rfl rfl);rw [Rd.upd_upd] at h3;obtain ⟨kv, lv, av, hnn⟩ := hst.nodes _ _ hn;have hrow := hnn.row;have hge := hnn.ge;rw [hptr] at hrow h3 hge;unfold ndCells at hrow;have q := fun i => cell_of_row w3 w1.heap.size i _ _ _ hrow;have f3 : ∀ i, w3.frozen? ⟨w1.heap.size, i, none⟩ = false := fun i => by simp [World.frozen?, hrow]
  have HS := hdn h3;have HB3 := hdn (((((HB1.out.mono hb).trans hbb).setCell (p := ⟨w1.heap.size, 1, none⟩) hge (.int .i64 (L : Int))).setCell (p := ⟨w1.heap.size, 6, none⟩) hge (.string T)).setCell (p := ⟨w1.heap.size, 12, none⟩) hge (.bool false));clear h1 h2 h3 hrow hnn hst hbb hn;go_wp2;go_ret;rw [HV.out];exact ⟨HB3.out, rfl, _, _, HS.out, Ext.one P _⟩
end
section
open Go.RowKit
variable {F : Frm}
theorem RdAt.ln {w : World} {base rp : Nat} {own : Nat -> Nat} {P : List Nat} {r : Rd} {rv : Value} (h : RdAt w base rp own P r rv) : LnAt w rp r.rest r.col (.int .i64 (r.n : Int)) (ptrV P (some 0)) (ptrV P r.cur) (ptrV P r.tip) (.bool r.lzy) rv := h.row
theorem St.ln_set {w w' : World} {base rp : Nat} {own : Nat -> Nat} {P : List Nat} {r : Rd} (h : St F w base rp own P r) {rv : Value} (hrv : RdAt w base rp own P r rv) (s : ByteArray) (c : Nat) (hl : LnAt w' rp s c (.int .i64 (r.n : Int)) (ptrV P (some 0)) (ptrV P r.cur) (ptrV P r.tip) (.bool r.lzy) rv) (hg : w.grownBy w' (some rp)) : St F w' base rp own P { r with rest := s, col := c } := by
 have hw := h.wf;exact h.reader (r' := { r with rest := s, col := c }) hg hrv hl rfl rfl ⟨hw.kids, hw.par, hw.nk, hw.cur, hw.tip, hw.doc⟩
theorem below_grown3 {w w' : World} {base rp : Nat} (hb : base ≤ w.heap.size) (hr : base ≤ rp) (hg : w.grownBy w' (some rp)) : Below base w w' := (Below.refl base w).grown hg hb (fun k e => by cases e; exact hr)
theorem Up.withLn {r : Rd} {a : Nat} (u : Up r a) (s : ByteArray) (c : Nat) : Up { r with rest := s, col := c } a := by
 induction u with
 | doc h0 => exact .doc h0
 | up hp _ ih => exact .up hp ih
theorem Rd.pass_eq (r : Rd) (n : Nat) : r.pass n = { r with rest := (lbareN r.rest).extract n (lbareN r.rest).size, col := r.col + widthN r.rest.data.toList r.col + n } := rfl
theorem Rd.cut_eq (r : Rd) (n : Nat) : r.cut n = { r with rest := ⟨(cutN r.rest.data.toList r.col n).1.toArray⟩, col := (cutN r.rest.data.toList r.col n).2 } := rfl
theorem quote_b {w : World} {base rp : Nat} {own : Nat -> Nat} {P : List Nat} {r : Rd} {I : Rd -> Prop} (HI0 : Inv I) (HC : CloseC I base rp) (h : St F w base rp own P r) (hb : base ≤ w.heap.size) (hs : I (((r.pass 1).cut 1).more (Nd.new 2))) (a : Nat) (hc : r.cur = some a) (hu : Up r a) (hk5 : (r.nd a).opn = true)
  (hz : r.rest.size ≤ 1000000) (hcl : r.col ≤ 1000000) (h1 : 1 ≤ (lbareN r.rest).size) :
  Calls Tryz.prog 52 #[.pointer (some ⟨rp, 0, none⟩)] w fun e w' => e = .returned (.int .i64 1) ∧ Below base w w' ∧ ∃ own' Q, St F w' base rp own' Q r.quote.1 ∧ Ext P Q := by
 obtain ⟨rv, hrd⟩ := h.rd;have hwl : widthN r.rest.data.toList r.col ≤ 4 * r.rest.size := by
  have := colF_le r.rest.data.toList r.col;have hl : r.rest.data.toList.length = r.rest.size := lTq;unfold widthN;omega
 have hbl := lbareN_len r.rest;have HP := hdn (lpass_any r.rest r.col 1 rp _ _ _ _ _ _ w (by omega) (by omega) h1 hrd.ln);obtain ⟨r1, hr1⟩ : ∃ x, r.pass 1 = x := ⟨_, rfl⟩;have hr1' := hr1;rw [Rd.pass_eq] at hr1';have hst1 := fun w1 hl hg => h.ln_set (w' := w1) hrd ((lbareN r.rest).extract 1 (lbareN r.rest).size) (r.col + widthN r.rest.data.toList r.col + 1) hl hg;have e1 : r1.rest.size ≤ 1000000 := by rw [<- hr1']; show ((lbareN r.rest).extract 1 _).size ≤ _; rw [ByteArray.size_extract]; omega
 have e2 : r1.col ≤ 6000000 := by rw [<- hr1']; show r.col + _ + 1 ≤ _; omega
 have e3 : r1.cur = some a := by rw [<- hr1']; exact hc
 have e4 : Up r1 a := by rw [<- hr1']; exact hu.withLn _ _
 have e5 : (r1.nd a).opn = true := by rw [<- hr1']; exact hk5
 rw [hr1] at hs;have HS1 := hdn (show ∀ w1, LnAt w1 rp ((lbareN r.rest).extract 1 (lbareN r.rest).size) (r.col + widthN r.rest.data.toList r.col + 1) (.int .i64 (r.n : Int)) (ptrV P (some 0)) (ptrV P r.cur) (ptrV P r.tip) (.bool r.lzy) rv -> w.grownBy w1 (some rp) -> St F w1 base rp own P r1 by rw [<- hr1']; exact hst1);have hq : r.quote.1 = { ((r1.cut 1).fresh (Nd.new 2)) with cur := some (r1.cut 1).nds.length } := by unfold Rd.quote; rw [hr1]
 rw [hq];have hrge := hrd.ge;have HF := hdn fun (w2 : World) (own2 : Nat -> Nat) (hst : St F w2 base rp own2 P (r1.cut 1)) (hb2 : base ≤ w2.heap.size) => fresh_begin HI0 HC hst hb2 2 hs a (show (r1.cut 1).cur = some a from e3) (show Up (r1.cut 1) a from e4.withLn _ _) (.inl (by decide)) e5;have HCut := hdn fun (w1 : World) (hst : St F w1 base rp own P r1) (rv1 : Value) (hrd1 : RdAt w1 base rp own P r1 rv1) => lcut_any r1.rest r1.col 1 rp _ _ _ _ _ _ w1 (by omega) (by omega) (by omega) hrd1.ln
 have hPl : P.length = (r1.cut 1).nds.length := by rw [show (r1.cut 1).nds.length = r.nds.length by rw [Rd.cut_eq, <- hr1']]; exact h.len
 clear hr1 hr1' hst1 hq hrd h hs hc hu hk5 HC HI0 e3 e4 e5 hwl hbl;go_enter Tryz.func52, Tryz.ntmps52;go_wp2_with fail;refine cMq HP.out ?_;rintro e w1 ⟨⟨v1, rfl⟩, hl1, hg1⟩;have hst := HS1.out w1 hl1 hg1;obtain ⟨rv1, hrd1⟩ := hst.rd;have HCu := hdn (HCut.out w1 hst rv1 hrd1);have HS2 := hdn fun w2 hl hg => hst.ln_set (w' := w2) hrd1 ⟨(cutN r1.rest.data.toList r1.col 1).1.toArray⟩ (cutN r1.rest.data.toList r1.col 1).2 hl hg;have HB1 := hdn (below_grown3 hb hrge hg1);have hb1 : base ≤ w1.heap.size := Nat.le_trans hb hg1.size
 clear hst hrd1 hl1 hg1;go_wp2_with fail;refine cMq HCu.out ?_;rintro e w2 ⟨⟨v2, rfl⟩, hl2, hg2⟩;have hst2 := HS2.out w2 hl2 hg2;have HB2 := hdn (HB1.out.trans (below_grown3 hb1 hrge hg2));have hb2 : base ≤ w2.heap.size := Nat.le_trans hb1 hg2.size;have HS3 := hdn (show St F w2 base rp own P (r1.cut 1) from hst2);clear hst2 hl2 hg2;go_wp2_with fail;refine cMq (kind_any 2 _) ?_;rintro e w3 ⟨rfl, hw3⟩;rw [hw3];clear hw3;go_wp2_with fail;refine cMq (HF.out w2 own HS3.out hb2) ?_;rintro e w4 ⟨own4, rfl, hst4, hbb⟩
 have hfin := hst4.cur_set (some (r1.cut 1).nds.length) (fun i e => by cases e; rw [fresh_len]; omega);rw [show ptrV (P ++ [w2.heap.size]) (some (r1.cut 1).nds.length) = Value.pointer (some ⟨w2.heap.size, 0, none⟩) from by show Value.pointer (some ⟨ptN (P ++ [w2.heap.size]) (r1.cut 1).nds.length, 0, none⟩) = _; rw [ptN_new P _ _ hPl]] at hfin;obtain ⟨rv4, hrd4⟩ := hst4.rd;have hrow := hrd4.row;unfold rdCells at hrow;have q := fun i => cell_of_row w4 rp i _ _ _ hrow;have f4 : ∀ i, w4.frozen? ⟨rp, i, none⟩ = false := fun i => by simp [World.frozen?, hrow]
 have HFin := hdn hfin;have HB4 := hdn ((HB2.out.trans hbb).setCell (p := ⟨rp, 4, none⟩) hrge (.pointer (some ⟨w2.heap.size, 0, none⟩)));clear hfin hst4 hrd4 hrow hbb;go_wp2;go_ret;exact ⟨rfl, HB4.out, own4, _, HFin.out, Ext.one P _⟩
end
section
open Go.RowKit
variable {F : Frm}
theorem bytes_ne {t : ByteArray} (h : t.size ≠ 0) : t.toList.isEmpty = false ∧ ¬ t.toList = [] := by
 have hn : ¬ t.toList = [] := fun e => by
  rw [ByteArray.toList_eq] at e;have h2 : t.data.toList.length = t.size := lTq;rw [e] at h2;exact h h2.symm
 refine ⟨?_, hn⟩
 cases h2 : t.toList with
 | nil => exact absurd h2 hn
 | cons _ _ => rfl
theorem bytes_no {t : ByteArray} (h : t.size = 0) : t.toList.isEmpty = true ∧ t.toList = [] := by
 have hn : t.toList = [] := by
  rw [ByteArray.toList_eq];have : t.data = #[] := Array.eq_empty_of_size_eq_zero h;rw [this]
 exact ⟨by rw [hn]; rfl, hn⟩
def fadd (F : Frm) (g : Nat) (o : Obj) : Frm := fun b => if b = g then some o else F b
theorem St.local {w : World} {base rp : Nat} {own : Nat -> Nat} {P : List Nat} {r : Rd} (h : St F w base rp own P r) (cs : Array Value) (t : TypeId) : St (fadd F w.heap.size (.cells cs t)) (w.alloc (.cells cs t)) base rp (fun b => if b = w.heap.size then 1000000000 else own b) P r := by
 have hold : ∀ b, b < w.heap.size -> (fun b => if b = w.heap.size then 1000000000 else own b) b = own b := fun b hb => if_neg (by omega);have hsame : ∀ b, b < w.heap.size -> (w.alloc (.cells cs t)).heap[b]? = w.heap[b]? := fun b hb => Below.heap_alloc w _ _ hb;have hw := h.wf;refine ⟨h.len, fun j e he => ?_, ?_, hw, fun b o hbo => ?_, h.few, h.dp⟩
 ·obtain ⟨kv, lv, av, hj⟩ := h.nodes j e he;have hjl := (List.getElem?_eq_some_iff.1 he).1;refine ⟨kv, lv, av, hj.keep (by rw [h.len]; exact hjl) (by simp) hold (fun _ _ => rfl) (fun p hp => ?_) (fun k hk => ?_) (fun b hbl _ => hsame b hbl)⟩
  ·have := hw.par j e he p hp; rw [h.len]; omega
  ·have := hw.kids j e he k hk; rw [h.len]; omega
 ·obtain ⟨rv, hr⟩ := h.rd;have hrl := (gSq.1 hr.row).1;exact ⟨rv, (hold rp hrl).trans hr.own_r, hr.ge, (hsame rp hrl).trans hr.row, own_keep hr.refs fun g hg => hsame g (own_lt hr.refs g hg), fun g hg => (hold g (own_lt hr.refs g hg)).trans (hr.own_f g hg)⟩
 ·by_cases hb : b = w.heap.size
  ·subst hb;have : o = .cells cs t := by
    have h1 : fadd F w.heap.size (.cells cs t) w.heap.size = some (.cells cs t) := if_pos rfl;rw [h1] at hbo;exact (Option.some.inj hbo).symm
   subst this;exact ⟨heap_alloc_new w _, if_pos rfl⟩
  ·have h1 : F b = some o := by
    have h1 : fadd F w.heap.size (.cells cs t) b = F b := if_neg hb;rw [h1] at hbo;exact hbo
   obtain ⟨k1, k2⟩ := h.fr b o h1;have hbl := (gSq.1 k1).1;exact ⟨(hsame b hbl).trans k1, (hold b hbl).trans k2⟩
theorem St.forget {w w0 : World} {base rp rp0 base0 : Nat} {own own0 : Nat -> Nat} {P P0 : List Nat} {r r0 : Rd} {o : Obj} (h : St (fadd F w0.heap.size o) w base rp own P r) (h0 : St F w0 base0 rp0 own0 P0 r0) : St F w base rp own P r := by
 refine ⟨h.len, h.nodes, h.rd, h.wf, fun b x hb => h.fr b x ?_, h.few, h.dp⟩;have hbl := (gSq.1 (h0.fr b x hb).1).1;show (if b = w0.heap.size then some o else F b) = some x;rw [if_neg (by omega)];exact hb
theorem St.mine {w : World} {base rp g : Nat} {own : Nat -> Nat} {P : List Nat} {r : Rd} {o : Obj} (h : St (fadd F g o) w base rp own P r) : w.heap[g]? = some o := (h.fr g o (if_pos rfl)).1
def GlobX (base : Nat) (w : World) : Prop := ∃ w0, GlobB w0 ∧ w0.heap.size = base ∧ Below base w0 w
theorem GlobX.glob {base : Nat} {w : World} (h : GlobX base w) : GlobB w := by
 obtain ⟨w0, h1, h2, h3⟩ := h;subst h2;exact h1.later h3
theorem GlobX.next {base : Nat} {w w' : World} (h : GlobX base w) (hb : Below base w w') : GlobX base w' := by
 obtain ⟨w0, h1, h2, h3⟩ := h;exact ⟨w0, h1, h2, h3.trans hb⟩
theorem bare_s {w : World} {base rp : Nat} {own : Nat -> Nat} {P : List Nat} {r : Rd} (h : St F w base rp own P r) (hp : r.pot ≤ 1000000) :
  Calls Tryz.prog 46 #[.pointer (some ⟨rp, 0, none⟩)] w fun e w' => e = .returned (.tuple #[.string r.bareT, .int .i64 (r.bareW : Nat)]) ∧ Below w.heap.size w w' := by
 obtain ⟨rv, hrd⟩ := h.rd;have := r.rest_pot;exact bare_any r.rest r.col rp _ _ _ _ _ _ w (by omega) (by omega) hrd.ln
theorem cut_s {w : World} {base rp : Nat} {own : Nat -> Nat} {P : List Nat} {r : Rd} (h : St F w base rp own P r) (hb : base ≤ w.heap.size) (hp : r.pot ≤ 1000000) (n : Nat) (hn : n ≤ 500000000) :
  Calls Tryz.prog 49 #[.pointer (some ⟨rp, 0, none⟩), .int .i64 (n : Int)] w (Turns F w base rp P (r.cut n)) := by
 obtain ⟨rv, hrd⟩ := h.rd;have := r.rest_pot;refine (lcut_any r.rest r.col n rp _ _ _ _ _ _ w (by omega) (by omega) hn hrd.ln).mono ?_;rintro e w' ⟨h1, h2, h3⟩;exact ⟨own, h1, h.ln_set hrd _ _ h2 h3, below_grown3 hb hrd.ge h3⟩
theorem pass_s {w : World} {base rp : Nat} {own : Nat -> Nat} {P : List Nat} {r : Rd} (h : St F w base rp own P r) (hb : base ≤ w.heap.size) (hp : r.pot ≤ 1000000) (n : Nat) (hn : n ≤ r.bareT.size) :
  Calls Tryz.prog 48 #[.pointer (some ⟨rp, 0, none⟩), .int .i64 (n : Int)] w (Turns F w base rp P (r.pass n)) := by
 obtain ⟨rv, hrd⟩ := h.rd;have := r.rest_pot;refine (lpass_any r.rest r.col n rp _ _ _ _ _ _ w (by omega) (by omega) hn hrd.ln).mono ?_;rintro e w' ⟨h1, h2, h3⟩;exact ⟨own, h1, h.ln_set hrd _ _ h2 h3, below_grown3 hb hrd.ge h3⟩
structure NewOk (B : Nat) (d : Nd) : Prop where
 ok : NdOk B d
 kids : d.kids = []
 par : d.parent = none
 opn : d.opn = false
 lines : d.lines = []
 text : d.text.size = 0
theorem new_ok (B k : Nat) (h1 : 1 ≤ k) (h10 : k ≤ 10) : NewOk B (Nd.new k) :=
 ⟨⟨List.Pairwise.nil, Nat.zero_le _, ⟨h1, h10⟩, fun _ => rfl, by simp [Nd.new], by simp [Nd.new], by simp [Nd.new]⟩, rfl, rfl, rfl, rfl, rfl⟩
theorem fresh_r {B : Nat} (hB : B ≤ 1000000) {r : Rd} (h : Rdy B r) {d : Nd} (hd : NewOk B d) (hfew : r.nds.length + 1 ≤ 100000) (h4 : d.kind = 4 -> r.curK = 3) : ∃ a, FreshR B r (r.fresh d) d a :=
 fresh_facts hB h d hfew hd.ok hd.kids hd.par hd.opn hd.lines hd.text h4
theorem begin_g {B : Nat} (hB : B ≤ 1000000) {w : World} {base rp : Nat} {own : Nat -> Nat} {P : List Nat} {r : Rd} {d : Nd} (h : St F w base rp own P (r.more d)) (hb : base ≤ w.heap.size) (hr : Rdy B r) (hd : NewOk B d) (hfew : r.nds.length + 1 ≤ 100000) (h4 : d.kind = 4 -> r.curK = 3) :
  Calls Tryz.prog 62 #[.pointer (some ⟨rp, 0, none⟩), .pointer (some ⟨ptN P r.nds.length, 0, none⟩)] w fun e w' => ∃ own', e = .returned (.pointer (some ⟨ptN P r.nds.length, 0, none⟩)) ∧ St F w' base rp own' P (r.fresh d) ∧ Below base w w' := by
 have hm := hr.ok.more d hfew hd.ok hd.kids hd.par hd.opn;obtain ⟨a, hc, ha⟩ := hr.cur;have hal := opn_lt ha;have hna : (r.more d).nd a = r.nd a := more_nd_old r d hal;have hnb := more_nd_new r d;exact begin_any (inv_ok hB) (closeC hB base rp) h hb hm a r.nds.length hc (up_of hm hm.d1 a a (Nat.le_refl _) (by rw [hna]; exact ha)) (by rw [Rd.more_len]) (by omega) (by rw [hnb]; exact hd.par) (fun e => by
  rw [hnb] at e;rw [hna];have := h4 e;unfold Rd.curK at this;rw [hc] at this;exact this) (by rw [hna]; exact ha)
theorem begin_s {B : Nat} (hB : B ≤ 1000000) {w : World} {base rp : Nat} {own : Nat -> Nat} {P : List Nat} {r : Rd} (k : Nat) (h1 : 1 ≤ k) (h10 : k ≤ 10) (h : St F w base rp own P r) (hb : base ≤ w.heap.size) (hr : Rdy B r) (hfew : r.nds.length + 1 ≤ 100000) (h4 : k = 4 -> r.curK = 3) :
  Calls Tryz.prog 62 #[.pointer (some ⟨rp, 0, none⟩), .pointer (some ⟨w.heap.size, 0, none⟩)] (w.alloc (.cells (ndCells [] (Nd.new k) (.slice none 0 0) (.slice none 0 0) (.slice none 0 0)) 50)) fun e w' => ∃ own', e = .returned (.pointer (some ⟨w.heap.size, 0, none⟩)) ∧ St F w' base rp own' (P ++ [w.heap.size]) (r.fresh (Nd.new k)) ∧ Below base w w' := by
 have hm := h.more k hb hfew;have hB2 := begin_g hB hm (by simp; omega) hr (new_ok B k h1 h10) hfew h4;rw [ptN_new P _ _ h.len] at hB2;exact hB2.mono fun e w' ⟨own', h1, h2, h3⟩ => ⟨own', h1, h2, ((Below.refl w.heap.size w).alloc (Nat.le_refl _) _ |>.mono hb).trans h3⟩
theorem fresh_at {B : Nat} {w : World} {base rp : Nat} {own : Nat -> Nat} {P : List Nat} {r : Rd} {d : Nd} {a g : Nat} (_ : St F w base rp own (P ++ [g]) (r.fresh d)) (hP : P.length = r.nds.length) (hf : FreshR B r (r.fresh d) d a) :
  (r.fresh d).nds[r.nds.length]? = some { d with parent := some a, opn := true, first := r.n, last := r.n } ∧ ptN (P ++ [g]) r.nds.length = g := by
 refine ⟨?_, ptN_new P _ g hP⟩;rw [<- hf.new];exact Rd.at_lt (by rw [hf.len]; omega)
end
