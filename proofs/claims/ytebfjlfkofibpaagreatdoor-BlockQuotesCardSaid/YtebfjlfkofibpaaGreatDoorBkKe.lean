/- A table's head. -/
import Derived.Test.YtebfjlfkofibpaaGreatDoorRwB
import Derived.Test.YtebfjlfkofibpaaGreatDoorBkLe
namespace Go.Proofs.YtebfjlfkofibpaaGreatDoor
set_option maxHeartbeats 8000000
set_option maxRecDepth 100000
section
open Go.RowKit
variable {F : Frm}
theorem bytes_of_own {w : World} {n₀ : Nat} {v : Value} {l : List UInt8} (h : w.ownsRow n₀ 5 1 v l.length (l.map u8c)) : SlU8 w v l := by
 rcases h.2 with ⟨rfl, h0⟩ | ⟨g, cap, cur, rfl, hb, hg, hc, _⟩
 ·exact ⟨_, _, _, rfl, h0.symm, by omega, fun h1 => by omega⟩
 ·refine ⟨_, _, _, rfl, rfl, hc, fun _ => ⟨g, 0, rfl, (gSq.1 hg).1, fun j hj => ?_⟩⟩;have := h.cells (g := g) rfl j (u8c l[j]) (by rw [List.getElem?_map, List.getElem?_eq_getElem hj]; rfl);have hadd : (⟨g, 0, none⟩ : Addr).add j = ⟨g, 0 + j, none⟩ := by
   unfold Addr.add;split
   ·rename_i h0; rw [h0]
   ·rfl
  rw [hadd] at this;rw [this];rfl
theorem al_of_own {w : World} {n₀ : Nat} {v : Value} {l : List UInt8} (h : w.ownsRow n₀ 5 1 v l.length (l.map u8c)) : AlAt w v l := by
 refine ⟨bytes_of_own h, fun hl g hg => ?_⟩;rcases h.2 with ⟨rfl, h0⟩ | ⟨g', cap, cur, rfl, hb, hgg, _⟩
 ·cases hg
 ·cases hg
  exact ⟨_, _, hgg⟩
theorem St.table {w w2 : World} {base rp : Nat} {own : Nat -> Nat} {P : List Nat} {r : Rd} (h : St F w base rp own P r) {i : Nat} {d : Nd} (hd : r.nds[i]? = some d) (hb : Below w.heap.size w w2) {v : Value} {al : List UInt8} (hv : w2.ownsRow w.heap.size 5 1 v al.length (al.map u8c)) (n : Nat) :
  St F (((w2.setCell ⟨ptN P i, 0, none⟩ (.int .u8 10)).setCell ⟨ptN P i, 7, none⟩ v).setCell ⟨ptN P i, 14, none⟩ (.int .i64 (n : Int))) base rp (ownUp own w i) P (r.upd i { d with kind := 10, align := al, last := n }) := by
 obtain ⟨kv, lv, av, hn⟩ := h.nodes i d hd;have hwf := h.wf.upd hd (d' := { d with kind := 10, align := al, last := n }) rfl rfl;have hlt := (gSq.1 hn.row).1;have hrow2 : w2.heap[ptN P i]? = some (.cells (ndCells P d kv lv av) 50 (0, 0)) := (hb.block _ hlt).trans hn.row;obtain ⟨W, hW⟩ : ∃ W, ((w2.setCell ⟨ptN P i, 0, none⟩ (.int .u8 10)).setCell ⟨ptN P i, 7, none⟩ v).setCell ⟨ptN P i, 14, none⟩ (.int .i64 (n : Int)) = W := ⟨_, rfl⟩;have hoth : ∀ b, b ≠ ptN P i -> W.heap[b]? = w2.heap[b]? := fun b hne => by
  rw [<- hW];exact (Below.heap_setCell _ ⟨ptN P i, 14, none⟩ _ b hne).trans ((Below.heap_setCell _ ⟨ptN P i, 7, none⟩ _ b hne).trans (Below.heap_setCell w2 ⟨ptN P i, 0, none⟩ _ b hne))
 have hz : w2.heap.size ≤ W.heap.size := by rw [<- hW]; simp [World.setCell]
 have hself : W.heap[ptN P i]? = some (.cells (ndCells P { d with kind := 10, align := al, last := n } kv lv v) 50 (0, 0)) := by
  rw [<- hW];have h1 := Joins.block_setCell (i := 0) hrow2 (.int .u8 10);have h2 := Joins.block_setCell (i := 7) h1 v;have h3 := Joins.block_setCell (i := 14) h2 (.int .i64 (n : Int));rw [h3];rfl
 rw [hW];have hge := hv.2;have hnew : ∀ g, v.ownBlock = some g -> w.heap.size ≤ g := fun g hg => by
  rcases hge with ⟨rfl, _⟩ | ⟨g', cap, cur, rfl, hb', _⟩
  ·cases hg
  ·cases hg; exact hb'
 have hv2 := al_of_own hv;have hgl := fun g hg => own_lt hv g hg;have keep : ∀ {e : Nat} {u : Value} {k : Nat} {xs : List Value}, w.ownsRow base e 1 u k xs -> (∀ g, u.ownBlock = some g -> g ≠ ptN P i) -> W.ownsRow base e 1 u k xs := fun hr hne => own_keep hr fun g hg => (hoth g (hne g hg)).trans (hb.block g (own_lt hr g hg));refine h.turn hd (Nat.le_trans hb.size hz) (fun b hbl hne => (hoth b (fun e => hne (by rw [e]; exact hn.own_p))).trans (hb.block b hbl)) (kv' := kv) (lv' := lv) (av' := v) ?_ hwf
 refine ⟨?_, hn.ge, hself, keep hn.kids fun g hg => row_ne hn.kids hn.row (by decide) g hg, ?_, keep hn.lines fun g hg => row_ne hn.lines hn.row (by decide) g hg, ?_, ?_, ?_⟩
 ·rw [ownUp_old hlt]; exact hn.own_p
 ·intro g hg; rw [ownUp_old (own_lt hn.kids g hg)]; exact hn.own_k g hg
 ·intro g hg; rw [ownUp_old (own_lt hn.lines g hg)]; exact hn.own_l g hg
 ·exact hv2.keep hz fun _ g hg => hoth g (by have := hnew g hg; omega)
 ·intro _ g hg;rw [ownUp_new (by have := hnew g hg; omega)]
theorem table_b {B : Nat} (hB : B ≤ 1000000) {w : World} {base rp : Nat} {own : Nat -> Nat} {P : List Nat} {r : Rd} (h : St F w base rp own P r) (hb : base ≤ w.heap.size) (hG : GlobX base w) (hr : Rdy B r) (t : ByteArray) (ht : t.size ≤ 1000000) :
  Calls Tryz.prog 56 #[.pointer (some ⟨rp, 0, none⟩), .string t] w (Looks F w base rp P r (r.table t)) := by
 obtain ⟨a, hc, ha⟩ := hr.cur;have hal := opn_lt ha;obtain ⟨D, hD⟩ : ∃ D, r.nd a = D := ⟨_, rfl⟩;have hDn : r.nds[a]? = some D := by rw [<- hD]; exact Rd.at_lt hal
 obtain ⟨K, hK⟩ : ∃ K, D.kind = K := ⟨_, rfl⟩;obtain ⟨rv, hrd⟩ := h.rd;have hrow := hrd.row;unfold rdCells at hrow;rw [hc, show ptrV P (some a) = Value.pointer (some ⟨ptN P a, 0, none⟩) from rfl] at hrow;have q := fun i => cell_of_row w rp i _ _ _ hrow;have hun : r.table t = if K ≠ 5 then none else match D.lines with
  | [l] => match alignsL t with
   | none => none
   | some al => if (rowL l).length ≠ al.length then none else some (r.turn a fun x => { x with kind := 10, align := al, last := r.n })
  | _ => none := by
  unfold Rd.table;rw [hc];simp only;rw [hD, hK];rfl
 have HUn := hdn hun;obtain ⟨kv, lv, av, hn⟩ := h.nodes a _ hDn;have hlines := hn.lines;have hDl : lw D.lines ≤ B := by rw [<- hD]; exact (hr.ok.nd a hal).lines
 have hrowa := hn.row;have hbge := hn.ge;have hrow2 := hrow;have hpl := (gSq.1 hrowa).1;have hrl := (gSq.1 hrow).1;unfold ndCells at hrowa;have hrowa2 := hrowa;have qa := fun i => cell_of_row w (ptN P a) i _ _ _ hrowa;rw [hK] at qa;have HS := hdn h; have HDn := hdn hDn;clear hun hD hc ha hrow hrd hrowa hn
 by_cases h5 : K = 5
 ·subst h5
  by_cases h1 : D.lines.length = 1
  ·obtain ⟨l, hl⟩ := List.length_eq_one_iff.1 h1;rw [hl] at hlines hDl;obtain ⟨g, c, rfl, hc1, hcl, hgl⟩ := own_last (ys := []) hlines;have hls : l.size ≤ 1000000 := by
    have : lw [l] = l.size + 1 := by unfold lw; simp [sumZ]
    omega
   have hmx : MaxB w := hG.glob.max;have hA := aligns_any t w ht hmx;have hRow := fun w' (hb' : Below w.heap.size w w') => row_any_b l w' hls (hmx.later hb');have HUn2 := HUn.out;rw [if_neg (by simp), hl] at HUn2;simp only at HUn2;obtain ⟨o, ho⟩ : ∃ o, alignsL t = o := ⟨_, rfl⟩;rw [ho] at hA HUn2;have hcl' : w.cell? ⟨g, 0, none⟩ = some (.string l) := hcl;have HA := hdn hA; have HRow := hdn hRow;have HRw := hdn hrowa2; have HRr := hdn hrow2;have HCl := hdn hcl'
   cases o with
   | none =>
    have HV := hdn (show r.table t = none by rw [HUn2]);clear HUn HUn2 hA hRow hcl hcl' hlines;go_enter Tryz.func56, Tryz.ntmps56;go_wp2_with (go_at_call 91; refine cMq HA.out ?_; rintro e w1 ⟨b1, rfl⟩; have HB := hdn b1; clear b1);go_ret;rw [HV.out];exact ⟨HB.out.mono hb, rfl, _, HS.out.below HB.out⟩
   | some al =>
    by_cases hn : (rowL l).length = al.length
    ·have iN : (((rowL l).length : Int) != (al.length : Int)) = false := by rw [hn]; simp
     have HV := hdn (show r.table t = some (r.upd a { D with kind := 10, align := al, last := r.n }) by
      rw [HUn2];simp only;rw [if_neg (fun h => h hn)];unfold Rd.turn;rw [Rd.nd_of HDn.out])
     clear HUn HUn2 hA hRow hcl hcl' hlines;go_enter Tryz.func56, Tryz.ntmps56;go_wp2_with (first
      | (go_at_call 91; refine cMq HA.out ?_; rintro e w1 ⟨b1, v, rfl, hv⟩; have HB1 := hdn b1; have HV1 := hdn hv; obtain ⟨A1, c1, rfl⟩ := bk_own_slice hv; have q1 := (fun i => cell_of_row w1 (ptN P a) i _ _ _ ((HB1.out.block _ hpl).trans HRw.out)); have s1 := (HB1.out.cell (p := ⟨g, 0, none⟩) hgl).trans HCl.out; clear b1 hv)
      | (go_at_call 41; refine cMq (HRow.out _ HB1.out) ?_; rintro e w2 ⟨v2, rfl, hv2, b2⟩; obtain ⟨A2, c2, rfl⟩ := bk_own_slice hv2; have HB2 := hdn (HB1.out.trans (b2.mono HB1.out.size)); have HV2 := hdn (own_keep HV1.out fun g hg => b2.block g (own_lt HV1.out g hg)); have q2 := (fun i => cell_of_row w2 (ptN P a) i _ _ _ ((HB2.out.block _ hpl).trans HRw.out)); have q2r := (fun i => cell_of_row w2 rp i _ _ _ ((HB2.out.block _ hrl).trans HRr.out)); have f2 := (fun i => show w2.frozen? ⟨ptN P a, i, none⟩ = false by simp [World.frozen?, (HB2.out.block _ hpl).trans HRw.out]); clear b2 hv2))
     go_ret;rw [HV.out];exact ⟨(((HB2.out.mono hb).setCell (p := ⟨ptN P a, 0, none⟩) hbge _).setCell (p := ⟨ptN P a, 7, none⟩) hbge _).setCell (p := ⟨ptN P a, 14, none⟩) hbge _, rfl, _, P, HS.out.table HDn.out HB2.out HV2.out r.n, fun _ _ => rfl⟩
    ·have iN : (((rowL l).length : Int) != (al.length : Int)) = true := by rw [bne_iff_ne]; omega
     have HV := hdn (show r.table t = none by
      rw [HUn2];simp only;rw [if_pos hn])
     clear HUn HUn2 hA hRow hcl hcl' hlines;go_enter Tryz.func56, Tryz.ntmps56;go_wp2_with (first
      | (go_at_call 91; refine cMq HA.out ?_; rintro e w1 ⟨b1, v, rfl, hv⟩; have HB1 := hdn b1; have HV1 := hdn hv; obtain ⟨A1, c1, rfl⟩ := bk_own_slice hv; have q1 := (fun i => cell_of_row w1 (ptN P a) i _ _ _ ((HB1.out.block _ hpl).trans HRw.out)); have s1 := (HB1.out.cell (p := ⟨g, 0, none⟩) hgl).trans HCl.out; clear b1 hv)
      | (go_at_call 41; refine cMq (HRow.out _ HB1.out) ?_; rintro e w2 ⟨v2, rfl, hv2, b2⟩; obtain ⟨A2, c2, rfl⟩ := bk_own_slice hv2; have HB2 := hdn (HB1.out.trans (b2.mono HB1.out.size)); clear b2 hv2))
     go_ret;rw [HV.out];exact ⟨HB2.out.mono hb, rfl, _, HS.out.below HB2.out⟩
  ·obtain ⟨A, c, rfl⟩ := bk_own_slice hlines;have i1 : ((D.lines.length : Int) != 1) = true := by rw [bne_iff_ne]; omega
   have HV := hdn (show r.table t = none by
    rw [HUn.out, if_neg (by simp)]
    match hm : D.lines with
    | [] => rfl
    | [l] => rw [hm] at h1; exact absurd rfl h1
    | l :: m :: n => rfl)
   clear HUn hlines h1;go_enter Tryz.func56, Tryz.ntmps56;go_wp2;go_ret;rw [HV.out];exact ⟨Below.refl _ _, rfl, _, HS.out⟩
 ·have i5 : ((K : Int) != 5) = true := by rw [bne_iff_ne]; omega
  have HV := hdn (show r.table t = none by rw [HUn.out, if_pos h5]);clear HUn h5 hlines;go_enter Tryz.func56, Tryz.ntmps56;go_wp2;go_ret;rw [HV.out];exact ⟨Below.refl _ _, rfl, _, HS.out⟩
end
section
open Go.RowKit
structure Okd (C : Nat) (q : Rd) : Prop where
 ok : Ok C q
 d0 : (q.nd 0).opn = true
theorem Okd.up {B C : Nat} {q : Rd} (h : Okd B q) (hBC : B ≤ C) : Okd C q := ⟨h.ok.up hBC, h.d0⟩
theorem Rdy.okd {B : Nat} {q : Rd} (h : Rdy B q) : Okd B q := ⟨h.ok, h.d0⟩
theorem Rdy.up {B C : Nat} {q : Rd} (h : Rdy B q) (hBC : B ≤ C) : Rdy C q := ⟨h.ok.up hBC, h.d0, h.cur⟩
theorem upd_d0 {r : Rd} {i : Nat} {d : Nd} (hi : i ≠ 0) (h : (r.nd 0).opn = true) : ((r.upd i d).nd 0).opn = true := by
 rw [Rd.upd_nd, if_neg (fun e => hi e.1)];exact h
theorem upd_d0' {r : Rd} {i : Nat} {d : Nd} (hd : d.opn = (r.nd i).opn) (h : (r.nd 0).opn = true) : ((r.upd i d).nd 0).opn = true := by
 rw [Rd.upd_nd];split
 ·rename_i e;rw [hd, e.1]; exact h
 ·exact h
def TipK (r : Rd) : Prop := ∃ tp, r.tip = some tp ∧ tp < r.nds.length ∧ (r.lzy = true -> (r.nd tp).opn = true)
theorem fresh_turn {B C : Nat} (hB : B ≤ 1000000) (hBC : B ≤ C) {r : Rd} (h : Rdy B r) (k : Nat) (h1 : 1 ≤ k) (h10 : k ≤ 10) (h4 : k ≠ 4) (hfew : r.nds.length + 1 ≤ 100000) (f : Nd -> Nd)
  (hf : ∀ D : Nd, NdOk B D -> D.kind = k -> D.opn = true -> D.lines = [] -> (f D).kids = D.kids ∧ (f D).parent = D.parent ∧ (f D).kind = D.kind ∧ ((f D).opn = true ∨ ((f D).opn = false ∧ k ≠ 5)) ∧ NdOk C (f D) ∧ B + ow (f D) ≤ C) :
  Okd C ((r.fresh (Nd.new k)).turn r.nds.length f) ∧ ((r.fresh (Nd.new k)).turn r.nds.length f).nds.length = r.nds.length + 1 := by
 obtain ⟨a, F⟩ := fresh_r hB h (new_ok B k h1 h10) hfew (fun e => absurd e h4);have hlt : r.nds.length < (r.fresh (Nd.new k)).nds.length := by rw [F.len]; omega
 unfold Rd.turn;obtain ⟨D, hD⟩ : ∃ D, (r.fresh (Nd.new k)).nd r.nds.length = D := ⟨_, rfl⟩;have hDk : D.kind = k := by rw [<- hD, F.new]; rfl
 have hDo : D.opn = true := by rw [<- hD, F.new]
 have hDl : D.lines = [] := by rw [<- hD, F.new]; rfl
 have hDn := F.rdy.ok.nd _ hlt;rw [hD] at hDn ⊢;obtain ⟨e1, e2, e3, e4, e5, e6⟩ := hf D hDn hDk hDo hDl;refine ⟨⟨F.rdy.ok.upd hlt (d := f D) (by rw [e1, hD]) (by rw [e2, hD]) hBC e5 (.inl (by rw [e3, hD])) ?_ (fun e ho => ?_) ?_, upd_d0 (by have := opn_len h.ok; omega) F.rdy.d0⟩, by rw [Rd.upd_len, F.len]⟩
 ·rcases e4 with e4 | e4
  ·exact .inl (by rw [e4, hD, hDo])
  ·refine .inr ⟨e4.1, fun j hj hp => ?_⟩;have h1 := (F.rdy.ok.par j _ hp).1;have h2 := opn_lt hj;rw [F.len] at h2;omega
 ·rcases e4 with e4 | e4
  ·rw [e4] at ho; cases ho
  ·rw [e3, hDk] at e; exact absurd e e4.2
 ·have := F.rdy.ok.refs;omega
theorem Rdy.line {B : Nat} {r q : Rd} (h : Rdy B r) (hn : q.nds = r.nds) (hr : q.refs = r.refs) (hm : q.n = r.n) (hc : q.cur = r.cur) : Rdy B q := by
 have he : ∀ i, q.nd i = r.nd i := fun i => by unfold Rd.nd; rw [hn]
 obtain ⟨a, h1, h2⟩ := h.cur;exact ⟨h.ok.same hn (by rw [hr]; exact Nat.le_refl _) (by rw [hm]; exact h.ok.nn), by rw [he]; exact h.d0, a, by rw [hc]; exact h1, by rw [he]; exact h2⟩
theorem Rdy.cut {B : Nat} {r : Rd} (h : Rdy B r) (n : Nat) : Rdy B (r.cut n) := h.line rfl rfl rfl rfl
theorem Rdy.pass {B : Nat} {r : Rd} (h : Rdy B r) (n : Nat) : Rdy B (r.pass n) := h.line rfl rfl rfl rfl
theorem ow_le {B C : Nat} {d : Nd} (hk : d.kind ≠ 5) (h : B ≤ C) : B + ow d ≤ C := by rw [ow_other hk]; exact h
theorem head_ok {B : Nat} (hB : B ≤ 1000000) {r q : Rd} (h : Rdy B r) (hfew : r.nds.length + 1 ≤ 100000) {t : ByteArray} (hq : r.head t = some q) : Okd B q ∧ q.nds.length = r.nds.length + 1 := by
 unfold Rd.head at hq;split at hq
 ·cases hq
 ·cases hq
  refine fresh_turn hB (Nat.le_refl _) h 6 (by decide) (by decide) (by decide) hfew _ fun D hD hk ho hl => ⟨rfl, rfl, rfl, .inr ⟨rfl, by decide⟩, ⟨hD.asc, hD.lines, hD.kind, fun e => ?_, hD.num, hD.ind, hD.html⟩, ?_⟩
  ·have e : D.kind ≤ 4 ∨ D.kind = 10 ∨ (false = true ∧ (D.kind = 5 ∨ D.kind = 7)) := e;rcases e with e | e | e
   ·omega
   ·omega
   ·cases e.1
  ·rw [ow_closed rfl]; exact Nat.le_refl _
theorem rule_ok {B : Nat} (hB : B ≤ 1000000) {r q : Rd} (h : Rdy B r) (hfew : r.nds.length + 1 ≤ 100000) {t : ByteArray} (hq : r.rule t = some q) : Okd B q ∧ q.nds.length = r.nds.length + 1 := by
 unfold Rd.rule at hq;split at hq
 ·cases hq
  refine fresh_turn hB (Nat.le_refl _) h 9 (by decide) (by decide) (by decide) hfew _ fun D hD hk ho hl => ⟨rfl, rfl, rfl, .inr ⟨rfl, by decide⟩, ⟨hD.asc, hD.lines, hD.kind, fun e => ?_, hD.num, hD.ind, hD.html⟩, ?_⟩
  ·have e : D.kind ≤ 4 ∨ D.kind = 10 ∨ (false = true ∧ (D.kind = 5 ∨ D.kind = 7)) := e;rcases e with e | e | e
   ·omega
   ·omega
   ·cases e.1
  ·rw [ow_closed rfl]; exact Nat.le_refl _
 ·cases hq
theorem fenced_ok {B : Nat} (hB : B ≤ 1000000) {r q : Rd} (h : Rdy B r) (hfew : r.nds.length + 1 ≤ 100000) {t : ByteArray} {w : Nat} (hw : w ≤ 1000000) (hq : r.fenced t w = some q) : Okd B q ∧ q.nds.length = r.nds.length + 1 := by
 unfold Rd.fenced at hq;split at hq
 ·cases hq
 ·rename_i c n i _
  cases hq
  refine fresh_turn hB (Nat.le_refl _) h 7 (by decide) (by decide) (by decide) hfew _ fun D hD hk ho hl => ⟨rfl, rfl, rfl, .inl ho, ⟨hD.asc, hD.lines, hD.kind, fun _ => hD.txt (.inr (.inr ⟨ho, .inr hk⟩)), hD.num, ⟨hD.ind.1, hD.ind.2.1, by show (0 : Int) ≤ (w : Int); omega, by show (w : Int) ≤ 10000000; omega⟩, ⟨hD.html.1, hD.html.2.1, c.toNat_lt⟩⟩, ow_le (show D.kind ≠ 5 by omega) (Nat.le_refl _)⟩
theorem html_ok {B C : Nat} (hC : C ≤ 1000000) {r q : Rd} (h : Rdy B r) (hfew : r.nds.length + 1 ≤ 100000) (hBC : B + r.pot + 1 ≤ C) {t : ByteArray} (hq : r.html t = some q) : Okd C q ∧ q.nds.length = r.nds.length + 1 := by
 have hk7 := htmlN_le t.data.toList;have hrp := r.rest_pot;unfold Rd.html at hq;simp only at hq;split at hq
 ·cases hq
 ·injection hq with hq;obtain ⟨k, hk⟩ : ∃ k, htmlN t.data.toList = k := ⟨_, rfl⟩;rw [hk] at hq hk7;have hft := fresh_turn (by omega) (show B ≤ C by omega) h 8 (by decide) (by decide) (by decide) hfew (fun x => { x with html := k, lines := [r.rest] }) fun D hD hk ho hl => ⟨rfl, rfl, rfl, .inl ho, ⟨hD.asc, by
   show sumZ [r.rest] + 1 ≤ C;rw [show sumZ [r.rest] = r.rest.size by simp [sumZ]]; omega, hD.kind, fun e => by
    have e : D.kind ≤ 4 ∨ D.kind = 10 ∨ (D.opn = true ∧ (D.kind = 5 ∨ D.kind = 7)) := e;omega, hD.num, hD.ind, ⟨by show (0 : Int) ≤ (k : Int); omega, by show (k : Int) ≤ 7; omega, hD.html.2.2⟩⟩, ow_le (show D.kind ≠ 5 by omega) (by omega)⟩
  obtain ⟨r2, hr2⟩ : ∃ r2, ((r.fresh (Nd.new 8)).turn r.nds.length fun x => { x with html := k, lines := [r.rest] }) = r2 := ⟨_, rfl⟩;obtain ⟨a, F⟩ := fresh_r (by omega) h (new_ok B 8 (by decide) (by decide)) hfew (fun e => by cases e);have ho2 : (r2.nd r.nds.length).opn = true := by
   rw [<- hr2];unfold Rd.turn;rw [Rd.upd_nd, if_pos ⟨rfl, by rw [F.len]; omega⟩, F.new]
  rw [hr2] at hft hq;have h0 := opn_len h.ok;split at hq
  ·obtain ⟨c1, _, _, c4, c5⟩ := close_facts hC hft.1.ok (by rw [hft.2]; omega) ho2;rw [<- hq];exact ⟨⟨c1, by rw [c5 0 (by omega)]; exact hft.1.d0⟩, by rw [c4.len, hft.2]⟩
  ·rw [<- hq]; exact hft
theorem code_ok {B C : Nat} (hC : C ≤ 1000000) {r : Rd} (h : Rdy B r) (hfew : r.nds.length + 1 ≤ 100000) (hBC : B + r.pot + 1 ≤ C) (t : ByteArray) : ((r.code t).2 = 0 ∧ (r.code t).1 = r) ∨ ((r.code t).2 = 2 ∧ Okd C (r.code t).1 ∧ (r.code t).1.nds.length = r.nds.length + 1) := by
 unfold Rd.code;split
 ·exact .inl ⟨rfl, rfl⟩
 ·refine .inr ⟨rfl, ?_⟩;have hcp := r.cut_pot 4;obtain ⟨r1, hr1⟩ : ∃ r1, r.cut 4 = r1 := ⟨_, rfl⟩;have hl1 : r1.nds = r.nds := by rw [<- hr1]; rfl
  have hR1 : Rdy B r1 := by rw [<- hr1]; exact h.cut 4
  simp only;rw [hr1] at hcp ⊢;rw [<- hl1] at hfew ⊢;obtain ⟨a, F⟩ := fresh_r (by omega) hR1 (new_ok B 7 (by decide) (by decide)) hfew (fun e => by cases e);have hrp := r1.rest_pot;rw [F.rest];exact fresh_turn (by omega) (show B ≤ C by omega) hR1 7 (by decide) (by decide) (by decide) hfew (fun x => { x with lines := [r1.rest] }) fun D hD hk ho hl => ⟨rfl, rfl, rfl, .inl ho, ⟨hD.asc, by
   show sumZ [r1.rest] + 1 ≤ C;rw [show sumZ [r1.rest] = r1.rest.size by simp [sumZ]]; omega, hD.kind, fun _ => hD.txt (.inr (.inr ⟨ho, .inr hk⟩)), hD.num, hD.ind, hD.html⟩, ow_le (show D.kind ≠ 5 by omega) (by omega)⟩
theorem table_ok {B : Nat} {r q : Rd} (h : Rdy B r) {t : ByteArray} (hq : r.table t = some q) : Okd B q ∧ q.nds.length = r.nds.length := by
 obtain ⟨a, hc, ha⟩ := h.cur;have hal := opn_lt ha;unfold Rd.table at hq;rw [hc] at hq;simp only at hq;split at hq
 ·cases hq
 ·rename_i h5;have h5 : (r.nd a).kind = 5 := Decidable.not_not.1 h5;split at hq
  ·split at hq
   ·cases hq
   ·split at hq
    ·cases hq
    ·cases hq
     have hD := h.ok.nd a hal;have hn := h.ok.nn;unfold Rd.turn;refine ⟨⟨h.ok.upd hal (d := { r.nd a with kind := 10, align := _, last := r.n }) rfl rfl (Nat.le_refl _) ⟨hD.asc, hD.lines, ⟨by show 1 ≤ 10; decide, by show 10 ≤ 10; decide⟩, fun _ => hD.txt (.inr (.inr ⟨ha, .inl h5⟩)), ⟨hD.num.1, hD.num.2.1, by show (0 : Int) ≤ (r.n : Int); omega, by show (r.n : Int) ≤ 1000000; omega⟩, hD.ind, hD.html⟩ (.inr ⟨h5, by show 10 ≠ 4; decide⟩) (.inl rfl) (fun e => by cases e) ?_, upd_d0' rfl h.d0⟩, Rd.upd_len _ _ _⟩
     rw [ow_other (show Nd.kind { r.nd a with kind := 10, align := _, last := (r.n : Int) } ≠ 5 by show 10 ≠ 5; decide)];have := h.ok.refs;omega
  ·cases hq
theorem par_no {B : Nat} {r : Rd} (h : Ok B r) {a : Nat} (h5 : 4 < (r.nd a).kind) : ∀ j, (r.nd j).opn = true -> (r.nd j).parent ≠ some a := fun j _ hp => by
 have := (h.par j a hp).2;omega
theorem undef_ok {B : Nat} {r : Rd} (h : Ok B r) {a : Nat} (ha : (r.nd a).opn = true) (h5 : (r.nd a).kind = 5) {X : ByteArray × List RefT} (hX : defineF (joinN (r.nd a).lines).size (joinN (r.nd a).lines) r.refs = X) :
  Ok B { (r.upd a { r.nd a with lines := [] }) with refs := X.2 } := by
 have hal := opn_lt ha;have hD := h.nd a hal;have hl := defineF_len (joinN (r.nd a).lines).size (joinN (r.nd a).lines) r.refs;rw [hX] at hl;have hj := joinN_size (r.nd a).lines;have ho := openW_upd hal { r.nd a with lines := [] };have how : ow (r.nd a) = lw (r.nd a).lines := ow_of h5 ha;have hn0 : ow { r.nd a with lines := [] } = 0 := by rw [ow_of (d := { r.nd a with lines := [] }) h5 ha]; rfl
 have hr := h.refs;have h1 : Ok B (r.upd a { r.nd a with lines := [] }) := h.upd hal (d := { r.nd a with lines := [] }) rfl rfl (Nat.le_refl _) ⟨hD.asc, Nat.zero_le _, hD.kind, hD.txt, hD.num, hD.ind, hD.html⟩ (.inl rfl) (.inl rfl) (fun _ ho => by rw [show Nd.opn { r.nd a with lines := [] } = true from ha] at ho; cases ho) (by rw [hn0]; omega);exact h1.withRefs _ (by rw [hn0] at ho; omega)
theorem under_ok {B : Nat} {r : Rd} (h : Rdy B r) (t : ByteArray) : (r.under t).1.nds.length = r.nds.length ∧ (((r.under t).2 = false ∧ Rdy B (r.under t).1 ∧ (r.under t).1.tip = r.tip ∧ (r.under t).1.rest = r.rest ∧ (r.under t).1.col = r.col ∧ (∀ j, ((r.under t).1.nd j).opn = (r.nd j).opn) ∧ (r.under t).1.lzy = r.lzy) ∨ ((r.under t).2 = true ∧ Okd B (r.under t).1)) := by
 obtain ⟨a, hc, ha⟩ := h.cur;have hal := opn_lt ha;have hD := h.ok.nd a hal;have hn := h.ok.nn;unfold Rd.under;rw [hc];simp only;split
 ·exact ⟨rfl, .inl ⟨rfl, h, rfl, rfl, rfl, fun _ => rfl, rfl⟩⟩
 ·rename_i h5;have h5 : (r.nd a).kind = 5 := by omega
  obtain ⟨X, hX⟩ : ∃ X, defineF (joinN (r.nd a).lines).size (joinN (r.nd a).lines) r.refs = X := ⟨_, rfl⟩;have hu := undef_ok h.ok ha h5 hX;rw [hX];obtain ⟨r1, hr1⟩ : ∃ r1, ({ (r.turn a fun d => { d with lines := [] }) with refs := X.2 } : Rd) = r1 := ⟨_, rfl⟩;have hr1' : ({ (r.upd a { r.nd a with lines := [] }) with refs := X.2 } : Rd) = r1 := hr1;rw [hr1'] at hu;rw [hr1];have hl1 : r1.nds.length = r.nds.length := by rw [<- hr1']; exact Rd.upd_len _ _ _
  have hnd : ∀ j, r1.nd j = if a = j ∧ a < r.nds.length then { r.nd a with lines := [] } else r.nd j := fun j => by rw [<- hr1']; exact Rd.upd_nd r a j _
  have hna : r1.nd a = { r.nd a with lines := [] } := by rw [hnd, if_pos ⟨rfl, hal⟩]
  have hd0 : (r1.nd 0).opn = true := by
   rw [hnd];split
   ·exact ha
   ·exact h.d0
  have hop : ∀ j, (r1.nd j).opn = (r.nd j).opn ∧ (r1.nd j).kind = (r.nd j).kind := fun j => by
   rw [hnd];split
   ·rename_i e; rw [<- e.1]; exact ⟨rfl, rfl⟩
   ·exact ⟨rfl, rfl⟩
  split
  ·exact ⟨hl1, .inl ⟨rfl, ⟨hu, hd0, a, by rw [<- hr1']; exact hc, by rw [(hop a).1]; exact ha⟩, by rw [<- hr1']; rfl, by rw [<- hr1']; rfl, by rw [<- hr1']; rfl, fun j => (hop j).1, by rw [<- hr1']; rfl⟩⟩
  ·have hal1 : a < r1.nds.length := by rw [hl1]; exact hal
   have hk1 : (r1.nd a).kind = 5 := by rw [(hop a).2]; exact h5
   have ho1 : (r1.nd a).opn = true := by rw [(hop a).1]; exact ha
   have hD1 := hu.nd a hal1;have ha0 : a ≠ 0 := fun e => by
    have := h.ok.d1;rw [e] at h5;omega
   refine ⟨by unfold Rd.turn; rw [Rd.upd_len, hl1], .inr ⟨rfl, ?_⟩⟩;unfold Rd.turn;refine ⟨hu.upd hal1 (d := { r1.nd a with kind := 6, level := _, text := _, last := r.n, opn := false }) rfl rfl (Nat.le_refl _) ⟨hD1.asc, hD1.lines, ⟨by show 1 ≤ 6; decide, by show 6 ≤ 10; decide⟩, fun e => ?_, ⟨hD1.num.1, hD1.num.2.1, by show (0 : Int) ≤ (r.n : Int); omega, by show (r.n : Int) ≤ 1000000; omega⟩, hD1.ind, hD1.html⟩ (.inr ⟨hk1, by show 6 ≠ 4; decide⟩) (.inr ⟨rfl, par_no hu (by omega)⟩) (fun e => by cases e) ?_, upd_d0 ha0 hd0⟩
   ·have e : 6 ≤ 4 ∨ 6 = 10 ∨ (false = true ∧ (6 = 5 ∨ 6 = 7)) := e;rcases e with e | e | e
    ·omega
    ·omega
    ·cases e.1
   ·rw [ow_closed rfl];have := hu.refs;omega
theorem quote_ok {B : Nat} (hB : B ≤ 1000000) {r : Rd} (h : Rdy B r) (hfew : r.nds.length + 1 ≤ 100000) (ht : 1 ≤ r.bareT.size) : r.quote.2 = 1 ∧ Rdy B r.quote.1 ∧ r.quote.1.nds.length = r.nds.length + 1 ∧ r.quote.1.pot ≤ r.pot ∧ r.quote.1.nb + 1 ≤ r.nb ∧ TipK r.quote.1 := by
 have h1 := (r.pass 1).cut_pot 1;have h2 := r.pass_pot 1 ht;have h3 := (r.pass 1).cut_nb 1;have h4 := r.pass_nb 1 (Nat.le_refl _) ht;obtain ⟨r1, hr1⟩ : ∃ r1, (r.pass 1).cut 1 = r1 := ⟨_, rfl⟩;have hl1 : r1.nds = r.nds := by rw [<- hr1]; rfl
 have hR1 : Rdy B r1 := by rw [<- hr1]; exact (h.pass 1).cut 1
 unfold Rd.quote;rw [hr1] at h1 h3 ⊢;obtain ⟨a, F⟩ := fresh_r hB hR1 (new_ok B 2 (by decide) (by decide)) (by rw [hl1]; exact hfew) (fun e => by cases e);have ho : ((r1.fresh (Nd.new 2)).nd r1.nds.length).opn = true := by rw [F.new]
 refine ⟨rfl, ⟨F.rdy.ok.same rfl (Nat.le_refl _) F.rdy.ok.nn, F.rdy.d0, _, rfl, ho⟩, F.len.trans (by rw [hl1]), ?_, ?_, ?_⟩
 ·have e : ({ (r1.fresh (Nd.new 2)) with cur := some r1.nds.length } : Rd).pot = r1.pot := by
   show (r1.fresh (Nd.new 2)).col + wz (r1.fresh (Nd.new 2)).rest.data.toList = _;rw [F.col, F.rest]; rfl
  rw [e]; omega
 ·have e : ({ (r1.fresh (Nd.new 2)) with cur := some r1.nds.length } : Rd).nb = r1.nb := by
   show nbl (r1.fresh (Nd.new 2)).rest.data.toList = _;rw [F.rest]; rfl
  rw [e]; omega
 ·exact ⟨_, F.tip, by show _ < (r1.fresh (Nd.new 2)).nds.length; rw [F.len]; omega, fun _ => ho⟩
theorem itemR3_line {B : Nat} (hB : B ≤ 1000000) {r2 : Rd} (h : Rdy B r2) (c : UInt8) (start : Int) (hfew : r2.nds.length + 1 ≤ 100000) : (itemR3 r2 c start).rest = r2.rest ∧ (itemR3 r2 c start).col = r2.col := by
 unfold itemR3;split
 ·obtain ⟨a, F⟩ := fresh_r hB h (new_list B c.toNat start) hfew (fun e => by cases e);exact ⟨F.rest, F.col⟩
 ·exact ⟨rfl, rfl⟩
theorem item_ok {B : Nat} (hB : B ≤ 1000000) {r : Rd} (h : Rdy B r) (hfew : r.nds.length + 2 ≤ 100000) (hp : r.pot ≤ 1000000) (w : Nat) (hw : w ≤ 1000000) : ((r.item r.bareT w).2 = 0 ∧ (r.item r.bareT w).1 = r) ∨ ((r.item r.bareT w).2 = 1 ∧ Rdy B (r.item r.bareT w).1 ∧ (r.item r.bareT w).1.nds.length ≤ r.nds.length + 2 ∧ (r.item r.bareT w).1.pot ≤ r.pot ∧ (r.item r.bareT w).1.nb + 1 ≤ r.nb ∧ TipK (r.item r.bareT w).1) := by
 cases hi : itemN r.bareT.data.toList with
 | none =>
  left;have e : r.item r.bareT w = (r, 0) := by unfold Rd.item; rw [hi]
  rw [e]; exact ⟨rfl, rfl⟩
 | some x =>
  obtain ⟨c, start, width⟩ := x;have hwl := itemN_le hi;have hbl : r.bareT.data.toList.length = r.bareT.size := lTq;have hbs := r.bare_size;have hV : itemV (r.pass width) ≤ 5 := by
   unfold itemV;split
   ·omega
   ·rename_i h; omega
  rw [item_eq r r.bareT w hi];split
  ·exact .inl ⟨rfl, rfl⟩
  ·right;have h1 := (r.pass width).cut_pot (itemV (r.pass width));have h2 := r.pass_pot width (by omega);have h3 := (r.pass width).cut_nb (itemV (r.pass width));have h4 := r.pass_nb width hwl.1 (by omega);obtain ⟨V, hVe⟩ : ∃ V, itemV (r.pass width) = V := ⟨_, rfl⟩;rw [hVe] at h1 h3 hV ⊢;obtain ⟨r2, hr2⟩ : ∃ r2, (r.pass width).cut V = r2 := ⟨_, rfl⟩;have hl2 : r2.nds = r.nds := by rw [<- hr2]; rfl
   have hR2 : Rdy B r2 := by rw [<- hr2]; exact (h.pass width).cut V
   rw [hr2] at h1 h3 ⊢;obtain ⟨g1, g2, g3⟩ := itemR3_rdy hB hR2 c start (by rw [hl2]; omega);obtain ⟨k1, k2⟩ := itemR3_line hB hR2 c start (by rw [hl2]; omega);obtain ⟨r3, hr3⟩ : ∃ r3, itemR3 r2 c start = r3 := ⟨_, rfl⟩;rw [hr3] at g1 g2 g3 k1 k2 ⊢;rw [hl2] at g3;obtain ⟨a, F⟩ := fresh_r hB g1 (new_item B (w + width + V) (by omega)) (by omega) (fun _ => g2);have ho : ((r3.fresh { Nd.new 4 with indent := ((w + width + V : Nat) : Int) }).nd r3.nds.length).opn = true := by rw [F.new]
   refine ⟨rfl, ⟨F.rdy.ok.same rfl (Nat.le_refl _) F.rdy.ok.nn, F.rdy.d0, _, rfl, ho⟩, ?_, ?_, ?_, ?_⟩
   ·show (r3.fresh _).nds.length ≤ _;rw [F.len]; omega
   ·have e : ({ (r3.fresh { Nd.new 4 with indent := ((w + width + V : Nat) : Int) }) with cur := some r3.nds.length } : Rd).pot = r2.pot := by
     show (r3.fresh _).col + wz (r3.fresh _).rest.data.toList = _;rw [F.col, F.rest, k1, k2]; rfl
    rw [e]; omega
   ·have e : ({ (r3.fresh { Nd.new 4 with indent := ((w + width + V : Nat) : Int) }) with cur := some r3.nds.length } : Rd).nb = r2.nb := by
     show nbl (r3.fresh _).rest.data.toList = _;rw [F.rest, k1]; rfl
    rw [e]; omega
   ·exact ⟨_, F.tip, by show _ < (r3.fresh _).nds.length; rw [F.len]; omega, fun _ => ho⟩
structure LookR (B C : Nat) (r : Rd) (x : Rd × Nat) : Prop where
 res : x.2 = 0 ∨ x.2 = 1 ∨ x.2 = 2
 okd : Okd C x.1
 len : x.1.nds.length ≤ r.nds.length + 2
 go : x.2 ≠ 2 -> Rdy B x.1 ∧ x.1.pot ≤ r.pot ∧ TipK x.1
 again : x.2 = 1 -> x.1.nb + 1 ≤ r.nb
theorem look_ok {B C : Nat} (hC : C ≤ 1000000) {r : Rd} (h : Rdy B r) (hfew : r.nds.length + 2 ≤ 100000) (hp : r.pot ≤ 1000000) (hBC : B + r.pot + 1 ≤ C) (htip : TipK r) : LookR B C r r.look := by
 have hB : B ≤ 1000000 := by omega
 have hBC2 : B ≤ C := by omega
 have hbs := r.bare_size;have done : ∀ q : Rd, Okd C q -> q.nds.length ≤ r.nds.length + 2 -> LookR B C r (q, 2) := fun q h1 h2 => ⟨.inr (.inr rfl), h1, h2, fun e => absurd rfl e, fun e => by cases e⟩;unfold Rd.look;simp only;split
 ·rcases code_ok hC h (by omega) hBC r.bareT with ⟨h1, h2⟩ | ⟨h1, h2, h3⟩
  ·exact ⟨.inl h1, by rw [h2]; exact h.okd.up hBC2, by rw [h2]; omega, fun _ => by rw [h2]; exact ⟨h, Nat.le_refl _, htip⟩, fun e => by rw [h1] at e; cases e⟩
  ·exact ⟨.inr (.inr h1), h2, by omega, fun e => absurd h1 e, fun e => by rw [h1] at e; cases e⟩
 ·split
  ·rename_i hq;have h1 : 1 ≤ r.bareT.size := by
    have hbl : r.bareT.data.toList.length = r.bareT.size := lTq
    cases hl : r.bareT.data.toList with
    | nil => rw [hl] at hq; cases hq
    | cons b l => rw [hl] at hbl; simp at hbl; omega
   obtain ⟨q1, q2, q3, q4, q5, q6⟩ := quote_ok hB h (by omega) h1;exact ⟨.inr (.inl q1), q2.okd.up hBC2, by omega, fun _ => ⟨q2, q4, q6⟩, fun _ => q5⟩
  ·cases h1 : r.head r.bareT with
   | some q => exact done q ((head_ok hB h (by omega) h1).1.up hBC2) (by have := (head_ok hB h (by omega) h1).2; omega)
   | none =>
    simp only
    cases h2 : r.fenced r.bareT r.bareW with
    | some q => exact done q ((fenced_ok hB h (by omega) (by omega) h2).1.up hBC2) (by have := (fenced_ok hB h (by omega) (by omega) h2).2; omega)
    | none =>
     simp only
     cases h3 : r.html r.bareT with
     | some q => exact done q (html_ok hC h (by omega) hBC h3).1 (by have := (html_ok hC h (by omega) hBC h3).2; omega)
     | none =>
      simp only
      cases h4 : r.table r.bareT with
      | some q => exact done q ((table_ok h h4).1.up hBC2) (by have := (table_ok h h4).2; omega)
      | none =>
       simp only;obtain ⟨u1, u2⟩ := under_ok h r.bareT;rcases u2 with ⟨u2, u3, u4, u5, u6, u7, u8⟩ | ⟨u2, u3⟩
       ·rw [if_neg (by rw [u2]; exact Bool.false_ne_true)];obtain ⟨q, hq⟩ : ∃ q, (r.under r.bareT).1 = q := ⟨_, rfl⟩;rw [hq] at u1 u3 u4 u5 u6 u7 u8 ⊢;have hqt : TipK q := by
         obtain ⟨tp, t1, t2, t3⟩ := htip;exact ⟨tp, by rw [u4]; exact t1, by omega, fun e => by rw [u7]; exact t3 (by rw [<- u8]; exact e)⟩
        have hqb : q.bareT = r.bareT := by unfold Rd.bareT; rw [u5]
        have hqp : q.pot = r.pot := by unfold Rd.pot; rw [u5, u6]
        have hqn : q.nb = r.nb := by unfold Rd.nb; rw [u5]
        cases h5 : q.rule r.bareT with
        | some q2 => exact done q2 ((rule_ok hB u3 (by omega) h5).1.up hBC2) (by have := (rule_ok hB u3 (by omega) h5).2; omega)
        | none =>
         simp only;have hit := item_ok hB u3 (by omega) (by omega) r.bareW (by omega);rw [hqb] at hit;rcases hit with ⟨i1, i2⟩ | ⟨i1, i2, i3, i4, i5, i6⟩
         ·exact ⟨.inl i1, by rw [i2]; exact u3.okd.up hBC2, by rw [i2]; omega, fun _ => by rw [i2]; exact ⟨u3, by omega, hqt⟩, fun e => by rw [i1] at e; cases e⟩
         ·exact ⟨.inr (.inl i1), i2.okd.up hBC2, by omega, fun _ => ⟨i2, by omega, i6⟩, fun _ => by omega⟩
       ·rw [if_pos u2];exact done _ (u3.up hBC2) (by omega)
theorem push_line {B C : Nat} {r : Rd} (h : Okd B r) {b : Nat} (hb : b < r.nds.length) (_ : 5 ≤ (r.nd b).kind) (ho : (r.nd b).kind = 5 -> (r.nd b).opn = true) (x : ByteArray) (hBC : B + x.size + 1 ≤ C) (l : Int) (hl : 0 ≤ l ∧ l ≤ 1000000) :
  Okd C (r.upd b { r.nd b with lines := (r.nd b).lines ++ [x], last := l }) := by
 have hD := h.ok.nd b hb;have hs := hD.lines;have hs2 : lw ((r.nd b).lines ++ [x]) = lw (r.nd b).lines + x.size + 1 := by
  unfold lw;rw [sumZ_snocK, List.length_append];simp;omega
 refine ⟨h.ok.upd hb (d := { r.nd b with lines := (r.nd b).lines ++ [x], last := l }) rfl rfl (by omega) ⟨hD.asc, ?_, hD.kind, hD.txt, ⟨hD.num.1, hD.num.2.1, hl.1, hl.2⟩, hD.ind, hD.html⟩ (.inl rfl) (.inl rfl) (fun e e2 => ?_) ?_, upd_d0' rfl h.d0⟩
 ·show lw ((r.nd b).lines ++ [x]) ≤ C;omega
 ·have e2 : (r.nd b).opn = false := e2;rw [ho e] at e2
  cases e2
 ·have hr := h.ok.refs
  by_cases h5 : (r.nd b).kind = 5
  ·rw [ow_of h5 (ho h5), ow_of (d := { r.nd b with lines := (r.nd b).lines ++ [x], last := l }) h5 (ho h5)];show _ + lw ((r.nd b).lines ++ [x]) ≤ _;omega
  ·rw [ow_other (d := { r.nd b with lines := (r.nd b).lines ++ [x], last := l }) h5];omega
theorem left_ok {B C : Nat} (hC : C ≤ 1000000) {r : Rd} (h : Rdy B r) (hfew : r.nds.length + 1 ≤ 100000) (hBC : B + r.pot + 1 ≤ C) (htip : TipK r) :
  Okd C r.left ∧ r.left.nds.length ≤ r.nds.length + 1 := by
 have hB : B ≤ 1000000 := by omega
 obtain ⟨tp, htp, htl, hto⟩ := htip;have hrp := r.rest_pot;have hbs := r.bare_size;obtain ⟨a, hc, ha⟩ := h.cur;have hal := opn_lt ha;obtain ⟨bb, hbb⟩ : ∃ bb, (if leftB r r.bareT = true then tp else a) = bb := ⟨_, rfl⟩;obtain ⟨r1, hr1⟩ : ∃ r1, (if leftB r r.bareT = true then r else r.settle) = r1 := ⟨_, rfl⟩;obtain ⟨d, hd⟩ : ∃ d, r1.nd bb = d := ⟨_, rfl⟩;have hleft := left_eq hc htp hbb hr1 hd;obtain ⟨s1, s2, s3, s4, s5⟩ := settle_facts hB h.ok hc ha;have hlen1 : r1.nds.length = r.nds.length := by rw [<- hr1]; split; rfl; exact s4.len
 have hrest1 : r1.rest = r.rest := by rw [<- hr1]; split; rfl; exact s4.rest
 have hn1 : r1.n = r.n := by rw [<- hr1]; split; rfl; exact s4.n
 have hok1 : Ok B r1 := by rw [<- hr1]; split; exact h.ok; exact s1
 have hcur1 : r1.cur = some a := by rw [<- hr1]; split; exact hc; exact s4.cur.trans hc
 have hao1 : (r1.nd a).opn = true := by rw [<- hr1]; split; exact ha; exact (s5 a (Nat.le_refl _)).trans ha
 have hd01 : (r1.nd 0).opn = true := by rw [<- hr1]; split; exact h.d0; exact (s5 0 (Nat.zero_le _)).trans h.d0
 have hrdy1 : Rdy B r1 := ⟨hok1, hd01, a, hcur1, hao1⟩;have hbbl : bb < r1.nds.length := by rw [hlen1, <- hbb]; split; exact htl; exact hal
 have hnn := hok1.nn;have hdl := (hok1.nd bb hbbl).num;have hko : (d.kind = 5 ∨ d.kind = 8) -> d.opn = true := fun h8 => by
  rw [<- hd]
  by_cases hl : leftB r r.bareT = true
  ·have hl2 := hl;unfold leftB at hl2;simp at hl2;rw [if_pos hl] at hbb hr1;rw [<- hbb, <- hr1];exact hto hl2.1.1
  ·rw [if_neg hl] at hbb;rw [<- hbb]; exact hao1
 rw [hleft];have hokd : Okd B r1 := hrdy1.okd;rw [hd] at hdl;split
 ·rename_i h7;refine ⟨?_, by rw [Rd.upd_len]; omega⟩;have h1 := push_line (C := C) hokd hbbl (by rw [hd]; omega) (fun e => by rw [hd] at e; omega) r1.rest (by rw [hrest1]; omega) (if 0 < d.fm ∨ r.bareT.size ≠ 0 then r1.n else d.last) (by split <;> omega);rw [hd] at h1;exact h1
 ·split
  ·rename_i h7 h8;have h1 := push_line (C := C) hokd hbbl (by rw [hd]; omega) (fun e => by rw [hd] at e; omega) r1.rest (by rw [hrest1]; omega) r1.n (by omega);rw [hd] at h1;have hl9 := Rd.upd_len r1 bb { d with lines := d.lines ++ [r1.rest], last := r1.n };split
   ·have ho9 : ((r1.upd bb { d with lines := d.lines ++ [r1.rest], last := r1.n }).nd bb).opn = true := by
     rw [Rd.upd_nd, if_pos ⟨rfl, hbbl⟩];exact hko (.inr h8)
    obtain ⟨c1, _, _, c4, c5⟩ := close_facts hC h1.ok (by rw [hl9]; exact hbbl) ho9;have hb0 : bb ≠ 0 := fun e => by
     have := hok1.d1;rw [e] at hd;rw [hd] at this;omega
    exact ⟨⟨c1, by rw [c5 0 (by omega)]; exact h1.d0⟩, by rw [c4.len, hl9]; omega⟩
   ·exact ⟨h1, by rw [hl9]; omega⟩
  ·split
   ·rename_i h7 h8 h5;refine ⟨?_, by rw [Rd.upd_len]; omega⟩;have h1 := push_line (C := C) hokd hbbl (by rw [hd]; omega) (fun e => by rw [hd] at e ⊢; exact hko (.inl e)) r.bareT (by omega) r1.n (by omega);rw [hd] at h1;exact h1
   ·split
    ·have hft := fresh_turn hB (show B ≤ C by omega) hrdy1 5 (by decide) (by decide) (by decide) (by omega) (fun x => { x with lines := [r.bareT] }) fun D hD hk ho hl => ⟨rfl, rfl, rfl, .inl ho, ⟨hD.asc, by
      show sumZ [r.bareT] + 1 ≤ C;rw [show sumZ [r.bareT] = r.bareT.size by simp [sumZ]]; omega, hD.kind, fun _ => hD.txt (.inr (.inr ⟨ho, .inl hk⟩)), hD.num, hD.ind, hD.html⟩, by
      rw [ow_of (d := { D with lines := [r.bareT] }) hk ho];show B + (sumZ [r.bareT] + 1) ≤ C;rw [show sumZ [r.bareT] = r.bareT.size by simp [sumZ]]; omega⟩
     exact ⟨hft.1, by rw [hft.2]; omega⟩
    ·exact ⟨hokd.up (by omega), by omega⟩
structure GoesK (B : Nat) (r : Rd) (x : Rd × Bool × Bool) : Prop where
 okd : Okd B x.1
 len : x.1.nds.length = r.nds.length
 go : x.2.2 = false -> (∀ j, (x.1.nd j).opn = (r.nd j).opn) ∧ x.1.cur = r.cur ∧ x.1.pot ≤ r.pot ∧ x.1.nb ≤ r.nb
theorem GoesK.line {B : Nat} {r q : Rd} (h : Okd B r) (hn : q.nds = r.nds) (hr : q.refs = r.refs) (hm : q.n = r.n) (hc : q.cur = r.cur) (hp : q.pot ≤ r.pot) (hnb : q.nb ≤ r.nb) (b1 b2 : Bool) : GoesK B r (q, b1, b2) := by
 have he : ∀ i, q.nd i = r.nd i := fun i => by unfold Rd.nd; rw [hn]
 exact ⟨⟨h.ok.same hn (by rw [hr]; exact Nat.le_refl _) (by rw [hm]; exact h.ok.nn), by show (q.nd 0).opn = true; rw [he]; exact h.d0⟩, by show q.nds.length = _; rw [hn], fun _ => ⟨fun j => by show (q.nd j).opn = _; rw [he], hc, hp, hnb⟩⟩
theorem last_ok {B : Nat} {r : Rd} (h : Okd B r) {k : Nat} (hk : k < r.nds.length) : Okd B (r.upd k { r.nd k with last := r.n }) := by
 have hD := h.ok.nd k hk;have hn := h.ok.nn;refine ⟨h.ok.upd hk (d := { r.nd k with last := r.n }) rfl rfl (Nat.le_refl _) ⟨hD.asc, hD.lines, hD.kind, hD.txt, ⟨hD.num.1, hD.num.2.1, by show (0 : Int) ≤ (r.n : Int); omega, by show (r.n : Int) ≤ 1000000; omega⟩, hD.ind, hD.html⟩ (.inl rfl) (.inl rfl) (fun e ho p hp => ?_) ?_, upd_d0' rfl h.d0⟩
 ·exact (h.ok.kid p k hp).2.2.2.2 e ho
 ·have e : ow { r.nd k with last := r.n } = ow (r.nd k) := rfl;rw [e];have := h.ok.refs;omega
theorem goes_ok {B : Nat} (hB : B ≤ 1000000) {r : Rd} (h : Okd B r) {k : Nat} (hk : k < r.nds.length) (hko : (r.nd k).opn = true) (hk0 : k ≠ 0) : GoesK B r (r.goes k) := by
 have here : ∀ b1 b2, GoesK B r (r, b1, b2) := fun b1 b2 => GoesK.line h rfl rfl rfl rfl (Nat.le_refl _) (Nat.le_refl _) b1 b2;have hcut : ∀ n b1 b2, GoesK B r (r.cut n, b1, b2) := fun n b1 b2 => GoesK.line (q := r.cut n) h rfl rfl rfl rfl (r.cut_pot n) (Nat.le_of_eq (r.cut_nb n)) b1 b2;unfold Rd.goes;simp only;split
 ·split
  ·exact here _ _
  ·rename_i hq;have h1 : 1 ≤ r.bareT.size := by
    have hbl : r.bareT.data.toList.length = r.bareT.size := lTq
    cases hl : r.bareT.data.toList with
    | nil => rw [hl] at hq; exact absurd (.inr (by simp)) hq
    | cons b l => rw [hl] at hbl; simp at hbl; omega
   have hp1 := (r.pass 1).cut_pot 1;have hp2 := r.pass_pot 1 h1;have hn1 := (r.pass 1).cut_nb 1;have hn2 := r.pass_nb 1 (Nat.le_refl _) h1;obtain ⟨q, hq⟩ : ∃ q, (r.pass 1).cut 1 = q := ⟨_, rfl⟩;have hq1 : q.nds = r.nds ∧ q.refs = r.refs ∧ q.n = r.n ∧ q.cur = r.cur := by rw [<- hq]; exact ⟨rfl, rfl, rfl, rfl⟩
   have hqn := hq1.2.2.1;rw [hq] at hp1 hn1 ⊢;have hg := GoesK.line (B := B) h (q := q) hq1.1 hq1.2.1 hq1.2.2.1 hq1.2.2.2 (Nat.le_trans hp1 hp2) (by omega) true false;have hl := last_ok hg.okd (k := k) (by rw [hg.len]; exact hk);unfold Rd.turn;rw [<- hqn];refine ⟨hl, (Rd.upd_len _ _ _).trans hg.len, fun _ => ⟨fun j => ?_, (hg.go rfl).2.1, (hg.go rfl).2.2⟩⟩;rw [<- (hg.go rfl).1 j];show ((q.upd k _).nd j).opn = (q.nd j).opn;rw [Rd.upd_nd];split
   ·rename_i e; rw [<- e.1]
   ·rfl
 ·split
  ·split
   ·exact here _ _
   ·split
    ·exact here _ _
    ·exact hcut _ _ _
  ·split
   ·exact here _ _
   ·split
    ·exact here _ _
    ·split
     ·split
      ·split
       ·have hl := last_ok h hk;have hln := Rd.upd_len r k { r.nd k with last := r.n };have ho : ((r.upd k { r.nd k with last := r.n }).nd k).opn = true := by rw [Rd.upd_nd, if_pos ⟨rfl, hk⟩]; exact hko
        obtain ⟨c1, _, _, c4, c5⟩ := close_facts hB hl.ok (by rw [hln]; exact hk) ho;refine ⟨⟨c1, ?_⟩, c4.len.trans hln, fun e => by cases e⟩;exact (c5 0 (by omega)).trans hl.d0
       ·exact hcut _ _ _
      ·split
       ·exact hcut _ _ _
       ·split
        ·refine GoesK.line (q := { r with rest := ⟨#[]⟩ }) h rfl rfl rfl rfl ?_ (Nat.zero_le _) _ _;show r.col + wz [] ≤ r.pot;have := r.rest_pot;show r.col + 0 ≤ _;omega
        ·exact here _ _
     ·exact here _ _
theorem inner_facts {r : Rd} {a k : Nat} (h : r.inner a = some k) : k ∈ (r.nd a).kids ∧ (r.nd k).opn = true := by
 refine ⟨Rd.inner_mem h, ?_⟩;unfold Rd.inner at h;split at h
 ·split at h
  ·rename_i ho
   cases h
   exact ho
  ·cases h
 ·cases h
theorem walk_ok {B : Nat} (hB : B ≤ 1000000) : ∀ (f : Nat) (r : Rd), Rdy B r -> ((Rd.walkF f r).2 = true -> Okd B (Rd.walkF f r).1) ∧ ((Rd.walkF f r).2 = false -> Rdy B (Rd.walkF f r).1 ∧ (Rd.walkF f r).1.pot ≤ r.pot ∧ (Rd.walkF f r).1.nb ≤ r.nb) ∧ (Rd.walkF f r).1.nds.length = r.nds.length
 | 0, r, h => ⟨(fun e => by cases e), fun _ => ⟨h, Nat.le_refl _, Nat.le_refl _⟩, rfl⟩
 | f + 1, r, h => by
  obtain ⟨a, hc, ha⟩ := h.cur;unfold Rd.walkF;rw [hc];simp only
  cases hi : r.inner a with
  | none => exact ⟨(fun e => by cases e), fun _ => ⟨h, Nat.le_refl _, Nat.le_refl _⟩, rfl⟩
  | some k =>
   obtain ⟨i1, i2⟩ := inner_facts hi;have ik := h.ok.kid a k i1;have hg := goes_ok hB h.okd (k := k) ik.2.1 i2 (by omega);simp only;split
   ·exact ⟨fun _ => hg.okd, (fun e => by cases e), hg.len⟩
   ·rename_i hd;have hd : (r.goes k).2.2 = false := by
     cases hx : (r.goes k).2.2 with
     | false => rfl
     | true => exact absurd hx hd
    obtain ⟨g1, g2, g3, g4⟩ := hg.go hd;have hop : ∀ j, ((r.goes k).1.nd j).opn = (r.nd j).opn := g1;split
    ·have hR : Rdy B { (r.goes k).1 with cur := some k } := ⟨hg.okd.ok.same rfl (Nat.le_refl _) hg.okd.ok.nn, hg.okd.d0, k, rfl, by show ((r.goes k).1.nd k).opn = true; rw [hop]; exact i2⟩;obtain ⟨w1, w2, w3⟩ := walk_ok hB f _ hR;refine ⟨w1, fun e => ⟨(w2 e).1, Nat.le_trans (w2 e).2.1 g3, Nat.le_trans (w2 e).2.2 g4⟩, w3.trans hg.len⟩
    ·exact ⟨(fun e => by cases e), fun _ => ⟨⟨hg.okd.ok, hg.okd.d0, a, g2.trans hc, by rw [hop]; exact ha⟩, g3, g4⟩, hg.len⟩
theorem deep_ok : ∀ (f : Nat) (r : Rd) (b : Nat), (r.nd b).opn = true -> (r.nd (Rd.deepF f r b)).opn = true
 | 0, _, _, h => h
 | f + 1, r, b, h => by
  unfold Rd.deepF
  cases hi : r.inner b with
  | none => exact h
  | some k => exact deep_ok f r k (inner_facts hi).2
theorem lookF_ok {B C : Nat} (hC : C ≤ 1000000) : ∀ (f : Nat) (r : Rd), Rdy B r -> r.nds.length + 2 * r.nb + 3 ≤ 100000 -> r.pot ≤ 1000000 -> B + r.pot + 1 ≤ C -> TipK r -> r.nb < f -> Okd C (Rd.lookF f r) ∧ (Rd.lookF f r).nds.length ≤ r.nds.length + 2 * r.nb + 3
 | 0, _, _, _, _, _, _, h => absurd h (by omega)
 | f + 1, r, h, hfew, hp, hBC, ht, hnb => by
  unfold Rd.lookF;split
  ·have := left_ok hC h (by omega) hBC ht;exact ⟨this.1, by omega⟩
  ·have hl := look_ok hC h (by omega) hp hBC ht;have hll := hl.len;simp only;split
   ·exact ⟨hl.okd, by omega⟩
   ·rename_i h2;obtain ⟨g1, g2, g3⟩ := hl.go h2;split
    ·have := left_ok hC g1 (by omega) (by omega) g3;exact ⟨this.1, by omega⟩
    ·rename_i h0;have h1 : r.look.2 = 1 := by rcases hl.res with e | e | e; exact absurd e h0; exact e; exact absurd e h2
     have := hl.again h1;have hr := lookF_ok hC f r.look.1 g1 (by omega) (by omega) (by omega) g3 (by omega);exact ⟨hr.1, by omega⟩
theorem read_ok {B C : Nat} (hC : C ≤ 1000000) {r : Rd} (h : Okd B r) (s : ByteArray) (hfew : r.nds.length + 2 * s.size + 3 ≤ 100000) (hs : 4 * s.size ≤ 1000000) (hBC : B + 4 * s.size + 1 ≤ C) :
  Okd C (r.read s) ∧ (r.read s).nds.length ≤ r.nds.length + 2 * s.size + 3 := by
 have hB : B ≤ 1000000 := by omega
 obtain ⟨q, hq⟩ : ∃ q, ({ r with rest := s, col := 0, cur := some 0 } : Rd) = q := ⟨_, rfl⟩;have hqR : Rdy B q := by rw [<- hq]; exact ⟨h.ok.same rfl (Nat.le_refl _) h.ok.nn, h.d0, 0, rfl, h.d0⟩
 have hsl : s.data.toList.length = s.size := lTq;have hqp : q.pot ≤ 4 * s.size := by
  rw [<- hq];have := (len_wz s.data.toList).2;show 0 + wz s.data.toList ≤ _;omega
 have hqn : q.nb ≤ s.size := by
  rw [<- hq];have := nbl_le s.data.toList;show nbl s.data.toList ≤ _;omega
 have hql : q.nds.length = r.nds.length := by rw [<- hq]
 unfold Rd.read;rw [hq, <- hql];rw [<- hql] at hfew;obtain ⟨w1, w2, w3⟩ := walk_ok hB q.nds.length q hqR;obtain ⟨x, hx⟩ : ∃ x, Rd.walkF q.nds.length q = x := ⟨_, rfl⟩;rw [hx] at w1 w2 w3 ⊢;simp only;split
 ·rename_i h1;exact ⟨(w1 h1).up (by omega), by omega⟩
 ·rename_i h1;have h1 : x.2 = false := by
   cases hxx : x.2 with
   | false => rfl
   | true => exact absurd hxx h1
  obtain ⟨g1, g2, g3⟩ := w2 h1;obtain ⟨a, hc, ha⟩ := g1.cur;obtain ⟨q2, hq2⟩ : ∃ q2, ({ x.1 with tip := some (x.1.deepest (x.1.cur.getD 0)), lzy := decide (some (x.1.deepest (x.1.cur.getD 0)) ≠ x.1.cur) } : Rd) = q2 := ⟨_, rfl⟩;rw [hq2, show x.1.rest = q2.rest by rw [<- hq2]];have hdo : (x.1.nd (x.1.deepest (x.1.cur.getD 0))).opn = true := by
   rw [hc];exact deep_ok x.1.nds.length x.1 a ha
  have hR2 : Rdy B q2 := by rw [<- hq2]; exact ⟨g1.ok.same rfl (Nat.le_refl _) g1.ok.nn, g1.d0, a, hc, ha⟩
  have h2l : q2.nds.length = x.1.nds.length := by rw [<- hq2]
  have h2p : q2.pot = x.1.pot := by rw [<- hq2]; rfl
  have h2n : q2.nb = x.1.nb := by rw [<- hq2]; rfl
  have ht2 : TipK q2 := by
   rw [<- hq2];exact ⟨_, rfl, opn_lt hdo, fun _ => hdo⟩
  have hnb : q2.nb ≤ q2.rest.size := by
   have h1 := nbl_le q2.rest.data.toList;have h2 : q2.rest.data.toList.length = q2.rest.size := lTq;unfold Rd.nb;omega
  have hL := lookF_ok hC (q2.rest.size + 1) q2 hR2 (by omega) (by omega) (by omega) ht2 (by omega);exact ⟨hL.1, by omega⟩
end
section
open Go.RowKit
variable {F : Frm}
theorem look_b {B C : Nat} (hC : C ≤ 1000000) {w : World} {base rp : Nat} {own : Nat -> Nat} {P : List Nat} {r : Rd} (h : St F w base rp own P r) (hb : base ≤ w.heap.size) (hG : GlobX base w) (hr : Rdy B r) (hfew : r.nds.length + 2 ≤ 100000) (hp : r.pot ≤ 1000000) (hBC : B + r.pot + 1 ≤ C) (tp : Nat) (htp : r.tip = some tp) :
  Calls Tryz.prog 31 #[.pointer (some ⟨rp, 0, none⟩)] w fun e w' => e = .returned (.int .i64 ((r.look).2 : Nat)) ∧ Below base w w' ∧ ∃ own' Q, St F w' base rp own' Q r.look.1 := by
 have hB : B ≤ 1000000 := by omega
 have HBa := hdn (bare_s h hp);have hbs := r.bare_size;have hrp := r.rest_pot;obtain ⟨a, hc, ha⟩ := hr.cur;obtain ⟨t, ht⟩ : ∃ t, r.bareT = t := ⟨_, rfl⟩;obtain ⟨W, hW⟩ : ∃ W, r.bareW = W := ⟨_, rfl⟩;have hlook : r.look = if 4 ≤ W then r.code t else if t.data.toList.head? = some 62 then r.quote else match r.head t with
   | some r1 => (r1, 2)
   | none => match r.fenced t W with
    | some r1 => (r1, 2)
    | none => match r.html t with
     | some r1 => (r1, 2)
     | none => match r.table t with
      | some r1 => (r1, 2)
      | none => if (r.under t).2 = true then ((r.under t).1, 2) else match (r.under t).1.rule t with
       | some r1 => (r1, 2)
       | none => (r.under t).1.item t W := by
  unfold Rd.look;rw [ht, hW];rfl
 rw [ht, hW] at HBa hbs;have hts : t.size ≤ 1000000 := by omega
 have hWs : W ≤ 1000000 := by omega
 have HLk := hdn hlook;have HS := hdn h; have HR := hdn hr; have HGX := hdn hG; have Hc := hdn hc; have Ha := hdn ha; have HT := hdn ht; have Htp := hdn htp;have hi : (1 : Nat) ≤ 6 ∧ 6 ≤ 10 := by decide
 clear h hr hG hlook hc ha ht hW htp;go_enter Tryz.func31, Tryz.ntmps31;go_wp2_with fail;refine cMq HBa.out ?_;rintro e w1 ⟨rfl, b1⟩;have HS1 := hdn (HS.out.below b1);have HB1 := hdn (b1.mono hb);clear b1 HBa HS
 by_cases h4 : 4 ≤ W
 ·have i4 : (4 : Int) ≤ (W : Int) := by omega
  have HV := hdn (show r.look = r.code t by rw [HLk.out, if_pos h4]);have hcode := code_b hB HS1.out (Nat.le_trans hb HB1.out.size) HR.out (by omega) hp tp Htp.out t;obtain ⟨X, hX⟩ : ∃ X, r.code t = X := ⟨_, rfl⟩;rw [hX] at hcode HV;have HCo := hdn hcode;clear hcode hX HLk h4;go_wp2_with fail;refine cMq HCo.out ?_;rintro e w2 ⟨rfl, b2, own2, Q2, s2⟩;have HB2 := hdn (HB1.out.trans b2); have HS2 := hdn s2;clear b2 s2;go_wp2;go_ret;rw [HV.out];exact ⟨rfl, HB2.out, _, _, HS2.out⟩
 ·have i4 : ¬ (4 : Int) ≤ (W : Int) := by omega
  have hl1 := HLk.out;rw [if_neg h4] at hl1;have HP := hdn (gt_any t w1)
  by_cases hg : t.data.toList.head? = some 62
  ·rw [if_pos hg] at hl1;have HP1 := HP.out;rw [decide_eq_true hg] at HP1;have HP2 := hdn HP1;have HV := hdn hl1;have h1t := head_size hg;have hm : Ok B (((r.pass 1).cut 1).more (Nd.new 2)) := ((HR.out.pass 1).cut 1).ok.more (Nd.new 2) (by show r.nds.length + 1 ≤ _; omega) (new_ok B 2 (by decide) (by decide)).ok rfl rfl rfl;have hq := quote_b (inv_ok hB) (closeC hB base rp) HS1.out (Nat.le_trans hb HB1.out.size) hm a Hc.out (up_of HR.out.ok HR.out.ok.d1 a a (Nat.le_refl _) Ha.out) Ha.out (by omega) (by omega) (show 1 ≤ r.bareT.size by rw [HT.out]; exact h1t);have hq2 : r.quote.2 = 1 := rfl
   obtain ⟨X, hX⟩ : ∃ X, r.quote = X := ⟨_, rfl⟩;rw [hX] at hq hq2 HV;obtain ⟨X1, X2⟩ := X;obtain rfl : X2 = 1 := hq2;simp only at hq;have HQ := hdn hq;clear HLk HP HP1 hm hq hX hl1 hg;go_wp2_with (go_at_call 47; refine cMq HP2.out ?_; rintro e w9 ⟨rfl, rfl⟩);refine cMq HQ.out ?_;rintro e w2 ⟨rfl, b2, own2, Q2, s2, _⟩;have HB2 := hdn (HB1.out.trans b2); have HS2 := hdn s2;clear b2 s2;go_wp2;go_ret;rw [HV.out];exact ⟨rfl, HB2.out, _, _, HS2.out⟩
  ·rw [if_neg hg] at hl1;have HP1 := HP.out;rw [decide_eq_false hg] at HP1;have HP2 := hdn HP1;have HLk := hdn hl1;clear HP HP1 hl1 hg;have hx := head_b (inv_ok hB) (closeC hB base rp) HS1.out (Nat.le_trans hb HB1.out.size) (HR.out.ok.more (Nd.new 6) (by omega) (new_ok B 6 (by decide) (by decide)).ok rfl rfl rfl) a Hc.out (up_of HR.out.ok HR.out.ok.d1 a a (Nat.le_refl _) Ha.out) Ha.out t (by omega);have hl2 := HLk.out
   cases hX : r.head t with
   | some q =>
    rw [hX] at hx hl2;simp only at hl2;have HX := hdn hx; have HV := hdn hl2;clear hx hl2 HLk hX;go_wp2_with (go_at_call 47; refine cMq HP2.out ?_; rintro e w9 ⟨rfl, rfl⟩);refine cMq HX.out ?_;rintro e w2 ⟨b2, rfl, own2, Q2, s2, _⟩;have HB2 := hdn (HB1.out.trans b2); have HS2 := hdn s2;clear b2 s2;go_wp2;go_ret;rw [HV.out];exact ⟨rfl, HB2.out, _, _, HS2.out⟩
   | none =>
    rw [hX] at hx hl2;simp only at hl2;have HX := hdn hx; have HLk := hdn hl2;clear hx hl2 hX;go_wp2_with (go_at_call 47; refine cMq HP2.out ?_; rintro e w9 ⟨rfl, rfl⟩);refine cMq HX.out ?_;rintro e w2 ⟨b2, rfl, own2, s2⟩;have HB2 := hdn (HB1.out.trans b2); have HS2 := hdn s2;clear b2 s2 HX;have hx := fenced_b hB HS2.out (Nat.le_trans hb HB2.out.size) HR.out (by omega) t hts W hWs;have hl2 := HLk.out
    cases hX : r.fenced t W with
    | some q =>
     rw [hX] at hx hl2;simp only at hl2;have HX := hdn hx; have HV := hdn hl2;clear hx hl2 HLk hX;go_wp2_with fail;refine cMq HX.out ?_;rintro e w3 ⟨b2, rfl, own2, Q2, s2, _⟩;have HB2 := hdn (HB2.out.trans b2); have HS2 := hdn s2;clear b2 s2;go_wp2;go_ret;rw [HV.out];exact ⟨rfl, HB2.out, _, _, HS2.out⟩
    | none =>
     rw [hX] at hx hl2;simp only at hl2;have HX := hdn hx; have HLk := hdn hl2;clear hx hl2 hX;go_wp2_with fail;refine cMq HX.out ?_;rintro e w3 ⟨b2, rfl, own3, s2⟩;have HB3 := hdn (HB2.out.trans b2); have HS3 := hdn s2;clear b2 s2 HX;have hx := html_b hC HS3.out (Nat.le_trans hb HB3.out.size) (HGX.out.next HB3.out) HR.out (by omega) hp hBC tp Htp.out t hts
     have hl2 := HLk.out
     cases hX : r.html t with
     | some q =>
      rw [hX] at hx hl2;simp only at hl2;have HX := hdn hx; have HV := hdn hl2;clear hx hl2 HLk hX;go_wp2_with fail;refine cMq HX.out ?_;rintro e w4 ⟨b2, rfl, own2, Q2, s2, _⟩;have HB2 := hdn (HB3.out.trans b2); have HS2 := hdn s2;clear b2 s2;go_wp2;go_ret;rw [HV.out];exact ⟨rfl, HB2.out, _, _, HS2.out⟩
     | none =>
      rw [hX] at hx hl2;simp only at hl2;have HX := hdn hx; have HLk := hdn hl2;clear hx hl2 hX;go_wp2_with fail;refine cMq HX.out ?_;rintro e w4 ⟨b2, rfl, own4, s2⟩;have HB4 := hdn (HB3.out.trans b2); have HS4 := hdn s2;clear b2 s2 HX;have hx := table_b hB HS4.out (Nat.le_trans hb HB4.out.size) (HGX.out.next HB4.out) HR.out t hts
      have hl2 := HLk.out
      cases hX : r.table t with
      | some q =>
       rw [hX] at hx hl2;simp only at hl2;have HX := hdn hx; have HV := hdn hl2;clear hx hl2 HLk hX;go_wp2_with fail;refine cMq HX.out ?_;rintro e w5 ⟨b2, rfl, own2, Q2, s2, _⟩;have HB2 := hdn (HB4.out.trans b2); have HS2 := hdn s2;clear b2 s2;go_wp2;go_ret;rw [HV.out];exact ⟨rfl, HB2.out, _, _, HS2.out⟩
      | none =>
       rw [hX] at hx hl2;simp only at hl2;have HX := hdn hx; have HLk := hdn hl2;clear hx hl2 hX;go_wp2_with fail;refine cMq HX.out ?_;rintro e w5 ⟨b2, rfl, own5, s2⟩;have HB5 := hdn (HB4.out.trans b2); have HS5 := hdn s2;clear b2 s2 HX;have hu := under_b hB HS5.out (Nat.le_trans hb HB5.out.size) HR.out t hts;obtain ⟨u1, u2⟩ := under_ok HR.out t;have hl2 := HLk.out;obtain ⟨X, hX⟩ : ∃ X, r.under t = X := ⟨_, rfl⟩;rw [hX] at hu u1 u2 hl2;obtain ⟨q, X2⟩ := X;simp only at hu u1 u2 hl2
       cases X2 with
       | true =>
        rw [if_pos rfl] at hl2;have HX := hdn hu; have HV := hdn hl2;clear hu hl2 HLk hX u1 u2;go_wp2_with fail;refine cMq HX.out ?_;rintro e w6 ⟨rfl, b2, own2, s2⟩;have HB2 := hdn (HB5.out.trans b2); have HS2 := hdn s2;clear b2 s2;go_wp2;go_ret;rw [HV.out];exact ⟨rfl, HB2.out, _, _, HS2.out⟩
       | false =>
        rw [if_neg Bool.false_ne_true] at hl2;obtain ⟨_, u3, u4, u5, u6, u7, u8⟩ := u2.resolve_right (fun h => Bool.false_ne_true h.1);have HX := hdn hu; have HLk := hdn hl2; have HRq := hdn u3;have hqT : q.bareT = t := by rw [<- HT.out]; unfold Rd.bareT; rw [u5]
        have hqp : q.pot ≤ 1000000 := by unfold Rd.pot at hp ⊢; rw [u5, u6]; exact hp
        have HqT := hdn hqT;obtain ⟨a2, hc2, ha2⟩ := u3.cur;have Hc2 := hdn hc2; have Ha2 := hdn ha2;clear hu hl2 hX u2 u3 u4 u5 u6 u7 u8 hqT hc2 ha2;go_wp2_with fail;refine cMq HX.out ?_;rintro e w6 ⟨rfl, b2, own6, s2⟩;have HB6 := hdn (HB5.out.trans b2); have HS6 := hdn s2;clear b2 s2 HX;have hx := rule_b (inv_ok hB) (closeC hB base rp) HS6.out (Nat.le_trans hb HB6.out.size) (HRq.out.ok.more (Nd.new 9) (by omega) (new_ok B 9 (by decide) (by decide)).ok rfl rfl rfl) a2 Hc2.out (up_of HRq.out.ok HRq.out.ok.d1 a2 a2 (Nat.le_refl _) Ha2.out) Ha2.out t (by omega);have hl2 := HLk.out
        cases hX : q.rule t with
        | some q3 =>
         rw [hX] at hx hl2;simp only at hl2;have HX := hdn hx; have HV := hdn hl2;clear hx hl2 HLk hX;go_wp2_with fail;refine cMq HX.out ?_;rintro e w7 ⟨b2, rfl, own2, Q2, s2, _⟩;have HB2 := hdn (HB6.out.trans b2); have HS2 := hdn s2;clear b2 s2;go_wp2;go_ret;rw [HV.out];exact ⟨rfl, HB2.out, _, _, HS2.out⟩
        | none =>
         rw [hX] at hx hl2;simp only at hl2;have HX := hdn hx; have HLk := hdn hl2;clear hx hl2 hX;go_wp2_with fail;refine cMq HX.out ?_;rintro e w7 ⟨b2, rfl, own7, s2⟩;have HB7 := hdn (HB6.out.trans b2); have HS7 := hdn s2;clear b2 s2 HX;have hx := item_b hB HS7.out (Nat.le_trans hb HB7.out.size) HRq.out (by omega) hqp t HqT.out W hWs;have hl2 := HLk.out;obtain ⟨X, hX⟩ : ∃ X, q.item t W = X := ⟨_, rfl⟩;rw [hX] at hx hl2;have HX := hdn hx; have HV := hdn hl2;clear hx hl2 HLk hX;go_wp2_with fail;refine cMq HX.out ?_;rintro e w8 ⟨rfl, b2, own2, Q2, s2⟩
         have HB2 := hdn (HB7.out.trans b2); have HS2 := hdn s2;clear b2 s2;go_wp2;go_ret;rw [HV.out];exact ⟨rfl, HB2.out, _, _, HS2.out⟩
end
