/- A block begins. -/
import Derived.Test.YtebfjlfkofibpaaGreatDoorBkDf
namespace Go.Proofs.YtebfjlfkofibpaaGreatDoor
set_option maxHeartbeats 4000000
set_option maxRecDepth 100000
section
open Go.RowKit
variable {F : Frm}
theorem St.cur_set {w : World} {base rp : Nat} {own : Nat -> Nat} {P : List Nat} {r : Rd} (h : St F w base rp own P r) (c : Option Nat) (hc : ∀ i, c = some i -> i < r.nds.length) : St F (w.setCell ⟨rp, 4, none⟩ (ptrV P c)) base rp own P { r with cur := c } := by
 obtain ⟨rv, hr⟩ := h.rd;have hw := h.wf;refine h.reader (r' := { r with cur := c }) (grown_put (grown_refl w _) 4 _) hr ?_ rfl rfl ⟨hw.kids, hw.par, hw.nk, hc, hw.tip, hw.doc⟩;rw [Joins.block_setCell hr.row];rfl
theorem Up.withCur {r : Rd} {a : Nat} (u : Up r a) (c : Option Nat) : Up { r with cur := c } a := by
 induction u with
 | doc h0 => exact .doc h0
 | up hp _ ih => exact .up hp ih
theorem Rd.upd_upd (r : Rd) (i : Nat) (d e : Nd) : (r.upd i d).upd i e = r.upd i e := by unfold Rd.upd; simp
theorem Wf.par_set {r : Rd} (h : Wf r) {i p : Nat} {d d' : Nd} (hd : r.nds[i]? = some d) (hk : d'.kids = d.kids) (hp : d'.parent = some p) (hpi : p < i) : Wf (r.upd i d') := by
 have hi := (List.getElem?_eq_some_iff.1 hd).1;refine ⟨fun j e he => ?_, fun j e he => ?_, fun j e he => ?_, fun j hj => by rw [Rd.upd_len]; exact h.cur j hj, fun j hj => by rw [Rd.upd_len]; exact h.tip j hj, by rw [Rd.upd_len]; exact h.doc⟩
 ·rw [Rd.upd_len]
  by_cases hij : i = j
  ·subst hij; rw [Rd.upd_self hi] at he; cases he; rw [hk]; exact h.kids i d hd
  ·rw [Rd.upd_other hij] at he; exact h.kids j e he
 ·by_cases hij : i = j
  ·subst hij; rw [Rd.upd_self hi] at he; cases he; rw [hp]; intro q hq; cases hq; exact hpi
  ·rw [Rd.upd_other hij] at he; exact h.par j e he
 ·rw [Rd.upd_len]
  by_cases hij : i = j
  ·subst hij; rw [Rd.upd_self hi] at he; cases he; rw [hk]; exact h.nk i d hd
  ·rw [Rd.upd_other hij] at he; exact h.nk j e he
theorem push_six {w : World} {base rp : Nat} {own : Nat -> Nat} {P : List Nat} {q : Rd} (h : St F w base rp own P q) (m a b : Nat) (hab : a < b) (hb : b < q.nds.length) :
  ∃ own', St F (((((w.drewN m).setCell ⟨ptN P b, 10, none⟩ (.pointer (some ⟨ptN P a, 0, none⟩))).setCell ⟨ptN P b, 12, none⟩ (.bool true)).setCell ⟨ptN P b, 13, none⟩ (.int .i64 (q.n : Int))).setCell ⟨ptN P b, 14, none⟩ (.int .i64 (q.n : Int))) base rp own' P
   (q.upd b { q.nd b with parent := some a, opn := true, first := q.n, last := q.n }) := by
 have h0 := h.below (below_drewN (Below.refl _ w) m);have h1 := h0.set (Rd.at_lt hb) 10 (.pointer (some ⟨ptN P a, 0, none⟩)) (d' := { q.nd b with parent := some a }) (fun _ _ _ => rfl) rfl rfl rfl (h.wf.par_set (Rd.at_lt hb) rfl rfl hab);have h2 := h1.set (Rd.upd_self hb) 12 (.bool true) (d' := { q.nd b with parent := some a, opn := true }) (fun _ _ _ => rfl) rfl rfl rfl (h1.wf.upd (Rd.upd_self hb) rfl rfl);rw [Rd.upd_upd] at h2
 have h3 := h2.set (Rd.upd_self hb) 13 (.int .i64 (q.n : Int)) (d' := { q.nd b with parent := some a, opn := true, first := q.n }) (fun _ _ _ => rfl) rfl rfl rfl (h2.wf.upd (Rd.upd_self hb) rfl rfl)
 rw [Rd.upd_upd] at h3;have h4 := h3.set (Rd.upd_self hb) 14 (.int .i64 (q.n : Int)) (d' := { q.nd b with parent := some a, opn := true, first := q.n, last := q.n }) (fun _ _ _ => rfl) rfl rfl rfl (h3.wf.upd (Rd.upd_self hb) rfl rfl)
 rw [Rd.upd_upd] at h4;exact ⟨_, h4⟩
theorem ptr_info : (Tryz.prog.info? 44).map (fun i => (i.zero, i.size, i.bytes)) = some (some (.pointer none), 1, 8) := by kernel_rfl
theorem bk_own_slice {w : World} {base : Nat} {e : TypeId} {size : Nat} {v : Value} {n : Nat} {xs : List Value} (h : w.ownsRow base e size v n xs) : ∃ A c, v = .slice A n c := by
 rcases h.2 with ⟨h1, h2⟩ | ⟨g, cap, cur, h1, _⟩
 ·exact ⟨none, 0, by rw [h2]; exact h1⟩
 ·exact ⟨_, _, h1⟩
theorem Wf.push {r : Rd} (h : Wf r) {i b : Nat} {d : Nd} (hd : r.nds[i]? = some d) (hib : i < b) (hb : b < r.nds.length) (hk : d.kids.length + 1 ≤ r.nds.length) : Wf (r.upd i { d with kids := d.kids ++ [b] }) := by
 have hi := (List.getElem?_eq_some_iff.1 hd).1;refine ⟨fun j e he => ?_, fun j e he => ?_, fun j e he => ?_, fun j hj => by rw [Rd.upd_len]; exact h.cur j hj, fun j hj => by rw [Rd.upd_len]; exact h.tip j hj, by rw [Rd.upd_len]; exact h.doc⟩
 ·rw [Rd.upd_len]
  by_cases hij : i = j
  ·subst hij;rw [Rd.upd_self hi] at he
   cases he
   intro k hkk;rcases List.mem_append.1 hkk with h1 | h1
   ·exact h.kids i d hd k h1
   ·have : k = b := by simpa using h1
    omega
  ·rw [Rd.upd_other hij] at he; exact h.kids j e he
 ·by_cases hij : i = j
  ·subst hij; rw [Rd.upd_self hi] at he; cases he; exact h.par i d hd
  ·rw [Rd.upd_other hij] at he; exact h.par j e he
 ·rw [Rd.upd_len]
  by_cases hij : i = j
  ·subst hij; rw [Rd.upd_self hi] at he; cases he; simp; exact hk
  ·rw [Rd.upd_other hij] at he; exact h.nk j e he
theorem push_end {w : World} {base rp : Nat} {own : Nat -> Nat} {P : List Nat} {q : Rd} (h : St F w base rp own P q) (b : Nat) (hb : b < q.nds.length) :
  ∃ own', St F ((w.setCell ⟨rp, 6, none⟩ (.bool false)).setCell ⟨rp, 5, none⟩ (.pointer (some ⟨ptN P b, 0, none⟩))) base rp own' P { q with lzy := false, tip := some b } := by
 obtain ⟨rv, hr⟩ := h.rd;have hw := h.wf;refine ⟨own, h.reader (r' := { q with lzy := false, tip := some b }) (grown_put (grown_put (grown_refl w _) 6 _) 5 _) hr ?_ rfl rfl ⟨hw.kids, hw.par, hw.nk, hw.cur, fun i e => by cases e; exact hb, hw.doc⟩⟩;rw [Joins.block_setCell (Joins.block_setCell hr.row _) _];rfl
def PopW (F : Frm) (w : World) (base rp : Nat) (P : List Nat) (I : Rd -> Prop) (b K n : Nat) (E : Rd) (g : Nat) (wr : World) : Prop :=
 ∃ (q : Rd) (f : Nat) (own : Nat -> Nat), St F wr base rp own P q ∧ I q ∧ q.cur = some g ∧ Up q g ∧ g < f ∧ Rd.popF K f q = E ∧ q.nds.length = n ∧ (q.nd b).kind = K ∧ (q.nd b).parent = none ∧ (K = 4 -> (q.nd g).kind = 3) ∧ (q.nd g).opn = true ∧ Below base w wr
theorem up_kind {r : Rd} {a : Nat} (u : Up r a) : (a = 0 ∧ (r.nd a).kind = 1) ∨ ∃ p, (r.nd a).parent = some p ∧ Up r p := by
 cases u with
 | doc h => exact .inl ⟨rfl, h⟩
 | up hp u2 => exact .inr ⟨_, hp, u2⟩
theorem begin_any {w : World} {base rp : Nat} {own : Nat -> Nat} {P : List Nat} {r : Rd} {I : Rd -> Prop} (HI0 : Inv I) (HC : CloseC I base rp) (h : St F w base rp own P r) (hb : base ≤ w.heap.size) (hs : I r) (a b : Nat) (hc : r.cur = some a) (hu : Up r a) (hbl : b + 1 = r.nds.length) (hb0 : b ≠ 0) (hbp : (r.nd b).parent = none) (hk4 : (r.nd b).kind = 4 -> (r.nd a).kind = 3) (hk5 : (r.nd a).opn = true) :
  Calls Tryz.prog 62 #[.pointer (some ⟨rp, 0, none⟩), .pointer (some ⟨ptN P b, 0, none⟩)] w fun e w' => ∃ own', e = .returned (.pointer (some ⟨ptN P b, 0, none⟩)) ∧ St F w' base rp own' P (r.begin b) ∧ Below base w w' := by
 have HS := hdn (settle_any HI0 HC h hb hs a hc);have hsl := settle_like r;have hal := h.wf.cur a hc;obtain ⟨E, hE⟩ : ∃ E, r.settle.popF (r.nd b).kind r.nds.length = E := ⟨_, rfl⟩;have hbe : r.begin b = E.push b := by unfold Rd.begin; rw [hE]
 rw [hbe];have hsI : I r.settle := by
  unfold Rd.settle;split
  ·rename_i a2 he;have hea := h.wf.cur a2 he;split
   ·rename_i k hk; exact HI0.close _ _ hs (Rd.inner_lt h.wf hea hk).2 (Rd.inner_opn hk)
   ·exact hs
  ·exact hs
 have HStart := hdn fun (w1 : World) (own1 : Nat -> Nat) (hst : St F w1 base rp own1 P r.settle) (hbb : Below base w w1) => show PopW F w base rp P I b (r.nd b).kind r.nds.length E a w1 from
  ⟨r.settle, r.nds.length, own1, hst, hsI, hsl.cur.trans hc, hu.like hsl, hal, hE, hsl.len, (hsl.nd b).kind, ((hsl.nd b).parent).trans hbp, fun h4 => ((hsl.nd a).kind).trans (hk4 h4), (settle_opn h.wf hc).trans hk5, hbb⟩;obtain ⟨K, hK⟩ : ∃ K, (r.nd b).kind = K := ⟨_, rfl⟩;obtain ⟨n, hn⟩ : ∃ n, r.nds.length = n := ⟨_, rfl⟩;rw [hK, hn] at HStart;have hbn1 : b + 1 = n := by rw [<- hn]; exact hbl
 have hbn : b < n := by omega
 have HCl := hdn HC;have HInv := hdn HI0;clear hE hbe hsI hsl hK hn HC HI0 h hs hc hu hbl hk4 hk5 hal hbp;go_enter Tryz.func62, Tryz.ntmps62;go_wp2_with fail;refine cMq HS.out ?_;rintro e w1 ⟨own1, ⟨v, rfl⟩, hst, hbb⟩;have H0 := hdn (HStart.out w1 own1 hst hbb);clear hst hbb;go_wp2_with fail
 go_loopg [5] a (fun g _ wr => PopW F w base rp P I b K n E g wr)
 case atStart => exact H0.out
 case round =>
  obtain ⟨q, f, ow, hst, hq, hcur, hup, hf, hpop, hlen, hkb, hbpar, h43, h5o, hbw⟩ := hrel;clear H0 HS HStart;have hgl := hst.wf.cur _ hcur;obtain ⟨f, rfl⟩ : ∃ f', f = f' + 1 := ⟨f - 1, by omega⟩;rw [Rd.popF, hcur] at hpop;simp only at hpop;obtain ⟨rv, hrd⟩ := hst.rd;have hrow := hrd.row;unfold rdCells at hrow;rw [hcur, show ptrV P (some gk) = Value.pointer (some ⟨ptN P gk, 0, none⟩) from rfl] at hrow;have q0 := fun i => cell_of_row wr rp i _ _ _ hrow;obtain ⟨kv, lv, av, hna⟩ := hst.nodes gk _ (Rd.at_lt hgl);have hrowa := hna.row;unfold ndCells at hrowa
  have qa := fun i => cell_of_row wr (ptN P gk) i _ _ _ hrowa;obtain ⟨kv2, lv2, av2, hnb⟩ := hst.nodes b _ (Rd.at_lt (show b < q.nds.length by omega));have hrowb := hnb.row;unfold ndCells at hrowb;rw [hkb] at hrowb;have qb := fun i => cell_of_row wr (ptN P b) i _ _ _ hrowb;have HH := hdn fun n => holds_any (hst.below (below_drewN (Below.refl _ wr) n)) gk K hgl
  cases hho : holdsB (q.nd gk).kind K with
  | true =>
   rw [hho] at HH;rw [hho, if_pos rfl] at hpop;subst hpop;have fb : ∀ i, wr.frozen? ⟨ptN P b, i, none⟩ = false := fun i => by simp [World.frozen?, hrowb]
   have HS := hdn hst; have HB := hdn hbw;have HNB := hdn hnb; have HNA := hdn hna; have HRD := hdn hrd;have HCur := hdn hcur;have hgb : gk < b := by
    have h1 : gk ≠ b := fun e => by
     rcases up_kind hup with ⟨h0, _⟩ | ⟨p, h0, _⟩
     ·exact hb0 (e.symm.trans h0)
     ·rw [e, hbpar] at h0; cases h0
    omega
   have hkn := HInv.out.kn q hq gk _ (Rd.at_lt hgl);have hqn := HInv.out.n q hq;have HBp := hdn hbpar;clear hst hbw hnb hna hrd hup h43 h5o hq hcur hrow hrowa hrowb hbpar;go_wp2_with fail
   go_quiet ((go_at_call 98; exact quiet_first (HH.out _)))
   go_wp2_with fail
   go_region
   have hst6 := push_six HS.out (nq + 1) gk b hgb (by omega);obtain ⟨own6, hst6⟩ := hst6;have hb6 := (((((below_drewN HB.out (nq + 1)).setCell (p := ⟨ptN P b, 10, none⟩) HNB.out.ge (.pointer (some ⟨ptN P gk, 0, none⟩))).setCell (p := ⟨ptN P b, 12, none⟩) HNB.out.ge (.bool true)).setCell (p := ⟨ptN P b, 13, none⟩) HNB.out.ge (.int .i64 (q.n : Int))).setCell (p := ⟨ptN P b, 14, none⟩) HNB.out.ge (.int .i64 (q.n : Int)))
   obtain ⟨W6, hW6⟩ : ∃ W6, (((((wr.drewN (nq + 1)).setCell ⟨ptN P b, 10, none⟩ (.pointer (some ⟨ptN P gk, 0, none⟩))).setCell ⟨ptN P b, 12, none⟩ (.bool true)).setCell ⟨ptN P b, 13, none⟩ (.int .i64 (q.n : Int))).setCell ⟨ptN P b, 14, none⟩ (.int .i64 (q.n : Int))) = W6 := ⟨_, rfl⟩;rw [hW6] at hst6 hb6 ⊢;clear q0 qa qb fb hW6;obtain ⟨q6, hq6⟩ : ∃ x, q.upd b { q.nd b with parent := some gk, opn := true, first := q.n, last := q.n } = x := ⟨_, rfl⟩
   have hq6gk : q6.nds[gk]? = some (q.nd gk) := by rw [<- hq6, Rd.upd_other (show b ≠ gk by omega)]; exact Rd.at_lt hgl
   have hq6c : q6.cur = some gk := by rw [<- hq6]; exact HCur.out
   have hq6n : q6.nds.length = q.nds.length := by rw [<- hq6]; exact Rd.upd_len _ _ _
   have hpush : q.push b = { (q6.upd gk { q.nd gk with kids := (q.nd gk).kids ++ [b] }) with lzy := false, tip := some b } := by
    unfold Rd.push;rw [HCur.out];simp only;rw [hq6, Rd.nd_of hq6gk]
   have HPu := hdn hpush;rw [hq6] at hst6;obtain ⟨rv6, hr6⟩ := hst6.rd;have hrow6 := hr6.row;unfold rdCells at hrow6;rw [hq6c, show ptrV P (some gk) = Value.pointer (some ⟨ptN P gk, 0, none⟩) from rfl] at hrow6;have q6r := fun i => cell_of_row W6 rp i _ _ _ hrow6;obtain ⟨kv6, lv6, av6, hn6⟩ := hst6.nodes gk _ hq6gk;obtain ⟨A6, c6, rfl⟩ := bk_own_slice hn6.kids;have hrowg := hn6.row;unfold ndCells at hrowg;have q6g := fun i => cell_of_row W6 (ptN P gk) i _ _ _ hrowg;have HS6 := hdn hst6; have HB6 := hdn hb6; have HN6 := hdn hn6; have HRow6 := hdn hrow6; have HRowg := hdn hrowg
   have HQ6 := hdn hq6gk; have HQc := hdn hq6c; have HQn := hdn hq6n;have hW6z : base ≤ W6.heap.size := by have := hb6.size; omega
   have hgpl : ptN P gk < W6.heap.size := (gSq.1 hrowg).1;have hrpge := hr6.ge;obtain ⟨iP, hiP, hzP0, hzP1, hzP2⟩ := info_parts ptr_info;have hqn2 : (q.nd gk).kids.length ≤ 100000 := by omega
   have hrpl : rp < W6.heap.size := (gSq.1 hrow6).1;have HR6 := hdn hr6.refs;have la := fun (o : Obj) i => (World.cell?_alloc_lt W6 o ⟨rp, i, none⟩ hrpl).trans (q6r i);have lg := fun (o : Obj) i => (World.cell?_alloc_lt W6 o ⟨ptN P gk, i, none⟩ hgpl).trans (q6g i);clear hst6 hb6 hn6 hr6 hrow6 hrowg hq6 hq6gk hq6c hq6n hpush;go_wp2_with fail
   go_region_law (refine step_rowb rfl (.tmp 70) (.tmp 72) 46 rfl base 44 iP _ 1 8 Tryz.underlying46 hiP hzP0 hzP1 hzP2 rfl (by decide) _ rfl (q.nd gk).kids.length _ (World.ownsRow.alloc (w := W6.drew) HN6.out.kids _) ⟨W6.heap.size, 0, none⟩ 1 1 [.pointer (some ⟨ptN P b, 0, none⟩)] rfl rfl (cell_one_new _ _ _) (by simp [Value.oneCell']) (by unfold maxLen; omega) (by omega) (by simp; omega) ?_; intro v7 w7 hown7 hgrow hob7; obtain ⟨g7, cap7, rfl⟩ := Joins.ownsRow_form hown7 (by omega); have hg7 := hdn ((hgrow.block (ptN P gk) (by simp; omega) (by intro he; exact row_ne HN6.out.kids HRowg.out (by decide) (ptN P gk) he.symm rfl)).trans ((Below.heap_alloc W6.drew _ _ (by simp; omega)).trans HRowg.out)); have q7 := (fun i => cell_of_row w7 (ptN P gk) i _ _ _ hg7.out); have hr7 := hdn ((hgrow.block rp (by simp; omega) (by intro he; exact row_ne HN6.out.kids HRow6.out (by decide) rp he.symm rfl)).trans ((Below.heap_alloc W6.drew _ _ (by simp; omega)).trans HRow6.out)); have q7r := (fun i => cell_of_row w7 rp i _ _ _ hr7.out); have f7 : ∀ i, w7.frozen? ⟨ptN P gk, i, none⟩ = false := (fun i => by simp [World.frozen?, hg7.out]); have HO7 := hdn (show w7.ownsRow base 44 1 (.slice (some ⟨g7, 0, none⟩) ((q.nd gk).kids.length + 1) cap7) ((q.nd gk).kids ++ [b]).length (((q.nd gk).kids ++ [b]).map fun k => ptrV P (some k)) by rw [List.map_append, List.length_append]; exact hown7); have HG7 := hdn hgrow; have HV7 := hdn hob7; clear hown7 hgrow hob7)
   all_goals
    clear q7 f7 q7r la lg;have hst8 := St.kids HS6.out HQ6.out HN6.out ((q.nd gk).kids ++ [b]) (wa := W6.drew.alloc (.cells #[.pointer (some ⟨ptN P b, 0, none⟩)] 44)) ((Below.refl _ W6).drew.alloc (Nat.le_refl _) _) HG7.out HO7.out (fun g hg => by
     rcases HV7.out with e | e
     ·left; exact e.symm.trans hg
     ·right; have := Option.some.inj (hg.symm.trans e); simp at this; omega) (HS6.out.wf.push HQ6.out hgb (by rw [HQn.out]; omega) (by rw [HQn.out]; exact hkn))
    have hb8 := (((HB6.out.drew).alloc hW6z (.cells #[.pointer (some ⟨ptN P b, 0, none⟩)] 44)).grown HG7.out (by simp; omega) (fun k hk => (HN6.out.kids.lt _ hk).1)).setCell (p := ⟨ptN P gk, 11, none⟩) HN6.out.ge (.slice (some ⟨g7, 0, none⟩) ((q.nd gk).kids.length + 1) cap7);obtain ⟨W8, hW8⟩ : ∃ W8, w7.setCell ⟨ptN P gk, 11, none⟩ (.slice (some ⟨g7, 0, none⟩) ((q.nd gk).kids.length + 1) cap7) = W8 := ⟨_, rfl⟩;rw [hW8] at hst8 hb8 ⊢;obtain ⟨q7, hq7⟩ : ∃ x, q6.upd gk { q.nd gk with kids := (q.nd gk).kids ++ [b] } = x := ⟨_, rfl⟩
    have hq7n : q7.nds.length = q6.nds.length := by rw [<- hq7]; exact Rd.upd_len _ _ _
    rw [hq7] at hst8;have hfin := push_end hst8 b (by rw [hq7n, HQn.out]; omega);have HF := hdn (show (∃ own', St F ((W8.setCell ⟨rp, 6, none⟩ (.bool false)).setCell ⟨rp, 5, none⟩ (.pointer (some ⟨ptN P b, 0, none⟩))) base rp own' P (q.push b)) by rw [HPu.out, hq7]; exact hfin);obtain ⟨rv8, hr8⟩ := hst8.rd;have hrow8 := hr8.row;unfold rdCells at hrow8;have q8 := fun i => cell_of_row W8 rp i _ _ _ hrow8;have f8 : ∀ i, W8.frozen? ⟨rp, i, none⟩ = false := fun i => by simp [World.frozen?, hrow8]
    have HB8 := hdn hb8;clear hst8 hb8 hr8 hrow8 hfin hW8 hq7 hq7n;go_wp2;go_ret;obtain ⟨own8, h8⟩ := HF.out;exact ⟨own8, rfl, h8, (HB8.out.setCell (p := ⟨rp, 6, none⟩) hrpge _).setCell (p := ⟨rp, 5, none⟩) hrpge _⟩
  | false =>
   rw [hho] at HH;rw [hho, if_neg Bool.false_ne_true] at hpop;have h4 : ¬ K = 4 := fun e => by rw [h43 e, e] at hho; exact absurd hho (by decide)
   have hpar : ∃ p, (q.nd gk).parent = some p ∧ Up q p := by
    rcases up_kind hup with ⟨_, h1⟩ | h1
    ·rw [h1] at hho;unfold holdsB at hho;rw [if_neg (by decide), if_pos (.inl rfl)] at hho;exact absurd (by simpa using hho) h4
    ·exact h1
   obtain ⟨p, hp, hup2⟩ := hpar;rw [hp] at qa hpop;rw [show ptrV P (some p) = Value.pointer (some ⟨ptN P p, 0, none⟩) from rfl] at qa;have hpg := hst.wf.par gk _ (Rd.at_lt hgl) p hp;have hbz : base ≤ wr.heap.size := by have := hbw.size; omega
   have HCk := hdn fun n => HCl.out F (wr.drewN n) ow P q gk (hst.below (below_drewN (Below.refl _ wr) n)) hbz hq hgl h5o;have hlk := close_like q gk;have HP := hdn hpop; have HB := hdn hbw;have hIq := HInv.out.cur _ (some p) (HInv.out.close q gk hq hgl h5o);have hupc := (hup2.like hlk).withCur (some p);have hlen2 : (q.close gk).nds.length = n := hlk.len.trans hlen;have hkb2 : ((q.close gk).nd b).kind = K := ((hlk.nd b).kind).trans hkb;have hcur2 : (q.close gk).cur = some gk := hlk.cur.trans hcur
   have HKeep := hdn (show I { q.close gk with cur := some p } ∧ Up { q.close gk with cur := some p } p ∧ (q.close gk).nds.length = n ∧ ((q.close gk).nd b).kind = K ∧ (q.close gk).cur = some gk ∧ ((q.close gk).nd b).parent = none ∧ ((q.close gk).nd p).opn = true from ⟨hIq, hupc, hlen2, hkb2, hcur2, ((hlk.nd b).parent).trans hbpar, by rw [close_opn hst.wf hgl hpg]; exact HInv.out.up q hq gk p h5o hp⟩);have hfp : p < f := by omega
   have hpn : p < n := by omega
   clear hrow hrowa hrowb hna hnb hrd hst hup hup2 hpop hho h43 h5o hbw hlk hIq hupc hlen2 hkb2 hcur2 hq hp hkb hcur hbpar;go_wp2_with fail
   go_quiet ((go_at_call 98; exact quiet_first (HH.out _)))
   go_wp2_with fail;refine cMq (HCk.out _) ?_;rintro e w2 ⟨own2, ⟨v, rfl⟩, hst2, hb2⟩;have HS2 := hdn hst2;obtain ⟨rv2, hrd2⟩ := hst2.rd;have hrow2 := hrd2.row;unfold rdCells at hrow2;have qr := fun i => cell_of_row w2 rp i _ _ _ hrow2;have fr : ∀ i, w2.frozen? ⟨rp, i, none⟩ = false := fun i => by simp [World.frozen?, hrow2]
   have HB2 := hdn ((below_drewN HB.out _).trans hb2);have hrpge := hrd2.ge;clear hst2 hb2 hrow2 hrd2;go_wp2
   go_roundg p
   case measure => omega
   case rel =>
    obtain ⟨k1, k2, k3, k4, _, k6, k7⟩ := HKeep.out;exact ⟨{ q.close gk with cur := some p }, f, own2, HS2.out.cur_set (some p) (fun i e => by cases e; show p < (q.close gk).nds.length; omega), k1, rfl, k2, hfp, HP.out, k3, k4, k6, fun e => absurd e h4, k7, HB2.out.setCell (p := ⟨rp, 4, none⟩) hrpge _⟩
end
section
open Go.RowKit
variable {F : Frm}
theorem Rd.more_nd (r : Rd) (d : Nd) (j : Nat) : (r.more d).nd j = if j < r.nds.length then r.nd j else if j = r.nds.length then d else Nd.new 0 := by
 unfold Rd.more Rd.nd;simp only [List.getD]
 by_cases h : j < r.nds.length
 ·rw [if_pos h, List.getElem?_append_left h]
 ·rw [if_neg h, List.getElem?_append_right (by omega)]
  by_cases h2 : j = r.nds.length
  ·subst h2; simp
  ·rw [if_neg h2, List.getElem?_eq_none (by simp; omega)]; rfl
theorem Rd.more_len (r : Rd) (d : Nd) : (r.more d).nds.length = r.nds.length + 1 := by unfold Rd.more; simp
theorem Up.more {r : Rd} (hw : Wf r) (d : Nd) {a : Nat} (u : Up r a) (ha : a < r.nds.length) : Up (r.more d) a := by
 induction u with
 | doc h0 =>
  refine .doc ?_;rw [Rd.more_nd, if_pos hw.doc]; exact h0
 | up hp _ ih =>
  have hlt := hw.par _ _ (Rd.at_lt ha) _ hp;refine .up ?_ (ih (by omega));rw [Rd.more_nd, if_pos ha]; exact hp
theorem ptN_new (P : List Nat) (n x : Nat) (h : P.length = n) : ptN (P ++ [x]) n = x := by unfold ptN; rw [<- h]; simp [List.getD]
theorem fresh_begin {w : World} {base rp : Nat} {own : Nat -> Nat} {P : List Nat} {r : Rd} {I : Rd -> Prop} (HI0 : Inv I) (HC : CloseC I base rp) (h : St F w base rp own P r) (hb : base ≤ w.heap.size) (k : Nat) (hs : I (r.more (Nd.new k))) (a : Nat) (hc : r.cur = some a) (hu : Up r a) (hk4 : k ≠ 4 ∨ (r.nd a).kind = 3) (hk5 : (r.nd a).opn = true) :
  Calls Tryz.prog 62 #[.pointer (some ⟨rp, 0, none⟩), .pointer (some ⟨w.heap.size, 0, none⟩)] (w.alloc (.cells (ndCells [] (Nd.new k) (.slice none 0 0) (.slice none 0 0) (.slice none 0 0)) 50)) fun e w' =>
   ∃ own', e = .returned (.pointer (some ⟨w.heap.size, 0, none⟩)) ∧ St F w' base rp own' (P ++ [w.heap.size]) (r.fresh (Nd.new k)) ∧ Below base w w' := by
 have hm := h.more k hb (by have := HI0.n _ hs; rw [Rd.more_len] at this; exact this);have hal := h.wf.cur a hc;have hnb : (r.more (Nd.new k)).nd r.nds.length = Nd.new k := by rw [Rd.more_nd, if_neg (Nat.lt_irrefl _), if_pos rfl]
 have hna : (r.more (Nd.new k)).nd a = r.nd a := by rw [Rd.more_nd, if_pos hal]
 have hB := begin_any HI0 HC hm (by simp; omega) hs a r.nds.length hc (hu.more h.wf _ hal) (by rw [Rd.more_len]) (by have := h.wf.doc; omega) (by rw [hnb]; rfl) (fun e => by
  rw [hnb] at e;rw [hna];rcases hk4 with h1 | h1
  ·exact absurd e h1
  ·exact h1) (by rw [hna]; exact hk5)
 rw [ptN_new P _ _ h.len] at hB;refine hB.mono fun e w' ⟨own', h1, h2, h3⟩ => ⟨own', h1, h2, ?_⟩;exact ((Below.refl w.heap.size w).alloc (Nat.le_refl _) _ |>.mono hb).trans h3
theorem popF_len (K : Nat) : ∀ (f : Nat) (r : Rd), (Rd.popF K f r).nds.length = r.nds.length
 | 0, _ => rfl
 | f + 1, r => by
  rw [Rd.popF];split
  ·split
   ·rfl
   ·rw [popF_len K f]; exact (close_like r _).len
  ·rfl
theorem push_len (r : Rd) (b : Nat) : (r.push b).nds.length = r.nds.length := by
 unfold Rd.push;split
 ·show ((r.upd b _).upd _ _).nds.length = _;rw [Rd.upd_len, Rd.upd_len]
 ·rfl
theorem fresh_len (r : Rd) (d : Nd) : (r.fresh d).nds.length = r.nds.length + 1 := by
 unfold Rd.fresh Rd.begin;rw [push_len, popF_len, (settle_like _).len, Rd.more_len]
def Ext (P Q : List Nat) : Prop := ∀ j, j < P.length -> ptN Q j = ptN P j
theorem Ext.one (P : List Nat) (x : Nat) : Ext P (P ++ [x]) := fun j hj => by unfold ptN; simp [List.getD, List.getElem?_append_left hj]
def Looks (F : Frm) (w : World) (base rp : Nat) (P : List Nat) (r : Rd) (o : Option Rd) (e : Ending) (w' : World) : Prop := Below base w w' ∧ match o with
 | some q => e = .returned (.bool true) ∧ ∃ own Q, St F w' base rp own Q q ∧ Ext P Q
 | none => e = .returned (.bool false) ∧ ∃ own, St F w' base rp own P r
theorem rule_b {w : World} {base rp : Nat} {own : Nat -> Nat} {P : List Nat} {r : Rd} {I : Rd -> Prop} (HI0 : Inv I) (HC : CloseC I base rp) (h : St F w base rp own P r) (hb : base ≤ w.heap.size) (hs : I (r.more (Nd.new 9))) (a : Nat) (hc : r.cur = some a) (hu : Up r a) (hk5 : (r.nd a).opn = true) (t : ByteArray) (ht : t.size ≤ 1099511627) :
  Calls Tryz.prog 58 #[.pointer (some ⟨rp, 0, none⟩), .string t] w (Looks F w base rp P r (r.rule t)) := by
 have HR := hdn (rule_any t w ht)
 cases hrb : ruleB t.data.toList with
 | false =>
  have HV := hdn (show r.rule t = none by unfold Rd.rule; rw [hrb]; rfl);rw [hrb] at HR;have HS := hdn h;clear h HC HI0 hs hc hu hk5;go_enter Tryz.func58, Tryz.ntmps58;go_wp2_with fail;refine cMq HR.out ?_;rintro e w1 ⟨rfl, b1⟩;have HB1 := hdn b1;clear b1;go_wp2;go_ret;rw [HV.out];exact ⟨HB1.out.mono hb, rfl, own, HS.out.below HB1.out⟩
 | true =>
  have HV := hdn (show r.rule t = some ((r.fresh (Nd.new 9)).turn r.nds.length fun x => { x with opn := false }) by unfold Rd.rule; rw [hrb]; rfl);rw [hrb] at HR;have HF := hdn fun (w1 : World) (b1 : Below w.heap.size w w1) => fresh_begin HI0 HC (h.below b1) (Nat.le_trans hb b1.size) 9 hs a hc hu (.inl (by decide)) hk5;have hPl := h.len;clear h HC HI0 hs hc hu hk5;go_enter Tryz.func58, Tryz.ntmps58;go_wp2_with fail;refine cMq HR.out ?_;rintro e w1 ⟨rfl, b1⟩;have HB1 := hdn b1;clear b1;go_wp2_with fail
  refine cMq (kind_any 9 _) ?_;rintro e w2 ⟨rfl, hw2⟩;rw [hw2];clear hw2;go_wp2_with fail;refine cMq (HF.out w1 HB1.out) ?_;rintro e w3 ⟨own3, rfl, hst, hbb⟩;have hn : (r.fresh (Nd.new 9)).nds[r.nds.length]? = some ((r.fresh (Nd.new 9)).nd r.nds.length) := Rd.at_lt (by rw [fresh_len]; omega);have hptr := ptN_new P _ w1.heap.size hPl;have hset := hst.set hn 12 (.bool false) (d' := { (r.fresh (Nd.new 9)).nd r.nds.length with opn := false }) (fun _ _ _ => rfl) rfl rfl rfl (hst.wf.upd hn rfl rfl);obtain ⟨kv, lv, av, hnn⟩ := hst.nodes _ _ hn;have hrow := hnn.row;have hge := hnn.ge
  rw [hptr] at hrow hset hge;unfold ndCells at hrow;have q := fun i => cell_of_row w3 w1.heap.size i _ _ _ hrow;have f3 : ∀ i, w3.frozen? ⟨w1.heap.size, i, none⟩ = false := fun i => by simp [World.frozen?, hrow]
  have HS := hdn hset;have HB3 := hdn (((HB1.out.mono hb).trans hbb).setCell (p := ⟨w1.heap.size, 12, none⟩) hge (.bool false));clear hset hrow hnn hst hbb hn;go_wp2;go_ret;rw [HV.out];exact ⟨HB3.out, rfl, _, _, HS.out, Ext.one P _⟩
end
