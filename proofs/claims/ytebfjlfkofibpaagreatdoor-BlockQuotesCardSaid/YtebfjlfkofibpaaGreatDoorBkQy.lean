/- With a quote's mark ahead of each line. With a quote's mark ahead of each line. With a quote's mark ahead of each line. With a quote's mark ahead of each line. -/
import Derived.Test.YtebfjlfkofibpaaGreatDoorBkQt
import Derived.Test.YtebfjlfkofibpaaGreatDoorBkPs
import Derived.Test.YtebfjlfkofibpaaGreatDoorBkTo
namespace Go.Proofs.YtebfjlfkofibpaaGreatDoor
section
open Go.RowKit
namespace Sim
theorem html {B C : Nat} (hC : C ≤ 1000000) {r q : Rd} (h : Sim r q) (hr : Rdy B r) (hfew : r.nds.length + 1 ≤ 100000) (hBC : B + r.pot + 1 ≤ C) (t : ByteArray) : OSim (r.html t) (q.html t) := by
 have hk7 := htmlN_le t.data.toList;have hrp := r.rest_pot;obtain ⟨k, hk⟩ : ∃ k, htmlN t.data.toList = k := ⟨_, rfl⟩;have hft := fresh_turn (by omega) (show B ≤ C by omega) hr 8 (by decide) (by decide) (by decide) hfew (fun x => { x with html := k, lines := [r.rest] }) fun D hD hk ho hl => ⟨rfl, rfl, rfl, .inl ho, ⟨hD.asc, by
   show sumZ [r.rest] + 1 ≤ C;rw [show sumZ [r.rest] = r.rest.size by simp [sumZ]]; omega, hD.kind, fun e => by
    have e : D.kind ≤ 4 ∨ D.kind = 10 ∨ (D.opn = true ∧ (D.kind = 5 ∨ D.kind = 7)) := e;omega, hD.num, hD.ind, ⟨by show (0 : Int) ≤ (k : Int); omega, by show (k : Int) ≤ 7; omega, hD.html.2.2⟩⟩, ow_le (show D.kind ≠ 5 by omega) (by omega)⟩
 have hsim := h.freshTurn (show B ≤ 1000000 by omega) hr 8 (by decide) (by decide) (by decide) hfew (f := fun x => { x with html := k, lines := [r.rest] }) (g := fun x => { x with html := k, lines := [r.rest] }) fun _ => rfl;obtain ⟨r2, hr2⟩ : ∃ r2, ((r.fresh (Nd.new 8)).turn r.nds.length fun x => { x with html := k, lines := [r.rest] }) = r2 := ⟨_, rfl⟩;obtain ⟨a, F⟩ := fresh_r (by omega) hr (new_ok B 8 (by decide) (by decide)) hfew (fun e => by cases e);have ho2 : (r2.nd r.nds.length).opn = true := by
  rw [<- hr2];unfold Rd.turn;rw [Rd.upd_nd, if_pos ⟨rfl, by rw [F.len]; omega⟩, F.new]
 have hc : (k = 0 ∨ (k = 7 ∧ (q.curK = 5 ∨ (q.lzy = true ∧ t.size ≠ 0 ∧ q.tipK = 5)))) ↔ (k = 0 ∨ (k = 7 ∧ (r.curK = 5 ∨ (r.lzy = true ∧ t.size ≠ 0 ∧ r.tipK = 5)))) := by
  rw [h.curK (by decide) (by decide), h.tipK (by decide) (by decide), h.lzy]
 unfold Rd.html;rw [hk, h.rest];simp only
 by_cases c : k = 0 ∨ (k = 7 ∧ (r.curK = 5 ∨ (r.lzy = true ∧ t.size ≠ 0 ∧ r.tipK = 5)))
 ·rw [if_pos c, if_pos (hc.2 c)]; trivial
 ·rw [if_neg c, if_neg fun e => c (hc.1 e)];rw [hr2] at hsim hft ⊢
  by_cases c2 : endsB t.data.toList k = true
  ·rw [if_pos c2, if_pos c2];have := hsim.close hC hft.1.ok (by have := h.pos; omega) ho2;rw [h.len] at this ⊢;exact this
  ·rw [if_neg c2, if_neg c2]; exact hsim
theorem item {B : Nat} (hB : B ≤ 1000000) {r q : Rd} (h : Sim r q) (hr : Rdy B r) (hfew : r.nds.length + 2 ≤ 100000) (hp : r.pot ≤ 1000000) (w : Nat) (hw : w ≤ 1000000) : Sim (r.item r.bareT w).1 (q.item r.bareT w).1 ∧ (q.item r.bareT w).2 = (r.item r.bareT w).2 := by
 cases hi : itemN r.bareT.data.toList with
 | none =>
  have e1 : r.item r.bareT w = (r, 0) := by unfold Rd.item; rw [hi]
  have e2 : q.item r.bareT w = (q, 0) := by unfold Rd.item; rw [hi]
  rw [e1, e2]; exact ⟨h, rfl⟩
 | some x =>
  obtain ⟨c, start, width⟩ := x;have hwl := itemN_le hi;have hbl : r.bareT.data.toList.length = r.bareT.size := lTq;have hbs := r.bare_size;have hn : noItem q r.bareT c start width = noItem r r.bareT c start width := by
   unfold noItem;rw [decide_eq_decide.2 (h.curK (K := 5) (by decide) (by decide))]
  have hs1 := h.pass width;have hv : itemV (q.pass width) = itemV (r.pass width) := by
   unfold itemV;rw [hs1.rest, widthN_tl hs1.tab (q.pass width).col (r.pass width).col]
  have hV : itemV (r.pass width) ≤ 5 := by
   unfold itemV;split
   ·omega
   ·rename_i h; omega
  rw [item_eq r r.bareT w hi, item_eq q r.bareT w hi, hn, hv]
  by_cases c1 : noItem r r.bareT c start width = true
  ·rw [if_pos c1, if_pos c1]; exact ⟨h, rfl⟩
  ·rw [if_neg c1, if_neg c1];refine ⟨?_, rfl⟩;have hs2 := hs1.cut (itemV (r.pass width));have hR2 : Rdy B ((r.pass width).cut (itemV (r.pass width))) := (hr.pass width).cut _;have hl2 : ((r.pass width).cut (itemV (r.pass width))).nds.length = r.nds.length := rfl;generalize itemV (r.pass width) = V at hV hs2 hR2 hl2 ⊢;generalize (r.pass width).cut V = r2 at hs2 hR2 hl2 ⊢;generalize (q.pass width).cut V = q2 at hs2 ⊢;obtain ⟨g1, g2, g3⟩ := itemR3_rdy hB hR2 c start (by rw [hl2]; omega);have hs3 : Sim (itemR3 r2 c start) (itemR3 q2 c start) := by
    have hnl : newList q2 c = newList r2 c := by
     unfold newList;apply decide_eq_decide.2
     by_cases hk : r2.curK = 3
     ·have hk2 := (hs2.curK (K := 3) (by decide) (by decide)).2 hk;rw [hk, hk2, hs2.cur]
      cases hc : r2.cur with
      | none => exact Iff.rfl
      | some i =>
       have hi0 : i ≠ 0 := fun e => by
        unfold Rd.curK at hk;rw [hc, e] at hk;simp only at hk;rw [hs2.k1] at hk
        cases hk
       simp only [Option.map];rw [hs2.nd i hi0]
     ·exact ⟨fun _ => .inl hk, fun _ => .inl fun e => hk ((hs2.curK (by decide) (by decide)).1 e)⟩
    unfold itemR3;rw [hnl]
    by_cases c2 : newList r2 c = true
    ·rw [if_pos c2, if_pos c2, hs2.len];have hn := new_list B c.toNat start;exact (hs2.fresh hB hR2 { Nd.new 3 with mark := c.toNat, start := start } (by omega) hn.ok hn.kids hn.par hn.opn (fun e => by cases e)).setCur (some _)
    ·rw [if_neg c2, if_neg c2]; exact hs2
   generalize itemR3 r2 c start = r3 at g1 g2 g3 hs3 ⊢;generalize itemR3 q2 c start = q3 at hs3 ⊢;have hn := new_item B (w + width + V) (by omega);have := (hs3.fresh hB g1 { Nd.new 4 with indent := ((w + width + V : Nat) : Int) } (by omega) hn.ok hn.kids hn.par hn.opn (fun _ => g2)).setCur (some r3.nds.length);rw [hs3.len];exact this
theorem left {B C : Nat} (hC : C ≤ 1000000) {r q : Rd} (h : Sim r q) (hr : Rdy B r) (hfew : r.nds.length + 1 ≤ 100000) (hBC : B + r.pot + 1 ≤ C) (htip : TipK r) : Sim r.left q.left := by
 have hB : B ≤ 1000000 := by omega
 obtain ⟨tp, htp, htl, hto⟩ := htip;have hrp := r.rest_pot;obtain ⟨a, hc, ha⟩ := hr.cur;have hal := opn_lt ha;obtain ⟨s1, s2, s3, s4, s5⟩ := settle_facts hB hr.ok hc ha;have hlb : leftB q q.bareT = leftB r r.bareT := by
  unfold leftB;rw [h.bareT, h.lzy, decide_eq_decide.2 (h.tipK (K := 5) (by decide) (by decide))]
 obtain ⟨bb, hbb⟩ : ∃ bb, (if leftB r r.bareT = true then tp else a) = bb := ⟨_, rfl⟩;obtain ⟨r1, hr1⟩ : ∃ r1, (if leftB r r.bareT = true then r else r.settle) = r1 := ⟨_, rfl⟩;obtain ⟨q1, hq1⟩ : ∃ q1, (if leftB q q.bareT = true then q else q.settle) = q1 := ⟨_, rfl⟩;have hbq : (if leftB q q.bareT = true then tp + 1 else a + 1) = bb + 1 := by rw [hlb, <- hbb]; split <;> rfl
 have hs : Sim r1 q1 := by rw [<- hr1, <- hq1, hlb]; split; exact h; exact h.settle hB hr.ok
 rw [left_eq hc htp hbb hr1 rfl, left_eq (by rw [h.cur, hc]; rfl) (by rw [h.tip, htp]; rfl) hbq hq1 rfl, h.bareT, hs.rest, hs.n];have hok1 : Ok B r1 := by rw [<- hr1]; split; exact hr.ok; exact s1
 have hcur1 : r1.cur = some a := by rw [<- hr1]; split; exact hc; exact s4.cur.trans hc
 have hao1 : (r1.nd a).opn = true := by rw [<- hr1]; split; exact ha; exact (s5 a (Nat.le_refl _)).trans ha
 have hd01 : (r1.nd 0).opn = true := by rw [<- hr1]; split; exact hr.d0; exact (s5 0 (Nat.zero_le _)).trans hr.d0
 have hlen1 : r1.nds.length = r.nds.length := by rw [<- hr1]; split; rfl; exact s4.len
 have hrest1 : r1.rest = r.rest := by rw [<- hr1]; split; rfl; exact s4.rest
 have hrdy1 : Rdy B r1 := ⟨hok1, hd01, a, hcur1, hao1⟩;have hbbl : bb < r1.nds.length := by rw [hlen1, <- hbb]; split; exact htl; exact hal
 have hlast : Sim (if r.bareT.size ≠ 0 then (r1.fresh (Nd.new 5)).turn r1.nds.length fun x => { x with lines := [r.bareT] } else r1) (if r.bareT.size ≠ 0 then (q1.fresh (Nd.new 5)).turn q1.nds.length fun x => { x with lines := [r.bareT] } else q1) := by
  by_cases c : r.bareT.size ≠ 0
  ·rw [if_pos c, if_pos c]; exact hs.freshTurn hB hrdy1 5 (by decide) (by decide) (by decide) (by omega) fun _ => rfl
  ·rw [if_neg c, if_neg c]; exact hs
 by_cases hb0 : bb = 0
 ·rw [hb0, hs.k1, hs.k2];exact hlast
 ·rw [hs.nd bb hb0];simp only
  by_cases h7 : (r1.nd bb).kind = 7
  ·simp only [if_pos h7]; exact hs.upd hb0 _
  ·simp only [if_neg h7]
   by_cases h8 : (r1.nd bb).kind = 8
   ·simp only [if_pos h8];have hu := hs.upd hb0 { r1.nd bb with lines := (r1.nd bb).lines ++ [r1.rest], last := r1.n }
    by_cases c : endsB r1.rest.data.toList (r1.nd bb).html = true
    ·simp only [if_pos c];have hko : (r1.nd bb).opn = true := by
      by_cases hl : leftB r r.bareT = true
      ·have hl2 := hl;unfold leftB at hl2;simp at hl2;rw [if_pos hl] at hbb hr1;rw [<- hbb, <- hr1];exact hto hl2.1.1
      ·rw [if_neg hl] at hbb;rw [<- hbb]; exact hao1
     have hnn := hok1.nn;have h1 := push_line (C := C) hrdy1.okd hbbl (by omega) (fun e => by omega) r1.rest (by rw [hrest1]; omega) r1.n (by omega);have ho9 : ((r1.upd bb { r1.nd bb with lines := (r1.nd bb).lines ++ [r1.rest], last := r1.n }).nd bb).opn = true := by
      rw [Rd.upd_nd, if_pos ⟨rfl, hbbl⟩];exact hko
     exact hu.close hC h1.ok hb0 ho9
    ·simp only [if_neg c]; exact hu
   ·simp only [if_neg h8]
    by_cases h5 : (r1.nd bb).kind = 5 ∨ (r1.nd bb).kind = 10
    ·simp only [if_pos h5]; exact hs.upd hb0 _
    ·simp only [if_neg h5]; exact hlast
end Sim
end
section
open Go.RowKit
theorem OSim.get {x y : Option Rd} (h : OSim x y) : (x = none ∧ y = none) ∨ ∃ a b, x = some a ∧ y = some b ∧ Sim a b := by
 cases x with
 | none => cases y with
  | none => exact .inl ⟨rfl, rfl⟩
  | some b => exact h.elim
 | some a => cases y with
  | none => exact h.elim
  | some b => exact .inr ⟨a, b, rfl, rfl, h⟩
namespace Sim
theorem look {B C : Nat} (hC : C ≤ 1000000) {r q : Rd} (h : Sim r q) (hr : Rdy B r) (hfew : r.nds.length + 2 ≤ 100000) (hp : r.pot ≤ 1000000) (hBC : B + r.pot + 1 ≤ C) : Sim r.look.1 q.look.1 ∧ q.look.2 = r.look.2 := by
 have hB : B ≤ 1000000 := by omega
 have hbs := r.bare_size;unfold Rd.look;rw [h.bareT, h.bareW];simp only
 by_cases c : 4 ≤ r.bareW
 ·rw [if_pos c, if_pos c]; exact h.code hB hr (by omega) _
 ·rw [if_neg c, if_neg c]
  by_cases c2 : r.bareT.data.toList.head? = some 62
  ·rw [if_pos c2, if_pos c2]; exact ⟨h.quote hB hr (by omega), rfl⟩
  ·rw [if_neg c2, if_neg c2];rcases (h.head hB hr (by omega) r.bareT).get with ⟨e1, e2⟩ | ⟨a, b, e1, e2, hs⟩
   ·rw [e1, e2];simp only;rcases (h.fenced hB hr (by omega) r.bareT r.bareW).get with ⟨e1, e2⟩ | ⟨a, b, e1, e2, hs⟩
    ·rw [e1, e2];simp only;rcases (h.html hC hr (by omega) hBC r.bareT).get with ⟨e1, e2⟩ | ⟨a, b, e1, e2, hs⟩
     ·rw [e1, e2];simp only;rcases (h.table r.bareT).get with ⟨e1, e2⟩ | ⟨a, b, e1, e2, hs⟩
      ·rw [e1, e2];simp only;obtain ⟨u1, u2⟩ := under_ok hr r.bareT;obtain ⟨v1, v2⟩ := h.under r.bareT;rw [v2];rcases u2 with ⟨u2, u3, _, u5, u6, _, _⟩ | ⟨u2, u3⟩
       ·rw [if_neg (by rw [u2]; exact Bool.false_ne_true), if_neg (by rw [u2]; exact Bool.false_ne_true)];generalize (r.under r.bareT).1 = r2 at u1 u3 u5 u6 v1 ⊢;generalize (q.under r.bareT).1 = q2 at v1 ⊢;have hqb : r2.bareT = r.bareT := by unfold Rd.bareT; rw [u5]
        have hqp : r2.pot = r.pot := by unfold Rd.pot; rw [u5, u6]
        rcases (v1.rule hB u3 (by omega) r.bareT).get with ⟨e1, e2⟩ | ⟨a, b, e1, e2, hs⟩
        ·rw [e1, e2];simp only;have := v1.item hB u3 (by omega) (by omega) r.bareW (by omega);rw [hqb] at this;exact this
        ·rw [e1, e2]; exact ⟨hs, rfl⟩
       ·rw [if_pos u2, if_pos u2];exact ⟨v1, rfl⟩
      ·rw [e1, e2]; exact ⟨hs, rfl⟩
     ·rw [e1, e2]; exact ⟨hs, rfl⟩
    ·rw [e1, e2]; exact ⟨hs, rfl⟩
   ·rw [e1, e2]; exact ⟨hs, rfl⟩
theorem lookF {B C : Nat} (hC : C ≤ 1000000) : ∀ (f g : Nat) (r q : Rd), Sim r q -> Rdy B r -> r.nds.length + 2 * r.nb + 3 ≤ 100000 -> r.pot ≤ 1000000 -> B + r.pot + 1 ≤ C -> TipK r -> r.nb < f -> r.nb < g -> Sim (Rd.lookF f r) (Rd.lookF g q)
 | 0, _, _, _, _, _, _, _, _, _, h, _ => absurd h (by omega)
 | _ + 1, 0, _, _, _, _, _, _, _, _, _, h => absurd h (by omega)
 | f + 1, g + 1, r, q, hs, h, hfew, hp, hBC, ht, hnb, hng => by
  have e1 : Rd.lookF (f + 1) r = if r.curK = 7 ∨ r.curK = 8 then r.left else (let x := r.look
   if x.2 = 2 then x.1 else if x.2 = 0 then x.1.left else Rd.lookF f x.1) := rfl;have e2 : Rd.lookF (g + 1) q = if q.curK = 7 ∨ q.curK = 8 then q.left else (let x := q.look
   if x.2 = 2 then x.1 else if x.2 = 0 then x.1.left else Rd.lookF g x.1) := rfl;have hc : (q.curK = 7 ∨ q.curK = 8) ↔ (r.curK = 7 ∨ r.curK = 8) := by rw [hs.curK (by decide) (by decide), hs.curK (by decide) (by decide)]
  rw [e1, e2]
  by_cases c : r.curK = 7 ∨ r.curK = 8
  ·rw [if_pos c, if_pos (hc.2 c)]; exact hs.left hC h (by omega) hBC ht
  ·rw [if_neg c, if_neg fun e => c (hc.1 e)];simp only;have hl := look_ok hC h (by omega) hp hBC ht;have hll := hl.len;obtain ⟨k1, k2⟩ := hs.look hC h (by omega) hp hBC;rw [k2]
   by_cases c2 : r.look.2 = 2
   ·rw [if_pos c2, if_pos c2]; exact k1
   ·rw [if_neg c2, if_neg c2];obtain ⟨g1, g2, g3⟩ := hl.go c2
    by_cases c0 : r.look.2 = 0
    ·rw [if_pos c0, if_pos c0]; exact k1.left hC g1 (by omega) (by omega) g3
    ·rw [if_neg c0, if_neg c0];have c1 : r.look.2 = 1 := by rcases hl.res with e | e | e; exact absurd e c0; exact e; exact absurd e c2
     have := hl.again c1;exact lookF hC f g _ _ k1 g1 (by omega) (by omega) (by omega) g3 (by omega) (by omega)
theorem walkF {B : Nat} (hB : B ≤ 1000000) : ∀ (f : Nat) (r q : Rd), Sim r q -> Rdy B r -> Sim (Rd.walkF f r).1 (Rd.walkF f q).1 ∧ (Rd.walkF f q).2 = (Rd.walkF f r).2
 | 0, _, _, hs, _ => ⟨hs, rfl⟩
 | f + 1, r, q, hs, h => by
  obtain ⟨a, hc, ha⟩ := h.cur;unfold Rd.walkF;rw [hs.cur, hc];simp only [Option.map];rw [hs.inner a]
  cases hi : r.inner a with
  | none => exact ⟨hs, rfl⟩
  | some k =>
   simp only [Option.map];obtain ⟨i1, i2⟩ := inner_facts hi;have ik := h.ok.kid a k i1;have hg := goes_ok hB h.okd (k := k) ik.2.1 i2 (by omega);obtain ⟨s1, s2⟩ := hs.goes hB h.okd (k := k) (by omega) i2;rw [s2]
   by_cases c : (r.goes k).2.2 = true
   ·rw [if_pos c, if_pos c]; exact ⟨s1, rfl⟩
   ·rw [if_neg c, if_neg c];have hd : (r.goes k).2.2 = false := by simpa using c
    obtain ⟨g1, _, _, _⟩ := hg.go hd
    by_cases c2 : (r.goes k).2.1 = true
    ·rw [if_pos c2, if_pos c2];have hR : Rdy B { (r.goes k).1 with cur := some k } := ⟨hg.okd.ok.same rfl (Nat.le_refl _) hg.okd.ok.nn, hg.okd.d0, k, rfl, by show ((r.goes k).1.nd k).opn = true; rw [g1]; exact i2⟩;exact walkF hB f _ _ (s1.setCur (some k)) hR
    ·rw [if_neg c2, if_neg c2]; exact ⟨s1, rfl⟩
theorem deepF {B : Nat} : ∀ (f g : Nat) (r q : Rd) (b : Nat), Sim r q -> Ok B r -> b < r.nds.length -> r.nds.length ≤ b + f -> r.nds.length ≤ b + g -> Rd.deepF g q (b + 1) = Rd.deepF f r b + 1
 | 0, _, _, _, _, _, _, hb, h, _ => absurd h (by omega)
 | _ + 1, 0, _, _, _, _, _, hb, _, h => absurd h (by omega)
 | f + 1, g + 1, r, q, b, hs, h, hb, hf, hg => by
  unfold Rd.deepF;rw [hs.inner b]
  cases hi : r.inner b with
  | none => rfl
  | some k =>
   have hm := h.kid b k (Rd.inner_mem hi);exact deepF f g r q k hs h hm.2.1 (by omega) (by omega)
end Sim
end
section
open Go.RowKit
namespace Sim
theorem lastQ {r q : Rd} (h : Sim r q) (f : Nd -> Nd) (h1 : (f (q.nd 1)).kids = (q.nd 1).kids) (h2 : (f (q.nd 1)).kind = (q.nd 1).kind) (h3 : (f (q.nd 1)).opn = (q.nd 1).opn) (h4 : (f (q.nd 1)).parent = (q.nd 1).parent) : Sim r (q.turn 1 f) := by
 have hl := h.len;have hp := h.pos;have e1 : (q.turn 1 f).nd 1 = f (q.nd 1) := by unfold Rd.turn; rw [Rd.upd_nd, if_pos (by omega)]
 have e0 : (q.turn 1 f).nd 0 = q.nd 0 := by unfold Rd.turn; rw [Rd.upd_nd, if_neg (by omega)]
 refine ⟨?_, hp, fun j hj => ?_, ?_, ?_, h.k1, ?_, ?_, ?_, ?_, ?_, h.rest, h.tab, h.n, h.lzy, h.cur, h.tip, h.refs⟩
 ·show (q.nds.set _ _).length = r.nds.length + 1;rw [List.length_set]; exact hl
 ·unfold Rd.turn;rw [Rd.upd_nd, if_neg (by omega)]; exact h.nd j hj
 ·rw [e1, h1]; exact h.top
 ·rw [e1, h2]; exact h.k2
 ·rw [e1, h3]; exact h.o1
 ·rw [e1, h4]; exact h.p1
 ·rw [e0]; exact h.dk
 ·rw [e0]; exact h.dn
 ·rw [e0]; exact h.dop
end Sim
def quoteS (s : ByteArray) : ByteArray := ⟨#[62, 32]⟩ ++ s
theorem quoteS_list (s : ByteArray) : (quoteS s).data.toList = 62 :: 32 :: s.data.toList := by unfold quoteS; simp
theorem quote_cut (q : Rd) (s : ByteArray) (hr : q.rest = quoteS s) : q.bareT = quoteS s ∧ q.bareW = 0 ∧ ((q.pass 1).cut 1).rest = s := by
 have hT : q.bareT = quoteS s := by
  unfold Rd.bareT;rw [hr, quoteS_list, trimL_cons, if_neg (by decide), <- quoteS_list]
 have hW : q.bareW = 0 := by
  unfold Rd.bareW widthN;rw [hr, quoteS_list];simp [colF, colS]
 refine ⟨hT, hW, ?_⟩;have h1 : (q.pass 1).rest.data.toList = 32 :: s.data.toList := by rw [Rd.pass_list, hT, quoteS_list]; rfl
 have hk : cutKF ((q.pass 1).col + 1) (32 :: s.data.toList) (q.pass 1).col 0 = (1, (q.pass 1).col + 1) := by
  rw [cutKF];simp only [colE, colS, if_pos (show (q.pass 1).col < (q.pass 1).col + 1 by omega), if_true]
  cases s.data.toList with
  | nil => rfl
  | cons b l => simp [cutKF, colE]
 unfold Rd.cut cutN;simp only;rw [h1, hk];simp
theorem Sim.read {B C : Nat} (hC : C ≤ 1000000) {r q : Rd} (h : Sim r q) (ho : Okd B r) (s : ByteArray) (ht : NoTab s) (hfew : r.nds.length + 2 * s.size + 3 ≤ 100000) (hs : 4 * s.size ≤ 1000000) (hBC : B + 4 * s.size + 1 ≤ C) : Sim (r.read s) (q.read (quoteS s)) := by
 have hB : B ≤ 1000000 := by omega
 obtain ⟨r0, hr0⟩ : ∃ r0, ({ r with rest := s, col := 0, cur := some 0 } : Rd) = r0 := ⟨_, rfl⟩;obtain ⟨q0, hq0⟩ : ∃ q0, ({ q with rest := quoteS s, col := 0, cur := some 0 } : Rd) = q0 := ⟨_, rfl⟩;have hR : Rdy B r0 := by rw [<- hr0]; exact ⟨ho.ok.same rfl (Nat.le_refl _) ho.ok.nn, ho.d0, 0, rfl, ho.d0⟩
 obtain ⟨t1, t2, t3⟩ := quote_cut q0 s (by rw [<- hq0]);have hi : q0.inner 0 = some 1 := by
  rw [<- hq0];show q.inner 0 = some 1;unfold Rd.inner;rw [h.dk];simp [h.o1, ho.d0]
 obtain ⟨X, hX⟩ : ∃ X, (q0.pass 1).cut 1 = X := ⟨_, rfl⟩;rw [hX] at t3;have hg : q0.goes 1 = (X.turn 1 (fun x => { x with last := q0.n }), true, false) := by
  have k2 : (q0.nd 1).kind = 2 := by rw [<- hq0]; exact h.k2
  unfold Rd.goes;simp only;rw [if_pos k2, if_neg (by rw [t1, t2, quoteS_list]; simp), hX]
 have hXs : Sim r0 ({ (X.turn 1 (fun x => { x with last := q0.n })) with cur := some 1 } : Rd) := by
  have h1 := ((h.setRest s ht 0 X.col).setCur (some 0)).lastQ (fun x => { x with last := q0.n }) rfl rfl rfl rfl;rw [hr0] at h1;have e : ({ (X.turn 1 (fun x => { x with last := q0.n })) with cur := some 1 } : Rd) = ({ ({ q with rest := s, col := X.col } : Rd) with cur := (some 0).map (· + 1) } : Rd).turn 1 (fun x => { x with last := q0.n }) := by
   rw [<- t3, <- hX, <- hq0]; rfl
  rw [e]; exact h1
 have hw : Rd.walkF q.nds.length q0 = Rd.walkF r.nds.length ({ (X.turn 1 (fun x => { x with last := q0.n })) with cur := some 1 } : Rd) := by
  rw [h.len, Rd.walkF, show q0.cur = some 0 by rw [<- hq0]];simp only;rw [hi];simp only;rw [hg];simp
 have hsl : s.data.toList.length = s.size := lTq;have hqp : r0.pot ≤ 4 * s.size := by
  rw [<- hr0];have := (len_wz s.data.toList).2;show 0 + wz s.data.toList ≤ _;omega
 have hqn : r0.nb ≤ s.size := by
  rw [<- hr0];have := nbl_le s.data.toList;show nbl s.data.toList ≤ _;omega
 have hql : r0.nds.length = r.nds.length := by rw [<- hr0]
 unfold Rd.read;rw [hr0, hq0, hw];obtain ⟨k1, k2⟩ := hXs.walkF hB r.nds.length _ _ hR;obtain ⟨w1, w2, w3⟩ := walk_ok hB r.nds.length r0 hR;generalize Rd.walkF r.nds.length r0 = x at k1 k2 w1 w2 w3 ⊢;generalize Rd.walkF r.nds.length _ = y at k1 k2 ⊢;simp only;rw [k2]
 by_cases c : x.2 = true
 ·rw [if_pos c, if_pos c]; exact k1
 ·rw [if_neg c, if_neg c];obtain ⟨g1, g2, g3⟩ := w2 (by simpa using c);obtain ⟨a, hc, ha⟩ := g1.cur;have htp : y.1.deepest (y.1.cur.getD 0) = x.1.deepest (x.1.cur.getD 0) + 1 := by
   rw [k1.cur, hc];simp only [Option.map, Option.getD];unfold Rd.deepest;exact Sim.deepF _ _ _ _ a k1 g1.ok (opn_lt ha) (by omega) (by rw [k1.len]; omega)
  have hlz : decide (some (y.1.deepest (y.1.cur.getD 0)) ≠ y.1.cur) = decide (some (x.1.deepest (x.1.cur.getD 0)) ≠ x.1.cur) := by
   rw [htp, k1.cur, hc];simp
  have k3 := k1.setTip (some (x.1.deepest (x.1.cur.getD 0))) (decide (some (x.1.deepest (x.1.cur.getD 0)) ≠ x.1.cur));rw [hlz, htp];have hdo : (x.1.nd (x.1.deepest (x.1.cur.getD 0))).opn = true := by
   rw [hc];exact deep_ok x.1.nds.length x.1 a ha
  obtain ⟨q2, hq2⟩ : ∃ q2, ({ x.1 with tip := some (x.1.deepest (x.1.cur.getD 0)), lzy := decide (some (x.1.deepest (x.1.cur.getD 0)) ≠ x.1.cur) } : Rd) = q2 := ⟨_, rfl⟩;have hR2 : Rdy B q2 := by rw [<- hq2]; exact ⟨g1.ok.same rfl (Nat.le_refl _) g1.ok.nn, g1.d0, a, hc, ha⟩
  have h2l : q2.nds.length = x.1.nds.length := by rw [<- hq2]
  have h2p : q2.pot = x.1.pot := by rw [<- hq2]; rfl
  have h2n : q2.nb = x.1.nb := by rw [<- hq2]; rfl
  have h2r : q2.rest = x.1.rest := by rw [<- hq2]
  have ht2 : TipK q2 := by
   rw [<- hq2];exact ⟨_, rfl, opn_lt hdo, fun _ => hdo⟩
  have hnb : q2.nb ≤ q2.rest.size := by
   have h1 := nbl_le q2.rest.data.toList;have h2 : q2.rest.data.toList.length = q2.rest.size := lTq;unfold Rd.nb;omega
  rw [h2r] at hnb;rw [hq2] at k3;have := Sim.lookF hC (x.1.rest.size + 1) (y.1.rest.size + 1) _ _ k3 hR2 (by omega) (by omega) (by omega) ht2 (by omega) (by rw [k1.rest]; omega);rw [<- hq2] at this;exact this
end
section
open Go.RowKit
namespace Sim
theorem closeF2 {B : Nat} (hB : B ≤ 1000000) : ∀ (f g : Nat) (r q : Rd) (b : Nat), Sim r q -> Ok B r -> b ≠ 0 -> b < r.nds.length -> (r.nd b).opn = true -> r.nds.length ≤ b + f -> r.nds.length ≤ b + g -> Sim (Rd.closeF f r b) (Rd.closeF g q (b + 1))
 | 0, _, _, _, _, _, _, _, hl, _, hf, _ => absurd hf (by omega)
 | _ + 1, 0, _, _, _, _, _, _, hl, _, _, hg => absurd hg (by omega)
 | f + 1, g + 1, r, q, b, h, hok, hb, hl, ho, hf, hg => by
  have e1 : Rd.closeF (f + 1) r b = (match r.inner b with | some k => Rd.closeF f r k | none => r).shut b := rfl
  have e2 : Rd.closeF (g + 1) q (b + 1) = (match q.inner (b + 1) with | some k => Rd.closeF g q k | none => q).shut (b + 1) := rfl
  rw [e1, e2, h.inner b]
  cases hi : r.inner b with
  | none =>
   simp only [Option.map];exact h.shut hok hb
  | some k =>
   simp only [Option.map];have hm := hok.kid b k (Rd.inner_mem hi);have hko := Rd.inner_opn hi;exact (closeF2 hB f g r q k h hok (by omega) hm.2.1 hko (by omega) (by omega)).shut (closeF_ok hB f r k hok hm.2.1 hko (by omega)).1 hb
end Sim
structure FSim (r q : Rd) : Prop where
 len : q.nds.length = r.nds.length + 1
 nd : ∀ i, i ≠ 0 -> q.nd (i + 1) = (r.nd i).sh
 top : (q.nd 1).kids = (r.nd 0).kids.map (· + 1)
 k2 : (q.nd 1).kind = 2
 k1 : (r.nd 0).kind = 1
 dk : (q.nd 0).kids = [1]
 dn : (q.nd 0).kind = 1
 refs : q.refs = r.refs
theorem Rd.shut_cur (r : Rd) (c : Option Nat) (b : Nat) : ({ r with cur := c } : Rd).shut b = { r.shut b with cur := c } := by
 unfold Rd.shut Rd.upd Rd.nd;simp only
 repeat' split
 all_goals rfl
theorem Rd.closeF_cur : ∀ (f : Nat) (r : Rd) (c : Option Nat) (b : Nat), Rd.closeF f { r with cur := c } b = { Rd.closeF f r b with cur := c }
 | 0, _, _, _ => rfl
 | f + 1, r, c, b => by
  unfold Rd.closeF;rw [show ({ r with cur := c } : Rd).inner b = r.inner b from rfl]
  cases r.inner b with
  | none => exact Rd.shut_cur r c b
  | some k =>
   simp only;rw [Rd.closeF_cur f r c k];exact Rd.shut_cur _ c b
theorem Sim.final {B : Nat} (hB : B ≤ 1000000) {r q : Rd} (h : Sim r q) (ho : Okd B r) : FSim (({ r with cur := some 0 } : Rd).close 0) (({ q with cur := some 0 } : Rd).close 0) := by
 obtain ⟨R, hR⟩ : ∃ R, ({ r with cur := some 0 } : Rd) = R := ⟨_, rfl⟩;obtain ⟨Q, hQ⟩ : ∃ Q, ({ q with cur := some 1 } : Rd) = Q := ⟨_, rfl⟩;have hs : Sim R Q := by rw [<- hR, <- hQ]; exact h.setCur (some 0)
 have hok : Ok B R := by rw [<- hR]; exact ho.ok.same rfl (Nat.le_refl _) ho.ok.nn
 have ho0 : (R.nd 0).opn = true := by rw [<- hR]; exact ho.d0
 have hpos := hs.pos;obtain ⟨f, hf⟩ : ∃ f, R.nds.length = f + 1 := ⟨R.nds.length - 1, by omega⟩;have hql : Q.nds.length = f + 2 := by rw [hs.len, hf]
 have hq0 : ({ q with cur := some 0 } : Rd).close 0 = { (Q.close 0) with cur := some 0 } := by
  have := Rd.closeF_cur Q.nds.length Q (some 0) 0;rw [<- hQ] at this ⊢;exact this
 obtain ⟨X, hX⟩ : ∃ X, (match R.inner 0 with | some k => Rd.closeF f R k | none => R) = X := ⟨_, rfl⟩
 obtain ⟨Y, hY⟩ : ∃ Y, (match Q.inner 1 with | some k => Rd.closeF f Q k | none => Q) = Y := ⟨_, rfl⟩
 have e1 : R.close 0 = X.shut 0 := by
  unfold Rd.close;rw [hf, <- hX]; rfl
 have hi0 : Q.inner 0 = some 1 := by
  unfold Rd.inner;rw [hs.dk];simp [hs.o1, ho0]
 have e2 : Q.close 0 = (Y.shut 1).shut 0 := by
  unfold Rd.close;rw [hql, show Rd.closeF (f + 2) Q 0 = (match Q.inner 0 with | some k => Rd.closeF (f + 1) Q k | none => Q).shut 0 from rfl, hi0, <- hY]; rfl
 have hXY : Sim X Y := by
  rw [<- hX, <- hY, show Q.inner 1 = (R.inner 0).map (· + 1) from hs.inner 0]
  cases hi : R.inner 0 with
  | none => exact hs
  | some k =>
   have hm := hok.kid 0 k (Rd.inner_mem hi);exact hs.closeF2 hB f f R Q k hok (by omega) hm.2.1 (Rd.inner_opn hi) (by omega) (by omega)
 have hXl := hXY.len;have hXp := hXY.pos;have d1 : X.shut 0 = X.upd 0 { X.nd 0 with opn := false } := by
  unfold Rd.shut;simp only [hXY.k1];simp
 obtain ⟨L, d2⟩ : ∃ L, Y.shut 1 = Y.upd 1 { Y.nd 1 with opn := false, last := L } := by
  unfold Rd.shut;simp only [hXY.k2];exact ⟨_, rfl⟩
 obtain ⟨Z, hZ⟩ : ∃ Z, Y.shut 1 = Z := ⟨_, rfl⟩;have z0 : Z.nd 0 = Y.nd 0 := by rw [<- hZ, d2, Rd.upd_nd, if_neg (by omega)]
 have z1 : Z.nd 1 = { Y.nd 1 with opn := false, last := L } := by rw [<- hZ, d2, Rd.upd_nd, if_pos (by omega)]
 have zr : Z.refs = Y.refs := by rw [<- hZ, d2]; rfl
 have zl : Z.nds.length = Y.nds.length := by rw [<- hZ, d2]; exact List.length_set ..
 have zj : ∀ j, j ≠ 0 -> Z.nd (j + 1) = Y.nd (j + 1) := fun j hj => by rw [<- hZ, d2, Rd.upd_nd, if_neg (by omega)]
 have d3 : Z.shut 0 = Z.upd 0 { Z.nd 0 with opn := false } := by
  have : (Z.nd 0).kind = 1 := by rw [z0]; exact hXY.dn
  unfold Rd.shut;simp only [this];simp
 rw [hR, hq0, e1, e2, hZ, d1, d3];have w1 : ∀ j, j ≠ 0 -> (({ (Z.upd 0 { Z.nd 0 with opn := false }) with cur := some 0 } : Rd)).nd j = Z.nd j := fun j hj => by
  show (Z.upd 0 _).nd j = _;rw [Rd.upd_nd, if_neg (by omega)]
 have w0 : (({ (Z.upd 0 { Z.nd 0 with opn := false }) with cur := some 0 } : Rd)).nd 0 = { Z.nd 0 with opn := false } := by
  show (Z.upd 0 _).nd 0 = _;rw [Rd.upd_nd, if_pos (by omega)]
 have x0 : (X.upd 0 { X.nd 0 with opn := false }).nd 0 = { X.nd 0 with opn := false } := by rw [Rd.upd_nd, if_pos (by omega)]
 refine ⟨?_, fun i hi => ?_, ?_, ?_, ?_, ?_, ?_, ?_⟩
 ·show (Z.nds.set _ _).length = (X.nds.set _ _).length + 1;rw [List.length_set, List.length_set, zl, hXl]
 ·rw [w1 _ (by omega), zj i hi, Rd.upd_nd, if_neg (by omega)];exact hXY.nd i hi
 ·rw [w1 1 (by decide), z1, x0]; exact hXY.top
 ·rw [w1 1 (by decide), z1]; exact hXY.k2
 ·rw [x0]; exact hXY.k1
 ·rw [w0, z0]; exact hXY.dk
 ·rw [w0, z0]; exact hXY.dn
 ·exact zr.trans hXY.refs
def firstR (s : ByteArray) (t : Option Nat) : Rd := ⟨[{ Nd.new 1 with opn := true }], s, 0, 1, some 0, t, false, []⟩
theorem first_read (s : ByteArray) : ({ Rd.start with n := 1 } : Rd).read s = Rd.lookF (s.size + 1) (firstR s (some 0)) := by
 have hw : Rd.walkF 1 (firstR s none) = (firstR s none, false) := rfl;have hd : (firstR s none).deepest ((firstR s none).cur.getD 0) = 0 := rfl;have h : ({ Rd.start with n := 1 } : Rd).read s = (let x := Rd.walkF 1 (firstR s none)
  if x.2 = true then x.1 else
   let tp := x.1.deepest (x.1.cur.getD 0)
   let r2 := { x.1 with tip := some tp, lzy := decide (some tp ≠ x.1.cur) }
   Rd.lookF (r2.rest.size + 1) r2) := by unfold Rd.read; rfl
 rw [h];simp only;rw [hw];simp only;rw [if_neg Bool.false_ne_true, hd];have h3 : ({ firstR s none with tip := some 0, lzy := decide (some 0 ≠ (firstR s none).cur) } : Rd) = firstR s (some 0) := rfl;rw [h3];have h2 : (firstR s none).rest = s := rfl;rw [h2]
theorem Sim.first {C : Nat} (hC : C ≤ 1000000) (s : ByteArray) (ht : NoTab s) (hfew : 2 * s.size + 4 ≤ 100000) (hBC : 4 * s.size + 1 ≤ C) :
  Sim (({ Rd.start with n := 1 } : Rd).read s) (({ Rd.start with n := 1 } : Rd).read (quoteS s)) := by
 obtain ⟨r0, hr0⟩ : ∃ r0, firstR s (some 0) = r0 := ⟨_, rfl⟩;obtain ⟨q0, hq0⟩ : ∃ q0, firstR (quoteS s) (some 0) = q0 := ⟨_, rfl⟩;have hst := start_ok;have e1 := first_read s;have e2 := first_read (quoteS s);rw [hr0] at e1;rw [hq0] at e2;obtain ⟨t1, t2, t3⟩ := quote_cut q0 s (by rw [<- hq0]; rfl);have hz : (quoteS s).size = s.size + 2 := by
  have h1 : (quoteS s).data.toList.length = (quoteS s).size := lTq;have h2 : s.data.toList.length = s.size := lTq;rw [<- h1, <- h2, quoteS_list]; rfl
 have hlook : q0.look = q0.quote := by
  unfold Rd.look;simp only;rw [t1, t2, if_neg (by omega), if_pos (by rw [quoteS_list]; rfl)]
 have e3 : Rd.lookF (s.size + 2 + 1) q0 = Rd.lookF (s.size + 2) q0.quote.1 := by
  have hk : q0.curK = 1 := by rw [<- hq0]; rfl
  rw [Rd.lookF];rw [if_neg (by rw [hk]; decide), hlook];rfl
 rw [e1, e2, hz, e3];have hsl : s.data.toList.length = s.size := lTq;have hR : Rdy 0 r0 := by rw [<- hr0]; exact ⟨hst.ok.same rfl (Nat.le_refl _) (by show (1 : Nat) ≤ _; decide), rfl, 0, rfl, rfl⟩
 have hpot : r0.pot ≤ 4 * s.size := by
  rw [<- hr0];have := (len_wz s.data.toList).2;show 0 + wz s.data.toList ≤ _;omega
 have hnb : r0.nb ≤ s.size := by
  rw [<- hr0];have := nbl_le s.data.toList;show nbl s.data.toList ≤ _;omega
 have hl1 : r0.nds.length = 1 := by rw [<- hr0]; rfl
 obtain ⟨X, hX⟩ : ∃ X, (q0.pass 1).cut 1 = X := ⟨_, rfl⟩;rw [hX] at t3;have hXn : X = { firstR s (some 0) with col := X.col } := by
  have : X = { firstR (quoteS s) (some 0) with rest := X.rest, col := X.col } := by rw [<- hX, <- hq0]; rfl
  rw [t3] at this;rw [this]; rfl
 have hq : q0.quote.1 = ⟨[{ Nd.new 1 with opn := true, kids := [1] }, { Nd.new 2 with parent := some 0, opn := true, first := 1, last := 1 }], s, X.col, 1, some 1, some 1, false, []⟩ := by
  have : q0.quote.1 = { (X.fresh (Nd.new 2)) with cur := some X.nds.length } := by rw [<- hX]; rfl
  rw [this, hXn]; rfl
 have hsim : Sim r0 q0.quote.1 := by
  rw [hq, <- hr0];refine ⟨rfl, by show 0 < 1; decide, fun i hi => ?_, rfl, rfl, rfl, rfl, rfl, rfl, rfl, rfl, rfl, ht, rfl, rfl, rfl, rfl, rfl⟩;obtain ⟨j, rfl⟩ : ∃ j, i = j + 1 := ⟨i - 1, by omega⟩;rfl
 exact Sim.lookF hC (s.size + 1) (s.size + 2) _ _ hsim hR (by omega) (by omega) (by omega) ⟨0, by rw [<- hr0]; rfl, by omega, fun _ => by rw [<- hr0]; rfl⟩ (by omega) (by omega)
theorem Sim.setN {r q : Rd} (h : Sim r q) (k : Nat) : Sim { r with n := k } { q with n := k } := ⟨h.len, h.pos, h.nd, h.top, h.k2, h.k1, h.o1, h.p1, h.dk, h.dn, h.dop, h.rest, h.tab, rfl, h.lzy, h.cur, h.tip, h.refs⟩
theorem Sim.lines : ∀ (ls : List ByteArray) (B : Nat) (r q : Rd), Sim r q -> Okd B r -> (∀ l ∈ ls, NoTab l) -> r.nds.length + 2 * sumZ ls + 3 * ls.length ≤ 100000 -> r.n + ls.length ≤ 1000000 -> 4 * sumZ ls ≤ 1000000 -> B + 4 * sumZ ls + ls.length ≤ 1000000 -> Sim (Rd.linesF ls r) (Rd.linesF (ls.map quoteS) q)
 | [], _, _, _, h, _, _, _, _, _, _ => h
 | l :: ls, B, r, q, h, ho, ht, hf, hn, hs, hB => by
  have hz : sumZ (l :: ls) = l.size + sumZ ls := by unfold sumZ; simp
  rw [hz] at hf hs hB;rw [List.length_cons] at hf hn hB;rw [List.map_cons];unfold Rd.linesF;have h1 := h.setN (r.n + 1);rw [show ({ q with n := q.n + 1 } : Rd) = { q with n := r.n + 1 } by rw [h.n]];obtain ⟨r1, hr1⟩ : ∃ r1, ({ r with n := r.n + 1 } : Rd) = r1 := ⟨_, rfl⟩;have hqo : Okd B r1 := by rw [<- hr1]; exact ⟨ho.ok.same rfl (Nat.le_refl _) (by show r.n + 1 ≤ _; omega), ho.d0⟩
  have hql : r1.nds.length = r.nds.length := by rw [<- hr1]
  have hqn : r1.n = r.n + 1 := by rw [<- hr1]
  rw [hr1] at h1 ⊢;obtain ⟨k1, k2⟩ := read_ok (B := B) (C := B + 4 * l.size + 1) (by omega) hqo l (by omega) (by omega) (Nat.le_refl _);have h2 := h1.read (C := B + 4 * l.size + 1) (by omega) hqo l (ht l (List.mem_cons_self ..)) (by omega) (by omega) (Nat.le_refl _);exact Sim.lines ls (B + 4 * l.size + 1) _ _ h2 k1 (fun x hx => ht x (List.mem_cons_of_mem _ hx)) (by omega) (by rw [read_n]; omega) (by omega) (by omega)
theorem quote_final (l : ByteArray) (ls : List ByteArray) (ht : ∀ x ∈ l :: ls, NoTab x) (hs : sumZ (l :: ls) + (l :: ls).length ≤ 10000) : FSim (Rd.final (l :: ls)) (Rd.final ((l :: ls).map quoteS)) := by
 have hz : sumZ (l :: ls) = l.size + sumZ ls := by unfold sumZ; simp
 rw [hz, List.length_cons] at hs;unfold Rd.final;rw [List.map_cons];unfold Rd.linesF;obtain ⟨S1, hS1⟩ : ∃ S1 : Rd, ({ Rd.start with n := Rd.start.n + 1 } : Rd) = S1 := ⟨_, rfl⟩;rw [hS1];have hso : Okd 0 S1 := by rw [<- hS1]; exact ⟨start_ok.ok.same rfl (Nat.le_refl _) (by show (1 : Nat) ≤ _; decide), start_ok.d0⟩
 have hl1 : S1.nds.length = 1 := by rw [<- hS1]; rfl
 obtain ⟨k1, k2⟩ := read_ok (B := 0) (C := 4 * l.size + 1) (by omega) hso l (by omega) (by omega) (by omega);have h1 : Sim (S1.read l) (S1.read (quoteS l)) := by rw [<- hS1]; exact Sim.first (C := 4 * l.size + 1) (by omega) l (ht l (List.mem_cons_self ..)) (by omega) (Nat.le_refl _)
 have hn : (S1.read l).n = 1 := (read_n _ _).trans (by rw [<- hS1]; rfl);have h2 := Sim.lines ls (4 * l.size + 1) _ _ h1 k1 (fun x hx => ht x (List.mem_cons_of_mem _ hx)) (by omega) (by rw [hn]; omega) (by omega) (by omega);obtain ⟨m1, _⟩ := lines_ok ls (4 * l.size + 1) _ k1 (by omega) (by rw [hn]; omega) (by omega) (by omega);exact h2.final (B := 4 * l.size + 1 + 4 * sumZ ls + ls.length) (by omega) m1
theorem togF_sh {r q : Rd} (h : FSim r q) : ∀ l : List Nat, (∀ k ∈ l, k ≠ 0) -> togF q (l.map (· + 1)) = togF r l
 | [], _ => rfl
 | [_], _ => rfl
 | a :: b :: l, hl => by
  have ha := hl a (by simp);have hb := hl b (by simp);have ih := togF_sh h (b :: l) fun k hk => hl k (by simp [hk]);rw [List.map_cons] at ih;rw [List.map_cons, List.map_cons];unfold togF;rw [ih, h.nd a ha, h.nd b hb]
theorem tight_sh {r q : Rd} {B : Nat} (h : FSim r q) (hok : Ok B r) {i : Nat} (hi : i ≠ 0) : tightT q (q.nd (i + 1)) = tightT r (r.nd i) := by
 have hk : ∀ j, ∀ k ∈ (r.nd j).kids, k ≠ 0 := fun j k hk => by have := (hok.kid j k hk).1; omega
 have hap : ∀ k, k ≠ 0 -> apartT q (k + 1) = apartT r k := fun k hk0 => by
  unfold apartT;rw [h.nd k hk0];show (!togF q ((r.nd k).kids.map (· + 1))) = _;rw [togF_sh h _ (hk k)]
 unfold tightT;rw [h.nd i hi];show (if (r.nd i).kind = 3 then togF q ((r.nd i).kids.map (· + 1)) && !(((r.nd i).kids.map (· + 1)).any (apartT q)) else false) = _;rw [togF_sh h _ (hk i), List.any_map];have : ((r.nd i).kids.any (apartT q ∘ (· + 1))) = (r.nd i).kids.any (apartT r) := by
  have key : ∀ l : List Nat, (∀ k ∈ l, k ≠ 0) -> l.any (apartT q ∘ (· + 1)) = l.any (apartT r) := fun l => by
   induction l with
   | nil => intro _; rfl
   | cons a l ih =>
    intro hl;rw [List.any_cons, List.any_cons, ih fun k hk => hl k (List.mem_cons_of_mem _ hk)];show (apartT q (a + 1) || _) = _;rw [hap a (hl a (List.mem_cons_self ..))]
  exact key _ (hk i)
 rw [this]
theorem told_sh {r q : Rd} {B : Nat} (h : FSim r q) (hok : Ok B r) : ∀ (f i : Nat), i ≠ 0 -> toldF f q (i + 1) = toldF f r i
 | 0, i, hi => by
  show bodyT q (q.nd (i + 1)) (rowsT 0 (q.nd (i + 1))) = bodyT r (r.nd i) (rowsT 0 (r.nd i));have ht := tight_sh h hok hi;unfold bodyT;rw [ht, h.nd i hi];rfl
 | f + 1, i, hi => by
  show bodyT q (q.nd (i + 1)) ((q.nd (i + 1)).kids.map (toldF f q) ++ rowsT (f + 1) (q.nd (i + 1))) = bodyT r (r.nd i) ((r.nd i).kids.map (toldF f r) ++ rowsT (f + 1) (r.nd i));have ht := tight_sh h hok hi;have hks : (q.nd (i + 1)).kids.map (toldF f q) = (r.nd i).kids.map (toldF f r) := by
   rw [h.nd i hi];show ((r.nd i).kids.map (· + 1)).map (toldF f q) = _;rw [List.map_map];exact List.map_congr_left fun k hk => told_sh h hok f k (by have := (hok.kid i k hk).1; omega)
  unfold bodyT;rw [ht, hks, h.nd i hi];rfl
theorem deep_sh {r q : Rd} {B : Nat} (h : FSim r q) (hok : Ok B r) : ∀ (f i : Nat), i ≠ 0 -> deepT f q (i + 1) = deepT f r i
 | 0, i, hi => by
  unfold deepT deepN;rw [h.nd i hi]
 | f + 1, i, hi => by
  unfold deepT;have hks : (q.nd (i + 1)).kids.map (deepT f q) = (r.nd i).kids.map (deepT f r) := by
   rw [h.nd i hi];show ((r.nd i).kids.map (· + 1)).map (deepT f q) = _;rw [List.map_map];exact List.map_congr_left fun k hk => deep_sh h hok f k (by have := (hok.kid i k hk).1; omega)
  rw [hks, h.nd i hi];rfl
theorem quote_told {r q : Rd} {B : Nat} (h : FSim r q) (hok : Ok B r) (f : Nat) :
  (show BD (List (TR (f + 3))) from toldF (f + 1) q 1).kids = (show BD (List (TR (f + 3))) from toldF (f + 1) r 0).kids ∧ (show BD (List (TR (f + 3))) from toldF (f + 1) q 1).kind = 2 ∧
  (show BD (List (TR (f + 4))) from toldF (f + 2) q 0).kids = [toldF (f + 1) q 1] ∧ deepT (f + 2) q 0 = deepT (f + 1) r 0 + 1 := by
 have hk : ∀ k ∈ (r.nd 0).kids, k ≠ 0 := fun k hk => by have := (hok.kid 0 k hk).1; omega
 refine ⟨?_, h.k2, ?_, ?_⟩
 ·show (q.nd 1).kids.map (toldF f q) ++ rowsT (f + 1) (q.nd 1) = (r.nd 0).kids.map (toldF f r) ++ rowsT (f + 1) (r.nd 0);have e1 : rowsT (f + 1) (q.nd 1) = [] := by unfold rowsT; rw [h.k2]; rfl
  have e2 : rowsT (f + 1) (r.nd 0) = [] := by unfold rowsT; rw [h.k1]; rfl
  rw [e1, e2, h.top, List.map_map]
  congr 1
  exact List.map_congr_left fun k hm => told_sh h hok f k (hk k hm)
 ·show (q.nd 0).kids.map (toldF (f + 1) q) ++ rowsT (f + 2) (q.nd 0) = _;have e1 : rowsT (f + 2) (q.nd 0) = [] := by unfold rowsT; rw [h.dn]; rfl
  rw [e1, h.dk]; rfl
 ·have e1 : deepT (f + 2) q 0 = deepN (q.nd 0) (((q.nd 0).kids.map (deepT (f + 1) q)).foldl max 0) := rfl;have e2 : deepT (f + 1) q 1 = deepN (q.nd 1) (((q.nd 1).kids.map (deepT f q)).foldl max 0) := rfl;have e3 : deepT (f + 1) r 0 = deepN (r.nd 0) (((r.nd 0).kids.map (deepT f r)).foldl max 0) := rfl;have hks : (q.nd 1).kids.map (deepT f q) = (r.nd 0).kids.map (deepT f r) := by
   rw [h.top, List.map_map];exact List.map_congr_left fun k hm => deep_sh h hok f k (hk k hm)
  rw [e1, e3, h.dk, List.map_cons, List.map_nil, List.foldl_cons, List.foldl_nil, e2, hks];unfold deepN;rw [h.dn, h.k2, h.k1];simp
end
end Go.Proofs.YtebfjlfkofibpaaGreatDoor
