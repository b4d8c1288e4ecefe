/- What a block holds. -/
import Derived.Test.YtebfjlfkofibpaaGreatDoorBkSt
import Derived.Test.YtebfjlfkofibpaaGreatDoorLfRule
namespace Go.Proofs.YtebfjlfkofibpaaGreatDoor
set_option maxHeartbeats 2000000
set_option maxRecDepth 100000
section
open Go.RowKit
variable {F : Frm}
theorem holds_any {w : World} {base rp : Nat} {own : Nat -> Nat} {P : List Nat} {r : Rd} (h : St F w base rp own P r) (b kind : Nat) (hb : b < r.nds.length) :
  Calls Tryz.prog 98 #[.pointer (some ⟨ptN P b, 0, none⟩), .int .u8 (kind : Int)] w fun e w' => e = .returned (.bool (holdsB (r.nd b).kind kind)) ∧ w' = w := by
 obtain ⟨kv, lv, av, hn⟩ := h.nodes b _ (Rd.at_lt hb);have hrow := hn.row;unfold ndCells at hrow;have q := fun i => cell_of_row w (ptN P b) i _ _ _ hrow;obtain ⟨K, hK⟩ : ∃ K, (r.nd b).kind = K := ⟨_, rfl⟩;rw [hK] at q;rw [hK];have hk4 : (kind == 4) = ((kind : Int) == 4) := by rw [Bool.eq_iff_iff, beq_iff_eq, beq_iff_eq]; omega
 have hk5 : (kind != 4) = ((kind : Int) != 4) := by rw [Bool.eq_iff_iff, bne_iff_ne, bne_iff_ne]; omega
 clear hrow hn hK h;have key : ∀ b3 b1 b2 b4 : Bool, ((K : Int) == 3) = b3 -> ((K : Int) == 1) = b1 -> ((K : Int) == 2) = b2 -> ((K : Int) == 4) = b4 -> holdsB K kind = (if b3 = true then kind == 4 else if b1 = true ∨ b2 = true ∨ b4 = true then kind != 4 else false) := by
  intro b3 b1 b2 b4 h3 h1 h2 h4;unfold holdsB;have e : ∀ (n : Nat) (c : Bool), ((K : Int) == (n : Int)) = c -> (K = n ↔ c = true) := fun n c hc => by rw [<- hc, beq_iff_eq]; omega
  simp only [e 3 b3 h3, e 1 b1 h1, e 2 b2 h2, e 4 b4 h4]
 obtain ⟨b3, h3⟩ : ∃ b3, ((K : Int) == 3) = b3 := ⟨_, rfl⟩;obtain ⟨b1, h1⟩ : ∃ b1, ((K : Int) == 1) = b1 := ⟨_, rfl⟩;obtain ⟨b2, h2⟩ : ∃ b2, ((K : Int) == 2) = b2 := ⟨_, rfl⟩;obtain ⟨b4, h4⟩ : ∃ b4, ((K : Int) == 4) = b4 := ⟨_, rfl⟩;rw [key b3 b1 b2 b4 h3 h1 h2 h4, hk4, hk5];clear key hk4 hk5
 cases b3 with
 | true =>
  go_enter Tryz.func98, Tryz.ntmps98;go_wp2;go_ret;exact ⟨rfl, rfl⟩
 | false =>
  cases b1 with
  | true =>
   go_enter Tryz.func98, Tryz.ntmps98;go_wp2;go_ret;exact ⟨rfl, rfl⟩
  | false =>
   cases b2 with
   | true =>
    go_enter Tryz.func98, Tryz.ntmps98;go_wp2;go_ret;exact ⟨rfl, rfl⟩
   | false =>
    cases b4 with
    | true =>
     go_enter Tryz.func98, Tryz.ntmps98;go_wp2;go_ret;exact ⟨rfl, rfl⟩
    | false =>
     go_enter Tryz.func98, Tryz.ntmps98;go_wp2;go_ret;exact ⟨rfl, rfl⟩
theorem fenced_any {w : World} {base rp : Nat} {own : Nat -> Nat} {P : List Nat} {r : Rd} (h : St F w base rp own P r) (b : Nat) (hb : b < r.nds.length) :
  Calls Tryz.prog 36 #[.pointer (some ⟨ptN P b, 0, none⟩)] w fun e w' => e = .returned (.bool (decide (0 < (r.nd b).fm))) ∧ w' = w := by
 obtain ⟨kv, lv, av, hn⟩ := h.nodes b _ (Rd.at_lt hb);have hrow := hn.row;unfold ndCells at hrow;have q := fun i => cell_of_row w (ptN P b) i _ _ _ hrow;obtain ⟨K, hK⟩ : ∃ K, (r.nd b).fm = K := ⟨_, rfl⟩;rw [hK] at q;rw [hK];clear hrow hn hK h;go_enter Tryz.func36, Tryz.ntmps36;go_wp2;go_ret;exact ⟨rfl, rfl⟩
theorem kind_any (k : Nat) (w : World) : Calls Tryz.prog 18 #[.int .u8 (k : Int)] w fun e w' => e = .returned (.pointer (some ⟨w.heap.size, 0, none⟩)) ∧ w' = w.alloc (.cells (ndCells [] (Nd.new k) (.slice none 0 0) (.slice none 0 0) (.slice none 0 0)) 50) := by
 go_enter Tryz.func18, Tryz.ntmps18;go_wp2;go_ret;exact ⟨rfl, rfl⟩
end
section
open Go.RowKit
variable {F : Frm}
theorem rows_ne {w : World} {base base' : Nat} {e t : TypeId} {s1 s2 : Nat} {v u : Value} {n m : Nat} {xs ys : List Value} (h : w.ownsRow base e s1 v n xs) (k : w.ownsRow base' t s2 u m ys) (het : e ≠ t) : ∀ g, v.ownBlock = some g -> u.ownBlock ≠ some g := by
 intro g hg hu;rcases k.2 with ⟨h1, _⟩ | ⟨g', cap, cur, h1, _, h2, _⟩
 ·rw [h1] at hu; cases hu
 ·rw [h1] at hu
  cases hu
  exact row_ne h h2 het _ hg rfl
theorem Wf.upd {r : Rd} (h : Wf r) {i : Nat} {d d' : Nd} (hd : r.nds[i]? = some d) (hk : d'.kids = d.kids) (hp : d'.parent = d.parent) : Wf (r.upd i d') := by
 have hi := (List.getElem?_eq_some_iff.1 hd).1;refine ⟨fun j e he => ?_, fun j e he => ?_, fun j e he => ?_, fun j hj => by rw [Rd.upd_len]; exact h.cur j hj, fun j hj => by rw [Rd.upd_len]; exact h.tip j hj, by rw [Rd.upd_len]; exact h.doc⟩
 ·rw [Rd.upd_len]
  by_cases hij : i = j
  ·subst hij; rw [Rd.upd_self hi] at he; cases he; rw [hk]; exact h.kids i d hd
  ·rw [Rd.upd_other hij] at he; exact h.kids j e he
 ·by_cases hij : i = j
  ·subst hij; rw [Rd.upd_self hi] at he; cases he; rw [hp]; exact h.par i d hd
  ·rw [Rd.upd_other hij] at he; exact h.par j e he
 ·rw [Rd.upd_len]
  by_cases hij : i = j
  ·subst hij; rw [Rd.upd_self hi] at he; cases he; rw [hk]; exact h.nk i d hd
  ·rw [Rd.upd_other hij] at he; exact h.nk j e he
theorem St.kids {w wa w1 : World} {base rp : Nat} {own : Nat -> Nat} {P : List Nat} {r : Rd} (h : St F w base rp own P r) {i : Nat} {d : Nd} (hd : r.nds[i]? = some d) {kv lv av v' : Value} (hn : NdAt w base own P i d kv lv av) (ks : List Nat)
  (hba : Below w.heap.size w wa) (hg : wa.grownBy w1 kv.ownBlock) (hown : w1.ownsRow base 44 1 v' ks.length (ks.map fun k => ptrV P (some k))) (hv : ∀ g, v'.ownBlock = some g -> kv.ownBlock = some g ∨ w.heap.size ≤ g) (hwf : Wf (r.upd i { d with kids := ks })) :
  St F (w1.setCell ⟨ptN P i, 11, none⟩ v') base rp (ownUp own w i) P (r.upd i { d with kids := ks }) := by
 have hlt := (gSq.1 hn.row).1;have hz1 : w.heap.size ≤ w1.heap.size := Nat.le_trans hba.size hg.size;have h1 : ∀ b, b < w.heap.size -> kv.ownBlock ≠ some b -> w1.heap[b]? = w.heap[b]? := fun b hb hk => (hg.block b (Nat.lt_of_lt_of_le hb hba.size) fun e => hk e.symm).trans (hba.block b hb);have hp1 : w1.heap[ptN P i]? = some (.cells (ndCells P d kv lv av) 50 (0, 0)) := (h1 _ hlt fun e => row_ne hn.kids hn.row (by decide) _ e rfl).trans hn.row
 have hne : ∀ g, g ≠ ptN P i -> (w1.setCell ⟨ptN P i, 11, none⟩ v').heap[g]? = w1.heap[g]? := fun g hg2 => Below.heap_setCell w1 _ _ _ hg2;refine h.turn hd (by simp [World.setCell]; exact hz1) (fun b hbl hb => ?_) (kv' := v') (lv' := lv) (av' := av) ?_ hwf
 ·rw [hne b fun e => hb (by rw [e]; exact hn.own_p)];exact h1 b hbl fun e => hb (hn.own_k b e)
 ·refine ⟨?_, hn.ge, ?_, ?_, ?_, ?_, ?_, ?_, ?_⟩
  ·rw [ownUp_old hlt]; exact hn.own_p
  ·rw [Joins.block_setCell hp1 v']; rfl
  ·exact own_keep hown fun g hg2 => hne g (row_ne hown hp1 (by decide) g hg2)
  ·intro g hg2;rcases hv g hg2 with e | e
   ·rw [ownUp_old (own_lt hn.kids g e)]; exact hn.own_k g e
   ·exact ownUp_new (by omega)
  ·exact own_keep hn.lines fun g hg2 => (hne g (row_ne hn.lines hn.row (by decide) g hg2)).trans (h1 g (own_lt hn.lines g hg2) (rows_ne hn.lines hn.kids (by decide) g hg2))
  ·intro g hg2; rw [ownUp_old (own_lt hn.lines g hg2)]; exact hn.own_l g hg2
  ·refine hn.al.keep (by simp [World.setCell]; exact hz1) fun hl2 g hg2 => ?_;obtain ⟨cs, fr, h2⟩ := hn.al.2 hl2 g hg2;rw [hne g fun e => ?_]
   ·refine h1 g (gSq.1 h2).1 fun e => ?_;rcases hn.kids.2 with ⟨e1, _⟩ | ⟨g', cap, cur, e1, _, e2, _⟩
    ·rw [e1] at e; cases e
    ·rw [e1] at e
     cases e
     have := h2.symm.trans e2;simp at this
   ·rw [e] at h2;have := h2.symm.trans hn.row;simp at this
  ·intro hl2 g hg2; rw [ownUp_old (hn.al.1.own_lt hl2 g hg2)]; exact hn.own_a hl2 g hg2
theorem St.lines {w wa w1 : World} {base rp : Nat} {own : Nat -> Nat} {P : List Nat} {r : Rd} (h : St F w base rp own P r) {i : Nat} {d : Nd} (hd : r.nds[i]? = some d) {kv lv av v' : Value} (hn : NdAt w base own P i d kv lv av) (ls : List ByteArray)
  (hba : Below w.heap.size w wa) (hg : wa.grownBy w1 lv.ownBlock) (hown : w1.ownsRow base 9 1 v' ls.length (ls.map Value.string)) (hv : ∀ g, v'.ownBlock = some g -> lv.ownBlock = some g ∨ w.heap.size ≤ g) (hwf : Wf (r.upd i { d with lines := ls })) :
  St F (w1.setCell ⟨ptN P i, 15, none⟩ v') base rp (ownUp own w i) P (r.upd i { d with lines := ls }) := by
 have hlt := (gSq.1 hn.row).1;have hz1 : w.heap.size ≤ w1.heap.size := Nat.le_trans hba.size hg.size;have h1 : ∀ b, b < w.heap.size -> lv.ownBlock ≠ some b -> w1.heap[b]? = w.heap[b]? := fun b hb hk => (hg.block b (Nat.lt_of_lt_of_le hb hba.size) fun e => hk e.symm).trans (hba.block b hb);have hp1 : w1.heap[ptN P i]? = some (.cells (ndCells P d kv lv av) 50 (0, 0)) := (h1 _ hlt fun e => row_ne hn.lines hn.row (by decide) _ e rfl).trans hn.row
 have hne : ∀ g, g ≠ ptN P i -> (w1.setCell ⟨ptN P i, 15, none⟩ v').heap[g]? = w1.heap[g]? := fun g hg2 => Below.heap_setCell w1 _ _ _ hg2;refine h.turn hd (by simp [World.setCell]; exact hz1) (fun b hbl hb => ?_) (kv' := kv) (lv' := v') (av' := av) ?_ hwf
 ·rw [hne b fun e => hb (by rw [e]; exact hn.own_p)];exact h1 b hbl fun e => hb (hn.own_l b e)
 ·refine ⟨?_, hn.ge, ?_, ?_, ?_, ?_, ?_, ?_, ?_⟩
  ·rw [ownUp_old hlt]; exact hn.own_p
  ·rw [Joins.block_setCell hp1 v']; rfl
  ·exact own_keep hn.kids fun g hg2 => (hne g (row_ne hn.kids hn.row (by decide) g hg2)).trans (h1 g (own_lt hn.kids g hg2) (rows_ne hn.kids hn.lines (by decide) g hg2))
  ·intro g hg2; rw [ownUp_old (own_lt hn.kids g hg2)]; exact hn.own_k g hg2
  ·exact own_keep hown fun g hg2 => hne g (row_ne hown hp1 (by decide) g hg2)
  ·intro g hg2;rcases hv g hg2 with e | e
   ·rw [ownUp_old (own_lt hn.lines g e)]; exact hn.own_l g e
   ·exact ownUp_new (by omega)
  ·refine hn.al.keep (by simp [World.setCell]; exact hz1) fun hl2 g hg2 => ?_;obtain ⟨cs, fr, h2⟩ := hn.al.2 hl2 g hg2;rw [hne g fun e => ?_]
   ·refine h1 g (gSq.1 h2).1 fun e => ?_;rcases hn.lines.2 with ⟨e1, _⟩ | ⟨g', cap, cur, e1, _, e2, _⟩
    ·rw [e1] at e; cases e
    ·rw [e1] at e
     cases e
     have := h2.symm.trans e2;simp at this
   ·rw [e] at h2;have := h2.symm.trans hn.row;simp at this
  ·intro hl2 g hg2; rw [ownUp_old (hn.al.1.own_lt hl2 g hg2)]; exact hn.own_a hl2 g hg2
theorem St.more {w : World} {base rp : Nat} {own : Nat -> Nat} {P : List Nat} {r : Rd} (h : St F w base rp own P r) (k : Nat) (hb : base ≤ w.heap.size) (hfew : r.nds.length + 1 ≤ 100000) :
  St F (w.alloc (.cells (ndCells [] (Nd.new k) (.slice none 0 0) (.slice none 0 0) (.slice none 0 0)) 50)) base rp (fun b => if b = w.heap.size then r.nds.length + 1 else own b) (P ++ [w.heap.size]) (r.more (Nd.new k)) := by
 have hw := h.wf;have hlen : (r.more (Nd.new k)).nds.length = r.nds.length + 1 := by unfold Rd.more; simp
 have hold : ∀ j e, (r.more (Nd.new k)).nds[j]? = some e -> j < r.nds.length -> r.nds[j]? = some e := fun j e he hj => by
  unfold Rd.more at he;rw [List.getElem?_append_left hj] at he;exact he
 have hnew : ∀ j e, (r.more (Nd.new k)).nds[j]? = some e -> ¬ j < r.nds.length -> j = r.nds.length ∧ e = Nd.new k := fun j e he hj => by
  have hlt := (List.getElem?_eq_some_iff.1 he).1;rw [hlen] at hlt;have hjl : j = r.nds.length := by omega
  subst hjl;unfold Rd.more at he;simp at he;exact ⟨rfl, he.symm⟩
 have hP : ∀ j, j < P.length -> ptN (P ++ [w.heap.size]) j = ptN P j := fun j hj => by unfold ptN; simp [List.getD, List.getElem?_append_left hj]
 have hPn : ptN (P ++ [w.heap.size]) r.nds.length = w.heap.size := by unfold ptN; rw [<- h.len]; simp [List.getD]
 have hown : ∀ b, b < w.heap.size -> (fun b => if b = w.heap.size then r.nds.length + 1 else own b) b = own b := fun b hb => if_neg (by omega);have hsame : ∀ b, b < w.heap.size -> (w.alloc (.cells (ndCells [] (Nd.new k) (.slice none 0 0) (.slice none 0 0) (.slice none 0 0)) 50)).heap[b]? = w.heap[b]? := fun b hb => Below.heap_alloc w _ _ hb;refine ⟨by rw [hlen, List.length_append, h.len]; rfl, fun j e he => ?_, ?_, ?_, fun b o hbo => ?_, by rw [hlen]; exact hfew, by rw [hP 0 (by rw [h.len]; exact hw.doc)]; exact h.dp⟩
 rotate_right
 ·obtain ⟨h1, h2⟩ := h.fr b o hbo;have hbl := (gSq.1 h1).1;exact ⟨(hsame b hbl).trans h1, (hown b hbl).trans h2⟩
 ·by_cases hj : j < r.nds.length
  ·have he' := hold j e he hj;obtain ⟨kv, lv, av, hjn⟩ := h.nodes j e he';refine ⟨kv, lv, av, hjn.keep (by rw [h.len]; exact hj) (by simp) hown hP (fun p hp => ?_) (fun q hq => ?_) (fun b hbl _ => hsame b hbl)⟩
   ·have := hw.par j e he' p hp; rw [h.len]; omega
   ·have := hw.kids j e he' q hq; rw [h.len]; omega
  ·obtain ⟨rfl, rfl⟩ := hnew j e he hj;refine ⟨.slice none 0 0, .slice none 0 0, .slice none 0 0, ?_, ?_, ?_, World.ownsRow_nil _ _ _ _, fun g hg => absurd hg (by simp [Value.ownBlock]), World.ownsRow_nil _ _ _ _, fun g hg => absurd hg (by simp [Value.ownBlock]), ⟨⟨none, 0, 0, rfl, rfl, Nat.le_refl _, fun h0 => absurd h0 (Nat.lt_irrefl 0)⟩, fun hl => absurd rfl hl⟩, fun hl => absurd rfl hl⟩
   ·rw [hPn]; exact if_pos rfl
   ·rw [hPn]; exact hb
   ·rw [hPn]; exact heap_alloc_new w _
 ·obtain ⟨rv, hr⟩ := h.rd;have hrl := (gSq.1 hr.row).1;refine ⟨rv, (hown rp hrl).trans hr.own_r, hr.ge, ?_, own_keep hr.refs fun g hg => hsame g (own_lt hr.refs g hg), fun g hg => (hown g (own_lt hr.refs g hg)).trans (hr.own_f g hg)⟩;rw [hsame rp hrl, hr.row];have e1 : ptrV (P ++ [w.heap.size]) (some 0) = ptrV P (some 0) ∨ r.nds.length = 0 := by
   by_cases h0 : r.nds.length = 0
   ·exact .inr h0
   ·exact .inl (ptrV_grown hP _ fun i e => by cases e; rw [h.len]; omega)
  have e2 : ptrV (P ++ [w.heap.size]) r.cur = ptrV P r.cur := ptrV_grown hP _ fun i e => by rw [h.len]; exact hw.cur i e
  have e3 : ptrV (P ++ [w.heap.size]) r.tip = ptrV P r.tip := ptrV_grown hP _ fun i e => by rw [h.len]; exact hw.tip i e
  rcases e1 with e1 | e1
  ·unfold rdCells;show _ = some (Obj.cells #[.string r.rest, .int .i64 (r.col : Int), .int .i64 (r.n : Int), ptrV (P ++ [w.heap.size]) (some 0), ptrV (P ++ [w.heap.size]) r.cur, ptrV (P ++ [w.heap.size]) r.tip, .bool r.lzy, rv] _ _);rw [e1, e2, e3]
  ·exact absurd e1 (by have := hw.doc; omega)
 ·refine ⟨fun j e he q hq => ?_, fun j e he p hp => ?_, fun j e he => ?_, fun i hi => by rw [hlen]; have := hw.cur i hi; omega, fun i hi => by rw [hlen]; have := hw.tip i hi; omega, by rw [hlen]; omega⟩
  ·by_cases hj : j < r.nds.length
   ·have := hw.kids j e (hold j e he hj) q hq; rw [hlen]; omega
   ·obtain ⟨rfl, rfl⟩ := hnew j e he hj; cases hq
  ·by_cases hj : j < r.nds.length
   ·exact hw.par j e (hold j e he hj) p hp
   ·obtain ⟨rfl, rfl⟩ := hnew j e he hj; cases hp
  ·by_cases hj : j < r.nds.length
   ·have := hw.nk j e (hold j e he hj); rw [hlen]; omega
   ·obtain ⟨rfl, rfl⟩ := hnew j e he hj; exact Nat.zero_le _
end
section
open Go.RowKit
theorem own_less {w : World} {base : Nat} {e : TypeId} {g c : Nat} {ys : List Value} {x : Value} (h : w.ownsRow base e 1 (.slice (some ⟨g, 0, none⟩) (ys.length + 1) c) (ys.length + 1) (ys ++ [x])) : w.ownsRow base e 1 (.slice (some ⟨g, 0, none⟩) ys.length c) ys.length ys := by
 refine ⟨by simp, .inr ?_⟩;rcases h.2 with ⟨h1, _⟩ | ⟨g', cap, cur, he, hb, hg, hc, hm, hz, ht⟩
 ·cases h1
 ·injection he with e1 e2 e3;injection e1 with e1;injection e1 with e1;subst e1 e3;refine ⟨g, c, cur, rfl, hb, hg, by omega, hm, hz, ?_⟩;have h3 : (cur.toList.take ((ys.length + 1) * 1)).take ys.length = (ys ++ [x]).take ys.length := by rw [ht]
  rw [List.take_take, List.take_left] at h3;rw [<- h3]
  congr 1
  simp;omega
theorem trail_yes (l : List ByteArray) (x : ByteArray) (h : (blankT x.data.toList).isEmpty = true) : trailL (l ++ [x]) = trailL l := by
 unfold trailL;rw [List.reverse_append];show (List.dropWhile _ (x :: l.reverse)).reverse = _;rw [List.dropWhile_cons, if_pos h]
theorem trail_no (l : List ByteArray) (x : ByteArray) (h : (blankT x.data.toList).isEmpty = false) : trailL (l ++ [x]) = l ++ [x] := by
 unfold trailL;rw [List.reverse_append];show (List.dropWhile _ (x :: l.reverse)).reverse = _;rw [List.dropWhile_cons, if_neg (by rw [h]; exact Bool.false_ne_true)];simp
def TrW (base : Nat) (v : Value) (E : List ByteArray) (N : Nat) (w : World) (g : Nat) (u : Value) (wr : World) : Prop := ∃ ys : List ByteArray, ys.length = g ∧ g ≤ N ∧ wr.ownsRow base 9 1 u ys.length (ys.map Value.string) ∧ (∀ g, u.ownBlock = some g -> v.ownBlock = some g) ∧ trailL ys = E ∧ (∀ y ∈ ys, y.size ≤ 1099511627) ∧ Below w.heap.size w wr
theorem own_grows {w w' : World} {base : Nat} {e : TypeId} {size : Nat} {v : Value} {n : Nat} {xs : List Value} (h : w.ownsRow base e size v n xs) (hb : Below w.heap.size w w') : w'.ownsRow base e size v n xs := own_keep h fun g hg => hb.block g (own_lt h g hg)
theorem trailing_any (xs : List ByteArray) (v : Value) (base : Nat) (w : World) (hown : w.ownsRow base 9 1 v xs.length (xs.map Value.string)) (hsz : ∀ x ∈ xs, x.size ≤ 1099511627) (hn : xs.length ≤ 1000000000) :
  Calls Tryz.prog 37 #[v] w fun e w' => ∃ v', e = .returned v' ∧ Below w.heap.size w w' ∧ w'.ownsRow base 9 1 v' (trailL xs).length ((trailL xs).map Value.string) ∧ ∀ g, v'.ownBlock = some g -> v.ownBlock = some g := by
 obtain ⟨E, hE⟩ : ∃ E, trailL xs = E := ⟨_, rfl⟩;rw [hE];have H0 := hdn (show TrW base v E 1000000000 w xs.length v w from ⟨xs, rfl, hn, hown, fun _ h => h, hE, hsz, Below.refl _ _⟩);clear hE hown hsz;go_enter Tryz.func37, Tryz.ntmps37;go_wp2
 go_loopg [0] xs.length (fun g u wr => TrW base v E 1000000000 w g u wr)
 case atStart => exact H0.out
 case round =>
  obtain ⟨ys, hg, hgN, hrow, hvo, he, hs, hb⟩ := hrel;clear H0;have HB := hdn hb;rcases snoc_cases ys with rfl | ⟨zs, z, rfl⟩
  ·obtain ⟨A, c, rfl⟩ := own_none hrow;have HR := hdn hrow;have HV := hdn hvo;have HE := hdn (show E = [] by rw [<- he]; rfl);clear hrow hvo he hs hb;go_wp2;go_ret;refine ⟨_, rfl, HB.out, ?_, HV.out⟩;rw [HE.out];exact HR.out
  ·rw [List.map_append] at hrow;have hlen : (zs ++ [z]).length = (zs.map Value.string).length + 1 := by simp
   rw [hlen] at hrow;obtain ⟨gg, c, rfl, hc, hcell, hlt⟩ := own_last hrow;have hless := own_less hrow;rw [List.length_map] at hc hcell hless;have hlm : (zs.map Value.string).length = zs.length := List.length_map _;rw [hlm] at hrow;obtain ⟨n, hnn⟩ : ∃ n, zs.length = n := ⟨_, rfl⟩;rw [hlen, hlm, hnn] at hg;subst hg;rw [hnn] at hc hcell hless hrow;have hz := hs z (by simp);have HBl := hdn fun w' => colsBlank_any z w' hz;obtain ⟨q, hq⟩ : ∃ q, (blankT z.data.toList).isEmpty = q := ⟨_, rfl⟩;rw [hq] at HBl;have HR := hdn hrow; have HL := hdn hless; have HV := hdn hvo; have HS := hdn hs
   have hn1 : n ≤ 1000000000 := by omega
   have hsz2 : ∀ y ∈ zs, y.size ≤ 1099511627 := fun y hy => hs y (by simp [hy]);have HS2 := hdn hsz2;clear hsz2
   cases q with
   | true =>
    have HE := hdn (show trailL zs = E by rw [<- trail_yes zs z hq]; exact he);clear hrow hless hvo he hs hb hq hlen hlm;go_wp2_with fail;refine cMq (HBl.out _) ?_;rintro e w2 ⟨rfl, b2⟩;have HB2 := hdn (below_on HB.out b2);have HL2 := hdn (own_grows HL.out b2);clear b2;go_wp2
    go_roundg n
    case measure => omega
    case rel => exact ⟨zs, hnn, by omega, by rw [hnn]; exact HL2.out, HV.out, HE.out, HS2.out, HB2.out⟩
   | false =>
    have HE := hdn (show E = zs ++ [z] by rw [<- trail_no zs z hq]; exact he.symm);clear hrow hless hvo he hs hb hq hlm;go_wp2_with fail;refine cMq (HBl.out _) ?_;rintro e w2 ⟨rfl, b2⟩;have HB2 := hdn (below_on HB.out b2);have HR2 := hdn (own_grows HR.out b2);clear b2;go_wp2;go_ret;refine ⟨_, rfl, HB2.out, ?_, HV.out⟩;rw [HE.out, List.map_append, List.length_append, hnn];exact HR2.out
end
section
open Go.RowKit
def FirstB (w : World) (b : Bool) (e : Ending) (w' : World) : Prop := ∃ z : Int, e = .returned (.int .i64 z) ∧ decide (0 ≤ z) = b ∧ Below w.heap.size w w'
theorem anyb_take {α : Type} (P : α -> Bool) (l : List α) (k : Nat) (hk : k < l.length) : (l.take (k + 1)).any P = ((l.take k).any P || P l[k]) := by
 rw [List.take_succ_eq_append_getElem hk, List.any_append];simp
theorem refCells_at : ∀ (l : List RefT) (k : Nat) (h : k < l.length), (refCells l)[k * 3]? = some (.string l[k].1) ∧ (refCells l)[k * 3 + 1]? = some (.string l[k].2.1) ∧ (refCells l)[k * 3 + 2]? = some (.string l[k].2.2)
 | [], k, h => absurd h (Nat.not_lt_zero k)
 | x :: l, 0, h => ⟨rfl, rfl, rfl⟩
 | x :: l, k + 1, h => by
  have ih := refCells_at l k (by simpa using h);have e : ∀ j, (refCells (x :: l))[(k + 1) * 3 + j]? = (refCells l)[k * 3 + j]? := fun j => by
   rw [show (k + 1) * 3 + j = 3 + (k * 3 + j) by omega];show (([Value.string x.1, .string x.2.1, .string x.2.2] ++ refCells l))[3 + (k * 3 + j)]? = _;rw [List.getElem?_append_right (by simp)]
   congr 1
   simp
  refine ⟨?_, ?_, ?_⟩
  ·have := e 0; simp only [Nat.add_zero] at this; rw [this]; exact ih.1
  ·rw [e 1]; exact ih.2.1
  ·rw [e 2]; exact ih.2.2
theorem own_three {w : World} {base : Nat} {v : Value} {l : List RefT} (h : w.ownsRow base 43 3 v l.length (refCells l)) : ∃ A c, v = .slice A l.length c ∧ ∀ (k : Nat) (hk : k < l.length), ∃ g, A = some ⟨g, 0, none⟩ ∧ g < w.heap.size ∧ w.cell? ⟨g, k * 3, none⟩ = some (.string l[k].1) ∧ w.cell? ⟨g, k * 3 + 1, none⟩ = some (.string l[k].2.1) ∧ w.cell? ⟨g, k * 3 + 2, none⟩ = some (.string l[k].2.2) := by
 rcases h.2 with ⟨h1, h2⟩ | ⟨g, cap, cur, rfl, hb, hg, hc, _⟩
 ·exact ⟨none, 0, by rw [h2]; exact h1, fun k hk => by omega⟩
 ·refine ⟨_, _, rfl, fun k hk => ⟨g, rfl, (gSq.1 hg).1, ?_⟩⟩;obtain ⟨a1, a2, a3⟩ := refCells_at l k hk;have hadd : ∀ j, (⟨g, 0, none⟩ : Addr).add j = ⟨g, j, none⟩ := fun j => by
   unfold Addr.add;split
   ·rename_i h0; rw [h0]
   ·simp
  have c1 := h.cells (g := g) rfl _ _ a1;have c2 := h.cells (g := g) rfl _ _ a2;have c3 := h.cells (g := g) rfl _ _ a3;rw [hadd] at c1 c2 c3;exact ⟨c1, c2, c3⟩
theorem bstr_eq (a b : ByteArray) : (a.toList == b.toList) = decide (a = b) := by
 rw [Lib.toList_data, Lib.toList_data]
 by_cases h : a = b
 ·subst h; simp
 ·rw [decide_eq_false h, beq_eq_false_iff_ne];exact fun e => h (ByteArray.ext (Array.toList_inj.1 e))
theorem define1_any (x : RefT) (lab : ByteArray) (p : Nat) (w : World) (hp : w.cell? ⟨p, 0, none⟩ = some (.string lab)) (hlt : p < w.heap.size) :
  Calls Tryz.prog 72 #[.agg #[.string x.1, .string x.2.1, .string x.2.2], .pointer (some ⟨p, 0, none⟩)] w (RBw w (decide (x.1 = lab))) := by
 obtain ⟨a, b, c⟩ := x;have hb : Below w.heap.size w (w.alloc (.cells #[.string a, .string b, .string c] 43)) := (Below.refl _ w).alloc (Nat.le_refl _) _;have HB := hdn hb;have hp2 := (hb.cell (p := ⟨p, 0, none⟩) hlt).trans hp;clear hb hp;rw [show ((a, b, c) : RefT).1 = a from rfl, <- bstr_eq];go_enter Tryz.func72, Tryz.ntmps72;go_wp2;go_ret;exact ⟨rfl, HB.out⟩
theorem first_ref (l : List RefT) (P : RefT -> Bool) (v : Value) (p base : Nat) (w : World) (hown : w.ownsRow base 43 3 v l.length (refCells l)) (_ : l.length ≤ 1000000000)
  (hm : ∀ x ∈ l, ∀ w', Below w.heap.size w w' -> Calls Tryz.prog 72 #[.agg #[.string x.1, .string x.2.1, .string x.2.2], .pointer (some ⟨p, 0, none⟩)] w' (RBw w' (P x))) : Calls Tryz.prog 110 #[v, .func (.func 72) #[] #[.pointer (some ⟨p, 0, none⟩)]] w (FirstB w (l.any P)) := by
 obtain ⟨A, c, rfl, hk⟩ := own_three hown;have HK := hdn hk; have HM := hdn hm;clear hk hm hown;go_enter Tryz.func110, Tryz.ntmps110;go_wp2_with fail
 go_loopw [8] (fun v wr => ∃ k : Nat, v = .int .i64 k ∧ k ≤ l.length ∧ (l.take k).any P = false ∧ Below w.heap.size w wr) (fun v _ => l.length - (intOf v).toNat)
 case atStart => exact ⟨0, rfl, Nat.zero_le _, rfl, Below.refl _ _⟩
 case round =>
  obtain ⟨k, rfl, hk, hu, hb⟩ := hrel;have HU := hdn hu; have HB := hdn hb;clear hu hb
  by_cases hlt : k < l.length
  ·have hki : (k : Int) < (l.length : Int) := by omega
   obtain ⟨g, hA, hgl, c0, c1, c2⟩ := HK.out k hlt;subst hA;have d0 := (HB.out.cell (p := ⟨g, k * 3, none⟩) hgl).trans c0;have d1 := (HB.out.cell (p := ⟨g, k * 3 + 1, none⟩) hgl).trans c1;have d2 := (HB.out.cell (p := ⟨g, k * 3 + 2, none⟩) hgl).trans c2;clear c0 c1 c2;have ht := anyb_take P l k hlt;rw [HU.out, Bool.false_or] at ht;have HY := hdn (show P l[k] = true -> l.any P = true from fun h => List.any_eq_true.2 ⟨_, List.getElem_mem hlt, h⟩);have HMx := hdn (HM.out l[k] (List.getElem_mem hlt));obtain ⟨x, hx⟩ : ∃ x, l[k] = x := ⟨_, rfl⟩;rw [hx] at ht HY HMx d0 d1 d2;clear hx
   obtain ⟨b, hPb⟩ : ∃ b, P x = b := ⟨_, rfl⟩;rw [hPb] at ht HY HMx;clear hPb;have HT := hdn ht;clear ht;go_wp2_with fail;refine cMq (HMx.out _ HB.out) ?_;rintro e w1 ⟨rfl, b1⟩;have HB1 := hdn (HB.out.trans (b1.mono HB.out.size));clear b1
   cases b with
   | true =>
    go_wp2;go_ret;exact ⟨_, rfl, by rw [HY.out (by first | exact trivial | rfl)]; simp, HB1.out⟩
   | false =>
    go_wp2
    go_roundw
    case rel => exact ⟨k + 1, by go_num, hlt, HT.out, HB1.out⟩
    case measure => simp [intOf]; omega
  ·obtain rfl : k = l.length := by omega
   have hv := HU.out;rw [List.take_length] at hv;have HV := hdn hv;clear hv HU;go_wp2;go_ret;exact ⟨_, rfl, by rw [HV.out]; decide, HB.out⟩
theorem contains_ref (l : List RefT) (P : RefT -> Bool) (v : Value) (p base : Nat) (w : World) (hown : w.ownsRow base 43 3 v l.length (refCells l)) (hl : l.length ≤ 1000000000)
  (hm : ∀ x ∈ l, ∀ w', Below w.heap.size w w' -> Calls Tryz.prog 72 #[.agg #[.string x.1, .string x.2.1, .string x.2.2], .pointer (some ⟨p, 0, none⟩)] w' (RBw w' (P x))) : Calls Tryz.prog 71 #[v, .func (.func 72) #[] #[.pointer (some ⟨p, 0, none⟩)]] w (RBw w (l.any P)) := by
 have HI := hdn (first_ref l P v p base w hown hl hm);obtain ⟨A, c, rfl, _⟩ := own_three hown;clear hown hm;go_enter Tryz.func71, Tryz.ntmps71;go_wp2_with fail;refine cMq HI.out ?_;rintro e w1 ⟨z, rfl, hz, b1⟩;have HZ := hdn hz; have HB1 := hdn b1;clear hz b1;go_wp2;go_ret;exact ⟨by rw [<- HZ.out]; rfl, HB1.out⟩
end
