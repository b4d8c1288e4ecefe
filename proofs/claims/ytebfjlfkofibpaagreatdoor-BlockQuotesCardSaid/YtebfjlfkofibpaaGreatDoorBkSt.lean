/- Blocks and the reader in memory. -/
import Derived.Test.YtebfjlfkofibpaaGreatDoorBkP
import Derived.Test.YtebfjlfkofibpaaGreatDoorTxt
import Derived.Laws.AppendOwn
namespace Go.Proofs.YtebfjlfkofibpaaGreatDoor
set_option maxHeartbeats 2000000
set_option maxRecDepth 100000
section
open Go.RowKit
def ptN (P : List Nat) (i : Nat) : Nat := P.getD i 0
def ptrV (P : List Nat) : Option Nat -> Value
 | none => .pointer none
 | some i => .pointer (some ⟨ptN P i, 0, none⟩)
def ndCells (P : List Nat) (d : Nd) (kv lv av : Value) : Array Value :=
 #[.int .u8 (d.kind : Int), .int .i64 d.level, .int .u8 (d.mark : Int), .int .i64 d.start, .bool false, .string d.info, .string d.text, av, .slice none 0 0, .slice none 0 0, ptrV P d.parent, kv, .bool d.opn, .int .i64 d.first, .int .i64 d.last, lv, .int .i64 d.indent, .int .u8 (d.fc : Int), .int .i64 d.fm, .string d.fi, .int .i64 d.offset, .int .i64 d.html]
def AlAt (w : World) (v : Value) (l : List UInt8) : Prop := SlU8 w v l ∧ (l ≠ [] -> ∀ g, v.ownBlock = some g -> ∃ cs fr, w.heap[g]? = some (.cells cs 5 fr))
structure NdAt (w : World) (base : Nat) (own : Nat -> Nat) (P : List Nat) (i : Nat) (d : Nd) (kv lv av : Value) : Prop where
 own_p : own (ptN P i) = i + 1
 ge : base ≤ ptN P i
 row : w.heap[ptN P i]? = some (.cells (ndCells P d kv lv av) 50 (0, 0))
 kids : w.ownsRow base 44 1 kv d.kids.length (d.kids.map fun k => ptrV P (some k))
 own_k : ∀ g, kv.ownBlock = some g -> own g = i + 1
 lines : w.ownsRow base 9 1 lv d.lines.length (d.lines.map Value.string)
 own_l : ∀ g, lv.ownBlock = some g -> own g = i + 1
 al : AlAt w av d.align
 own_a : d.align ≠ [] -> ∀ g, av.ownBlock = some g -> own g = i + 1
def refCells (l : List RefT) : List Value := l.flatMap fun x => [.string x.1, .string x.2.1, .string x.2.2]
def rdCells (P : List Nat) (r : Rd) (rv : Value) : Array Value :=
 #[.string r.rest, .int .i64 (r.col : Int), .int .i64 (r.n : Int), ptrV P (some 0), ptrV P r.cur, ptrV P r.tip, .bool r.lzy, rv]
structure RdAt (w : World) (base rp : Nat) (own : Nat -> Nat) (P : List Nat) (r : Rd) (rv : Value) : Prop where
 own_r : own rp = 0
 ge : base ≤ rp
 row : w.heap[rp]? = some (.cells (rdCells P r rv) 55 (0, 0))
 refs : w.ownsRow base 43 3 rv r.refs.length (refCells r.refs)
 own_f : ∀ g, rv.ownBlock = some g -> own g = 0
structure Wf (r : Rd) : Prop where
 kids : ∀ (i : Nat) (d : Nd), r.nds[i]? = some d -> ∀ k ∈ d.kids, i < k ∧ k < r.nds.length
 par : ∀ (i : Nat) (d : Nd), r.nds[i]? = some d -> ∀ p, d.parent = some p -> p < i
 nk : ∀ (i : Nat) (d : Nd), r.nds[i]? = some d -> d.kids.length ≤ r.nds.length
 cur : ∀ i, r.cur = some i -> i < r.nds.length
 tip : ∀ i, r.tip = some i -> i < r.nds.length
 doc : 0 < r.nds.length
abbrev Frm : Type := Nat -> Option Obj
structure St (F : Frm) (w : World) (base rp : Nat) (own : Nat -> Nat) (P : List Nat) (r : Rd) : Prop where
 len : P.length = r.nds.length
 nodes : ∀ (i : Nat) (d : Nd), r.nds[i]? = some d -> ∃ kv lv av, NdAt w base own P i d kv lv av
 rd : ∃ rv, RdAt w base rp own P r rv
 wf : Wf r
 fr : ∀ b o, F b = some o -> w.heap[b]? = some o ∧ own b = 1000000000
 few : r.nds.length ≤ 100000
 dp : ptN P 0 + 1 = rp
variable {F : Frm}
theorem own_keep {w w' : World} {base : Nat} {e : TypeId} {size : Nat} {v : Value} {n : Nat} {xs : List Value} (h : w.ownsRow base e size v n xs) (hs : ∀ g, v.ownBlock = some g -> w'.heap[g]? = w.heap[g]?) : w'.ownsRow base e size v n xs := by
 refine ⟨h.1, ?_⟩;rcases h.2 with hn | ⟨g, cap, cur, rfl, hb, hg, rest⟩
 ·exact .inl hn
 ·exact .inr ⟨g, cap, cur, rfl, hb, (hs g rfl).trans hg, rest⟩
theorem own_lt {w : World} {base : Nat} {e : TypeId} {size : Nat} {v : Value} {n : Nat} {xs : List Value} (h : w.ownsRow base e size v n xs) : ∀ g, v.ownBlock = some g -> g < w.heap.size := by
 intro g hg;rcases h.2 with ⟨rfl, _⟩ | ⟨g', cap, cur, rfl, hb, hg', rest⟩
 ·cases hg
 ·cases hg
  exact (gSq.1 hg').1
theorem SlU8.keep {w w' : World} {v : Value} {l : List UInt8} (h : SlU8 w v l) (hz : w.heap.size ≤ w'.heap.size) (hs : l ≠ [] -> ∀ g, v.ownBlock = some g -> w'.heap[g]? = w.heap[g]?) : SlU8 w' v l := by
 obtain ⟨A, m, c, rfl, hm, hc, hb⟩ := h;refine ⟨A, m, c, rfl, hm, hc, fun h0 => ?_⟩;obtain ⟨b, off, rfl, hlt, hbb⟩ := hb h0;refine ⟨b, off, rfl, by omega, fun j hj => ?_⟩;rw [<- hbb j hj];have := hs (fun e => by rw [e] at hm; simp at hm; omega) b rfl;unfold World.cell?;rw [this]
theorem AlAt.keep {w w' : World} {v : Value} {l : List UInt8} (h : AlAt w v l) (hz : w.heap.size ≤ w'.heap.size) (hs : l ≠ [] -> ∀ g, v.ownBlock = some g -> w'.heap[g]? = w.heap[g]?) : AlAt w' v l :=
 ⟨h.1.keep hz hs, fun hl g hg => by rw [hs hl g hg]; exact h.2 hl g hg⟩
theorem SlU8.own_lt {w : World} {v : Value} {l : List UInt8} (h : SlU8 w v l) (hl : l ≠ []) : ∀ g, v.ownBlock = some g -> g < w.heap.size := by
 intro g hg;obtain ⟨A, m, c, rfl, hm, hc, hb⟩ := h;obtain ⟨b, off, rfl, hlt, _⟩ := hb (by have := List.length_pos_iff.2 hl; omega)
 cases hg
 exact hlt
theorem ptrV_grown {P P' : List Nat} (hP : ∀ j, j < P.length -> ptN P' j = ptN P j) (o : Option Nat) (h : ∀ i, o = some i -> i < P.length) : ptrV P' o = ptrV P o := by
 cases o with
 | none => rfl
 | some i => show Value.pointer (some ⟨ptN P' i, 0, none⟩) = Value.pointer (some ⟨ptN P i, 0, none⟩); rw [hP i (h i rfl)]
theorem ndCells_grown {P P' : List Nat} (hP : ∀ j, j < P.length -> ptN P' j = ptN P j) (d : Nd) (h : ∀ i, d.parent = some i -> i < P.length) (kv lv av : Value) : ndCells P' d kv lv av = ndCells P d kv lv av := by
 unfold ndCells;rw [ptrV_grown hP _ h]
theorem NdAt.keep {w w' : World} {base : Nat} {own own' : Nat -> Nat} {P P' : List Nat} {i : Nat} {d : Nd} {kv lv av : Value} (h : NdAt w base own P i d kv lv av) (hi : i < P.length)
  (hz : w.heap.size ≤ w'.heap.size) (hown : ∀ b, b < w.heap.size -> own' b = own b) (hP : ∀ j, j < P.length -> ptN P' j = ptN P j) (hpar : ∀ p, d.parent = some p -> p < P.length) (hkid : ∀ k ∈ d.kids, k < P.length)
  (hs : ∀ b, b < w.heap.size -> own b = i + 1 -> w'.heap[b]? = w.heap[b]?) : NdAt w' base own' P' i d kv lv av := by
 have hlt := (gSq.1 h.row).1;have hm : (d.kids.map fun k => ptrV P' (some k)) = d.kids.map fun k => ptrV P (some k) := List.map_congr_left fun k hk => ptrV_grown hP _ fun i e => by cases e; exact hkid k hk
 refine ⟨?_, ?_, ?_, ?_, ?_, ?_, ?_, ?_, ?_⟩
 ·rw [hP i hi, hown _ hlt]; exact h.own_p
 ·rw [hP i hi]; exact h.ge
 ·rw [hP i hi, hs _ hlt h.own_p, ndCells_grown hP d hpar]; exact h.row
 ·rw [hm]; exact own_keep h.kids fun g hg => hs g (own_lt h.kids g hg) (h.own_k g hg)
 ·intro g hg; rw [hown _ (own_lt h.kids g hg)]; exact h.own_k g hg
 ·exact own_keep h.lines fun g hg => hs g (own_lt h.lines g hg) (h.own_l g hg)
 ·intro g hg; rw [hown _ (own_lt h.lines g hg)]; exact h.own_l g hg
 ·exact h.al.keep hz fun hl g hg => hs g (h.al.1.own_lt hl g hg) (h.own_a hl g hg)
 ·intro hl g hg;rw [hown _ (h.al.1.own_lt hl g hg)];exact h.own_a hl g hg
def ownUp (own : Nat -> Nat) (w : World) (i : Nat) : Nat -> Nat := fun b => if b < w.heap.size then own b else i + 1
theorem ownUp_old {own : Nat -> Nat} {w : World} {i b : Nat} (h : b < w.heap.size) : ownUp own w i b = own b := if_pos h
theorem ownUp_new {own : Nat -> Nat} {w : World} {i b : Nat} (h : ¬ b < w.heap.size) : ownUp own w i b = i + 1 := if_neg h
theorem Rd.upd_len (r : Rd) (i : Nat) (d : Nd) : (r.upd i d).nds.length = r.nds.length := by unfold Rd.upd; simp
theorem Rd.upd_self {r : Rd} {i : Nat} {d : Nd} (h : i < r.nds.length) : (r.upd i d).nds[i]? = some d := by unfold Rd.upd; simp [h]
theorem Rd.upd_other {r : Rd} {i j : Nat} {d : Nd} (h : i ≠ j) : (r.upd i d).nds[j]? = r.nds[j]? := by unfold Rd.upd; simp [List.getElem?_set_ne h]
theorem St.turn {w w' : World} {base rp : Nat} {own : Nat -> Nat} {P : List Nat} {r : Rd} (h : St F w base rp own P r) {i : Nat} {d d' : Nd} (hd : r.nds[i]? = some d) (hz : w.heap.size ≤ w'.heap.size)
  (hs : ∀ b, b < w.heap.size -> own b ≠ i + 1 -> w'.heap[b]? = w.heap[b]?) {kv' lv' av' : Value} (hn : NdAt w' base (ownUp own w i) P i d' kv' lv' av') (hwf : Wf (r.upd i d')) : St F w' base rp (ownUp own w i) P (r.upd i d') := by
 have hi := (List.getElem?_eq_some_iff.1 hd).1;have hw := h.wf;have hfw := h.few;refine ⟨by rw [Rd.upd_len]; exact h.len, fun j e he => ?_, ?_, hwf, fun b o hb => ?_, by rw [Rd.upd_len]; exact h.few, h.dp⟩
 rotate_left 2
 ·obtain ⟨h1, h2⟩ := h.fr b o hb;have hbl := (gSq.1 h1).1;exact ⟨(hs b hbl (by rw [h2]; omega)).trans h1, (ownUp_old hbl).trans h2⟩
 ·by_cases hij : i = j
  ·subst hij;rw [Rd.upd_self hi] at he
   cases he
   exact ⟨_, _, _, hn⟩
  ·rw [Rd.upd_other hij] at he;obtain ⟨kv, lv, av, hj⟩ := h.nodes j e he;have hjl := (List.getElem?_eq_some_iff.1 he).1;refine ⟨kv, lv, av, hj.keep (by rw [h.len]; exact hjl) hz (fun b hb => ownUp_old hb) (fun _ _ => rfl) (fun p hp => ?_) (fun k hk => ?_) (fun b hbl hb => hs b hbl (by rw [hb]; omega))⟩
   ·have := hw.par j e he p hp; rw [h.len]; omega
   ·have := hw.kids j e he k hk; rw [h.len]; omega
 ·obtain ⟨rv, hr⟩ := h.rd;have hrl := (gSq.1 hr.row).1;refine ⟨rv, ?_, hr.ge, ?_, ?_, ?_⟩
  ·rw [ownUp_old hrl]; exact hr.own_r
  ·rw [hs rp hrl (by rw [hr.own_r]; omega)]; exact hr.row
  ·exact own_keep hr.refs fun g hg => hs g (own_lt hr.refs g hg) (by rw [hr.own_f g hg]; omega)
  ·intro g hg; rw [ownUp_old (own_lt hr.refs g hg)]; exact hr.own_f g hg
theorem St.below {w w' : World} {base rp : Nat} {own : Nat -> Nat} {P : List Nat} {r : Rd} (h : St F w base rp own P r) (hb : Below w.heap.size w w') : St F w' base rp own P r := by
 have hw := h.wf;refine ⟨h.len, fun j e he => ?_, ?_, hw, fun b o hbo => ⟨(hb.block b (gSq.1 (h.fr b o hbo).1).1).trans (h.fr b o hbo).1, (h.fr b o hbo).2⟩, h.few, h.dp⟩
 ·obtain ⟨kv, lv, av, hj⟩ := h.nodes j e he;have hjl := (List.getElem?_eq_some_iff.1 he).1;refine ⟨kv, lv, av, hj.keep (by rw [h.len]; exact hjl) hb.size (fun b _ => rfl) (fun _ _ => rfl) (fun p hp => ?_) (fun k hk => ?_) (fun b hbl _ => hb.block b hbl)⟩
  ·have := hw.par j e he p hp; rw [h.len]; omega
  ·have := hw.kids j e he k hk; rw [h.len]; omega
 ·obtain ⟨rv, hr⟩ := h.rd;have hrl := (gSq.1 hr.row).1;exact ⟨rv, hr.own_r, hr.ge, (hb.block rp hrl).trans hr.row, own_keep hr.refs fun g hg => hb.block g (own_lt hr.refs g hg), hr.own_f⟩
theorem St.reader {w w' : World} {base rp : Nat} {own : Nat -> Nat} {P : List Nat} {r r' : Rd} (h : St F w base rp own P r) (hg : w.grownBy w' (some rp)) {rv : Value} (hrv : RdAt w base rp own P r rv) (hrow : w'.heap[rp]? = some (.cells (rdCells P r' rv) 55 (0, 0))) (hn : r'.nds = r.nds) (hf : r'.refs = r.refs) (hwf : Wf r') : St F w' base rp own P r' := by
 have hw := h.wf;have hrl := (gSq.1 hrv.row).1;refine ⟨by rw [hn]; exact h.len, fun j e he => ?_, ⟨rv, hrv.own_r, hrv.ge, hrow, ?_, hrv.own_f⟩, hwf, fun b o hbo => ⟨(hg.block b (gSq.1 (h.fr b o hbo).1).1 fun e => ?_).trans (h.fr b o hbo).1, (h.fr b o hbo).2⟩, by rw [hn]; exact h.few, h.dp⟩
 rotate_right
 ·have h2 := (h.fr b o hbo).2;rw [Option.some.inj e, hrv.own_r] at h2; omega
 ·rw [hn] at he;obtain ⟨kv, lv, av, hj⟩ := h.nodes j e he;have hjl := (List.getElem?_eq_some_iff.1 he).1;refine ⟨kv, lv, av, hj.keep (by rw [h.len]; exact hjl) hg.size (fun b _ => rfl) (fun _ _ => rfl) (fun p hp => ?_) (fun k hk => ?_) (fun b hbl hb => hg.block b hbl fun e => ?_)⟩
  ·have := hw.par j e he p hp; rw [h.len]; omega
  ·have := hw.kids j e he k hk; rw [h.len]; omega
  ·rw [Option.some.inj e, hrv.own_r] at hb; omega
 ·rw [hf];refine own_keep hrv.refs fun g hgr => hg.block g (own_lt hrv.refs g hgr) fun e => ?_;rcases hrv.refs.2 with ⟨h1, _⟩ | ⟨g', cap, cur, h1, _, h2, _⟩
  ·rw [h1] at hgr; cases hgr
  ·rw [h1] at hgr
   cases hgr
   have e' : g' = rp := Option.some.inj e;rw [e'] at h2;have := h2.symm.trans hrv.row;simp at this
theorem row_ne {w : World} {base : Nat} {e t : TypeId} {size : Nat} {v : Value} {n p : Nat} {xs : List Value} {cs : Array Value} (h : w.ownsRow base e size v n xs) (hp : w.heap[p]? = some (.cells cs t (0, 0))) (het : e ≠ t) : ∀ g, v.ownBlock = some g -> g ≠ p := by
 intro g hg e1;rcases h.2 with ⟨h1, _⟩ | ⟨g', cap, cur, h1, _, h2, _⟩
 ·rw [h1] at hg; cases hg
 ·rw [h1] at hg
  cases hg
  have e' : g' = p := e1;rw [e'] at h2;have := h2.symm.trans hp;simp at this;exact het this.2
theorem NdAt.set {w : World} {base : Nat} {own : Nat -> Nat} {P : List Nat} {i : Nat} {d d' : Nd} {kv lv av : Value} (h : NdAt w base own P i d kv lv av) (k : Nat) (v : Value) (hc : (ndCells P d kv lv av).setIfInBounds k v = ndCells P d' kv lv av)
  (hk : d'.kids = d.kids) (hl : d'.lines = d.lines) (ha : d'.align = d.align) : NdAt (w.setCell ⟨ptN P i, k, none⟩ v) base (ownUp own w i) P i d' kv lv av := by
 have hlt := (gSq.1 h.row).1;have hne : ∀ g, g ≠ ptN P i -> (w.setCell ⟨ptN P i, k, none⟩ v).heap[g]? = w.heap[g]? := fun g hg => Below.heap_setCell w _ _ _ hg;refine ⟨?_, h.ge, ?_, ?_, ?_, ?_, ?_, ?_, ?_⟩
 ·rw [ownUp_old hlt]; exact h.own_p
 ·rw [Joins.block_setCell h.row v, hc]
 ·rw [hk]; exact own_keep h.kids fun g hg => hne g (row_ne h.kids h.row (by decide) g hg)
 ·intro g hg; rw [ownUp_old (own_lt h.kids g hg)]; exact h.own_k g hg
 ·rw [hl]; exact own_keep h.lines fun g hg => hne g (row_ne h.lines h.row (by decide) g hg)
 ·intro g hg; rw [ownUp_old (own_lt h.lines g hg)]; exact h.own_l g hg
 ·rw [ha];refine h.al.keep (by simp [World.setCell]) fun hl2 g hg => hne g fun e => ?_;obtain ⟨cs, fr, h2⟩ := h.al.2 hl2 g hg;rw [e] at h2;have := h2.symm.trans h.row;simp at this
 ·rw [ha];intro hl2 g hg; rw [ownUp_old (h.al.1.own_lt hl2 g hg)]; exact h.own_a hl2 g hg
theorem St.set {w : World} {base rp : Nat} {own : Nat -> Nat} {P : List Nat} {r : Rd} (h : St F w base rp own P r) {i : Nat} {d d' : Nd} (hd : r.nds[i]? = some d) (k : Nat) (v : Value) (hc : ∀ kv lv av, (ndCells P d kv lv av).setIfInBounds k v = ndCells P d' kv lv av)
  (hk : d'.kids = d.kids) (hl : d'.lines = d.lines) (ha : d'.align = d.align) (hwf : Wf (r.upd i d')) : St F (w.setCell ⟨ptN P i, k, none⟩ v) base rp (ownUp own w i) P (r.upd i d') := by
 obtain ⟨kv, lv, av, hn⟩ := h.nodes i d hd;refine h.turn hd (by simp [World.setCell]) (fun b _ hb => ?_) (hn.set k v (hc kv lv av) hk hl ha) hwf;exact Below.heap_setCell w _ _ _ fun e => hb (by rw [show b = ptN P i from e]; exact hn.own_p)
end
section
open Go.RowKit
variable {F : Frm}
theorem snoc_cases {α : Type} (l : List α) : l = [] ∨ ∃ y c, l = y ++ [c] := by
 rcases List.eq_nil_or_concat l with h | ⟨y, c, h⟩
 ·exact .inl h
 ·exact .inr ⟨y, c, by rw [h, List.concat_eq_append]⟩
theorem own_last {w : World} {base : Nat} {e : TypeId} {v : Value} {n : Nat} {ys : List Value} {x : Value} (h : w.ownsRow base e 1 v n (ys ++ [x])) : ∃ g c, v = .slice (some ⟨g, 0, none⟩) (ys.length + 1) c ∧ ys.length + 1 ≤ c ∧ w.cell? ⟨g, ys.length, none⟩ = some x ∧ g < w.heap.size := by
 have hn : n = ys.length + 1 := by have := h.1; simp at this; omega
 subst hn;rcases h.2 with ⟨_, h2⟩ | ⟨g, cap, cur, rfl, hb, hg, hc, _⟩
 ·omega
 ·refine ⟨g, cap, rfl, hc, ?_, (gSq.1 hg).1⟩;have := h.cells (g := g) rfl ys.length x (by simp);have hadd : (⟨g, 0, none⟩ : Addr).add ys.length = ⟨g, ys.length, none⟩ := by
   unfold Addr.add;split
   ·rename_i h0; rw [h0]
   ·simp
  rw [hadd] at this;exact this
theorem own_none {w : World} {base : Nat} {e : TypeId} {v : Value} {n : Nat} (h : w.ownsRow base e 1 v n []) : ∃ A c, v = .slice A 0 c := by
 have hn : n = 0 := by have := h.1; simp at this; omega
 subst hn;rcases h.2 with ⟨h1, _⟩ | ⟨g, cap, cur, h1, _⟩
 ·exact ⟨_, _, h1⟩
 ·exact ⟨_, _, h1⟩
theorem Rd.nd_of {r : Rd} {i : Nat} {d : Nd} (h : r.nds[i]? = some d) : r.nd i = d := by unfold Rd.nd; simp [List.getD, h]
theorem Rd.at_lt {r : Rd} {i : Nat} (h : i < r.nds.length) : r.nds[i]? = some (r.nd i) := by unfold Rd.nd; simp [List.getD, List.getElem?_eq_getElem h]
theorem inner_any {w : World} {base rp : Nat} {own : Nat -> Nat} {P : List Nat} {r : Rd} (h : St F w base rp own P r) (b : Nat) (hb : b < r.nds.length) (hm : r.nds.length ≤ 1000000000) :
  Calls Tryz.prog 28 #[.pointer (some ⟨ptN P b, 0, none⟩)] w fun e w' => e = .returned (ptrV P (r.inner b)) ∧ w' = w := by
 obtain ⟨kv, lv, av, hn⟩ := h.nodes b _ (Rd.at_lt hb);have hrow := hn.row;unfold ndCells at hrow;have q := fun i => cell_of_row w (ptN P b) i _ _ _ hrow;rcases snoc_cases (r.nd b).kids with hk | ⟨ks, k, hk⟩
 ·have hv : r.inner b = none := by unfold Rd.inner; rw [hk]; rfl
  have hkids := hn.kids;rw [hk] at hkids;obtain ⟨A, c, rfl⟩ := own_none hkids;rw [hv];clear hv hkids hk hrow hn;go_enter Tryz.func28, Tryz.ntmps28;go_wp2;go_ret;exact ⟨rfl, rfl⟩
 ·have hkw := h.wf.kids b _ (Rd.at_lt hb) k (by rw [hk]; simp);obtain ⟨kv2, lv2, av2, hn2⟩ := h.nodes k _ (Rd.at_lt hkw.2);have hrow2 := hn2.row;unfold ndCells at hrow2;have q2 := fun i => cell_of_row w (ptN P k) i _ _ _ hrow2;have hkids := hn.kids;rw [hk, List.map_append] at hkids;obtain ⟨g, c, rfl, hc, hcell, _⟩ := own_last hkids;rw [List.length_map] at hc hcell q;have hkl : ks.length ≤ 1000000000 := by have := h.wf.nk b _ (Rd.at_lt hb); rw [hk] at this; simp at this; omega
  have hv : r.inner b = if (r.nd k).opn = true then some k else none := by
   unfold Rd.inner;rw [hk, List.getLast?_concat]
  obtain ⟨o, ho⟩ : ∃ o, (r.nd k).opn = o := ⟨_, rfl⟩;rw [ho] at hv q2;obtain ⟨n, hnn⟩ : ∃ n, ks.length = n := ⟨_, rfl⟩;rw [hnn] at hc hcell q hkl;have hcell2 : w.cell? ⟨g, n, none⟩ = some (.pointer (some ⟨ptN P k, 0, none⟩)) := hcell;rw [hv];clear hv hkids hk hrow hrow2 hn hn2 hnn hcell ho
  cases o with
  | true =>
   go_enter Tryz.func28, Tryz.ntmps28;go_wp2;go_ret;exact ⟨rfl, rfl⟩
  | false =>
   go_enter Tryz.func28, Tryz.ntmps28;go_wp2;go_ret;exact ⟨rfl, rfl⟩
theorem Rd.inner_lt {r : Rd} (hw : Wf r) {b k : Nat} (hb : b < r.nds.length) (h : r.inner b = some k) : b < k ∧ k < r.nds.length := by
 unfold Rd.inner at h
 cases hk : (r.nd b).kids.getLast? with
 | none => rw [hk] at h; cases h
 | some j =>
  rw [hk] at h;simp only at h;split at h
  ·cases h
   exact hw.kids b _ (Rd.at_lt hb) k (List.mem_of_getLast? hk)
  ·cases h
def DeepW (P : List Nat) (r : Rd) (E : Nat) (w : World) (g : Nat) (v0 v3 : Value) (wr : World) : Prop := ∃ b f : Nat, v0 = .pointer (some ⟨ptN P b, 0, none⟩) ∧ v3 = ptrV P (r.inner b) ∧ b < r.nds.length ∧ b + g = r.nds.length ∧ r.nds.length ≤ b + f ∧ Rd.deepF f r b = E ∧ wr = w
theorem deepest_any {w : World} {base rp : Nat} {own : Nat -> Nat} {P : List Nat} {r : Rd} (h : St F w base rp own P r) (b : Nat) (hb : b < r.nds.length) (hm : r.nds.length ≤ 1000000000) :
  Calls Tryz.prog 30 #[.pointer (some ⟨ptN P b, 0, none⟩)] w fun e w' => e = .returned (ptrV P (some (r.deepest b))) ∧ w' = w := by
 obtain ⟨E, hE⟩ : ∃ E, Rd.deepF r.nds.length r b = E := ⟨_, rfl⟩;have HI := hdn fun b hb => inner_any h b hb hm;have HW := hdn h.wf;unfold Rd.deepest;rw [hE];have H0 := hdn (show DeepW P r E w (r.nds.length - b) (.pointer (some ⟨ptN P b, 0, none⟩)) (ptrV P (r.inner b)) w from ⟨b, r.nds.length, rfl, rfl, hb, by omega, by omega, hE, rfl⟩);have H1 := hdn (inner_any h b hb hm);obtain ⟨X, hX⟩ : ∃ X, ptrV P (r.inner b) = X := ⟨_, rfl⟩;rw [hX] at H0 H1;clear hE h hX;go_enter Tryz.func30, Tryz.ntmps30;go_wp2_with fail
 refine cMq H1.out ?_;rintro e w' ⟨rfl, rfl⟩;go_wp2_with fail
 go_loopg [0, 3] (r.nds.length - b) (fun g v0 v3 wr => DeepW P r E w' g v0 v3 wr)
 case atStart => exact H0.out
 case round =>
  obtain ⟨b', f, rfl, rfl, hb', hg, hf, he, hw2⟩ := hrel;have hw3 := hw2.symm;subst hw3;clear hw2 H0 H1
  cases hi : r.inner b' with
  | none =>
   have hv : b' = E := by
    rw [<- he]
    cases f with
    | zero => rfl
    | succ f => rw [Rd.deepF, hi]
   clear he hi;subst hv;rw [show ptrV P none = Value.pointer none from rfl];go_wp2;go_ret;exact ⟨rfl, rfl⟩
  | some k =>
   have hk := Rd.inner_lt HW.out hb' hi;have HIk := hdn (HI.out k hk.2);obtain ⟨f, rfl⟩ : ∃ f', f = f' + 1 := ⟨f - 1, by omega⟩;rw [Rd.deepF, hi] at he;simp only at he;have HE := hdn he;obtain ⟨Y, hY⟩ : ∃ Y, ptrV P (r.inner k) = Y := ⟨_, rfl⟩;rw [hY] at HIk;clear he hi;rw [show ptrV P (some k) = Value.pointer (some ⟨ptN P k, 0, none⟩) from rfl];go_wp2_with fail;refine cMq HIk.out ?_;rintro e w2 ⟨rfl, rfl⟩;go_wp2
   go_roundg (r.nds.length - k)
   case measure => omega
   case rel => exact ⟨k, f, rfl, hY.symm, hk.2, by omega, by omega, HE.out, rfl⟩
end
