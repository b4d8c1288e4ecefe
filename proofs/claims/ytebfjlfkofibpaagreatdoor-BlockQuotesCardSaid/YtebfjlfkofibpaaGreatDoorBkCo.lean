/- Indented code begins. -/
import Derived.Test.YtebfjlfkofibpaaGreatDoorBkLo
import Derived.Deep.RegionWith
namespace Go.Proofs.YtebfjlfkofibpaaGreatDoor
set_option maxHeartbeats 4000000
set_option maxRecDepth 100000
section
open Go.RowKit
variable {F : Frm}
def PreB (F : Frm) (base rp : Nat) (P : List Nat) (r : Rd) (k : Nat) (w W : World) (g : Nat) : Prop := ∃ own, St F W base rp own (P ++ [g]) (r.more (Nd.new k)) ∧ Below base w W
theorem preB_new {w W : World} {base rp : Nat} {own : Nat -> Nat} {P : List Nat} {r : Rd} (k : Nat) (h : St F w base rp own P r) (hbw : base ≤ w.heap.size) (hfew : r.nds.length + 1 ≤ 100000) (hb : Below w.heap.size w W) :
  PreB F base rp P r k w (W.alloc (.cells (ndCells [] (Nd.new k) (.slice none 0 0) (.slice none 0 0) (.slice none 0 0)) 50)) W.heap.size :=
 ⟨_, (h.below hb).more k (Nat.le_trans hbw hb.size) hfew, (hb.mono hbw).alloc (Nat.le_trans hbw hb.size) _⟩
theorem begin_p {B : Nat} (hB : B ≤ 1000000) {w W : World} {base rp : Nat} {P : List Nat} {r : Rd} {k g : Nat} (h1 : 1 ≤ k) (h10 : k ≤ 10) (hP : P.length = r.nds.length) (hbw : base ≤ w.heap.size) (h : PreB F base rp P r k w W g) (hr : Rdy B r) (hfew : r.nds.length + 1 ≤ 100000) (h4 : k = 4 -> r.curK = 3) :
  Calls Tryz.prog 62 #[.pointer (some ⟨rp, 0, none⟩), .pointer (some ⟨g, 0, none⟩)] W fun e w' => ∃ own', e = .returned (.pointer (some ⟨g, 0, none⟩)) ∧ St F w' base rp own' (P ++ [g]) (r.fresh (Nd.new k)) ∧ Below base w w' := by
 obtain ⟨own, k1, k2⟩ := h;have hB2 := begin_g hB k1 (Nat.le_trans hbw k2.size) hr (new_ok B k h1 h10) hfew h4;rw [ptN_new P _ _ hP] at hB2;exact hB2.mono fun e w' ⟨own', a1, a2, a3⟩ => ⟨own', a1, a2, k2.trans a3⟩
abbrev oneO (x : ByteArray) : Obj := .cells #[.string x] 9
def Fo (F : Frm) (x : ByteArray) : Option Nat -> Frm
 | none => F
 | some g => fadd F g (oneO x)
theorem St.lines_loc {w : World} {base rp ga : Nat} {own : Nat -> Nat} {P : List Nat} {r : Rd} {x : ByteArray} (h : St (fadd F ga (oneO x)) w base rp own P r) (hF : F ga = none) (hg : base ≤ ga) {i : Nat} {d : Nd} (hd : r.nds[i]? = some d) :
  St F (w.setCell ⟨ptN P i, 15, none⟩ (.slice (some ⟨ga, 0, none⟩) 1 1)) base rp (fun b => if b = ga then i + 1 else own b) P (r.upd i { d with lines := [x] }) := by
 obtain ⟨hm, hmo⟩ := h.fr ga _ (if_pos rfl);have hil := (List.getElem?_eq_some_iff.1 hd).1;have hfw := h.few;obtain ⟨kv, lv, av, hn⟩ := h.nodes i d hd;have hlt := (gSq.1 hn.row).1;have hgp : ga ≠ ptN P i := fun e => by have := hn.own_p; rw [<- e, hmo] at this; omega
 have hne : ∀ g, g ≠ ptN P i -> (w.setCell ⟨ptN P i, 15, none⟩ (.slice (some ⟨ga, 0, none⟩) 1 1)).heap[g]? = w.heap[g]? := fun g hg2 => Below.heap_setCell w _ _ _ hg2;have hold : ∀ b, own b ≠ 1000000000 -> (fun b => if b = ga then i + 1 else own b) b = own b := fun b hb => if_neg (fun e => hb (by rw [e]; exact hmo));have hw := h.wf;have hwf : Wf (r.upd i { d with lines := [x] }) := hw.upd hd rfl rfl;have hsz : w.heap.size ≤ (w.setCell ⟨ptN P i, 15, none⟩ (.slice (some ⟨ga, 0, none⟩) 1 1)).heap.size := by simp [World.setCell]
 have hsame : ∀ g, own g ≠ i + 1 -> (w.setCell ⟨ptN P i, 15, none⟩ (.slice (some ⟨ga, 0, none⟩) 1 1)).heap[g]? = w.heap[g]? := fun g hg2 => hne g fun e => hg2 (by rw [e]; exact hn.own_p);refine ⟨by rw [Rd.upd_len]; exact h.len, fun j e he => ?_, ?_, hwf, fun b o hb => ?_, by rw [Rd.upd_len]; exact h.few, h.dp⟩
 ·by_cases hij : i = j
  ·subst hij;rw [Rd.upd_self hil] at he
   cases he
   refine ⟨kv, .slice (some ⟨ga, 0, none⟩) 1 1, av, ?_, hn.ge, ?_, ?_, ?_, ?_, ?_, ?_, ?_⟩
   ·exact (hold _ (by rw [hn.own_p]; omega)).trans hn.own_p
   ·rw [Joins.block_setCell hn.row _]; rfl
   ·exact own_keep hn.kids fun g hg2 => hne g (row_ne hn.kids hn.row (by decide) g hg2)
   ·intro g hg2; exact (hold _ (by rw [hn.own_k g hg2]; omega)).trans (hn.own_k g hg2)
   ·refine ⟨rfl, .inr ⟨ga, 1, #[.string x], rfl, hg, (hne ga hgp).trans hm, Nat.le_refl _, by decide, rfl, rfl⟩⟩
   ·intro g hg2; cases hg2; exact if_pos rfl
   ·refine hn.al.keep hsz fun hl2 g hg2 => hne g fun e => ?_;obtain ⟨cs, fr, h2⟩ := hn.al.2 hl2 g hg2;rw [e] at h2;have := h2.symm.trans hn.row;simp at this
   ·intro hl2 g hg2; exact (hold _ (by rw [hn.own_a hl2 g hg2]; omega)).trans (hn.own_a hl2 g hg2)
  ·rw [Rd.upd_other hij] at he;obtain ⟨kv, lv, av, hj⟩ := h.nodes j e he;have hjl := (List.getElem?_eq_some_iff.1 he).1;have hs : ∀ g, own g = j + 1 -> (w.setCell ⟨ptN P i, 15, none⟩ (.slice (some ⟨ga, 0, none⟩) 1 1)).heap[g]? = w.heap[g]? := fun g hg2 => hsame g (by rw [hg2]; omega);have ho : ∀ g, own g = j + 1 -> (fun b => if b = ga then i + 1 else own b) g = j + 1 := fun g hg2 => (hold g (by rw [hg2]; omega)).trans hg2
   exact ⟨kv, lv, av, ho _ hj.own_p, hj.ge, (hs _ hj.own_p).trans hj.row, own_keep hj.kids fun g hg2 => hs g (hj.own_k g hg2), fun g hg2 => ho g (hj.own_k g hg2), own_keep hj.lines fun g hg2 => hs g (hj.own_l g hg2), fun g hg2 => ho g (hj.own_l g hg2),
    hj.al.keep hsz fun hl2 g hg2 => hs g (hj.own_a hl2 g hg2), fun hl2 g hg2 => ho g (hj.own_a hl2 g hg2)⟩
 ·obtain ⟨rv, hr⟩ := h.rd;have hs : ∀ g, own g = 0 -> (w.setCell ⟨ptN P i, 15, none⟩ (.slice (some ⟨ga, 0, none⟩) 1 1)).heap[g]? = w.heap[g]? := fun g hg2 => hsame g (by rw [hg2]; omega);have ho : ∀ g, own g = 0 -> (fun b => if b = ga then i + 1 else own b) g = 0 := fun g hg2 => (hold g (by rw [hg2]; omega)).trans hg2;exact ⟨rv, ho _ hr.own_r, hr.ge, (hs _ hr.own_r).trans hr.row, own_keep hr.refs fun g hg2 => hs g (hr.own_f g hg2), fun g hg2 => ho g (hr.own_f g hg2)⟩
 ·have hbg : b ≠ ga := fun e => by rw [e, hF] at hb; cases hb
  obtain ⟨k1, k2⟩ := h.fr b o (by show (if b = ga then some (oneO x) else F b) = some o; rw [if_neg hbg]; exact hb);exact ⟨(hsame b (by rw [k2]; omega)).trans k1, by show (if b = ga then i + 1 else own b) = _; rw [if_neg hbg]; exact k2⟩
def PreL (F : Frm) (base rp : Nat) (P : List Nat) (r : Rd) (k : Nat) (x : ByteArray) (w W : World) (g : Nat) (oa : Option Nat) : Prop := PreB (Fo F x oa) base rp P r k w W g ∧ ∀ ga, oa = some ga -> base ≤ ga ∧ F ga = none
def PostL (F : Frm) (base rp : Nat) (P : List Nat) (r : Rd) (k : Nat) (x : ByteArray) (w W : World) (g : Nat) (oa : Option Nat) : Prop := (∃ own, St (Fo F x oa) W base rp own (P ++ [g]) (r.fresh (Nd.new k)) ∧ Below base w W) ∧ ∀ ga, oa = some ga -> base ≤ ga ∧ F ga = none
theorem St.free {w W : World} {base rp : Nat} {own : Nat -> Nat} {P : List Nat} {r : Rd} (h : St F w base rp own P r) (hb : w.heap.size ≤ W.heap.size) : F W.heap.size = none := by
 cases hF : F W.heap.size with
 | none => rfl
 | some o =>
  have := (gSq.1 (h.fr _ _ hF).1).1;omega
theorem preL_a {w W : World} {base rp : Nat} {own : Nat -> Nat} {P : List Nat} {r : Rd} (k : Nat) (x : ByteArray) (h : St F w base rp own P r) (hbw : base ≤ w.heap.size) (hfew : r.nds.length + 1 ≤ 100000) (hb : Below w.heap.size w W) :
  PreL F base rp P r k x w (W.alloc (.cells (ndCells [] (Nd.new k) (.slice none 0 0) (.slice none 0 0) (.slice none 0 0)) 50)) W.heap.size none := ⟨preB_new k h hbw hfew hb, fun _ e => by cases e⟩
theorem preL_b {w W : World} {base rp : Nat} {own : Nat -> Nat} {P : List Nat} {r : Rd} (k : Nat) (x : ByteArray) (h : St F w base rp own P r) (hbw : base ≤ w.heap.size) (hfew : r.nds.length + 1 ≤ 100000) (hb : Below w.heap.size w W) :
  PreL F base rp P r k x w ((W.alloc (.cells (ndCells [] (Nd.new k) (.slice none 0 0) (.slice none 0 0) (.slice none 0 0)) 50)).alloc (oneO x)) W.heap.size (some (W.heap.size + 1)) := by
 have hsz : (W.alloc (.cells (ndCells [] (Nd.new k) (.slice none 0 0) (.slice none 0 0) (.slice none 0 0)) 50)).heap.size = W.heap.size + 1 := by simp
 have hW := hb.size;have h1 := ((h.below hb).more k (Nat.le_trans hbw hb.size) hfew).local #[.string x] 9;have hb1 := ((hb.mono hbw).alloc (Nat.le_trans hbw hb.size) (.cells (ndCells [] (Nd.new k) (.slice none 0 0) (.slice none 0 0) (.slice none 0 0)) 50)).alloc (by omega) (oneO x);rw [hsz] at h1;refine ⟨⟨_, h1, hb1⟩, fun ga e => ?_⟩
 cases e
 refine ⟨by omega, ?_⟩;have := h.free (W := W.alloc (.cells (ndCells [] (Nd.new k) (.slice none 0 0) (.slice none 0 0) (.slice none 0 0)) 50)) (by omega);rw [hsz] at this;exact this
theorem preL_c {w W : World} {base rp : Nat} {own : Nat -> Nat} {P : List Nat} {r : Rd} (k : Nat) (x : ByteArray) (h : St F w base rp own P r) (hbw : base ≤ w.heap.size) (hfew : r.nds.length + 1 ≤ 100000) (hb : Below w.heap.size w W) :
  PreL F base rp P r k x w ((W.alloc (oneO x)).alloc (.cells (ndCells [] (Nd.new k) (.slice none 0 0) (.slice none 0 0) (.slice none 0 0)) 50)) (W.heap.size + 1) (some W.heap.size) := by
 have hsz : (W.alloc (oneO x)).heap.size = W.heap.size + 1 := by simp
 have hW := hb.size;have h0 := (h.below hb).local #[.string x] 9;have h1 := h0.more k (by rw [show (W.alloc (.cells #[.string x] 9)).heap.size = W.heap.size + 1 from hsz]; omega) hfew;rw [show (W.alloc (.cells #[.string x] 9)).heap.size = W.heap.size + 1 from hsz] at h1;refine ⟨⟨_, h1, ((hb.mono hbw).alloc (by omega) (oneO x)).alloc (by omega) _⟩, fun ga e => ?_⟩
 cases e
 exact ⟨by omega, h.free hW⟩
theorem PreL.drew {w W : World} {base rp : Nat} {P : List Nat} {r : Rd} {k g : Nat} {x : ByteArray} {oa : Option Nat} (h : PreL F base rp P r k x w W g oa) : PreL F base rp P r k x w W.drew g oa := by
 obtain ⟨⟨own, h1, h2⟩, h3⟩ := h;exact ⟨⟨own, h1.below (Below.refl _ W).drew, h2.drew⟩, h3⟩
theorem begin_l {B : Nat} (hB : B ≤ 1000000) {w W : World} {base rp : Nat} {P : List Nat} {r : Rd} {k g : Nat} {x : ByteArray} {oa : Option Nat} (h1 : 1 ≤ k) (h10 : k ≤ 10) (hP : P.length = r.nds.length) (hbw : base ≤ w.heap.size) (hr : Rdy B r) (hfew : r.nds.length + 1 ≤ 100000) (h4 : k = 4 -> r.curK = 3) (h : PreL F base rp P r k x w W g oa) :
  Calls Tryz.prog 62 #[.pointer (some ⟨rp, 0, none⟩), .pointer (some ⟨g, 0, none⟩)] W fun e w' => e = .returned (.pointer (some ⟨g, 0, none⟩)) ∧ PostL F base rp P r k x w w' g oa :=
 (begin_p hB h1 h10 hP hbw h.1 hr hfew h4).mono fun _ _ ⟨own', a1, a2, a3⟩ => ⟨a1, ⟨own', a2, a3⟩, h.2⟩
theorem postL_made {w W : World} {base rp : Nat} {P : List Nat} {r : Rd} {k g : Nat} {x : ByteArray} (h : PostL F base rp P r k x w W g none) (hbw : base ≤ w.heap.size) : PostL F base rp P r k x w (W.alloc (oneO x)) g (some W.heap.size) := by
 obtain ⟨⟨own, h1, h2⟩, _⟩ := h;have h1' : St F W base rp own (P ++ [g]) (r.fresh (Nd.new k)) := h1;have hW := h2.size;refine ⟨⟨_, h1'.local #[.string x] 9, h2.alloc (by omega) _⟩, fun ga e => ?_⟩
 cases e
 exact ⟨by omega, h1'.free (Nat.le_refl _)⟩
theorem PostL.cells {w W : World} {base rp : Nat} {P : List Nat} {r : Rd} {k g B : Nat} {x : ByteArray} {oa : Option Nat} (h : PostL F base rp P r k x w W g oa) (hP : P.length = r.nds.length) (hB : B ≤ 1000000) (hr : Rdy B r) (h1 : 1 ≤ k) (h10 : k ≤ 10) (hfew : r.nds.length + 1 ≤ 100000) (h4 : k = 4 -> r.curK = 3) :
  ∃ kv lv av rv a, W.heap[g]? = some (.cells (ndCells (P ++ [g]) { Nd.new k with parent := some a, opn := true, first := r.n, last := r.n } kv lv av) 50 (0, 0)) ∧ W.heap[rp]? = some (.cells (rdCells (P ++ [g]) (r.fresh (Nd.new k)) rv) 55 (0, 0)) ∧ (r.fresh (Nd.new k)).rest = r.rest ∧ g ≠ rp ∧ base ≤ g := by
 obtain ⟨⟨own, hst, _⟩, _⟩ := h;obtain ⟨a, hf⟩ := fresh_r hB hr (new_ok B k h1 h10) hfew h4;obtain ⟨e1, e2⟩ := fresh_at hst hP hf;obtain ⟨kv, lv, av, hn⟩ := hst.nodes _ _ e1;obtain ⟨rv, hrd⟩ := hst.rd;have hrow := hn.row;have hge := hn.ge;have hop := hn.own_p;rw [e2] at hrow hge hop;exact ⟨kv, lv, av, rv, a, hrow, hrd.row, hf.rest, fun e => by rw [e, hrd.own_r] at hop; omega, hge⟩
theorem PostL.stored {w W : World} {base rp : Nat} {P : List Nat} {r : Rd} {k g ga B : Nat} {x : ByteArray} (h : PostL F base rp P r k x w W g (some ga)) (hP : P.length = r.nds.length) (hB : B ≤ 1000000) (hr : Rdy B r) (h1 : 1 ≤ k) (h10 : k ≤ 10) (hfew : r.nds.length + 1 ≤ 100000) (h4 : k = 4 -> r.curK = 3) :
  ∃ own, St F (W.setCell ⟨g, 15, none⟩ (.slice (some ⟨ga, 0, none⟩) 1 1)) base rp own (P ++ [g]) ((r.fresh (Nd.new k)).turn r.nds.length fun d => { d with lines := [x] }) ∧ Below base w (W.setCell ⟨g, 15, none⟩ (.slice (some ⟨ga, 0, none⟩) 1 1)) := by
 obtain ⟨_, _, _, _, _, _, _, _, _, hge⟩ := h.cells hP hB hr h1 h10 hfew h4;obtain ⟨⟨own, hst, hb⟩, hga⟩ := h;obtain ⟨a, hf⟩ := fresh_r hB hr (new_ok B k h1 h10) hfew h4;obtain ⟨e1, e2⟩ := fresh_at hst hP hf;have hs := St.lines_loc (F := F) hst (hga ga rfl).2 (hga ga rfl).1 e1;rw [e2] at hs;have he : ((r.fresh (Nd.new k)).turn r.nds.length fun d => { d with lines := [x] }) = (r.fresh (Nd.new k)).upd r.nds.length { ({ Nd.new k with parent := some a, opn := true, first := r.n, last := r.n } : Nd) with lines := [x] } := by
  unfold Rd.turn;rw [hf.new]
 rw [<- he] at hs;exact ⟨_, hs, hb.setCell (p := ⟨g, 15, none⟩) hge _⟩
theorem Rdy.ln {B : Nat} {r q : Rd} (h : Rdy B r) (hn : q.nds = r.nds) (hr : q.refs = r.refs) (hm : q.n = r.n) (hc : q.cur = r.cur) : Rdy B q := by
 have he : ∀ i, q.nd i = r.nd i := fun i => by unfold Rd.nd; rw [hn]
 obtain ⟨a, h1, h2⟩ := h.cur;exact ⟨h.ok.same hn (by rw [hr]; exact Nat.le_refl _) (by rw [hm]; exact h.ok.nn), by rw [he]; exact h.d0, a, by rw [hc]; exact h1, by rw [he]; exact h2⟩
theorem code_b {B : Nat} (hB : B ≤ 1000000) {w : World} {base rp : Nat} {own : Nat -> Nat} {P : List Nat} {r : Rd} (h : St F w base rp own P r) (hb : base ≤ w.heap.size) (hr : Rdy B r) (hfew : r.nds.length + 1 ≤ 100000) (hp : r.pot ≤ 1000000) (tp : Nat) (htp : r.tip = some tp) (t : ByteArray) :
  Calls Tryz.prog 51 #[.pointer (some ⟨rp, 0, none⟩), .string t] w fun e w' => e = .returned (.int .i64 ((r.code t).2 : Nat)) ∧ Below base w w' ∧ ∃ own' Q, St F w' base rp own' Q (r.code t).1 := by
 obtain ⟨rv, hrd⟩ := h.rd;have hrow := hrd.row;unfold rdCells at hrow;rw [htp, show ptrV P (some tp) = Value.pointer (some ⟨ptN P tp, 0, none⟩) from rfl] at hrow;have q := fun i => cell_of_row w rp i _ _ _ hrow;have htl := h.wf.tip tp htp;obtain ⟨kv, lv, av, hnt⟩ := h.nodes tp _ (Rd.at_lt htl);have hrowt := hnt.row;unfold ndCells at hrowt;have qt := fun i => cell_of_row w (ptN P tp) i _ _ _ hrowt;have hK : r.tipK = (r.nd tp).kind := by unfold Rd.tipK; rw [htp]
 obtain ⟨K, hKK⟩ : ∃ K, (r.nd tp).kind = K := ⟨_, rfl⟩;rw [hKK] at qt hK;have HS := hdn h
 by_cases h0 : t.size = 0 ∨ K = 5
 ·have hv : r.code t = (r, 0) := by unfold Rd.code; rw [if_pos (by rw [hK]; exact h0)]
  rw [hv];have HB := hdn hb
  by_cases ht : t.size = 0
  ·have htd : t.data.toList = [] := by
    have : t.data = #[] := Array.eq_empty_of_size_eq_zero ht;rw [this]
   have htl2 : t.toList = [] := by rw [ByteArray.toList_eq]; exact htd
   have hte : t.toList.isEmpty = true := by rw [htl2]; rfl
   clear h hrd hrow hnt hrowt hK hKK hv h0 hr htp htl;go_enter Tryz.func51, Tryz.ntmps51;go_wp2;go_ret;exact ⟨rfl, Below.refl _ _, _, _, HS.out⟩
  ·have hK5 : K = 5 := h0.resolve_left ht;subst hK5;have hne := bytes_ne ht;have hte := hne.1;have htl2 := hne.2;clear h hrd hrow hnt hrowt hK hKK hv h0 hr htp htl hne;go_enter Tryz.func51, Tryz.ntmps51;go_wp2;go_ret;exact ⟨rfl, Below.refl _ _, _, _, HS.out⟩
 ·have hvv : r.code t = (((r.cut 4).fresh (Nd.new 7)).turn (r.cut 4).nds.length (fun d => { d with lines := [((r.cut 4).fresh (Nd.new 7)).rest] }), 2) := by unfold Rd.code; rw [if_neg (by rw [hK]; exact h0)]
  have hte := bytes_ne (t := t) (fun e => h0 (.inl e));have hte1 := hte.1;have hte2 := hte.2;have i5 : ((K : Int) == 5) = false := by rw [beq_eq_false_iff_ne]; omega
  obtain ⟨r1, hr1⟩ : ∃ r1, r.cut 4 = r1 := ⟨_, rfl⟩;have hCu := cut_s h hb hp 4 (by decide);rw [hr1] at hCu hvv;have hrd1 : Rdy B r1 := hr.ln (by rw [<- hr1]; rfl) (by rw [<- hr1]; rfl) (by rw [<- hr1]; rfl) (by rw [<- hr1]; rfl);have hfew1 : r1.nds.length + 1 ≤ 100000 := by rw [<- hr1]; exact hfew
  obtain ⟨a, hf⟩ := fresh_r hB hrd1 (new_ok B 7 (by decide) (by decide)) hfew1 (fun e => by cases e);rw [hf.rest] at hvv;have HCu := hdn hCu;have HV := hdn hvv;have HBe := hdn fun (w1 W : World) (g : Nat) (oa : Option Nat) (hP : P.length = r1.nds.length) (hbw : base ≤ w1.heap.size) (h : PreL F base rp P r1 7 r1.rest w1 W g oa) => begin_l hB (by decide) (by decide) hP hbw hrd1 hfew1 (fun e => by cases e) h
  have HCe := hdn fun (w1 W : World) (g : Nat) (oa : Option Nat) (h : PostL F base rp P r1 7 r1.rest w1 W g oa) (hP : P.length = r1.nds.length) => h.cells hP hB hrd1 (by decide) (by decide) hfew1 (fun e => by cases e);have HSt := hdn fun (w1 W : World) (g ga : Nat) (h : PostL F base rp P r1 7 r1.rest w1 W g (some ga)) (hP : P.length = r1.nds.length) => h.stored hP hB hrd1 (by decide) (by decide) hfew1 (fun e => by cases e);rw [HV.out];clear hCu hvv hf hrd1 h hrd hrow hnt hrowt hK hKK h0 hr htp htl hte HS
  go_enter Tryz.func51, Tryz.ntmps51;go_wp2_with fail;refine cMq HCu.out ?_;rintro e w1 ⟨own1, ⟨v, rfl⟩, hst1, hb1⟩;have hP := hst1.len;have hbw : base ≤ w1.heap.size := by have := hb1.size; omega
  obtain ⟨rv1, hrd1⟩ := hst1.rd;have hrow1 := hrd1.row;unfold rdCells at hrow1;have q1 := fun i => cell_of_row w1 rp i _ _ _ hrow1;have hrl : rp < w1.heap.size := (gSq.1 hrow1).1;have HPa := hdn (preL_a 7 r1.rest hst1 hbw hfew1 (Below.refl _ _)).drew;have HPb := hdn (preL_b 7 r1.rest hst1 hbw hfew1 (Below.refl _ _)).drew;have HPc := hdn (preL_c 7 r1.rest hst1 hbw hfew1 (Below.refl _ _)).drew;have HB1 := hdn hb1;have HP := hdn hP;obtain ⟨R, hR⟩ : ∃ R, r1.rest = R := ⟨_, rfl⟩;rw [hR] at q1 HPa HPb HPc HBe HCe HSt;have HR := hdn hR;have HBw := hdn hbw
  clear hst1 hb1 hrd1 hrow1 q qt hP hR hbw;go_wp2_with fail
  go_region_with (first
   | (go_at_call 18; refine cMq (kind_any 7 _) ?_; rintro e w2 ⟨rfl, rfl⟩)
   | (go_at_call 62; (with_reducible refine cMq (HBe.out w1 _ _ none HP.out HBw.out HPa.out) ?_); rintro e w3 ⟨rfl, hpo⟩; obtain ⟨kv3, lv3, av3, rv3, a3, hg3, hr3, hrs, hne3, hge3⟩ := HCe.out w1 w3 _ _ hpo HP.out; have hzg : w1.heap.size < w3.heap.size := (gSq.1 hg3).1; have hzr : rp < w3.heap.size := (gSq.1 hr3).1; unfold rdCells at hr3; rw [hrs] at hr3; have q3 := (fun i => cell_of_row w3 rp i _ _ _ hr3); have f3 : (∀ i, w3.frozen? ⟨w1.heap.size, i, none⟩ = false) := (fun i => by simp [World.frozen?, hg3]); unfold ndCells at hg3; have q4 := (fun i => cell_of_row w3 w1.heap.size i _ _ _ hg3); have HPo := hdn (postL_made hpo HBw.out); clear hpo hg3 hr3 hrs)
   | (go_at_call 62; (with_reducible refine cMq (HBe.out w1 _ _ _ HP.out HBw.out HPb.out) ?_); rintro e w3 ⟨rfl, hpo⟩; obtain ⟨kv3, lv3, av3, rv3, a3, hg3, hr3, hrs, hne3, hge3⟩ := HCe.out w1 w3 _ _ hpo HP.out; have f3 : (∀ i, w3.frozen? ⟨w1.heap.size, i, none⟩ = false) := (fun i => by simp [World.frozen?, hg3]); unfold ndCells at hg3; have q4 := (fun i => cell_of_row w3 w1.heap.size i _ _ _ hg3); have HPo := hdn hpo; clear hpo hg3 hr3 hrs)
   | (go_at_call 62; (with_reducible refine cMq (HBe.out w1 _ _ _ HP.out HBw.out HPc.out) ?_); rintro e w3 ⟨rfl, hpo⟩; obtain ⟨kv3, lv3, av3, rv3, a3, hg3, hr3, hrs, hne3, hge3⟩ := HCe.out w1 w3 _ _ hpo HP.out; have f3 : (∀ i, w3.frozen? ⟨w1.heap.size + 1, i, none⟩ = false) := (fun i => by simp [World.frozen?, hg3]); unfold ndCells at hg3; have q4 := (fun i => cell_of_row w3 (w1.heap.size + 1) i _ _ _ hg3); have HPo := hdn hpo; clear hpo hg3 hr3 hrs))
  all_goals
   go_wp2;go_ret;obtain ⟨own9, h9, b9⟩ := HSt.out w1 _ _ _ HPo.out HP.out
   try rw [World.setCell_alloc_past _ _ _ _ (by assumption)] at h9 b9
   have HRo := HR.out;subst HRo;exact ⟨rfl, HB1.out.trans b9, _, _, h9⟩
end
section
open Go.RowKit
variable {F : Frm}
theorem fenced_b {B : Nat} (hB : B ≤ 1000000) {w : World} {base rp : Nat} {own : Nat -> Nat} {P : List Nat} {r : Rd} (h : St F w base rp own P r) (hb : base ≤ w.heap.size) (hr : Rdy B r) (hfew : r.nds.length + 1 ≤ 100000) (t : ByteArray) (ht : t.size ≤ 1000000) (v : Nat) (_ : v ≤ 1000000) :
  Calls Tryz.prog 54 #[.pointer (some ⟨rp, 0, none⟩), .string t, .int .i64 (v : Int)] w (Looks F w base rp P r (r.fenced t v)) := by
 have HO := hdn (openx_any t w (by omega));unfold OpenX at HO;have HS := hdn h;have HBw := hdn hb
 cases ho : openV t.data.toList with
 | none =>
  rw [ho] at HO;have HV := hdn (show r.fenced t v = none by unfold Rd.fenced; rw [ho]);clear ho h hr;go_enter Tryz.func54, Tryz.ntmps54;go_wp2_with fail;refine cMq HO.out ?_;rintro e w1 ⟨he, b1⟩;subst he;have HB1 := hdn b1;have HS1 := hdn ((HS.out.below b1).below ((Below.refl _ w1).alloc (Nat.le_refl _) (.cells #[.int .u8 0, .int .i64 0, .string ⟨#[]⟩] 48)));have HB2 := hdn ((b1.mono hb).alloc (Nat.le_trans hb b1.size) (.cells #[.int .u8 0, .int .i64 0, .string ⟨#[]⟩] 48));clear b1;go_wp2;go_ret
  rw [HV.out];exact ⟨HB2.out, rfl, own, HS1.out⟩
 | some x =>
  obtain ⟨c, n, i⟩ := x;rw [ho] at HO;obtain ⟨I, hI⟩ : ∃ I : ByteArray, (⟨i.toArray⟩ : ByteArray) = I := ⟨_, rfl⟩;have HV := hdn (show r.fenced t v = some ((r.fresh (Nd.new 7)).turn r.nds.length fun x => { x with fc := c.toNat, fm := n, fi := I, offset := v, info := unescB I }) by unfold Rd.fenced; rw [ho]; simp only; rw [hI]);simp only at HO;rw [hI] at HO;have hIz : I.size < 4294967281 := by
   have hl : t.data.toList.length = t.size := lTq;have h1 : i.length ≤ t.size := by
    unfold openV at ho;split at ho
    ·cases ho
     have := trimS_len (t.data.toList.drop (frontN t.data.toList 96)) [32, 9];rw [List.length_drop] at this;show (blankT _).length ≤ _;unfold blankT;omega
    ·split at ho
     ·cases ho
      have := trimS_len (t.data.toList.drop (frontN t.data.toList 126)) [32, 9];rw [List.length_drop] at this;show (blankT _).length ≤ _;unfold blankT;omega
     ·cases ho
   rw [<- hI];show i.toArray.size < _;simp;omega
  have HU := hdn fun w' => unescape_any I w' hIz;unfold UnR at HU;obtain ⟨U, hU⟩ : ∃ U, unescB I = U := ⟨_, rfl⟩;have HU2 := hdn fun w' => show Calls Tryz.prog 89 #[.string I] w' fun e w'' => e = .returned (.string U) ∧ Below w'.heap.size w' w'' from by rw [<- hU]; exact HU.out w'
  rw [hU] at HV;obtain ⟨a, hf⟩ := fresh_r hB hr (new_ok B 7 (by decide) (by decide)) hfew (fun e => by cases e);have HF := hdn hf;have HBe := hdn fun (w1 : World) (b1 : Below w.heap.size w w1) => begin_s hB 7 (by decide) (by decide) ((h.below b1).local #[.int .u8 (c.toNat : Int), .int .i64 (n : Int), .string I] 48) (by simp; have := b1.size; omega) hr hfew (fun e => by cases e);have hP := h.len;clear ho hI hIz hU h hr hf HU;go_enter Tryz.func54, Tryz.ntmps54;go_wp2_with fail;refine cMq HO.out ?_
  rintro e w1 ⟨he, b1⟩;subst he;have HBe1 := hdn (HBe.out w1 b1);have HB1 := hdn b1;clear b1 HBe;go_wp2_with fail;refine cMq (kind_any 7 _) ?_;rintro e w2 ⟨rfl, hw2⟩;subst hw2;have hsz : (w1.alloc (.cells #[.int .u8 (c.toNat : Int), .int .i64 (n : Int), .string I] 48)).heap.size = w1.heap.size + 1 := by simp
  have hBe2 := HBe1.out;rw [hsz] at hBe2;have HBe2 := hdn hBe2;clear hBe2 HBe1 hsz;go_wp2_with fail;refine cMq HBe2.out ?_;rintro e w3 ⟨own3, rfl, hst, hbb⟩;obtain ⟨e1, e2⟩ := fresh_at hst hP HF.out;have hlt := (List.getElem?_eq_some_iff.1 e1).1;have hm := hst.mine;have hml : w1.heap.size < w3.heap.size := (gSq.1 hm).1;have qm := fun i => cell_of_row w3 w1.heap.size i _ _ _ hm;obtain ⟨kv, lv, av, hn⟩ := hst.nodes _ _ e1;have hrow := hn.row;have hge := hn.ge;rw [e2] at hrow hge
  have f3 : ∀ i, w3.frozen? ⟨w1.heap.size + 1, i, none⟩ = false := fun i => by simp [World.frozen?, hrow]
  unfold ndCells at hrow;have q3 := fun i => cell_of_row w3 (w1.heap.size + 1) i _ _ _ hrow;have s1 := hst.set e1 17 (.int .u8 (c.toNat : Int)) (d' := { ({ Nd.new 7 with parent := some a, opn := true, first := r.n, last := r.n } : Nd) with fc := c.toNat }) (fun _ _ _ => rfl) rfl rfl rfl (hst.wf.upd e1 rfl rfl)
  have s2 := s1.set (Rd.upd_self hlt) 18 (.int .i64 (n : Int)) (d' := { ({ Nd.new 7 with parent := some a, opn := true, first := r.n, last := r.n } : Nd) with fc := c.toNat, fm := n }) (fun _ _ _ => rfl) rfl rfl rfl (s1.wf.upd (Rd.upd_self hlt) rfl rfl)
  rw [Rd.upd_upd] at s2;have s3 := s2.set (Rd.upd_self hlt) 19 (.string I) (d' := { ({ Nd.new 7 with parent := some a, opn := true, first := r.n, last := r.n } : Nd) with fc := c.toNat, fm := n, fi := I }) (fun _ _ _ => rfl) rfl rfl rfl (s2.wf.upd (Rd.upd_self hlt) rfl rfl)
  rw [Rd.upd_upd] at s3;have s4 := s3.set (Rd.upd_self hlt) 20 (.int .i64 (v : Int)) (d' := { ({ Nd.new 7 with parent := some a, opn := true, first := r.n, last := r.n } : Nd) with fc := c.toNat, fm := n, fi := I, offset := v }) (fun _ _ _ => rfl) rfl rfl rfl (s3.wf.upd (Rd.upd_self hlt) rfl rfl)
  rw [Rd.upd_upd, e2] at s4;have b4 := (((((HB1.out.mono HBw.out).alloc (Nat.le_trans HBw.out HB1.out.size) (.cells #[.int .u8 (c.toNat : Int), .int .i64 (n : Int), .string I] 48)).trans hbb).setCell (p := ⟨w1.heap.size + 1, 17, none⟩) hge (.int .u8 (c.toNat : Int))).setCell (p := ⟨w1.heap.size + 1, 18, none⟩) hge (.int .i64 (n : Int))).setCell (p := ⟨w1.heap.size + 1, 19, none⟩) hge (.string I) |>.setCell (p := ⟨w1.heap.size + 1, 20, none⟩) hge (.int .i64 (v : Int));have HS4 := hdn s4; have HB4 := hdn b4; have HSt := hdn hst;have HE1 := hdn e1; have HE2 := hdn e2
  clear s1 s2 s3 s4 b4 hn hrow hm hst hbb e1 e2;go_wp2_with fail;obtain ⟨W4, hW4⟩ : ∃ W4, (((w3.setCell ⟨w1.heap.size + 1, 17, none⟩ (.int .u8 (c.toNat : Int))).setCell ⟨w1.heap.size + 1, 18, none⟩ (.int .i64 (n : Int))).setCell ⟨w1.heap.size + 1, 19, none⟩ (.string I)).setCell ⟨w1.heap.size + 1, 20, none⟩ (.int .i64 (v : Int)) = W4 := ⟨_, rfl⟩;have hs4 := HS4.out;have hb4 := HB4.out;rw [hW4] at hs4 hb4 ⊢;clear hW4 HS4 HB4 q3 f3 qm;refine cMq (HU2.out _) ?_;rintro e w5 ⟨rfl, b5⟩;have s5 := hs4.below b5
  have hn5 := Rd.upd_self (r := r.fresh (Nd.new 7)) (d := { ({ Nd.new 7 with parent := some a, opn := true, first := r.n, last := r.n } : Nd) with fc := c.toNat, fm := n, fi := I, offset := v }) hlt
  obtain ⟨kv, lv, av, hn⟩ := s5.nodes _ _ hn5;have hrow := hn.row;rw [HE2.out] at hrow;have f5 : ∀ i, w5.frozen? ⟨w1.heap.size + 1, i, none⟩ = false := fun i => by simp [World.frozen?, hrow]
  unfold ndCells at hrow;have q5 := fun i => cell_of_row w5 (w1.heap.size + 1) i _ _ _ hrow;have s6 := s5.set hn5 5 (.string U) (d' := { ({ Nd.new 7 with parent := some a, opn := true, first := r.n, last := r.n } : Nd) with fc := c.toNat, fm := n, fi := I, offset := v, info := U }) (fun _ _ _ => rfl) rfl rfl rfl (s5.wf.upd hn5 rfl rfl)
  rw [Rd.upd_upd, HE2.out] at s6;have s7 := s6.forget (w0 := w1) (HS.out.below HB1.out);have hfin : ((r.fresh (Nd.new 7)).turn r.nds.length fun x => { x with fc := c.toNat, fm := n, fi := I, offset := v, info := U }) = (r.fresh (Nd.new 7)).upd r.nds.length { ({ Nd.new 7 with parent := some a, opn := true, first := r.n, last := r.n } : Nd) with fc := c.toNat, fm := n, fi := I, offset := v, info := U } := by
   unfold Rd.turn;rw [HF.out.new]
  rw [<- hfin] at s7;have HS7 := hdn s7;have HB7 := hdn ((hb4.trans (b5.mono (by have := hb4.size; omega))).setCell (p := ⟨w1.heap.size + 1, 5, none⟩) hge (.string U));clear s5 s6 s7 hn hrow hn5 hs4 hb4 b5 hfin;go_wp2;go_ret;rw [HV.out];exact ⟨HB7.out, rfl, _, _, HS7.out, Ext.one P _⟩
end
