/- Definitions off a paragraph's text. -/
import Derived.Test.YtebfjlfkofibpaaGreatDoorBkRow
import Derived.Test.YtebfjlfkofibpaaGreatDoorRsDef
import Derived.Deep.RegionLaw
namespace Go.Proofs.YtebfjlfkofibpaaGreatDoor
set_option maxHeartbeats 4000000
set_option maxRecDepth 100000
section
open Go.RowKit
variable {F : Frm}
theorem ref_info : (Tryz.prog.info? 43).map (fun i => (i.zero, i.size, i.bytes)) = some (some (.agg #[.string ⟨#[]⟩, .string ⟨#[]⟩, .string ⟨#[]⟩]), 3, 48) := by kernel_rfl
theorem step_rowb {P : Program} {w : World} {ops : Array Oper} {o : Oper} {a : Act} {K : Act -> World -> Prop} {Q : Exit -> Act -> World -> Prop} {F : Prop} (hgd : o.guard = none) (s x : Operand) (t : TypeId)
  (ho : o.op = .call { callee := .builtin .append, args := #[s, x], argTypes := #[t, t] })
  (base : Nat) (e : TypeId) (i : TypeInfo) (z : Value) (size bytes : Nat) (ht : P.underlying t = some (.slice e)) (hi : P.info? e = some i) (hz : i.zero = some z)
  (hsize : i.size = size) (hby : i.bytes = bytes) (hzs : z.cells.size = size) (hsz : 0 < size) (v : Value) (hs : a.eval s = v) (k : Nat) (xs : List Value) (hown : w.ownsRow base e size v k xs)
  (ad : Addr) (m c : Nat) (news : List Value) (hx : a.eval x = .slice (some ad) m c) (hl : news.length = m * size) (hnews : ∀ j u, news[j]? = some u -> w.cell? (ad.add j) = some u) (h1 : ∀ u ∈ news, u.oneCell' = true)
  (h63 : k + m ≤ maxLen) (hbytes : (k + m) * bytes ≤ 140737488355328) (hbase : base ≤ w.heap.size)
  (h : ∀ v' w1, w1.ownsRow base e size v' (k + m) (xs ++ news) -> w.grownBy w1 v.ownBlock -> (v'.ownBlock = v.ownBlock ∨ v'.ownBlock = some w.heap.size) -> K (a.put o.dst v') w1) : if Region.wanted o (yielded ops a.tmps) = true then Oper.wp P o a w K Q else F := by
 have hw : Region.wanted o (yielded ops a.tmps) = true := by simp [Region.wanted, hgd]
 rw [if_pos hw];obtain ⟨v', w1, hr, h2, h3, _, h5⟩ := run_append_own_at (P := P) w base t o.type e i z size bytes ht hi hz hsize hby hzs hsz v k xs hown ad m c news hl hnews h1 h63 hbytes hbase;unfold Oper.wp execOp;simp only [ho, resolve, invoke, builtin, Sem.run_bind, Sem.run_pure, Result.andThen_ok, List.map_toArray, List.map_cons, List.map_nil, hs, hx, hr];exact h v' w1 h2 h3 h5
theorem lineN_in (l : List UInt8) (i n : Nat) (h : lineN l i = some n) : n ≤ l.length := by
 unfold lineN at h;split at h
 ·cases h; exact Nat.min_le_right _ _
 ·split at h
  ·cases h; exact Nat.min_le_right _ _
  ·cases h
theorem defV_in (s : ByteArray) : (defV s).2.2.2 ≤ s.size := by
 have hl : s.data.toList.length = s.size := lTq;have ht : ∀ e x, defTail s e = some x -> x.2 ≤ s.size := by
  intro e x h;unfold defTail at h;split at h
  ·rename_i n hn
   cases h
   split at hn
   ·have := lineN_in _ _ _ hn; show n ≤ _; omega
   ·cases hn
  ·cases hln : lineN s.data.toList e with
   | none => rw [hln] at h; cases h
   | some n => rw [hln] at h; cases h; have := lineN_in _ _ _ hln; show n ≤ _; omega
 unfold defV
 cases hd : defN s with
 | none => exact Nat.zero_le _
 | some x =>
  unfold defN at hd;split at hd
  ·cases ht2 : defTail s (destV s (gapN s.data.toList (labelE s.data.toList 0 + 1))).2.1 with
   | none => rw [ht2] at hd; cases hd
   | some y => rw [ht2] at hd; cases hd; exact ht _ y ht2
  ·cases hd
theorem St.refs {w wa w1 : World} {base rp : Nat} {own : Nat -> Nat} {P : List Nat} {r : Rd} (h : St F w base rp own P r) {rv v' : Value} (hr : RdAt w base rp own P r rv) (ls : List RefT)
  (hba : Below w.heap.size w wa) (hg : wa.grownBy w1 rv.ownBlock) (hown : w1.ownsRow base 43 3 v' ls.length (refCells ls)) (hv : ∀ g, v'.ownBlock = some g -> rv.ownBlock = some g ∨ w.heap.size ≤ g) :
  St F (w1.setCell ⟨rp, 7, none⟩ v') base rp (fun b => if b < w.heap.size then own b else 0) P { r with refs := ls } := by
 have hrl := (gSq.1 hr.row).1;have hz1 : w.heap.size ≤ w1.heap.size := Nat.le_trans hba.size hg.size;have h1 : ∀ b, b < w.heap.size -> rv.ownBlock ≠ some b -> w1.heap[b]? = w.heap[b]? := fun b hb hk => (hg.block b (Nat.lt_of_lt_of_le hb hba.size) fun e => hk e.symm).trans (hba.block b hb);have hp1 : w1.heap[rp]? = some (.cells (rdCells P r rv) 55 (0, 0)) := (h1 _ hrl fun e => row_ne hr.refs hr.row (by decide) _ e rfl).trans hr.row;have hne : ∀ g, g ≠ rp -> (w1.setCell ⟨rp, 7, none⟩ v').heap[g]? = w1.heap[g]? := fun g hg2 => Below.heap_setCell w1 _ _ _ hg2
 have hold : ∀ b, b < w.heap.size -> (fun b => if b < w.heap.size then own b else 0) b = own b := fun b hb => if_pos hb;have hw := h.wf;refine ⟨h.len, fun j e he => ?_, ⟨v', (hold rp hrl).trans hr.own_r, hr.ge, ?_, own_keep hown fun g hg2 => hne g (row_ne hown hp1 (by decide) g hg2), fun g hg2 => ?_⟩, ⟨hw.kids, hw.par, hw.nk, hw.cur, hw.tip, hw.doc⟩, fun b o hbo => ?_, h.few, h.dp⟩
 rotate_right
 ·obtain ⟨k1, k2⟩ := h.fr b o hbo;have hbl := (gSq.1 k1).1;rw [hne b fun e2 => by rw [e2, hr.own_r] at k2; omega];exact ⟨(h1 b hbl fun e2 => by rw [hr.own_f b e2] at k2; omega).trans k1, (hold b hbl).trans k2⟩
 ·obtain ⟨kv, lv, av, hj⟩ := h.nodes j e he;have hjl : j < r.nds.length := (List.getElem?_eq_some_iff.1 he).1;refine ⟨kv, lv, av, hj.keep (by rw [h.len]; exact hjl) (by simp [World.setCell]; exact hz1) hold (fun _ _ => rfl) (fun p hp => ?_) (fun k hk => ?_) (fun b hbl hb => ?_)⟩
  ·have := hw.par j e he p hp; rw [h.len]; omega
  ·have := hw.kids j e he k hk; rw [h.len]; omega
  ·rw [hne b fun e2 => by rw [e2, hr.own_r] at hb; omega];exact h1 b hbl fun e2 => by rw [hr.own_f b e2] at hb; omega
 ·rw [Joins.block_setCell hp1 v']; rfl
 ·rcases hv g hg2 with e | e
  ·show (if g < w.heap.size then own g else 0) = 0;rw [if_pos (own_lt hr.refs g e)]; exact hr.own_f g e
  ·show (if g < w.heap.size then own g else 0) = 0;rw [if_neg (by omega)]
theorem three_cells (w : World) (x1 x2 x3 : ByteArray) : ∀ j u, ([Value.string x1, .string x2, .string x3])[j]? = some u -> (w.alloc (.cells #[.string x1, .string x2, .string x3] 43)).cell? ((⟨w.heap.size, 0, none⟩ : Addr).add j) = some u := by
 intro j u h;have h1 := cell_of_row _ w.heap.size j _ _ _ (heap_alloc_new w (.cells #[.string x1, .string x2, .string x3] 43));have hadd : (⟨w.heap.size, 0, none⟩ : Addr).add j = ⟨w.heap.size, j, none⟩ := by
  unfold Addr.add;split
  ·rename_i h0; rw [h0]
  ·simp
 rw [hadd, h1];simpa using h
theorem ref_app (l : List RefT) (x : RefT) : refCells (l ++ [x]) = refCells l ++ [.string x.1, .string x.2.1, .string x.2.2] := by unfold refCells; simp
def DfW (F : Frm) (w : World) (base rp : Nat) (P : List Nat) (r : Rd) (E : ByteArray × List RefT) (N : Nat) (v1 : Value) (wr : World) : Prop := ∃ (s : ByteArray) (f : Nat) (ls : List RefT) (own : Nat -> Nat), v1 = .string s ∧ s.size ≤ f ∧ s.size < 4294967281 ∧ ls.length + s.size ≤ N ∧ defineF f s ls = E ∧ St F wr base rp own P { r with refs := ls } ∧ Below base w wr
def defM (v1 : Value) : Nat := match v1 with | .string s => s.size | _ => 0
theorem define_b {w : World} {base rp : Nat} {own : Nat -> Nat} {P : List Nat} {r : Rd} (h : St F w base rp own P r) (hbw : base ≤ w.heap.size) (s : ByteArray) (hs : s.size < 4294967281) (hl : r.refs.length + s.size ≤ 1000000000) :
  Calls Tryz.prog 34 #[.pointer (some ⟨rp, 0, none⟩), .string s] w fun e w' => ∃ own', e = .returned (.string (defineF s.size s r.refs).1) ∧ St F w' base rp own' P { r with refs := (defineF s.size s r.refs).2 } ∧ Below base w w' := by
 obtain ⟨E, hE⟩ : ∃ E, defineF s.size s r.refs = E := ⟨_, rfl⟩;rw [hE];have H0 := hdn (show DfW F w base rp P r E 1000000000 (.string s) w from ⟨s, s.size, r.refs, own, rfl, Nat.le_refl _, hs, hl, hE, h, Below.refl _ _⟩);clear h hE hl hs;go_enter Tryz.func34, Tryz.ntmps34;go_wp2
 go_loopw [1] (fun v1 wr => DfW F w base rp P r E 1000000000 v1 wr) (fun v1 _ => defM v1)
 case atStart => exact H0.out
 case round =>
  obtain ⟨t, f, ls, ow, rfl, hf, ht, hN, he, hst, hb⟩ := hrel;clear H0;have HD := hdn fun w' => define_any t w' ht;have hin := defV_in t;obtain ⟨⟨x1, x2, x3, n⟩, hx⟩ : ∃ x, defV t = x := ⟨_, rfl⟩;have hnx : (defV t).2.2.2 = n := by rw [hx]
  have hlx : (defV t).1 = x1 := by rw [hx]
  have hdx : (defV t).2.1 = x2 := by rw [hx]
  have htx : (defV t).2.2.1 = x3 := by rw [hx]
  rw [hx] at HD;rw [hnx] at hin
  by_cases hn0 : n = 0
  ·have hv : E = (t, ls) := by
    rw [<- he]
    cases f with
    | zero => rfl
    | succ f => rw [defineF, if_pos (by rw [hnx]; exact hn0)]
   have hni : ((n : Int) == 0) = true := by rw [hn0]; rfl
   have HV := hdn hv; have HS := hdn hst; have HB := hdn hb;clear hv he hst hb hx hin hnx hlx hdx htx hn0;go_wp2_with fail;refine cMq (HD.out _) ?_;rintro e w1 ⟨rfl, b1⟩;have hbz := HB.out.size;have HS1 := hdn ((HS.out.below b1).below ((Below.refl _ w1).alloc (Nat.le_refl _) (.cells #[.string x1, .string x2, .string x3] 43)));have HB1 := hdn ((HB.out.trans (b1.mono (by omega))).alloc (by have := b1.size; omega) (.cells #[.string x1, .string x2, .string x3] 43));clear b1;go_wp2;go_ret;rw [HV.out];exact ⟨_, rfl, HS1.out, HB1.out⟩
  ·have hni : ((n : Int) == 0) = false := by rw [beq_eq_false_iff_ne]; omega
   obtain ⟨f, rfl⟩ : ∃ f', f = f' + 1 := ⟨f - 1, by omega⟩;rw [defineF, if_neg (by rw [hnx]; exact hn0), hnx, hlx, hdx, htx] at he;obtain ⟨t2, ht2⟩ : ∃ t2, t.extract n t.size = t2 := ⟨_, rfl⟩;have ht2z : t2.size = t.size - n := by rw [<- ht2, ByteArray.size_extract]; omega
   rw [ht2] at he;have hnl : (n : Int) ≤ (t.size : Int) := by omega
   have HT2 := hdn ht2;have HS := hdn hst; have HB := hdn hb;have hls : ls.length ≤ 1000000000 := by omega
   have HD1 := hdn fun x p w' hp hlt => define1_any x x1 p w' hp hlt;clear hst hb hx hin hnx hlx hdx htx ht2
   cases hany : ls.any (fun y => decide (y.1 = x1)) with
   | true =>
    rw [hany, if_pos rfl] at he;have HE := hdn he;have HA := hdn hany;clear he hany;go_wp2_with fail;refine cMq (HD.out _) ?_;rintro e w1 ⟨rfl, b1⟩;have hbz := HB.out.size;have hb2 : Below w1.heap.size w1 (w1.alloc (.cells #[.string x1, .string x2, .string x3] 43)) := (Below.refl _ w1).alloc (Nat.le_refl _) _;have hst1 := (HS.out.below b1).below hb2;have HB1 := hdn ((HB.out.trans (b1.mono (by omega))).trans (hb2.mono (by have := b1.size; omega)));have HS1 := hdn hst1;obtain ⟨rv, hrd⟩ := hst1.rd;obtain ⟨A, cA, rfl, _⟩ := own_three (l := ls) hrd.refs;have hrow := hrd.row
    unfold rdCells at hrow;have q := fun i => cell_of_row (w1.alloc (.cells #[.string x1, .string x2, .string x3] 43)) rp i _ _ _ hrow;have hp1 : (w1.alloc (.cells #[.string x1, .string x2, .string x3] 43)).cell? ⟨w1.heap.size, 0, none⟩ = some (.string x1) := cell_of_row _ w1.heap.size 0 _ _ _ (heap_alloc_new w1 _);have hpl : w1.heap.size < (w1.alloc (.cells #[.string x1, .string x2, .string x3] 43)).heap.size := by simp
    have hC := contains_ref ls (fun y => decide (y.1 = x1)) (.slice A ls.length cA) w1.heap.size base (w1.alloc (.cells #[.string x1, .string x2, .string x3] 43)) hrd.refs hls (fun x _ w' hb' => HD1.out x w1.heap.size w' ((hb'.cell (p := ⟨w1.heap.size, 0, none⟩) hpl).trans hp1) (Nat.lt_of_lt_of_le hpl hb'.size));rw [HA.out] at hC;have HC := hdn hC;have hWz : base ≤ (w1.alloc (.cells #[.string x1, .string x2, .string x3] 43)).heap.size := by have := b1.size; omega
    clear b1 hb2 hst1 hrd hrow hp1 hpl hC;go_wp2_with fail;refine cMq HC.out ?_;rintro e w2 ⟨rfl, b2⟩;have HS2 := hdn (HS1.out.below b2);have HB2 := hdn (HB1.out.trans (b2.mono hWz));clear b2;go_wp2
    go_roundw
    case rel => exact ⟨t2, f, ls, ow, by first | rfl | rw [HT2.out], by omega, by omega, by omega, HE.out, HS2.out, HB2.out⟩
    case measure => simp [defM]; omega
   | false =>
    rw [hany, if_neg Bool.false_ne_true] at he;have HE := hdn he;have HA := hdn hany;clear he hany;go_wp2_with fail;refine cMq (HD.out _) ?_;rintro e w1 ⟨rfl, b1⟩;have hbz := HB.out.size;have hb2 : Below w1.heap.size w1 (w1.alloc (.cells #[.string x1, .string x2, .string x3] 43)) := (Below.refl _ w1).alloc (Nat.le_refl _) _;have hst1 := (HS.out.below b1).below hb2;have HB1 := hdn ((HB.out.trans (b1.mono (by omega))).trans (hb2.mono (by have := b1.size; omega)));have HS1 := hdn hst1;obtain ⟨rv, hrd⟩ := hst1.rd;obtain ⟨A, cA, rfl, _⟩ := own_three (l := ls) hrd.refs
    have hrow := hrd.row;unfold rdCells at hrow;have q := fun i => cell_of_row (w1.alloc (.cells #[.string x1, .string x2, .string x3] 43)) rp i _ _ _ hrow;have hXr : (w1.alloc (.cells #[.string x1, .string x2, .string x3] 43)).heap[w1.heap.size]? = some (.cells #[.string x1, .string x2, .string x3] 43 (0, 0)) := heap_alloc_new w1 _;have hp1 : (w1.alloc (.cells #[.string x1, .string x2, .string x3] 43)).cell? ⟨w1.heap.size, 0, none⟩ = some (.string x1) := cell_of_row _ w1.heap.size 0 _ _ _ hXr
    have hpl : w1.heap.size < (w1.alloc (.cells #[.string x1, .string x2, .string x3] 43)).heap.size := by simp
    have hC := contains_ref ls (fun y => decide (y.1 = x1)) (.slice A ls.length cA) w1.heap.size base (w1.alloc (.cells #[.string x1, .string x2, .string x3] 43)) hrd.refs hls (fun x _ w' hb' => HD1.out x w1.heap.size w' ((hb'.cell (p := ⟨w1.heap.size, 0, none⟩) hpl).trans hp1) (Nat.lt_of_lt_of_le hpl hb'.size));rw [HA.out] at hC;have HC := hdn hC;have HX := hdn hXr;have HRD := hdn hrd;have hWz : base ≤ (w1.alloc (.cells #[.string x1, .string x2, .string x3] 43)).heap.size := by have := b1.size; omega
    clear b1 hb2 hst1 hrow hp1 hpl hC hXr;go_wp2_with fail;refine cMq HC.out ?_;rintro e w2 ⟨rfl, b2⟩;have hst2 := HS1.out.below b2;have HS2 := hdn hst2;have HB2 := hdn (HB1.out.trans (b2.mono hWz));have hrl := (gSq.1 hrd.row).1;have hrd2 : RdAt w2 base rp ow P { r with refs := ls } (.slice A ls.length cA) := ⟨hrd.own_r, hrd.ge, (b2.block rp hrl).trans hrd.row, own_keep hrd.refs fun g hg => b2.block g (own_lt hrd.refs g hg), hrd.own_f⟩;have hrow2 := hrd2.row;unfold rdCells at hrow2;have q2 := fun i => cell_of_row w2 rp i _ _ _ hrow2
    have hX2 : w2.heap[w1.heap.size]? = some (.cells #[.string x1, .string x2, .string x3] 43 (0, 0)) := (b2.block _ (gSq.1 HX.out).1).trans HX.out;have qx := fun i => cell_of_row w2 w1.heap.size i _ _ _ hX2;have HRD2 := hdn hrd2;have HRow2 := hdn hrow2;have hw2z : base ≤ w2.heap.size := by have := b2.size; omega
    have hrpl : rp < w2.heap.size := (gSq.1 hrow2).1;obtain ⟨iR, hiR, hzR0, hzR1, hzR2⟩ := info_parts ref_info;clear b2 hst2 hrd hrd2 hrow2 q hX2;go_wp2_with fail
    go_region_law (refine step_rowb rfl (.tmp 29) (.tmp 31) 29 rfl base 43 iR _ 3 48 Tryz.underlying29 hiR hzR0 hzR1 hzR2 rfl (by decide) _ rfl ls.length _ (World.ownsRow.alloc (w := w2.drew) HRD2.out.refs _) ⟨w2.heap.size, 0, none⟩ 1 1 [.string x1, .string x2, .string x3] rfl rfl (three_cells w2.drew x1 x2 x3) (by simp [Value.oneCell']) (by unfold maxLen; omega) (by omega) (by simp; omega) ?_; intro v7 w7 hown7 hgrow hob7; obtain ⟨g7, cap7, rfl⟩ := Joins.ownsRow_form hown7 (by omega); have hk7 := hdn ((hgrow.block rp (by simp; omega) (by intro he; exact row_ne HRD2.out.refs HRow2.out (by decide) rp he.symm rfl)).trans ((Below.heap_alloc w2.drew _ _ (by simp; omega)).trans HRow2.out)); have q7 := (fun i => cell_of_row w7 rp i _ _ _ hk7.out); have f7 : ∀ i, w7.frozen? ⟨rp, i, none⟩ = false := (fun i => by simp [World.frozen?, hk7.out]); have HO7 := hdn (show w7.ownsRow base 43 3 (.slice (some ⟨g7, 0, none⟩) (ls.length + 1) cap7) (ls ++ [(x1, x2, x3)]).length (refCells (ls ++ [(x1, x2, x3)])) by rw [ref_app, List.length_append]; exact hown7); have HG7 := hdn hgrow; have HV7 := hdn hob7; clear hown7 hgrow hob7)
    all_goals
     clear q7 f7;have hst7 := St.refs HS2.out HRD2.out (ls ++ [(x1, x2, x3)]) (wa := w2.drew.alloc (.cells #[.string x1, .string x2, .string x3] 43)) ((Below.refl _ w2).drew.alloc (Nat.le_refl _) _) HG7.out HO7.out (fun g hg => by
      rcases HV7.out with e | e
      ·left; exact e.symm.trans hg
      ·right; have := Option.some.inj (hg.symm.trans e); simp at this; omega)
     have hbb7 := (((HB2.out.drew).alloc hw2z (.cells #[.string x1, .string x2, .string x3] 43)).grown HG7.out (by simp; omega) (fun k hk => (HRD2.out.refs.lt _ hk).1)).setCell (p := ⟨rp, 7, none⟩) HRD2.out.ge (.slice (some ⟨g7, 0, none⟩) (ls.length + 1) cap7);have HS7 := hdn hst7;have HB7 := hdn hbb7;clear hst7 hbb7;go_wp2
     go_roundw
     case rel => exact ⟨t2, f, ls ++ [(x1, x2, x3)], _, by first | rfl | rw [HT2.out], by omega, by omega, by simp; omega, HE.out, HS7.out, HB7.out⟩
     case measure => simp [defM]; omega
end
section
open Go.RowKit
variable {F : Frm}
structure Inv (I : Rd -> Prop) : Prop where
 n : ∀ r, I r -> r.nds.length ≤ 100000
 kn : ∀ r, I r -> ∀ (i : Nat) (d : Nd), r.nds[i]? = some d -> d.kids.length + 1 ≤ r.nds.length
 close : ∀ r b, I r -> b < r.nds.length -> (r.nd b).opn = true -> I (r.close b)
 up : ∀ r, I r -> ∀ i p, (r.nd i).opn = true -> (r.nd i).parent = some p -> (r.nd p).opn = true
 cur : ∀ r c, I r -> I { r with cur := c }
def Turns (F : Frm) (w : World) (base rp : Nat) (P : List Nat) (r : Rd) (e : Ending) (w' : World) : Prop := ∃ own, (∃ v, e = .returned v) ∧ St F w' base rp own P r ∧ Below base w w'
def CloseC (I : Rd -> Prop) (base rp : Nat) : Prop := ∀ (F : Frm) (w : World) (own : Nat -> Nat) (P : List Nat) (r : Rd) (b : Nat), St F w base rp own P r -> base ≤ w.heap.size -> I r -> b < r.nds.length -> (r.nd b).opn = true ->
 Calls Tryz.prog 21 #[.pointer (some ⟨rp, 0, none⟩), .pointer (some ⟨ptN P b, 0, none⟩)] w (Turns F w base rp P (r.close b))
theorem Rd.inner_opn {r : Rd} {a k : Nat} (h : r.inner a = some k) : (r.nd k).opn = true := by
 unfold Rd.inner at h;split at h
 ·split at h
  ·rename_i h1; cases h; exact h1
  ·cases h
 ·cases h
theorem settle_any {w : World} {base rp : Nat} {own : Nat -> Nat} {P : List Nat} {r : Rd} {I : Rd -> Prop} (HI0 : Inv I) (HC : CloseC I base rp) (h : St F w base rp own P r) (hb : base ≤ w.heap.size) (hs : I r) (a : Nat) (hc : r.cur = some a) :
  Calls Tryz.prog 60 #[.pointer (some ⟨rp, 0, none⟩)] w (Turns F w base rp P r.settle) := by
 have hal := h.wf.cur a hc;have HI := hdn (inner_any h a hal (by have := HI0.n r hs; omega));obtain ⟨rv, hrd⟩ := h.rd;have hrow := hrd.row;unfold rdCells at hrow;rw [hc, show ptrV P (some a) = Value.pointer (some ⟨ptN P a, 0, none⟩) from rfl] at hrow;have q := fun i => cell_of_row w rp i _ _ _ hrow;have hset : r.settle = match r.inner a with | some k => r.close k | none => r := by unfold Rd.settle; rw [hc]; rfl
 have HS := hdn h
 cases hi : r.inner a with
 | none =>
  rw [hi] at HI hset;have HE := hdn (show r.settle = r from hset);rw [HE.out];rw [show ptrV P none = Value.pointer none from rfl] at HI;clear hi hset hrow hrd h HE;go_enter Tryz.func60, Tryz.ntmps60;go_wp2_with fail;refine cMq HI.out ?_;rintro e w1 ⟨rfl, rfl⟩;go_wp2
  go_end0
  exact ⟨_, ⟨_, rfl⟩, HS.out, Below.refl _ _⟩
 | some k =>
  have hk := Rd.inner_lt h.wf hal hi;have HCk := hdn (HC F w own P r k h hb hs hk.2 (Rd.inner_opn hi));rw [hi] at HI hset;have HE := hdn (show r.settle = r.close k from hset);rw [HE.out];rw [show ptrV P (some k) = Value.pointer (some ⟨ptN P k, 0, none⟩) from rfl] at HI;clear hi hset hrow hrd h HE;go_enter Tryz.func60, Tryz.ntmps60;go_wp2_with fail;refine cMq HI.out ?_;rintro e w1 ⟨rfl, rfl⟩;go_wp2_with fail;refine cMq HCk.out ?_;rintro e w2 ⟨own2, ⟨v, rfl⟩, hst, hbb⟩;have HS2 := hdn hst;have HB2 := hdn hbb
  clear hst hbb;go_wp2
  go_end0
  exact ⟨_, ⟨_, rfl⟩, HS2.out, HB2.out⟩
end
section
open Go.RowKit
structure Like (d e : Nd) : Prop where
 kind : e.kind = d.kind
 parent : e.parent = d.parent
 mark : e.mark = d.mark
 level : e.level = d.level
 start : e.start = d.start
 info : e.info = d.info
 align : e.align = d.align
 first : e.first = d.first
 indent : e.indent = d.indent
 fc : e.fc = d.fc
 fm : e.fm = d.fm
 fi : e.fi = d.fi
 offset : e.offset = d.offset
 html : e.html = d.html
theorem Like.refl (d : Nd) : Like d d := ⟨rfl, rfl, rfl, rfl, rfl, rfl, rfl, rfl, rfl, rfl, rfl, rfl, rfl, rfl⟩
theorem Like.trans {a b c : Nd} (h : Like a b) (k : Like b c) : Like a c :=
 ⟨k.kind.trans h.kind, k.parent.trans h.parent, k.mark.trans h.mark, k.level.trans h.level, k.start.trans h.start, k.info.trans h.info, k.align.trans h.align, k.first.trans h.first, k.indent.trans h.indent, k.fc.trans h.fc, k.fm.trans h.fm, k.fi.trans h.fi, k.offset.trans h.offset, k.html.trans h.html⟩
structure LikeR (r q : Rd) : Prop where
 len : q.nds.length = r.nds.length
 nd : ∀ j, Like (r.nd j) (q.nd j)
 rest : q.rest = r.rest
 col : q.col = r.col
 n : q.n = r.n
 cur : q.cur = r.cur
 tip : q.tip = r.tip
 lzy : q.lzy = r.lzy
theorem LikeR.refl (r : Rd) : LikeR r r := ⟨rfl, fun _ => Like.refl _, rfl, rfl, rfl, rfl, rfl, rfl⟩
theorem LikeR.trans {a b c : Rd} (h : LikeR a b) (k : LikeR b c) : LikeR a c :=
 ⟨k.len.trans h.len, fun j => (h.nd j).trans (k.nd j), k.rest.trans h.rest, k.col.trans h.col, k.n.trans h.n, k.cur.trans h.cur, k.tip.trans h.tip, k.lzy.trans h.lzy⟩
theorem Rd.upd_nd (r : Rd) (i j : Nat) (d : Nd) : (r.upd i d).nd j = if i = j ∧ i < r.nds.length then d else r.nd j := by
 unfold Rd.upd Rd.nd;simp only [List.getD, List.getElem?_set]
 by_cases hij : i = j
 ·subst hij
  by_cases hl : i < r.nds.length
  ·rw [if_pos rfl, if_pos hl, if_pos ⟨rfl, hl⟩]; rfl
  ·rw [if_pos rfl, if_neg hl, if_neg fun h => hl h.2, List.getElem?_eq_none (by omega)]
 ·rw [if_neg hij, if_neg fun h => hij h.1]
theorem LikeR.upd (r : Rd) (i : Nat) (d : Nd) (h : Like (r.nd i) d) : LikeR r (r.upd i d) := by
 refine ⟨Rd.upd_len r i d, fun j => ?_, rfl, rfl, rfl, rfl, rfl, rfl⟩;rw [Rd.upd_nd];split
 ·rename_i hj; rw [<- hj.1]; exact h
 ·exact Like.refl _
theorem LikeR.withRefs (r : Rd) (l : List RefT) : LikeR r { r with refs := l } := ⟨rfl, fun _ => Like.refl _, rfl, rfl, rfl, rfl, rfl, rfl⟩
theorem shut_like (r : Rd) (b : Nat) : LikeR r (r.shut b) := by
 have hl : ∀ (o : Bool) (t : ByteArray) (l : List ByteArray) (z : Int) (k : List Nat), Like (r.nd b) { r.nd b with opn := o, text := t, lines := l, last := z, kids := k } := fun _ _ _ _ _ => ⟨rfl, rfl, rfl, rfl, rfl, rfl, rfl, rfl, rfl, rfl, rfl, rfl, rfl, rfl⟩;unfold Rd.shut;simp only;split
 ·have h1 : LikeR r { (r.upd b { r.nd b with opn := false, text := trimN (defineF (joinN (r.nd b).lines).size (joinN (r.nd b).lines) r.refs).1 }) with refs := (defineF (joinN (r.nd b).lines).size (joinN (r.nd b).lines) r.refs).2 } :=
   (LikeR.upd r b _ (hl false _ _ _ _)).trans (LikeR.withRefs _ _);split
  ·split
   ·refine h1.trans (LikeR.upd _ _ _ ?_);exact ⟨rfl, rfl, rfl, rfl, rfl, rfl, rfl, rfl, rfl, rfl, rfl, rfl, rfl, rfl⟩
   ·exact h1
  ·exact h1
 ·split
  ·exact LikeR.upd r b _ (hl false _ _ _ _)
  ·split
   ·exact LikeR.upd r b _ (hl false _ _ _ _)
   ·split
    ·exact LikeR.upd r b _ (hl false _ _ _ _)
    ·split
     ·exact LikeR.upd r b _ (hl false _ _ _ _)
     ·exact LikeR.upd r b _ (hl false _ _ _ _)
theorem shut_opn (r : Rd) (b j : Nat) (hj : j ≠ b) : ((r.shut b).nd j).opn = (r.nd j).opn := by
 have hu : ∀ d, ((r.upd b d).nd j) = r.nd j := fun d => by rw [Rd.upd_nd, if_neg fun h => hj h.1.symm]
 unfold Rd.shut;simp only;split
 ·split
  ·split
   ·rw [Rd.upd_nd];split
    ·rename_i p _ hp;show ((r.upd b _).nd p).opn = _;rw [hp.1, hu]
    ·show ((r.upd b _).nd j).opn = _;rw [hu]
   ·show ((r.upd b _).nd j).opn = _;rw [hu]
  ·show ((r.upd b _).nd j).opn = _;rw [hu]
 ·split
  ·rw [hu]
  ·split
   ·rw [hu]
   ·split
    ·rw [hu]
    ·split
     ·rw [hu]
     ·rw [hu]
theorem Rd.inner_ltK {r : Rd} (hw : ∀ (i : Nat) (d : Nd), r.nds[i]? = some d -> ∀ x ∈ d.kids, i < x ∧ x < r.nds.length) {b k : Nat} (hb : b < r.nds.length) (h : r.inner b = some k) : b < k ∧ k < r.nds.length := by
 unfold Rd.inner at h
 cases hk : (r.nd b).kids.getLast? with
 | none => rw [hk] at h; cases h
 | some j =>
  rw [hk] at h;simp only at h;split at h
  ·cases h
   exact hw b _ (Rd.at_lt hb) k (List.mem_of_getLast? hk)
  ·cases h
theorem closeF_opnK : ∀ (f : Nat) (r : Rd) (_ : ∀ (i : Nat) (d : Nd), r.nds[i]? = some d -> ∀ x ∈ d.kids, i < x ∧ x < r.nds.length) (b j : Nat), b < r.nds.length -> j < b -> ((Rd.closeF f r b).nd j).opn = (r.nd j).opn
 | 0, _, _, _, _, _, _ => rfl
 | f + 1, r, hw, b, j, hb, hj => by
  rw [Rd.closeF, shut_opn _ _ _ (by omega)]
  cases hi : r.inner b with
  | none => rfl
  | some k =>
   have hk := Rd.inner_ltK hw hb hi;exact closeF_opnK f r hw k j hk.2 (by omega)
theorem closeF_opn : ∀ (f : Nat) (r : Rd) (_ : Wf r) (b j : Nat), b < r.nds.length -> j < b -> ((Rd.closeF f r b).nd j).opn = (r.nd j).opn
 | 0, _, _, _, _, _, _ => rfl
 | f + 1, r, hw, b, j, hb, hj => by
  rw [Rd.closeF, shut_opn _ _ _ (by omega)]
  cases hi : r.inner b with
  | none => rfl
  | some k =>
   have hk := Rd.inner_lt hw hb hi;exact closeF_opn f r hw k j hk.2 (by omega)
theorem close_opn {r : Rd} (hw : Wf r) {b j : Nat} (hb : b < r.nds.length) (hj : j < b) : ((r.close b).nd j).opn = (r.nd j).opn := closeF_opn _ r hw b j hb hj
theorem settle_opn {r : Rd} (hw : Wf r) {a : Nat} (hc : r.cur = some a) : (r.settle.nd a).opn = (r.nd a).opn := by
 unfold Rd.settle;rw [hc];simp only
 cases hi : r.inner a with
 | none => rfl
 | some k =>
  have hk := Rd.inner_lt hw (hw.cur a hc) hi;exact close_opn hw hk.2 hk.1
theorem closeF_like : ∀ (f : Nat) (r : Rd) (b : Nat), LikeR r (Rd.closeF f r b)
 | 0, r, b => LikeR.refl r
 | f + 1, r, b => by
  rw [Rd.closeF]
  cases r.inner b with
  | none => exact shut_like r b
  | some k => exact (closeF_like f r k).trans (shut_like _ b)
theorem close_like (r : Rd) (b : Nat) : LikeR r (r.close b) := closeF_like _ r b
theorem settle_like (r : Rd) : LikeR r r.settle := by
 unfold Rd.settle;split
 ·split
  ·exact close_like r _
  ·exact LikeR.refl r
 ·exact LikeR.refl r
inductive Up (r : Rd) : Nat -> Prop
 | doc : (r.nd 0).kind = 1 -> Up r 0
 | up {a p : Nat} : (r.nd a).parent = some p -> Up r p -> Up r a
theorem Up.like {r q : Rd} (h : LikeR r q) {a : Nat} (u : Up r a) : Up q a := by
 induction u with
 | doc h0 => exact .doc ((h.nd 0).kind.trans h0)
 | up hp _ ih => exact .up ((h.nd _).parent.trans hp) ih
end
