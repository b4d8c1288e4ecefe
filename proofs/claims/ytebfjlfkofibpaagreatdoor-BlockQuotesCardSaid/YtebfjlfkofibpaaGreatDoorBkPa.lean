/- Parse. -/
import Derived.Test.YtebfjlfkofibpaaGreatDoorBkTd
import Derived.Test.YtebfjlfkofibpaaGreatDoorBkPs
namespace Go.Proofs.YtebfjlfkofibpaaGreatDoor
set_option maxHeartbeats 8000000
set_option maxRecDepth 100000
open Go.RowKit
theorem pa_results {P : Program} {fn : Func} {p u u2 : Tmp} {ty : TypeId} (h : fn.results = #[.cell p ty, .tmp u, .tmp u2]) (tmps : Array Value) (w : World) (g : Nat) (t : TypeId) (cs : Array Value) (fr : Nat × Nat) (d : TypeDesc)
  (hp : tmps.getD p undef = .pointer (some ⟨g, 0, none⟩)) (hg : w.heap[g]? = some (.cells cs t fr))
  (hu : P.underlying ty = some d) (hd : (match d with | .struct _ | .array _ _ => true | _ => false) = true) (hi : (P.info? ty).map (·.size) = some cs.size) :
  (results fn tmps).run P w = .ok (.tuple #[.agg cs, tmps.getD u undef, tmps.getD u2 undef]) w := by
 have hp' : tmps[p]?.getD undef = .pointer (some ⟨g, 0, none⟩) := by simpa using hp
 simp only [results, h];simp [Result.andThen, hp', asAddr, run_loadVar_row w g t ty cs fr d hg hu hd hi]
def finT (t : ByteArray) : Rd := Rd.final (linesL t)
def fueT (t : ByteArray) : Nat := (finT t).nds.length
def treT (t : ByteArray) : TR (fueT t + 3) := toldF (fueT t) (finT t) 0
def ParseR (t : ByteArray) (w : World) (e : Ending) (w' : World) : Prop := ∃ va vk rv,
 e = .returned (.tuple #[.agg (blkCs (BD.kind (treT t)) (BD.level (treT t)) (BD.mark (treT t)) (BD.start (treT t)) (BD.tight (treT t)) (BD.info (treT t)) (BD.text (treT t)) va vk).toArray, rv, .int .i64 (deepT (fueT t) (finT t) 0 : Nat)]) ∧
 AlS w' (fun k => k < w'.heap.size) va (BD.align (treT t)) ∧ BlksAt (fueT t + 2) w' (fun k => k < w'.heap.size) vk (BD.kids (treT t)) ∧
 w'.ownsRow w.heap.size 43 3 rv (finT t).refs.length (refCells (finT t).refs) ∧ Below w.heap.size w w'
theorem own_base {w : World} {base b2 : Nat} {e : TypeId} {size : Nat} {v : Value} {n : Nat} {xs : List Value} (h : w.ownsRow base e size v n xs) (hb : b2 ≤ base) : w.ownsRow b2 e size v n xs :=
 ⟨h.1, h.2.imp id fun ⟨g, cap, cur, e1, e2, rest⟩ => ⟨g, cap, cur, e1, Nat.le_trans hb e2, rest⟩⟩
theorem lnF_sum : ∀ (f : Nat) (s : ByteArray) (k : Nat), k ≤ s.size + 1 -> sumZ (lnF f s k) + (lnF f s k).length + k ≤ s.size + 1
 | 0, s, k, h => by unfold lnF sumZ; simpa using h
 | f + 1, s, k, h => by
  unfold lnF
  by_cases hk : s.size ≤ k
  ·rw [if_pos hk]; unfold sumZ; simpa using h
  ·rw [if_neg hk];have hc := cutS_le (s.extract k s.size) 10;rw [ByteArray.size_extract] at hc;have := lnF_sum f s (k + (cutS (s.extract k s.size) 10).1.size + 1) (by omega);have hz : ∀ (x : ByteArray) (l : List ByteArray), sumZ (x :: l) = x.size + sumZ l := fun x l => by unfold sumZ; simp
   rw [hz, List.length_cons];omega
theorem lines_sum (t : ByteArray) : sumZ (linesL t) + (linesL t).length ≤ t.size + 1 := by
 have h1 := lnF_sum ((nlB t).size + 1) (nlB t) 0 (by omega);have h2 := nlB_size t;unfold linesL;omega
theorem sumZ_takeP (l : List ByteArray) (k : Nat) : sumZ (l.take k) + (l.take k).length ≤ sumZ l + l.length := by
 have h : sumZ l = sumZ (l.take k) + sumZ (l.drop k) := by
  conv => lhs; rw [<- List.take_append_drop k l]
  rw [sumZ_appendK]
 rw [List.length_take];omega
theorem st_start {w : World} {base g c0 : Nat} {o0 : Obj} (hb : base ≤ g) (hc : c0 < g) (h0 : w.heap[c0]? = some o0) (h1 : w.heap[g]? = some (.cells (ndCells [g] { Nd.new 1 with opn := true } (.slice none 0 0) (.slice none 0 0) (.slice none 0 0)) 50 (0, 0)))
  (h2 : w.heap[g + 1]? = some (.cells (rdCells [g] Rd.start (.slice none 0 0)) 55 (0, 0))) : St (fun b => if b = c0 then some o0 else none) w base (g + 1) (fun b => if b = g then 1 else if b = c0 then 1000000000 else 0) [g] Rd.start := by
 have hn : ∀ k, (Value.slice none 0 0).ownBlock = some k -> False := fun k e => by cases e
 refine ⟨rfl, fun i d hd => ?_, ⟨.slice none 0 0, by show (if g + 1 = g then 1 else if g + 1 = c0 then 1000000000 else 0) = 0; rw [if_neg (by omega), if_neg (by omega)], by omega, h2, World.ownsRow_nil _ _ _ _, fun k e => (hn k e).elim⟩, ?_, (fun b o e => ?_), by decide, rfl⟩
 rotate_right
 ·have e : (if b = c0 then some o0 else none) = some o := e
  by_cases hbc : b = c0
  ·rw [if_pos hbc] at e
   cases e
   subst hbc;exact ⟨h0, by show (if b = g then 1 else if b = b then 1000000000 else 0) = 1000000000; rw [if_neg (by omega), if_pos rfl]⟩
  ·rw [if_neg hbc] at e
   cases e
 ·have hi := (List.getElem?_eq_some_iff.1 hd).1;obtain rfl : i = 0 := by have : i < 1 := hi; omega
  have hd : some { Nd.new 1 with opn := true } = some d := hd
  cases hd
  exact ⟨.slice none 0 0, .slice none 0 0, .slice none 0 0, if_pos rfl, hb, h1, World.ownsRow_nil _ _ _ _, (fun k e => (hn k e).elim), World.ownsRow_nil _ _ _ _, (fun k e => (hn k e).elim), ⟨SlU8.nil0 w, fun h => absurd rfl h⟩, fun h => absurd rfl h⟩
 ·have h0 : ∀ i d, Rd.start.nds[i]? = some d -> d = { Nd.new 1 with opn := true } := fun i d hd => by
   have hi := (List.getElem?_eq_some_iff.1 hd).1;obtain rfl : i = 0 := by have : i < 1 := hi; omega
   have hd : some { Nd.new 1 with opn := true } = some d := hd
   cases hd
   rfl
  exact ⟨(fun i d hd k hk => by rw [h0 i d hd] at hk; cases hk), (fun i d hd p hp => by rw [h0 i d hd] at hp; cases hp), (fun i d hd => by rw [h0 i d hd]; exact Nat.zero_le _), (fun i e => by cases e), (fun i e => by cases e), by decide⟩
theorem St.lent {F : Frm} {w w' : World} {base rp : Nat} {own : Nat -> Nat} {P : List Nat} {r : Rd} (h : St F w base rp own P r) (hb : Below w.heap.size w w') (v : Value) (hg : ∀ g, v.ownBlock = some g -> w.heap.size ≤ g ∧ g < w'.heap.size) :
  St (fun b => if v.ownBlock = some b then w'.heap[b]? else F b) w' base rp (fun b => if v.ownBlock = some b then 1000000000 else own b) P r := by
 have hold : ∀ b, b < w.heap.size -> (fun b => if v.ownBlock = some b then 1000000000 else own b) b = own b := fun b hb => if_neg fun e => by have := (hg b e).1; omega
 have hsame : ∀ b, b < w.heap.size -> w'.heap[b]? = w.heap[b]? := fun b hbl => hb.block b hbl;have hw := h.wf;refine ⟨h.len, fun j e he => ?_, ?_, hw, fun b o hbo => ?_, h.few, h.dp⟩
 ·obtain ⟨kv, lv, av, hj⟩ := h.nodes j e he;have hjl := (List.getElem?_eq_some_iff.1 he).1;refine ⟨kv, lv, av, hj.keep (by rw [h.len]; exact hjl) hb.size hold (fun _ _ => rfl) (fun p hp => ?_) (fun k hk => ?_) (fun b hbl _ => hsame b hbl)⟩
  ·have := hw.par j e he p hp; rw [h.len]; omega
  ·have := hw.kids j e he k hk; rw [h.len]; omega
 ·obtain ⟨rv, hr⟩ := h.rd;have hrl := (gSq.1 hr.row).1;exact ⟨rv, (hold rp hrl).trans hr.own_r, hr.ge, (hsame rp hrl).trans hr.row, own_keep hr.refs fun g hg2 => hsame g (own_lt hr.refs g hg2), fun g hg2 => (hold g (own_lt hr.refs g hg2)).trans (hr.own_f g hg2)⟩
 ·by_cases hv : v.ownBlock = some b
  ·have hbo : (if v.ownBlock = some b then w'.heap[b]? else F b) = some o := hbo;rw [if_pos hv] at hbo;exact ⟨hbo, if_pos hv⟩
  ·have hbo : (if v.ownBlock = some b then w'.heap[b]? else F b) = some o := hbo;rw [if_neg hv] at hbo;obtain ⟨k1, k2⟩ := h.fr b o hbo;have hbl := (gSq.1 k1).1;exact ⟨(hsame b hbl).trans k1, (hold b hbl).trans k2⟩
theorem fin_facts {t : ByteArray} (ht : t.size ≤ 10000) : Ok 50000 (finT t) ∧ (∀ j, ((finT t).nd j).opn = false) ∧ (finT t).refs.length ≤ 50000 ∧ ((finT t).nd 0).kind = 1 ∧ 0 < (finT t).nds.length := by
 have hls := lines_sum t;obtain ⟨k1, k2⟩ := lines_ok (linesL t) 0 Rd.start start_ok (by show 1 + _ + _ ≤ _; omega) (by show 0 + _ ≤ _; omega) (by omega) (by omega);obtain ⟨f1, f2, _, f4⟩ := final_ok (B := 50000) (k1.up (by omega)) (by omega);exact ⟨f1, f2, Nat.le_trans (Nat.le_add_right _ _) f1.refs, f4, opn_len f1⟩
theorem size_sumZ {l : ByteArray} {L : List ByteArray} (h : l ∈ L) : l.size ≤ sumZ L := by
 induction L with
 | nil => cases h
 | cons x L ih =>
  have hz : sumZ (x :: L) = x.size + sumZ L := by unfold sumZ; simp
  rcases List.mem_cons.1 h with rfl | h
  ·omega
  ·have := ih h; omega
def PaW (F : Frm) (w5 : World) (base rp : Nat) (L : List ByteArray) (g : Nat) (v : Value) (wr : World) : Prop := ∃ (j : Nat) (own : Nat -> Nat) (P : List Nat),
 v = .int .i64 j ∧ j ≤ L.length ∧ g = L.length - j ∧ St F wr base rp own P (Rd.linesF (L.take j) Rd.start) ∧ Below base w5 wr
theorem St.n_set {F : Frm} {w : World} {base rp : Nat} {own : Nat -> Nat} {P : List Nat} {r : Rd} (h : St F w base rp own P r) (k : Nat) : St F (w.setCell ⟨rp, 2, none⟩ (.int .i64 (k : Int))) base rp own P { r with n := k } := by
 obtain ⟨rv, hrd⟩ := h.rd;have h1 := Joins.block_setCell (i := 2) hrd.row (.int .i64 (k : Int));exact h.reader (r' := { r with n := k }) (grown_put (grown_refl _ _) 2 _) hrd (by rw [h1]; rfl) rfl rfl ⟨h.wf.kids, h.wf.par, h.wf.nk, h.wf.cur, h.wf.tip, h.wf.doc⟩
theorem parse_any (t : ByteArray) (w : World) (ht : t.size ≤ 10000) (hG : GlobB w) : Calls Tryz.prog 10 #[.string t] w (ParseR t w) := by
 have hls := lines_sum t;have HLs := hdn fun w' h => lines_any t w' (by omega) h;obtain ⟨L, hL⟩ : ∃ L, linesL t = L := ⟨_, rfl⟩;rw [hL] at hls HLs;have hfin : finT t = Rd.final L := by unfold finT; rw [hL]
 unfold ParseR treT fueT;rw [hfin];have hok : ∀ j, Okd 50000 (Rd.linesF (L.take j) Rd.start) ∧ (Rd.linesF (L.take j) Rd.start).nds.length ≤ 40000 := fun j => by
  have hz := sumZ_takeP L j;obtain ⟨k1, k2⟩ := lines_ok (L.take j) 0 Rd.start start_ok (by show 1 + _ + _ ≤ _; omega) (by show 0 + _ ≤ _; omega) (by omega) (by omega);have k2 : (Rd.linesF (L.take j) Rd.start).nds.length ≤ 1 + 2 * sumZ (L.take j) + 3 * (L.take j).length := k2;exact ⟨k1.up (by omega), by omega⟩
 have hfo := final_ok (B := 50000) (ls := L) (by have := (hok L.length).1; rw [List.take_length] at this; exact this) (by omega);have hfl : (Rd.final L).nds.length ≤ 40000 := by have := (hok L.length).2; rw [List.take_length] at this; rw [hfo.2.2.1]; exact this
 have hfd : Rd.final L = ({ (Rd.linesF L Rd.start) with cur := some 0 } : Rd).close 0 := rfl;obtain ⟨R, hR⟩ : ∃ R, Rd.final L = R := ⟨_, rfl⟩;rw [hR] at hfo hfl hfd ⊢;obtain ⟨f, hf⟩ : ∃ f, R.nds.length = f := ⟨_, rfl⟩;rw [hf] at hfl ⊢;have HOk := hdn hok; have HFo := hdn hfo; have HFd := hdn hfd; have HG := hdn hG;have hLl : L.length ≤ 10001 := by omega
 have HLz := hdn (fun l (hl : l ∈ L) => show l.size ≤ 10001 from by have := size_sumZ hl; omega);clear hok hfo hfd hG hL hfin hR;go_enter Tryz.func10, Tryz.ntmps10;go_wp2_with fail;refine cMq (kind_any 1 _) ?_;rintro e w2 ⟨rfl, rfl⟩;unfold ndCells Nd.new ptrV;go_wp2_with fail;obtain ⟨W0, hW0⟩ : ∃ W0, w.alloc (.cells #[.int .u8 0, .int .i64 0, .int .u8 0, .int .i64 0, .bool false, .string ⟨#[]⟩, .string ⟨#[]⟩, .slice none 0 0, .slice none 0 0, .slice none 0 0] 28) = W0 := ⟨_, rfl⟩
 have hz0 : W0.heap.size = w.heap.size + 1 := by rw [<- hW0]; simp
 have hr0 : W0.heap[w.heap.size]? = some (.cells #[.int .u8 0, .int .i64 0, .int .u8 0, .int .i64 0, .bool false, .string ⟨#[]⟩, .string ⟨#[]⟩, .slice none 0 0, .slice none 0 0, .slice none 0 0] 28) := by rw [<- hW0]; exact heap_alloc_new w _
 have hb0 : Below w.heap.size w W0 := by rw [<- hW0]; exact (Below.refl _ w).alloc (Nat.le_refl _) _
 have hG0 : GlobB W0 := HG.out.later hb0;rw [hW0]
 obtain ⟨W4, hW4⟩ : ∃ W4, (W0.alloc (.cells #[.int .u8 1, .int .i64 0, .int .u8 0, .int .i64 0, .bool false, .string ⟨#[]⟩, .string ⟨#[]⟩, .slice none 0 0, .slice none 0 0, .slice none 0 0, .pointer none, .slice none 0 0, .bool true, .int .i64 0, .int .i64 0, .slice none 0 0, .int .i64 0, .int .u8 0, .int .i64 0, .string ⟨#[]⟩, .int .i64 0, .int .i64 0] 50)).alloc (.cells #[.string ⟨#[]⟩, .int .i64 0, .int .i64 0, .pointer (some ⟨w.heap.size + 1, 0, none⟩), .pointer none, .pointer none, .bool false, .slice none 0 0] 55) = W4 := ⟨_, rfl⟩
 have hz4 : W4.heap.size = w.heap.size + 3 := by rw [<- hW4]; simp [hz0]
 have hb4 : Below W0.heap.size W0 W4 := by rw [<- hW4]; exact ((Below.refl _ W0).alloc (Nat.le_refl _) _).alloc (by simp) _
 have h1 : W4.heap[w.heap.size + 1]? = some (.cells (ndCells [w.heap.size + 1] { Nd.new 1 with opn := true } (.slice none 0 0) (.slice none 0 0) (.slice none 0 0)) 50 (0, 0)) := by
  rw [<- hW4];refine (Below.heap_alloc _ _ _ (by simp; omega)).trans ?_;rw [<- hz0];exact heap_alloc_new W0 _
 have h2 : W4.heap[w.heap.size + 1 + 1]? = some (.cells (rdCells [w.heap.size + 1] Rd.start (.slice none 0 0)) 55 (0, 0)) := by
  rw [<- hW4];have := heap_alloc_new (W0.alloc (.cells #[.int .u8 1, .int .i64 0, .int .u8 0, .int .i64 0, .bool false, .string ⟨#[]⟩, .string ⟨#[]⟩, .slice none 0 0, .slice none 0 0, .slice none 0 0, .pointer none, .slice none 0 0, .bool true, .int .i64 0, .int .i64 0, .slice none 0 0, .int .i64 0, .int .u8 0, .int .i64 0, .string ⟨#[]⟩, .int .i64 0, .int .i64 0] 50)) (.cells #[.string ⟨#[]⟩, .int .i64 0, .int .i64 0, .pointer (some ⟨w.heap.size + 1, 0, none⟩), .pointer none, .pointer none, .bool false, .slice none 0 0] 55);rw [World.size_alloc, hz0] at this
  exact this
 rw [hW4];have hst := st_start (w := W4) (base := w.heap.size + 1) (g := w.heap.size + 1) (c0 := w.heap.size) (Nat.le_refl _) (by omega) ((hb4.block _ (by omega)).trans hr0) h1 h2;clear hW0 hW4 h1 h2;refine cMq (HLs.out W4 ((hG0.later hb4).max)) ?_;rintro e w5 ⟨v, rfl, hv, hb5⟩;obtain ⟨Al, cl, rfl⟩ := bk_own_slice hv;have hst5 : St (fun b => if (Value.slice Al L.length cl).ownBlock = some b then w5.heap[b]? else if b = w.heap.size then some _ else none) w5 _ _ _ _ _ := hst.lent hb5 (.slice Al L.length cl) (fun g hg => ⟨own_ge hv g hg, own_lt hv g hg⟩)
 obtain ⟨F5, hF5⟩ : ∃ F5 : Frm, (fun b => if (Value.slice Al L.length cl).ownBlock = some b then w5.heap[b]? else if b = w.heap.size then some (.cells #[.int .u8 0, .int .i64 0, .int .u8 0, .int .i64 0, .bool false, .string ⟨#[]⟩, .string ⟨#[]⟩, .slice none 0 0, .slice none 0 0, .slice none 0 0] 28) else none) = F5 := ⟨_, rfl⟩;rw [hF5] at hst5;have HF5 := hdn (show ∀ b, (Value.slice Al L.length cl).ownBlock = some b -> F5 b = w5.heap[b]? from fun b hb => by rw [<- hF5]; exact if_pos hb)
 have HFc := hdn (show ∃ o, F5 w.heap.size = some o from ⟨_, by rw [<- hF5]; exact (if_neg (fun e => by have := own_ge hv _ e; omega)).trans (if_pos rfl)⟩);have HV := hdn hv; have HB4 := hdn hb4; have HB5 := hdn hb5; have HG0 := hdn hG0; have HR0 := hdn hr0; have HB0 := hdn hb0;have H0 := hdn (show PaW F5 w5 (w.heap.size + 1) (w.heap.size + 1 + 1) L L.length (.int .i64 0) w5 from ⟨0, _, _, rfl, Nat.zero_le _, rfl, hst5, Below.refl _ _⟩);have hz5 := hb5.size;clear hst hst5 hF5 hv hb4 hb5 hG0 hr0 hb0 HLs;go_wp2_with fail
 go_loopg [21] L.length (fun g v21 wr => PaW F5 w5 (w.heap.size + 1) (w.heap.size + 1 + 1) L g v21 wr)
 case atStart => exact H0.out
 case round =>
  obtain ⟨j, own, P, rfl, hjl, hg, hst, hbw⟩ := hrel;clear H0;obtain ⟨rv, hrd⟩ := hst.rd;have hrow := hrd.row;unfold rdCells at hrow;have hP0 : ptN P 0 = w.heap.size + 1 := by have := hst.dp; omega
  rw [show ptrV P (some 0) = Value.pointer (some ⟨ptN P 0, 0, none⟩) from rfl, hP0] at hrow;have hokj := HOk.out j;have hzw := hbw.size;have hGX : ∀ wx, Below (w.heap.size + 1) wr wx -> GlobX (w.heap.size + 1) wx := fun wx hx => ⟨W0, HG0.out, hz0, by
   have h4 := HB4.out;rw [hz0] at h4;exact ((h4.trans (HB5.out.mono (by omega))).trans hbw).trans hx⟩
  by_cases hlt : j < L.length
  ·have hji : (j : Int) < (L.length : Int) := by omega
   obtain ⟨g2, c', hsl, hcap, hgl, hcell⟩ := own_cellk HV.out j (by simpa using hlt);injection hsl with hA _ hc;subst hA;subst hc;obtain ⟨o, ho⟩ : ∃ o, w5.heap[g2]? = some o := ⟨_, Array.getElem?_eq_getElem hgl⟩;obtain ⟨l, hl⟩ : ∃ l, L[j] = l := ⟨_, rfl⟩;rw [List.getElem_map, hl] at hcell;have hcell2 := (cell_heap (p := ⟨g2, j, none⟩) ((hst.fr g2 o ((HF5.out g2 rfl).trans ho)).1.trans ho.symm)).trans hcell;have hls : l.size ≤ 10001 := HLz.out l (by rw [<- hl]; exact List.getElem_mem hlt);obtain ⟨r, hr⟩ : ∃ r, Rd.linesF (L.take j) Rd.start = r := ⟨_, rfl⟩
   have hrn : r.n = j := by rw [<- hr, linesF_n, List.length_take]; show 0 + _ = _; omega
   have hnext : Rd.linesF (L.take (j + 1)) Rd.start = ({ r with n := j + 1 } : Rd).read l := by
    rw [List.take_succ_eq_append_getElem hlt, linesF_snoc, hr, hl, hrn]
   rw [hr] at hst hokj;rw [hr, hrn] at hrow;have q := fun i => cell_of_row wr (w.heap.size + 1 + 1) i _ _ _ hrow;have f0 : ∀ i, wr.frozen? ⟨w.heap.size + 1 + 1, i, none⟩ = false := fun i => by simp [World.frozen?, hrow]
   have hst1 := hst.n_set (j + 1);have hokd : Okd 50000 ({ r with n := j + 1 } : Rd) := ⟨hokj.1.ok.same rfl (Nat.le_refl _) (by show j + 1 ≤ _; omega), hokj.1.d0⟩;have hbs : Below (w.heap.size + 1) wr (wr.setCell ⟨w.heap.size + 1 + 1, 2, none⟩ (.int .i64 ((j + 1 : Nat) : Int))) := (Below.refl _ wr).setCell (p := ⟨w.heap.size + 1 + 1, 2, none⟩) (by show w.heap.size + 1 ≤ w.heap.size + 1 + 1; omega) _;have hRe := read_b (B := 50000) (C := 1000000) (by omega) hst1 (by have := hbs.size; omega) (hGX _ hbs) hokd l (by show r.nds.length + _ + _ ≤ _; omega) (by omega) (by omega)
   rw [show ((j + 1 : Nat) : Int) = (j : Int) + 1 by omega] at hRe hbs;have HRe := hdn hRe; have HNx := hdn hnext; have HBw := hdn (hbw.trans hbs);clear hRe hnext hst hst1 hokj hokd hbs hbw hGX hcell hl hr hrd hrow ho;go_wp2_with fail;refine cMq HRe.out ?_;rintro e w6 ⟨⟨v6, rfl⟩, hb6, own6, Q6, hst6⟩;have HS6 := hdn hst6;clear hst6;go_wp2
   go_roundg (L.length - (j + 1))
   case measure => omega
   case rel => exact ⟨j + 1, own6, Q6, by first | rfl | go_num, hlt, rfl, by rw [HNx.out]; exact HS6.out, HBw.out.trans hb6⟩
  ·obtain rfl : j = L.length := by omega
   rw [List.take_length] at hst hokj hrow;obtain ⟨r, hr⟩ : ∃ r, Rd.linesF L Rd.start = r := ⟨_, rfl⟩;have hFd := HFd.out;rw [hr] at hst hokj hrow hFd;have q := fun i => cell_of_row wr (w.heap.size + 1 + 1) i _ _ _ hrow;have f0 : ∀ i, wr.frozen? ⟨w.heap.size + 1 + 1, i, none⟩ = false := fun i => by simp [World.frozen?, hrow]
   have h0l := opn_len hokj.1.ok;have hst1 := hst.at_set 0 h0l;have hok1 : Ok 50000 ({ r with cur := some 0 } : Rd) := hokj.1.ok.same rfl (Nat.le_refl _) hokj.1.ok.nn;have hbs : Below (w.heap.size + 1) wr (wr.setCell ⟨w.heap.size + 1 + 1, 4, none⟩ (.pointer (some ⟨ptN P 0, 0, none⟩))) := (Below.refl _ wr).setCell (p := ⟨w.heap.size + 1 + 1, 4, none⟩) (by show w.heap.size + 1 ≤ w.heap.size + 1 + 1; omega) _;have hCl := closeC (B := 50000) (by omega) (w.heap.size + 1) (w.heap.size + 1 + 1) F5 _ own P _ 0 hst1 (by have := hbs.size; omega) hok1 h0l hokj.1.d0;rw [<- hFd, hP0] at hCl;rw [hP0] at hbs
   have HCl := hdn hCl; have HBw := hdn (hbw.trans hbs); have HGX := hdn (hGX _ hbs);clear hCl hst hst1 hok1 hokj hbs hbw hGX hr hrd hFd hrow;go_wp2_with fail;refine cMq HCl.out ?_;rintro e w7 ⟨own7, ⟨v7, rfl⟩, hst7, hb7⟩;have hfo := HFo.out;obtain ⟨oc, hoc⟩ := HFc.out;have hc7 := (hst7.fr _ _ hoc).2;have hTo := told_f (c0 := w.heap.size) hst7 hfo.1 (by omega) ((HGX.out.next hb7).glob.max) (fun k hk e => by rw [hc7] at e; omega) f 0 (by have := opn_len hfo.1; exact this) (by omega) (by omega) w7 (Below.refl _ _)
   rw [hP0] at hTo;obtain ⟨rv7, hrd7⟩ := hst7.rd;have hrow7 := hrd7.row;unfold rdCells at hrow7;have hres : w7.heap[w.heap.size]? = some (.cells #[.int .u8 0, .int .i64 0, .int .u8 0, .int .i64 0, .bool false, .string ⟨#[]⟩, .string ⟨#[]⟩, .slice none 0 0, .slice none 0 0, .slice none 0 0] 28 (0, 0)) :=
    (hb7.block _ (by omega)).trans ((HBw.out.block _ (by omega)).trans ((HB5.out.block _ (by omega)).trans ((HB4.out.block _ (by omega)).trans HR0.out)));have hb57 : Below (w.heap.size + 1) w5 w7 := HBw.out.trans hb7;have hbW7 : Below w.heap.size w w7 := by
    have h4 := HB4.out;rw [hz0] at h4;exact HB0.out.trans (((h4.trans (HB5.out.mono (by omega))).trans hb57).mono (by omega))
   have hz7 := hb57.size;obtain ⟨X, hX⟩ : ∃ X, toldF f R 0 = X := ⟨_, rfl⟩;obtain ⟨DP, hDP⟩ : ∃ DP, deepT f R 0 = DP := ⟨_, rfl⟩;rw [hX, hDP] at hTo;have HTo := hdn hTo; have HRd := hdn hrd7; have HRow7 := hdn hrow7; have HRes := hdn hres; have HBW7 := hdn hbW7;have HXD := hdn (And.intro hX hDP);clear hTo hst7 hrd7 hrow7 hres hb7 hb57 hbW7 q f0 hX hDP;go_wp2_with fail;refine cMq HTo.out ?_;rintro e w8 ⟨va, vk, rfl, ha8, hk8, hb8⟩;have hz8 := hb8.size;obtain ⟨A1, m1, c1, rfl, -⟩ := id ha8.1;obtain ⟨A2, c2, hvk⟩ := hk8.form;obtain ⟨N2, hN2⟩ : ∃ N2, vk = .slice A2 N2 c2 := ⟨_, hvk⟩
   clear hvk;subst hN2;have hrow8 := (hb8.block _ (gSq.1 HRow7.out).1).trans HRow7.out;have hres8 := (hb8.block _ (by omega)).trans HRes.out;have q8 := fun (o : Obj) i => cell_of_row (w8.alloc o) (w.heap.size + 1 + 1) i _ _ _ ((Below.heap_alloc w8 o _ (by omega)).trans hrow8);have z8 := fun (o : Obj) i => cell_of_row (w8.alloc o) w.heap.size i _ _ _ ((Below.heap_alloc w8 o _ (by omega)).trans hres8);have fz8 : ∀ (o : Obj) i, (w8.alloc o).frozen? ⟨w.heap.size, i, none⟩ = false := fun o i => by
    have : (w8.alloc o).heap[w.heap.size]? = _ := (Below.heap_alloc w8 o _ (by omega)).trans hres8;simp [World.frozen?, this]
   have HK8 := hdn hk8; have HA8 := hdn ha8; have HB8 := hdn hb8; have HRes8 := hdn hres8;clear hk8 ha8 hb8 hres8 hrow8;unfold blkCs;go_wp2_with fail;have q8d := fun (o : Obj) i => show (w8.alloc o).drew.cell? ⟨w.heap.size + 1 + 1, i, none⟩ = _ from q8 o i;have z8d := fun (o : Obj) i => show (w8.alloc o).drew.cell? ⟨w.heap.size, i, none⟩ = _ from z8 o i;have fz8d : ∀ (o : Obj) i, (w8.alloc o).drew.frozen? ⟨w.heap.size, i, none⟩ = false := fun o i => fz8 o i
   go_region
   all_goals
    go_wp2;have HE := hdn (told_end (w := w) (wc := w8.alloc (.cells #[.int .u8 (BD.kind X : Nat), .int .i64 (BD.level X), .int .u8 (BD.mark X : Nat), .int .i64 (BD.start X), .bool (BD.tight X), .string (BD.info X), .string (BD.text X), .slice A1 m1 c1, .slice A2 N2 c2, .slice none 0 0] 28)) (BD.kind X) (BD.level X) (BD.mark X) (BD.start X) (BD.tight X) (BD.info X) (BD.text X) (.slice A1 m1 c1) (.slice A2 N2 c2) rfl ((HBW7.out.trans (HB8.out.mono (by omega))).alloc (by omega) _) ((Below.heap_alloc w8 _ _ (by omega)).trans HRes8.out))
    obtain ⟨W3, hW3⟩ : ∃ W3, ((((((((((w8.alloc (.cells #[.int .u8 (BD.kind X : Nat), .int .i64 (BD.level X), .int .u8 (BD.mark X : Nat), .int .i64 (BD.start X), .bool (BD.tight X), .string (BD.info X), .string (BD.text X), .slice A1 m1 c1, .slice A2 N2 c2, .slice none 0 0] 28)).setCell ⟨w.heap.size, 0, none⟩ (.int .u8 (BD.kind X : Nat))).setCell ⟨w.heap.size, 1, none⟩ (.int .i64 (BD.level X))).setCell ⟨w.heap.size, 2, none⟩ (.int .u8 (BD.mark X : Nat))).setCell ⟨w.heap.size, 3, none⟩ (.int .i64 (BD.start X))).setCell ⟨w.heap.size, 4, none⟩ (.bool (BD.tight X))).setCell ⟨w.heap.size, 5, none⟩ (.string (BD.info X))).setCell ⟨w.heap.size, 6, none⟩ (.string (BD.text X))).setCell ⟨w.heap.size, 7, none⟩ (.slice A1 m1 c1)).setCell ⟨w.heap.size, 8, none⟩ (.slice A2 N2 c2)).setCell ⟨w.heap.size, 9, none⟩ (.slice none 0 0) = W3 := ⟨_, rfl⟩
    rw [hW3] at HE ⊢;have hs9 : W3.heap.size = w8.heap.size + 1 := by rw [HE.out.size, World.size_alloc]
    have hsm : ∀ k, k ≠ w.heap.size -> k < w8.heap.size -> W3.drew.heap[k]? = w8.heap[k]? := fun k h1 h2 => (HE.out.same k h1).trans (Below.heap_alloc w8 _ _ h2);refine bodyPost_ret (pa_results rfl _ W3.drew w.heap.size _ _ _ _ rfl HE.out.row Tryz.underlying28 rfl (by kernel_rfl)) rfl ?_;rw [HXD.out.1, HXD.out.2];have hw8 : w8.heap.size < W3.drew.heap.size := by show _ < W3.heap.size; omega
    refine ⟨_, _, rv7, rfl, ?_, ?_, ?_, HE.out.below.drew⟩
    ·exact (HA8.out.keep fun k hk => hsm k (by have := hk.1; omega) hk.2).mono fun k hk => by have := hk.2; omega
    ·exact BlksAt.mono (fun k hk => by have := hk.2; omega) (f + 2) (BlksAt.keep (fun k hk => hsm k (by have := hk.1; omega) hk.2) (f + 2) HK8.out)
    ·exact own_base (own_keep HRd.out.refs fun g hg => (hsm g (by have := own_ge HRd.out.refs g hg; omega) (by have := own_lt HRd.out.refs g hg; omega)).trans (HB8.out.block g (own_lt HRd.out.refs g hg))) (by omega)
