/- A block as it is told. -/
import Derived.Test.YtebfjlfkofibpaaGreatDoorBkTo
namespace Go.Proofs.YtebfjlfkofibpaaGreatDoor
set_option maxHeartbeats 8000000
set_option maxRecDepth 100000
open Go.RowKit
variable {F : Frm}
def ToldC (c0 : Nat) (w0 : World) (P : List Nat) (n : Nat) (x : TR (n + 1)) (dp k : Nat) : Prop := ∀ w : World, Below w0.heap.size w0 w -> Calls Tryz.prog 22 #[.pointer (some ⟨ptN P k, 0, none⟩)] w fun e w' => ∃ va vk,
 e = .returned (.tuple #[.agg (blkCs (BD.kind x) (BD.level x) (BD.mark x) (BD.start x) (BD.tight x) (BD.info x) (BD.text x) va vk).toArray, .int .i64 (dp : Int)]) ∧
 AlS w' (fun k => ((k ≠ c0 ∧ k < w0.heap.size) ∨ w.heap.size ≤ k) ∧ k < w'.heap.size) va (BD.align x) ∧ BlksAt n w' (fun k => ((k ≠ c0 ∧ k < w0.heap.size) ∨ w.heap.size ≤ k) ∧ k < w'.heap.size) vk (BD.kids x) ∧ Below w.heap.size w w'
theorem BlksAt.form {w : World} {S : Nat -> Prop} {v : Value} : ∀ {n : Nat} {l : List (TR n)}, BlksAt n w S v l -> ∃ A c, v = .slice A l.length c
 | 0, _, ⟨A, c, h, _⟩ => ⟨A, c, h⟩
 | _ + 1, _, ⟨A, c, h, _⟩ => ⟨A, c, h⟩
theorem new_cells (w : World) (vs : List Value) (t : TypeId) : ∀ j u, vs[j]? = some u -> (w.alloc (.cells vs.toArray t)).cell? ((⟨w.heap.size, 0, none⟩ : Addr).add j) = some u := by
 intro j u hj;have hadd : (⟨w.heap.size, 0, none⟩ : Addr).add j = ⟨w.heap.size, j, none⟩ := by
  unfold Addr.add;split
  ·rename_i h0; rw [h0]
  ·simp
 rw [hadd];have := cell_of_row (w.alloc (.cells vs.toArray t)) w.heap.size j _ _ _ (heap_alloc_new w _);rw [this];simpa using hj
structure TdP (w w1 : World) (g : Nat) (cs : Array Value) (wc : World) : Prop where
 row : wc.heap[g]? = some (.cells cs 28 (0, 0))
 below : Below w.heap.size w wc
 same : ∀ k, k ≠ g -> wc.heap[k]? = w1.heap[k]?
 size : wc.heap.size = w1.heap.size
theorem TdP.put {w w1 wc : World} {g : Nat} {cs : Array Value} (h : TdP w w1 g cs wc) (hg : g = w.heap.size) (i : Nat) (v : Value) : TdP w w1 g (cs.setIfInBounds i v) (wc.setCell ⟨g, i, none⟩ v) :=
 ⟨Joins.block_setCell h.row (i := i) v, h.below.setCell (p := ⟨g, i, none⟩) (by show w.heap.size ≤ g; omega) v, fun k hk => (Below.heap_setCell wc ⟨g, i, none⟩ v k hk).trans (h.same k hk), by rw [<- h.size]; simp [World.setCell]⟩
theorem told_end {w wc : World} {g : Nat} (k : Nat) (l : Int) (mk : Nat) (st : Int) (tt : Bool) (inf tx : ByteArray) (va vk : Value) (hg : g = w.heap.size) (hb : Below w.heap.size w wc) (h : wc.heap[g]? = some (.cells #[.int .u8 0, .int .i64 0, .int .u8 0, .int .i64 0, .bool false, .string ⟨#[]⟩, .string ⟨#[]⟩, .slice none 0 0, .slice none 0 0, .slice none 0 0] 28 (0, 0))) :
  TdP w wc g (blkCs k l mk st tt inf tx va vk).toArray ((((((((((wc.setCell ⟨g, 0, none⟩ (.int .u8 (k : Int))).setCell ⟨g, 1, none⟩ (.int .i64 l)).setCell ⟨g, 2, none⟩ (.int .u8 (mk : Int))).setCell ⟨g, 3, none⟩ (.int .i64 st)).setCell ⟨g, 4, none⟩ (.bool tt)).setCell ⟨g, 5, none⟩ (.string inf)).setCell ⟨g, 6, none⟩ (.string tx)).setCell ⟨g, 7, none⟩ va).setCell ⟨g, 8, none⟩ vk).setCell ⟨g, 9, none⟩ (.slice none 0 0)) := by
 have s := ((((((((((TdP.mk h hb (fun _ _ => rfl) rfl : TdP w wc g _ wc).put hg 0 (.int .u8 (k : Int))).put hg 1 (.int .i64 l)).put hg 2 (.int .u8 (mk : Int))).put hg 3 (.int .i64 st)).put hg 4 (.bool tt)).put hg 5 (.string inf)).put hg 6 (.string tx)).put hg 7 va).put hg 8 vk).put hg 9 (.slice none 0 0);have e := s.row;simp only [List.setIfInBounds_toArray, List.set_cons_zero, List.set_cons_succ] at e;exact ⟨e, s.below, s.same, s.size⟩
def TdAt (c0 : Nat) (w0 w : World) (D : Nd) (tt : Bool) (va : Value) (m : Nat) (acc : List (TR (m + 2))) (vk : Value) (wr : World) : Prop :=
 wr.heap[w.heap.size]? = some (.cells (blkCs 0 0 0 0 false ⟨#[]⟩ ⟨#[]⟩ (.slice none 0 0) (.slice none 0 0)).toArray 28 (0, 0)) ∧
 wr.heap[w.heap.size + 1]? = some (.cells (blkCs D.kind D.level D.mark D.start tt D.info D.text va vk).toArray 28 (0, 0)) ∧
 OutB c0 w0.heap.size (w.heap.size + 2) (m + 1) wr vk acc ∧ Below w.heap.size w wr
def TdW (c0 : Nat) (w0 w : World) (D : Nd) (va : Value) (m : Nat) (T : Nat -> TR (m + 2)) (dp : Nat -> Nat) (g : Nat) (v5 v25 : Value) (wr : World) : Prop := ∃ (j : Nat) (vk : Value),
 v25 = .int .i64 j ∧ v5 = .int .i64 ((((D.kids.take j).map dp).foldl max 0 : Nat)) ∧ j ≤ D.kids.length ∧ g = D.kids.length - j ∧ TdAt c0 w0 w D false va m ((D.kids.take j).map T) vk wr
theorem TdAt.tight {c0 : Nat} {w0 w wr : World} {D : Nd} {tt : Bool} {va : Value} {m : Nat} {acc : List (TR (m + 2))} {vk : Value} (h : TdAt c0 w0 w D tt va m acc vk wr) (hw : w0.heap.size ≤ w.heap.size) (t2 : Bool) : TdAt c0 w0 w D t2 va m acc vk (wr.setCell ⟨w.heap.size + 1, 4, none⟩ (.bool t2)) := by
 obtain ⟨h1, h2, h3, h4⟩ := h;refine ⟨(Below.heap_setCell wr ⟨w.heap.size + 1, 4, none⟩ _ w.heap.size (by simp)).trans h1, Joins.block_setCell (i := 4) h2 (.bool t2), h3.keep (by simp [World.setCell]) (fun j hj _ => Below.heap_setCell wr ⟨w.heap.size + 1, 4, none⟩ _ j ?_), h4.setCell (p := ⟨w.heap.size + 1, 4, none⟩) (by show w.heap.size ≤ w.heap.size + 1; omega) _⟩;show j ≠ w.heap.size + 1;omega
theorem TdAt.later {c0 : Nat} {w0 w wr w' : World} {D : Nd} {tt : Bool} {va : Value} {m : Nat} {acc : List (TR (m + 2))} {vk : Value} (h : TdAt c0 w0 w D tt va m acc vk wr) (hb : Below wr.heap.size wr w') : TdAt c0 w0 w D tt va m acc vk w' := by
 obtain ⟨h1, h2, h3, h4⟩ := h;exact ⟨(hb.block _ (gSq.1 h1).1).trans h1, (hb.block _ (gSq.1 h2).1).trans h2, h3.later hb, h4.trans (hb.mono h4.size)⟩
theorem SlU8.nil0 (w : World) : SlU8 w (.slice none 0 0) [] := ⟨none, 0, 0, rfl, rfl, Nat.le_refl _, fun h => absurd h (by decide)⟩
theorem AlS.nil0 (w : World) (S : Nat -> Prop) : AlS w S (.slice none 0 0) [] := ⟨SlU8.nil0 w, fun h => absurd rfl h⟩
theorem row_none {α : Type} (size : Nat) (E : World -> (Nat -> Prop) -> List Value -> α -> Prop) (w : World) (S : Nat -> Prop) : Row (α := α) size E w S (.slice none 0 0) [] :=
 ⟨none, 0, rfl, Nat.zero_le _, (fun h => absurd h (Nat.lt_irrefl 0)), fun i x hx => by rw [List.getElem?_nil] at hx; cases hx⟩
theorem BlksAt.nil0 (w : World) (S : Nat -> Prop) : ∀ n : Nat, BlksAt n w S (.slice none 0 0) []
 | 0 => row_none (α := Empty) 10 (fun _ _ _ _ => False) w S
 | n + 1 => row_none (α := BD (List (TR n))) 10 (BlkIs (BlksAt n)) w S
theorem out_push {c0 z0 base D n : Nat} {w W w7 : World} {v v7 : Value} {acc : List (BD (List (TR D)))} {css : List (List Value)} {NW : List Value} {y : BD (List (TR D))} (h1 : css.length = acc.length) (h2 : ∀ c ∈ css, c.length = 10)
  (h4 : ∀ (j : Nat) (c : List Value) (x : BD (List (TR D))), css[j]? = some c -> acc[j]? = some x -> BlkIs (BlksAt D) w (MineB c0 z0 base v w) c x) (hN : NW.length = 10) (hy : BlkIs (BlksAt D) w (MineB c0 z0 base v w) NW y) (hW : Below w.heap.size w W)
  (hn : acc.length = n) (hown : w7.ownsRow base 28 10 v7 (n + 1) (css.flatten ++ NW)) (hgrow : W.grownBy w7 v.ownBlock) (hob : v7.ownBlock = v.ownBlock ∨ v7.ownBlock = some W.heap.size) (c i : Nat) (x : Value) (hcz : z0 ≤ c) (hcb : c < base) :
  OutB c0 z0 base D (w7.setCell ⟨c, i, none⟩ x) v7 (acc ++ [y]) := by
 subst hn;have hz := hW.size;have hz7 := hgrow.size;refine OutB.snoc (w := w) (v := v) (css := css) h1 h2 h4 NW y hN hy (by simp [World.setCell]; omega) (fun b hb1 hb2 hne => ?_) ?_ ?_
 ·refine (Below.heap_setCell w7 ⟨c, i, none⟩ x b (by show b ≠ c; omega)).trans ((hgrow.block b (by omega) (fun he => hne he.symm)).trans (hW.block b hb2))
 ·rcases hob with e | e
  ·exact .inl e
  ·exact .inr ⟨_, e, hz⟩
 ·exact own_keep hown fun g hg => Below.heap_setCell w7 _ _ g (by have := own_ge hown g hg; show g ≠ c; omega)
def cellB (m : Nat) (c : ByteArray) : BD (List (TR m)) := { kind := 12, level := 0, mark := 0, start := 0, tight := false, info := ⟨#[]⟩, text := c, align := [], kids := ([] : List (TR m)) }
def cellsR (m : Nat) (xs : List ByteArray) : List (BD (List (TR m))) := xs.map (cellB m)
theorem cellsR_len (m : Nat) (xs : List ByteArray) : (cellsR m xs).length = xs.length := List.length_map _
theorem cellsR_snoc (m : Nat) (xs : List ByteArray) (y : ByteArray) : cellsR m (xs ++ [y]) = cellsR m xs ++ [cellB m y] := List.map_append
def TbW (c0 : Nat) (w0 w : World) (D : Nd) (va : Value) (m : Nat) (T : Nat -> TR (m + 2)) (g : Nat) (v80 : Value) (wr : World) : Prop := ∃ (j : Nat) (vk : Value),
 v80 = .int .i64 j ∧ j ≤ D.lines.length ∧ g = D.lines.length - j ∧ TdAt c0 w0 w D false va m (D.kids.map T ++ (D.lines.take j).map (rowT2 m D.align.length)) vk wr
def CbW (c0 : Nat) (w0 wR : World) (gC k m : Nat) (xs : List ByteArray) (g : Nat) (v88 : Value) (wr : World) : Prop := ∃ (x : Nat) (vk2 : Value), v88 = .int .i64 x ∧ x ≤ xs.length ∧ g = xs.length - x ∧
 wr.heap[gC]? = some (.cells (blkCs 11 0 0 0 false ⟨#[]⟩ ⟨#[]⟩ (.slice none 0 0) vk2).toArray 28 (0, 0)) ∧ OutB c0 w0.heap.size wR.heap.size m wr vk2 (cellsR m ((xs.take k).take x)) ∧ (∀ b, b < wR.heap.size -> b ≠ gC -> wr.heap[b]? = wR.heap[b]?) ∧ Below gC wR wr
theorem rowL_len (s : ByteArray) : (rowL s).length ≤ s.size + 1 := by
 rw [rowL_eq, List.length_map];have h1 := (cut_len (barS s.data.toList) 0 []).1;have h2 := barS_len s.data.toList;have h3 : s.data.toList.length = s.size := lTq;omega
theorem cell_heap {w w' : World} {p : Addr} (h : w'.heap[p.block]? = w.heap[p.block]?) : w'.cell? p = w.cell? p := by
 unfold World.cell?;rw [h]
theorem foldl_le (N : Nat) : ∀ (l : List Nat) (_ : ∀ x ∈ l, x ≤ N) {a : Nat}, a ≤ N -> l.foldl max a ≤ N
 | [], _, _, h => h
 | x :: l, hl, a, h => foldl_le N l (fun y hy => hl y (by simp [hy])) (Nat.max_le.2 ⟨h, hl x (by simp)⟩)
theorem blk_info : (Tryz.prog.info? 28).map (fun i => (i.zero, i.size, i.bytes)) = some (some (.agg #[.int .u8 0, .int .i64 0, .int .u8 0, .int .i64 0, .bool false, .string ⟨#[]⟩, .string ⟨#[]⟩, .slice none 0 0, .slice none 0 0, .slice none 0 0]), 10, 144) := by kernel_rfl
theorem told_step {B c0 : Nat} {w0 : World} {base rp : Nat} {own : Nat -> Nat} {P : List Nat} {r : Rd} (h0 : St F w0 base rp own P r) (hr : Ok B r) (m i : Nat) (hi : i < r.nds.length) (T : Nat -> TR (m + 2)) (dp : Nat -> Nat)
  (hT : ∀ k ∈ (r.nd i).kids, ToldC c0 w0 P (m + 1) (T k) (dp k) k) (hdp : ∀ k, dp k ≤ 200000) (hB : B ≤ 1000000) (hG : MaxB w0) (hc0 : ∀ k, k < r.nds.length -> own c0 ≠ k + 1) :
  ToldC c0 w0 P (m + 2) (bodyT r (r.nd i) ((r.nd i).kids.map T ++ rowsT m (r.nd i))) (deepN (r.nd i) (((r.nd i).kids.map dp).foldl max 0)) i := by
 intro w hw;have h := h0.below hw;obtain ⟨kv, lv, av, hn0⟩ := h0.nodes i _ (Rd.at_lt hi);have hn := hn0.keep (w' := w) (own' := own) (P' := P) (by rw [h0.len]; exact hi) hw.size (fun _ _ => rfl) (fun _ _ => rfl) (fun p hp => by have := (hr.par i p hp).1; rw [h0.len]; omega) (fun k hk => by have := (hr.kid i k hk).2.1; rw [h0.len]; exact this) (fun b hb _ => hw.block b hb);have HAl0 := hdn (show AlS w0 (fun k => k ≠ c0 ∧ k < w0.heap.size) av (r.nd i).align from ⟨hn0.al.1, fun hl g hg => ⟨fun e => hc0 i hi (by rw [<- e]; exact hn0.own_a hl g hg), hn0.al.1.own_lt hl g hg⟩⟩);clear hn0
 have hDk := hr.nd i hi;obtain ⟨D, hD⟩ : ∃ D, r.nd i = D := ⟨_, rfl⟩;rw [hD] at hn hT hDk HAl0 ⊢;have hrow := hn.row;unfold ndCells at hrow;have q := fun j => cell_of_row w (ptN P i) j _ _ _ hrow;have hpl := (gSq.1 hrow).1;obtain ⟨Ak, ck, rfl⟩ := bk_own_slice hn.kids;obtain ⟨Al, cl, rfl⟩ := bk_own_slice hn.lines;obtain ⟨Aa, ma, ca, rfl, hma, _⟩ := hn.al.1;rw [hma] at HAl0;go_enter Tryz.func22, Tryz.ntmps22;obtain ⟨DM, hDM⟩ : ∃ DM, (D.kids.map dp).foldl max 0 = DM := ⟨_, rfl⟩;have hDMe := hDM;rw [hDM]
 have HN := hdn hn; have HT := hdn hT; have HRow := hdn hrow;obtain ⟨W2, hW2⟩ : ∃ W2, (w.alloc (.cells #[.int .u8 0, .int .i64 0, .int .u8 0, .int .i64 0, .bool false, .string ⟨#[]⟩, .string ⟨#[]⟩, .slice none 0 0, .slice none 0 0, .slice none 0 0] 28)).alloc (.cells #[.int .u8 D.kind, .int .i64 D.level, .int .u8 D.mark, .int .i64 D.start, .bool false, .string D.info, .string D.text, .slice Aa D.align.length ca, .slice none 0 0, .slice none 0 0] 28) = W2 := ⟨_, rfl⟩;have hz2 : W2.heap.size = w.heap.size + 2 := by rw [<- hW2]; simp
 have H0 := hdn (show TdW c0 w0 w D (.slice Aa D.align.length ca) m T dp D.kids.length (.int .i64 0) (.int .i64 0) W2 from ⟨0, .slice none 0 0, rfl, rfl, Nat.zero_le _, rfl, by
  rw [<- hW2];refine ⟨?_, ?_, OutB.nil _ _ _ _ _, ((Below.refl _ w).alloc (Nat.le_refl _) _).alloc (by simp) _⟩
  ·exact (Below.heap_alloc _ _ _ (by simp)).trans (heap_alloc_new w _)
  ·have := heap_alloc_new (w.alloc (.cells #[.int .u8 0, .int .i64 0, .int .u8 0, .int .i64 0, .bool false, .string ⟨#[]⟩, .string ⟨#[]⟩, .slice none 0 0, .slice none 0 0, .slice none 0 0] 28)) (.cells #[.int .u8 D.kind, .int .i64 D.level, .int .u8 D.mark, .int .i64 D.start, .bool false, .string D.info, .string D.text, .slice Aa D.align.length ca, .slice none 0 0, .slice none 0 0] 28);rw [World.size_alloc] at this;exact this⟩)
 obtain ⟨i0, hinf, hz0, hzz1, hzz2⟩ := info_parts blk_info;have hkl : ∀ k ∈ D.kids, k < r.nds.length := fun k hk => by rw [<- hD] at hk; exact (hr.kid i k hk).2.1
 have hkn : D.kids.length ≤ 100000 := by have := hr.kn hi; have := hr.few; rw [hD] at *; omega
 have HW2 := hdn hW2;clear hn hT hrow hW2
 go_upto_block 0 with fail
 rw [HW2.out];clear HW2;go_cut [5] (fun v5 wx => ∃ vk, v5 = .int .i64 (DM : Int) ∧ TdAt c0 w0 w D false (.slice Aa D.align.length ca) m (D.kids.map T) vk wx)
 case first =>
  go_wp2_with fail
  go_loopg [5, 25] D.kids.length (fun g v5 v25 wr => TdW c0 w0 w D (.slice Aa D.align.length ca) m T dp g v5 v25 wr)
  case atStart => exact H0.out
  case round =>
   obtain ⟨j, vk, rfl, rfl, hjl, hg, hz1, hh1, hout, hbw⟩ := hrel;clear H0
   by_cases hlt : j < D.kids.length
   ·have hki : (j : Int) < (D.kids.length : Int) := by omega
    obtain ⟨g, c', hsl, hcap, hgl, hcell⟩ := own_cellk HN.out.kids j (by simpa using hlt);injection hsl with hA _ hc;subst hA;subst hc;rw [List.getElem_map] at hcell;have hkm := List.getElem_mem hlt;have hfold : ((D.kids.take (j + 1)).map dp).foldl max 0 = max (((D.kids.take j).map dp).foldl max 0) (dp D.kids[j]) := by
     rw [List.take_succ_eq_append_getElem hlt, List.map_append, List.foldl_append]; rfl
    have hmapT : (D.kids.take (j + 1)).map T = (D.kids.take j).map T ++ [T D.kids[j]] := by
     rw [List.take_succ_eq_append_getElem hlt, List.map_append]; rfl
    obtain ⟨kk, hkk⟩ : ∃ kk, D.kids[j] = kk := ⟨_, rfl⟩;rw [hkk] at hcell hkm hfold hmapT;rw [show ptrV P (some kk) = Value.pointer (some ⟨ptN P kk, 0, none⟩) from rfl] at hcell;have hcell2 := (hbw.cell (p := ⟨g, j, none⟩) hgl).trans hcell;have hC := HT.out kk hkm;unfold ToldC blkCs at hC;have hC := hC wr (hw.trans (hbw.mono hw.size));obtain ⟨x, hx⟩ : ∃ x, T kk = x := ⟨_, rfl⟩;obtain ⟨dk, hdk⟩ : ∃ dk, dp kk = dk := ⟨_, rfl⟩;obtain ⟨dj, hdj⟩ : ∃ dj, ((D.kids.take j).map dp).foldl max 0 = dj := ⟨_, rfl⟩;obtain ⟨acc, hacc⟩ : ∃ acc, (D.kids.take j).map T = acc := ⟨_, rfl⟩
    have hal : acc.length = j := by rw [<- hacc, List.length_map, List.length_take]; omega
    rw [hx, hdk] at hC;rw [hdk, hdj] at hfold;rw [hx, hacc] at hmapT;rw [hacc] at hout;rw [hdj];obtain ⟨A4, c4, rfl⟩ := hout.form;unfold blkCs at hh1 hz1;have hlt1 := (gSq.1 hh1).1;have HC := hdn hC; have HO := hdn hout; have HB := hdn hbw; have HH := hdn hh1; have HZ := hdn hz1;have HFo := hdn hfold; have HMa := hdn hmapT;clear hC hout hbw hh1 hz1 hfold hmapT hx hdk hdj hacc hkk hcell;go_wp2_with fail;refine cMq HC.out ?_;rintro e w3 ⟨va3, vk3, rfl, ha3, hk3, b3⟩;have hrow3 := (b3.block _ hlt1).trans HH.out
    have q3 := fun i => cell_of_row w3 (w.heap.size + 1) i _ _ _ hrow3;have hlt3 : w.heap.size + 1 < w3.heap.size := Nat.lt_of_lt_of_le hlt1 b3.size;obtain ⟨css, o1, o2, o3, o4⟩ := HO.out.later b3;obtain ⟨Aa3, ma3, ca3, rfl, hma3, hmc3, hmb3⟩ := ha3.1;subst hma3;obtain ⟨Ak3, ck3, rfl⟩ := hk3.form;have hown3 := o3;rw [show List.length (α := BD (List (TR (m + 1)))) acc = j from hal] at hown3 o1;have HA3 := hdn ha3; have HK3 := hdn hk3; have HB3 := hdn b3
    obtain ⟨NW, hNW⟩ : ∃ NW : List Value, blkCs (BD.kind x) (BD.level x) (BD.mark x) (BD.start x) (BD.tight x) (BD.info x) (BD.text x) (.slice Aa3 (BD.align x).length ca3) (.slice Ak3 (BD.kids x).length ck3) = NW := ⟨_, rfl⟩;have hN1 : NW.length = 10 := by rw [<- hNW]; rfl
    have hN2 : ∀ u ∈ NW, u.oneCell' = true := by rw [<- hNW]; unfold blkCs; simp [Value.oneCell']
    obtain ⟨W4, hW4⟩ : ∃ W4, w3.alloc (.cells NW.toArray 28) = W4 := ⟨_, rfl⟩;have hz4 : W4.heap.size = w3.heap.size + 1 := by rw [<- hW4]; simp
    have hr4 : W4.heap[w.heap.size + 1]? = w3.heap[w.heap.size + 1]? := by rw [<- hW4]; exact Below.heap_alloc _ _ _ hlt3
    have ho4 := hown3.alloc (.cells NW.toArray 28);have ho5 := ho4.alloc (.cells NW.toArray 28);have hnc := new_cells (w3.alloc (.cells NW.toArray 28)) NW 28;have ha3' : j + 1 ≤ maxLen := by unfold maxLen; omega
    have ha4' : (j + 1) * 144 ≤ 140737488355328 := by omega
    have ha5' : w.heap.size + 2 ≤ ((w3.alloc (.cells NW.toArray 28)).alloc (.cells NW.toArray 28)).heap.size := by simp; omega
    have HOw := hdn ho5; have HNc := hdn hnc; have HN2 := hdn hN2; have HN1 := hdn hN1;have HNW := hdn hNW;clear ha3 hk3 b3 ho4 ho5 hnc hN2 hN1 hNW hW4 hz4 hr4 hmb3 hown3 o3;rw [<- HNW.out] at HNc HOw;unfold blkCs at HNc HOw;rw [World.size_alloc] at HNc;go_wp2_with (at_builtin; refine wpList_append_own_at _ rfl _ _ 25 rfl (w.heap.size + 2) 28 i0 _ 10 144 Tryz.underlying25 hinf hz0 hzz1 hzz2 rfl (by decide) (.slice A4 acc.length c4) j css.flatten ?a1 ?a2 ⟨w3.heap.size + 1, 0, none⟩ 1 1 NW ?a3 ?a4 ?a5 ?a6 ?a7 ?a8 ?a9 ?a10)
    case a1 => rfl
    case a2 =>
     rw [hal];exact HOw.out
    case a3 => rfl
    case a4 => rw [HN1.out]
    case a5 => rw [<- HNW.out]; exact HNc.out
    case a6 => exact HN2.out
    case a7 => exact ha3'
    case a8 => exact ha4'
    case a9 => simp; omega
    case a10 =>
     intro v7 w7 hown7 hgrow _ hob7;obtain ⟨g7, cap7, rfl⟩ := Joins.ownsRow_form hown7 (by omega);have hk7 := (hgrow.block (w.heap.size + 1) (by simp; omega) (by intro he; have := own_ge HOw.out _ he.symm; omega)).trans ((Below.heap_alloc _ _ _ (by simp; omega)).trans ((Below.heap_alloc _ _ _ hlt3).trans hrow3));have q7 := fun i => cell_of_row w7 (w.heap.size + 1) i _ _ _ hk7;have f7 : ∀ i, w7.frozen? ⟨w.heap.size + 1, i, none⟩ = false := fun i => by simp [World.frozen?, hk7]
     have HO7 := hdn hown7; have HG7 := hdn hgrow; have HV7 := hdn hob7; have HK7 := hdn hk7;clear hown7 hgrow hob7;go_wp2;have hpast : ∀ b, b < w.heap.size + 2 -> w7.heap[b]? = w3.heap[b]? := fun b hb => by
      have hb3 : b < w3.heap.size := by omega
      exact (HG7.out.block b (by simp; omega) (by intro he; have := own_ge HOw.out _ he.symm; omega)).trans ((Below.heap_alloc _ _ _ (by simp; omega)).trans (Below.heap_alloc _ _ _ hb3))
     have hz8 := (Below.heap_setCell w7 ⟨w.heap.size + 1, 8, none⟩ (.slice (some ⟨g7, 0, none⟩) (j + 1) cap7) w.heap.size (by simp)).trans ((hpast _ (by omega)).trans ((HB3.out.block _ (by omega)).trans HZ.out));have hh8 := Joins.block_setCell (i := 8) HK7.out (.slice (some ⟨g7, 0, none⟩) (j + 1) cap7)
     go_roundg (D.kids.length - (j + 1))
     case measure => omega
     case rel =>
      refine ⟨j + 1, .slice (some ⟨g7, 0, none⟩) (j + 1) cap7, by first | rfl | go_num, by rw [HFo.out]; congr 1; first | omega | exact (Int.ofNat_max _ _).symm | simp, hlt, rfl, hz8, hh8, ?_, ?_⟩
      ·rw [HMa.out];have hgb : ∀ g, (Value.slice A4 acc.length c4).ownBlock = some g -> w.heap.size + 2 ≤ g ∧ g < wr.heap.size := fun g hg => by
        obtain ⟨css2, _, _, p3, _⟩ := HO.out;exact ⟨own_ge p3 g hg, own_lt p3 g hg⟩
       have hSS : ∀ k, (((k ≠ c0 ∧ k < w0.heap.size) ∨ wr.heap.size ≤ k) ∧ k < w3.heap.size) -> MineB c0 w0.heap.size (w.heap.size + 2) (.slice A4 acc.length c4) w3 k := fun k hk => by
        have := hw.size;have := HB.out.size;refine ⟨?_, hk.2, fun e => ?_⟩
        ·rcases hk.1 with h | h
         ·exact .inl h
         ·right; omega
        ·have := hgb k e;rcases hk.1 with h | h <;> omega
       have hz7 : w3.heap.size ≤ w7.heap.size := by have := HG7.out.size; simp at this; omega
       refine OutB.snoc (w := w3) (v := .slice A4 acc.length c4) (css := css) (by rw [o1]; exact hal.symm) o2 o4 NW x HN1.out ⟨_, _, HNW.out.symm, HA3.out.mono hSS, BlksAt.mono hSS _ HK3.out⟩ (by simp [World.setCell]; exact hz7) (fun b hb1 hb2 hne => ?_) ?_ ?_
       ·have hb1' : b ≠ w.heap.size + 1 := by have := hw.size; omega
        refine (Below.heap_setCell w7 ⟨w.heap.size + 1, 8, none⟩ _ b hb1').trans ((HG7.out.block b (by simp; omega) (fun he => hne ?_)).trans ((Below.heap_alloc _ _ _ (by simp; omega)).trans (Below.heap_alloc _ _ _ hb2)));rw [hal];exact he.symm
       ·rcases HV7.out with e | e
        ·left;rw [hal] at *;exact e
        ·right;exact ⟨_, e, by first | omega | (simp; omega)⟩
       ·have := own_keep HO7.out (w' := w7.setCell ⟨w.heap.size + 1, 8, none⟩ (.slice (some ⟨g7, 0, none⟩) (j + 1) cap7)) fun g hg => Below.heap_setCell w7 _ _ g (by have := own_ge HO7.out g hg; show g ≠ w.heap.size + 1; omega);rw [show List.length (α := BD (List (TR (m + 1)))) acc = j from hal];exact this
      ·exact (((HB.out.trans (HB3.out.mono HB.out.size)).alloc (by omega) _ |>.alloc (by simp; omega) _).grown HG7.out (by simp; omega) (fun k hk => by have := own_ge HOw.out k hk; omega)).setCell (p := ⟨w.heap.size + 1, 8, none⟩) (by show w.heap.size ≤ w.heap.size + 1; omega) _
   ·obtain rfl : j = D.kids.length := by omega
    rw [List.take_length] at hout;rw [List.take_length, hDM];have HO := hdn hout; have HB := hdn hbw;clear hout hbw;go_wp2
    go_meet
    exact ⟨vk, rfl, hz1, hh1, HO.out, HB.out⟩
 case rest =>
  obtain ⟨vk, rfl, hz1, hh1, hout, hbw⟩ := hcut;clear H0;have hlt1 := (gSq.1 hh1).1;have hrowc := (hbw.block _ hpl).trans HRow.out;obtain ⟨K, hK⟩ : ∃ K, D.kind = K := ⟨_, rfl⟩;rw [hK] at hrowc;have qc := fun j => cell_of_row wc (ptN P i) j _ _ _ hrowc;have hpc : ptN P i < w.heap.size := hpl;obtain ⟨Av, cv, rfl⟩ := hout.form;have hh1' := hh1;unfold blkCs at hh1;have qh := fun j => cell_of_row wc (w.heap.size + 1) j _ _ _ hh1;have fh : ∀ j, wc.frozen? ⟨w.heap.size + 1, j, none⟩ = false := fun j => by simp [World.frozen?, hh1]
  have HS := hdn h; have HK := hdn HN.out.kids; have HTd := hdn (show TdAt c0 w0 w D false (.slice Aa D.align.length ca) m (D.kids.map T) (.slice Av (List.length (α := BD (List (TR (m + 1)))) (D.kids.map T)) cv) wc from ⟨hz1, hh1', hout, hbw⟩)
  go_upto_block 2 with fail
  go_cut [5] (fun v5 wx => ∃ vk, v5 = .int .i64 (deepN D DM : Nat) ∧ TdAt c0 w0 w D (tightT r D) (.slice Aa D.align.length ca) m (D.kids.map T ++ rowsT m D) vk wx)
  case first =>
   have hdeepn : deepN D DM = if D.kind = 3 ∨ D.kind = 2 ∨ D.kind = 4 then DM + 1 else DM := rfl;have hDM : DM ≤ 200000 := by rw [<- hDMe]; exact foldl_le _ _ (fun x hx => by obtain ⟨k, _, rfl⟩ := List.mem_map.1 hx; exact hdp k) (Nat.zero_le _)
   have hww := hw.size;have hKu : K ≤ 10 := by rw [<- hK]; exact hDk.kind.2
   rw [hK] at hdeepn
   by_cases k3 : K = 3
   ·subst k3;rw [if_pos (.inl rfl)] at hdeepn;have hro : rowsT m D = [] := by unfold rowsT; rw [if_neg (by omega)]
    have htt : tightT r D = (togF r D.kids && !(D.kids.any (apartT r))) := by unfold tightT; rw [if_pos hK]
    have HTg := hdn fun (w' : World) (hb : Below w.heap.size w w') => together_b (HS.out.below hb) hr (.slice Ak D.kids.length ck) D.kids base (own_keep HK.out fun g hg => hb.block g (own_lt HK.out g hg)) hkl (by omega);have HAn := hdn fun (w' : World) (hb : Below w.heap.size w w') => anyap_b (HS.out.below hb) hr (.slice Ak D.kids.length ck) D.kids base (own_keep HK.out fun g hg => hb.block g (own_lt HK.out g hg)) hkl (by omega);obtain ⟨tg, htg⟩ : ∃ tg, togF r D.kids = tg := ⟨_, rfl⟩;obtain ⟨an, han⟩ : ∃ an, D.kids.any (apartT r) = an := ⟨_, rfl⟩;rw [htg] at HTg;rw [han] at HAn
    rw [htg, han] at htt;have HB := hdn hbw;have HEq := hdn (And.intro hdeepn (And.intro hro htt));clear hz1 hout hbw HS q htt htg han hdeepn hro;have hq4 : ∀ d : Nat, ∀ j, (wc.drewN d).frozen? ⟨w.heap.size + 1, j, none⟩ = false := fun d => fh
    cases tg with
    | true =>
     go_wp2_with fail;refine cMq (HTg.out _ HB.out) ?_;rintro e w9 ⟨rfl, d9, rfl⟩;go_wp2_with fail;refine cMq (HAn.out _ (below_drewN HB.out _)) ?_;rintro e w10 ⟨rfl, d10, rfl⟩
     cases an <;>
     ·go_wp2
      go_meet
      refine ⟨.slice Av (List.length (α := BD (List (TR (m + 1)))) (D.kids.map T)) cv, by rw [HEq.out.1]; rfl, ?_⟩;rw [HEq.out.2.1, HEq.out.2.2, List.append_nil];exact (HTd.out.later (below_drewN (Below.refl _ _) _)).tight hww _
    | false =>
     go_wp2_with fail;refine cMq (HTg.out _ HB.out) ?_;rintro e w9 ⟨rfl, d9, rfl⟩;go_wp2
     go_meet
     refine ⟨.slice Av (List.length (α := BD (List (TR (m + 1)))) (D.kids.map T)) cv, by rw [HEq.out.1]; rfl, ?_⟩;rw [HEq.out.2.1, HEq.out.2.2, List.append_nil];exact (HTd.out.later (below_drewN (Below.refl _ _) _)).tight hww _
   ·have htt : tightT r D = false := by unfold tightT; rw [if_neg (by omega)]
    by_cases k10 : K = 10
    ·subst k10;rw [if_neg (by omega)] at hdeepn;have hro : rowsT m D = D.lines.map (rowT2 m D.align.length) := by unfold rowsT; rw [if_pos hK]
     have HEq := hdn (And.intro hdeepn (And.intro hro htt));have HLn := hdn HN.out.lines;have HLw := hdn (show ∀ l ∈ D.lines, l.size ≤ 1000000 from fun l hl => Nat.le_trans (lw_mem hl) (Nat.le_trans hDk.lines hB));have hLl : D.lines.length ≤ 1000000 := Nat.le_trans (Nat.le_add_left _ _) (Nat.le_trans hDk.lines hB);have HRw := hdn fun (l : ByteArray) (hl : l.size ≤ 1000000) (w' : World) (hb : Below w0.heap.size w0 w') => row_any_b l w' hl (hG.later hb)
     have H0 := hdn (show TbW c0 w0 w D (.slice Aa D.align.length ca) m T D.lines.length (.int .i64 0) wc from ⟨0, .slice Av (List.length (α := BD (List (TR (m + 1)))) (D.kids.map T)) cv, rfl, Nat.zero_le _, rfl, by rw [List.take_zero, List.map_nil, List.append_nil]; exact HTd.out⟩);clear hz1 hh1 hh1' hout hbw HS q htt hdeepn hro HTd hDk qh fh hK;go_wp2_with fail
     go_loopg [80] D.lines.length (fun g v80 wr => TbW c0 w0 w D (.slice Aa D.align.length ca) m T g v80 wr)
     case atStart => exact H0.out
     case round =>
      obtain ⟨j, vk, rfl, hjl, hg, hz1, hh1, hout, hbw⟩ := hrel;clear H0;obtain ⟨wo, rfl⟩ : ∃ wo, wo = wr := ⟨_, rfl⟩
      by_cases hlt : j < D.lines.length
      ·have hji : (j : Int) < (D.lines.length : Int) := by omega
       obtain ⟨g, c', hsl, hcap, hgl, hcell⟩ := own_cellk HLn.out j (by simpa using hlt);injection hsl with hA _ hc;subst hA;subst hc;obtain ⟨l, hl⟩ : ∃ l, D.lines[j] = l := ⟨_, rfl⟩;rw [List.getElem_map, hl] at hcell;have hls : l.size ≤ 1000000 := HLw.out l (by rw [<- hl]; exact List.getElem_mem hlt);have hcell2 := (hbw.cell (p := ⟨g, j, none⟩) hgl).trans hcell;have htk : (D.lines.take (j + 1)).map (rowT2 m D.align.length) = (D.lines.take j).map (rowT2 m D.align.length) ++ [rowT2 m D.align.length l] := by
        rw [List.take_succ_eq_append_getElem hlt, List.map_append, hl]; rfl
       obtain ⟨acc, hacc⟩ : ∃ acc, D.kids.map T ++ (D.lines.take j).map (rowT2 m D.align.length) = acc := ⟨_, rfl⟩;have hal : acc.length = D.kids.length + j := by rw [<- hacc, List.length_append, List.length_map, List.length_map, List.length_take]; omega
       have hacc2 : D.kids.map T ++ (D.lines.take (j + 1)).map (rowT2 m D.align.length) = acc ++ [rowT2 m D.align.length l] := by rw [htk, <- hacc, List.append_assoc]
       rw [hacc] at hout;obtain ⟨A4, c4, rfl⟩ := hout.form;have hlt1 := (gSq.1 hh1).1;have hlt0 := (gSq.1 hz1).1;have HRl := hdn (HRw.out l hls);have HO := hdn hout; have HB := hdn hbw; have HH := hdn hh1; have HZ := hdn hz1;have HAc := hdn hacc2;clear hout hbw hh1 hz1 hacc hacc2 htk hl hcell HRw hrowc qc;go_wp2_with fail;refine cMq (HRl.out _ ((hw.trans (HB.out.mono hw.size)).alloc (by have := HB.out.size; omega) _)) ?_;rintro e wR ⟨vx, rfl, hox, hbx⟩;have hzb : wo.heap.size + 1 ≤ wR.heap.size := by have := hbx.size; simpa using this
       have hC0 : wR.heap[wo.heap.size]? = some (.cells (blkCs 11 0 0 0 false ⟨#[]⟩ ⟨#[]⟩ (.slice none 0 0) (.slice none 0 0)).toArray 28 (0, 0)) := (hbx.block _ (by simp)).trans (heap_alloc_new wo _);have hold : ∀ b, b < wo.heap.size -> wR.heap[b]? = wo.heap[b]? := fun b hb => (hbx.block b (by simp; omega)).trans (Below.heap_alloc wo _ _ hb);have hbR : Below wo.heap.size wo wR := ((Below.refl _ wo).alloc (Nat.le_refl _) _).trans (hbx.mono (by simp));obtain ⟨Ax, cx, rfl⟩ := bk_own_slice hox;have hxn := rowL_len l
       have hrowR := (hold _ (by have := HB.out.size; omega)).trans ((HB.out.block _ hpl).trans HRow.out);have hsw := HB.out.size;rw [World.size_alloc] at hox;obtain ⟨xs, hxs⟩ : ∃ xs, rowL l = xs := ⟨_, rfl⟩;rw [hxs] at hox hxn ⊢;have H1 := hdn (show CbW c0 w0 wR wo.heap.size D.align.length m xs xs.length (.int .i64 0) wR from ⟨0, .slice none 0 0, rfl, Nat.zero_le _, rfl, hC0, OutB.nil _ _ _ _ _, fun _ _ _ => rfl, Below.refl _ _⟩);have HX := hdn hox; have HOld := hdn hold; have HBR := hdn hbR; have HRR := hdn hrowR; have HXs := hdn hxs;clear hox hold hbR hrowR hxs hbx hC0 HRl hcell2
       go_wp2_with fail
       go_loopg [88] xs.length (fun g v88 wz => CbW c0 w0 wR wo.heap.size D.align.length m xs g v88 wz)
       case atStart => exact H1.out
       case round =>
        obtain ⟨x, vk2, rfl, hxl, hgx, hcz, hoz, hsz, hbz⟩ := hrel;clear H1;obtain ⟨ac, hac⟩ : ∃ ac, cellsR m ((xs.take D.align.length).take x) = ac := ⟨_, rfl⟩;have hoz2 : OutB c0 w0.heap.size wR.heap.size m wr vk2 ac := by rw [<- hac]; exact hoz
        clear hoz;have hzz := hbz.size;have hcz' := hcz;obtain ⟨A5, c5, rfl⟩ := hoz2.form;unfold blkCs at hcz;have hclt := (gSq.1 hcz).1
        by_cases hxt : x < xs.length
        ·have hxi : (x : Int) < (xs.length : Int) := by omega
         obtain ⟨g2, c2', hsl2, _, hgl2, hcx⟩ := own_cellk HX.out x (by simpa using hxt);injection hsl2 with hA2 _ hc2;subst hA2;subst hc2;obtain ⟨y, hy⟩ : ∃ y, xs[x] = y := ⟨_, rfl⟩;rw [List.getElem_map, hy] at hcx;have hg2 : wo.heap.size + 1 ≤ g2 := own_ge HX.out g2 rfl;have hcx2 := (cell_heap (p := ⟨g2, x, none⟩) (hsz g2 hgl2 (by omega))).trans hcx;have hrz := (hsz (ptN P i) (by omega) (by omega)).trans HRR.out;have qz := fun j => cell_of_row wr (ptN P i) j _ _ _ hrz;have qcz := fun j => cell_of_row wr wo.heap.size j _ _ _ hcz
         by_cases hk : x < D.align.length
         ·have hki : (x : Int) < (D.align.length : Int) := by omega
          have hacl : ac.length = x := by rw [<- hac, cellsR_len, List.length_take, List.length_take]; omega
          have htake : cellsR m ((xs.take D.align.length).take (x + 1)) = ac ++ [cellB m y] := by
           rw [List.take_succ_eq_append_getElem (by rw [List.length_take]; omega), cellsR_snoc, List.getElem_take, hy, hac]
          subst hacl;obtain ⟨css, o1, o2, o3, o4⟩ := hoz2;obtain ⟨NW, hNW⟩ : ∃ NW : List Value, [.int .u8 12, .int .i64 0, .int .u8 0, .int .i64 0, .bool false, .string ⟨#[]⟩, .string y, .slice none 0 0, .slice none 0 0, .slice none 0 0] = NW := ⟨_, rfl⟩;have hN1 : NW.length = 10 := by rw [<- hNW]; rfl
          have hN2 : ∀ u ∈ NW, u.oneCell' = true := by rw [<- hNW]; simp [Value.oneCell']
          have HNc := hdn (new_cells wr NW 28);have HOw := hdn (o3.alloc (.cells NW.toArray 28));have ha7 : ac.length + 1 ≤ maxLen := by unfold maxLen; omega
          have ha8 : (ac.length + 1) * 144 ≤ 140737488355328 := by omega
          have HN2 := hdn hN2; have HN1 := hdn hN1; have HNW := hdn hNW; have HO4 := hdn o4; have HTk := hdn htake; have HS5 := hdn hsz; have HB5 := hdn hbz; have HC5 := hdn hcz;rw [<- HNW.out] at HNc HOw;clear o3 o4 hN1 hN2 hNW htake hsz hbz hcz hcz' hac hcx hy;go_wp2_with (at_builtin; refine wpList_append_own_at _ rfl _ _ 25 rfl wR.heap.size 28 i0 _ 10 144 Tryz.underlying25 hinf hz0 hzz1 hzz2 rfl (by decide) (.slice A5 (ac.length) c5) ac.length css.flatten ?b1 ?b2 ⟨wr.heap.size, 0, none⟩ 1 1 NW ?b3 ?b4 ?b5 ?b6 ?b7 ?b8 ?b9 ?b10)
          case b2 => exact HOw.out
          case b4 => rw [HN1.out]
          case b5 => rw [<- HNW.out]; first | exact HNc.out | exact fun _ _ h => h
          case b6 => exact HN2.out
          case b9 => first | omega | (simp; omega)
          case b10 =>
           intro v7 w7 hown7 hgrow _ hob7;obtain ⟨g7, cap7, rfl⟩ := Joins.ownsRow_form hown7 (by omega);have hk7 := (hgrow.block wo.heap.size (by simp; omega) (by intro he; have := own_ge HOw.out _ he.symm; omega)).trans ((Below.heap_alloc _ _ _ hclt).trans HC5.out);have q7 := fun i => cell_of_row w7 wo.heap.size i _ _ _ hk7;have f7 : ∀ i, w7.frozen? ⟨wo.heap.size, i, none⟩ = false := fun i => by simp [World.frozen?, hk7]
           have HO7 := hdn hown7; have HG7 := hdn hgrow; have HV7 := hdn hob7; have HK7 := hdn hk7;clear hown7 hgrow hob7;go_wp2
           go_roundg (xs.length - (ac.length + 1))
           case measure => omega
           case rel =>
            have hw0w := hw.size;refine ⟨ac.length + 1, .slice (some ⟨g7, 0, none⟩) (ac.length + 1) cap7, by first | rfl | go_num, hxt, rfl, Joins.block_setCell (i := 8) HK7.out _, ?_, fun b hb1 hb2 => ?_, ?_⟩
            ·rw [HTk.out];exact out_push (w := wr) (v := .slice A5 (ac.length) c5) (css := css) o1 o2 HO4.out HN1.out (show BlkIs (BlksAt m) wr _ NW (cellB m y) from ⟨.slice none 0 0, .slice none 0 0, HNW.out.symm, AlS.nil0 _ _, BlksAt.nil0 _ _ m⟩) ((Below.refl _ wr).alloc (Nat.le_refl _) _) rfl HO7.out HG7.out (by rw [World.size_alloc]; exact HV7.out) _ 8 _ (by omega) (by omega)
            ·exact (Below.heap_setCell w7 ⟨wo.heap.size, 8, none⟩ _ b hb2).trans ((HG7.out.block b (by simp; omega) (by intro he; have := own_ge HOw.out _ he.symm; omega)).trans ((Below.heap_alloc _ _ _ (by omega)).trans (HS5.out b hb1 hb2)))
            ·exact ((HB5.out.alloc (by omega) _).grown HG7.out (by simp; omega) (fun k hk => by have := own_ge HOw.out k hk; omega)).setCell (p := ⟨wo.heap.size, 8, none⟩) (Nat.le_refl _) _
         ·have hki : ¬ (x : Int) < (D.align.length : Int) := by omega
          have htq : ∀ q, x ≤ q -> (xs.take D.align.length).take q = xs.take D.align.length := fun q hq => List.take_of_length_le (by rw [List.length_take]; omega);have htake : cellsR m ((xs.take D.align.length).take (x + 1)) = ac := by
           rw [<- hac, htq (x + 1) (by omega), htq x (Nat.le_refl _)]
          have HT5 := hdn htake; have HO5 := hdn hoz2; have HS5 := hdn hsz; have HB5 := hdn hbz; have HC5 := hdn hcz';clear htake hoz2 hsz hbz hcz' hac hcx hy htq;go_wp2
          go_roundg (xs.length - (x + 1))
          case measure => omega
          case rel => exact ⟨x + 1, _, by first | rfl | go_num, hxt, rfl, HC5.out, by rw [HT5.out]; exact HO5.out, HS5.out, HB5.out⟩
        ·obtain rfl : x = xs.length := by omega
         have hac2 : cellsR m (xs.take D.align.length) = ac := by rw [<- hac, List.take_of_length_le (i := xs.length) (by rw [List.length_take]; omega)]
         have hacl : ac.length ≤ 9223372036854775807 := by
          rw [<- hac2, cellsR_len, List.length_take];omega
         have hbk := hoz2.blks hacl;have hold := HOld.out;have hsame : ∀ b, b < wo.heap.size -> wr.heap[b]? = wo.heap[b]? := fun b hb => (hsz b (by omega) (by omega)).trans (hold b hb);have hgb : ∀ g, (Value.slice A4 (List.length (α := BD (List (TR (m + 1)))) acc) c4).ownBlock = some g -> w.heap.size + 2 ≤ g ∧ g < wo.heap.size := fun g hg => by
          obtain ⟨css2, _, _, p3, _⟩ := HO.out;exact ⟨own_ge p3 g hg, own_lt p3 g hg⟩
         obtain ⟨css, o1, o2, o3, o4⟩ := HO.out.keep (w' := wr) (by omega) (fun b _ hb => hsame b hb);have o3 : wr.ownsRow (w.heap.size + 2) 28 10 (.slice A4 (List.length (α := BD (List (TR (m + 1)))) acc) c4) (D.kids.length + j) css.flatten := by rw [<- hal]; exact o3
         obtain ⟨NW, hNW⟩ : ∃ NW : List Value, [.int .u8 11, .int .i64 0, .int .u8 0, .int .i64 0, .bool false, .string ⟨#[]⟩, .string ⟨#[]⟩, .slice none 0 0, .slice A5 (ac.length) c5, .slice none 0 0] = NW := ⟨_, rfl⟩;have hN1 : NW.length = 10 := by rw [<- hNW]; rfl
         have hN2 : ∀ u ∈ NW, u.oneCell' = true := by rw [<- hNW]; simp [Value.oneCell']
         have hw0w := hw.size;have hNy : BlkIs (BlksAt (m + 1)) wr (MineB c0 w0.heap.size (w.heap.size + 2) (.slice A4 (List.length (α := BD (List (TR (m + 1)))) acc) c4) wr) NW (rowT2 m D.align.length l) := by
          refine ⟨.slice none 0 0, _, hNW.symm, AlS.nil0 _ _, ?_⟩;show BlksAt (m + 1) wr _ _ (cellsR m ((rowL l).take D.align.length));rw [HXs.out, hac2];refine BlksAt.mono (fun k hk => ⟨?_, hk.2, fun e => ?_⟩) (m + 1) hbk
          ·have := hk.1;omega
          ·have h1 := hgb k e;have := hk.1;omega
         have hhz := (hsame _ hlt1).trans HH.out;have hzz0 := (hsame _ hlt0).trans HZ.out;have hhz' := hhz;unfold blkCs at hhz;have qcz := fun j => cell_of_row wr wo.heap.size j _ _ _ hcz;have qo := fun j => cell_of_row wr (w.heap.size + 1) j _ _ _ hhz;have HNc := hdn (new_cells wr NW 28);have HOw := hdn (o3.alloc (.cells NW.toArray 28));have ha7 : D.kids.length + j + 1 ≤ maxLen := by unfold maxLen; omega
         have ha8 : (D.kids.length + j + 1) * 144 ≤ 140737488355328 := by omega
         have hltz : w.heap.size + 1 < wr.heap.size := by omega
         have HN2 := hdn hN2; have HN1 := hdn hN1; have HNW := hdn hNW; have HNy := hdn hNy; have HO4 := hdn o4; have HB5 := hdn hbz; have HC5 := hdn hhz; have HZ5 := hdn hzz0;rw [<- HNW.out] at HNc HOw;clear o3 o4 hN1 hN2 hNW hsz hbz hcz hcz' hac hac2 hhz hhz' hzz0 hNy hbk hoz2 hold hsame hgb
         go_wp2_with (at_builtin; refine wpList_append_own_at _ rfl _ _ 25 rfl (w.heap.size + 2) 28 i0 _ 10 144 Tryz.underlying25 hinf hz0 hzz1 hzz2 rfl (by decide) (.slice A4 (List.length (α := BD (List (TR (m + 1)))) acc) c4) (D.kids.length + j) css.flatten ?d1 ?d2 ⟨wr.heap.size, 0, none⟩ 1 1 NW ?d3 ?d4 ?d5 ?d6 ?d7 ?d8 ?d9 ?d10)
         case d1 => rfl
         case d2 => exact HOw.out
         case d3 => rfl
         case d7 => exact ha7
         case d8 => exact ha8
         case d4 => rw [HN1.out]
         case d5 => rw [<- HNW.out]; first | exact HNc.out | exact fun _ _ h => h
         case d6 => exact HN2.out
         case d9 => first | omega | (simp; omega)
         case d10 =>
          intro v7 w7 hown7 hgrow _ hob7;obtain ⟨g7, cap7, rfl⟩ := Joins.ownsRow_form hown7 (by omega);have hk7 := (hgrow.block (w.heap.size + 1) (by simp; omega) (by intro he; have := own_ge HOw.out _ he.symm; omega)).trans ((Below.heap_alloc _ _ _ hltz).trans HC5.out);have q7 := fun i => cell_of_row w7 (w.heap.size + 1) i _ _ _ hk7;have f7 : ∀ i, w7.frozen? ⟨w.heap.size + 1, i, none⟩ = false := fun i => by simp [World.frozen?, hk7]
          have HO7 := hdn hown7; have HG7 := hdn hgrow; have HV7 := hdn hob7; have HK7 := hdn hk7;clear hown7 hgrow hob7;go_wp2
          go_roundg (D.lines.length - (j + 1))
          case measure => omega
          case rel =>
           have hBX := (HB.out.trans ((HBR.out.trans (HB5.out.mono (Nat.le_refl _))).mono HB.out.size));refine ⟨j + 1, .slice (some ⟨g7, 0, none⟩) (D.kids.length + j + 1) cap7, by first | rfl | go_num, hlt, rfl, ?_, ?_, ?_, ?_⟩
           ·exact (Below.heap_setCell w7 ⟨w.heap.size + 1, 8, none⟩ _ w.heap.size (by simp)).trans ((HG7.out.block w.heap.size (by simp; omega) (by intro he; have := own_ge HOw.out _ he.symm; omega)).trans ((Below.heap_alloc _ _ _ (by omega)).trans HZ5.out))
           ·exact Joins.block_setCell (i := 8) HK7.out _
           ·rw [HAc.out];exact out_push (w := wr) (v := .slice A4 (List.length (α := BD (List (TR (m + 1)))) acc) c4) (css := css) o1 o2 HO4.out HN1.out HNy.out ((Below.refl _ wr).alloc (Nat.le_refl _) _) hal HO7.out HG7.out (by rw [World.size_alloc]; exact HV7.out) _ 8 _ (by omega) (by omega)
           ·exact ((hBX.alloc (by omega) _).grown HG7.out (by simp; omega) (fun k hk => by have := own_ge HOw.out k hk; omega)).setCell (p := ⟨w.heap.size + 1, 8, none⟩) (by show w.heap.size ≤ w.heap.size + 1; omega) _
      ·obtain rfl : j = D.lines.length := by omega
       rw [List.take_length] at hout;have HO := hdn (show TdAt c0 w0 w D false (.slice Aa D.align.length ca) m (D.kids.map T ++ D.lines.map (rowT2 m D.align.length)) vk wo from ⟨hz1, hh1, hout, hbw⟩);clear hout hbw hz1 hh1;go_wp2
       go_meet
       refine ⟨vk, by rw [HEq.out.1], ?_⟩;rw [HEq.out.2.1, HEq.out.2.2];exact HO.out
    ·have hro : rowsT m D = [] := by unfold rowsT; rw [if_neg (by omega)]
     have z10 : ((K : Int) == 10) = false := by rw [beq_eq_false_iff_ne]; omega
     have z3 : ((K : Int) == 3) = false := by rw [beq_eq_false_iff_ne]; omega
     by_cases k2 : K = 2 ∨ K = 4
     ·rw [if_pos (by omega)] at hdeepn;have HEq := hdn (And.intro hdeepn (And.intro hro htt));clear hz1 hh1 hh1' hout hbw HS q htt hdeepn hro hDk qh fh;rcases k2 with k2 | k2 <;>
      ·subst k2;go_wp2
       go_meet
       refine ⟨.slice Av (List.length (α := BD (List (TR (m + 1)))) (D.kids.map T)) cv, by rw [HEq.out.1]; rfl, ?_⟩;rw [HEq.out.2.1, HEq.out.2.2, List.append_nil];exact HTd.out
     ·have z2 : ((K : Int) == 2) = false := by rw [beq_eq_false_iff_ne]; omega
      have z4 : ((K : Int) == 4) = false := by rw [beq_eq_false_iff_ne]; omega
      rw [if_neg (by omega)] at hdeepn;have HEq := hdn (And.intro hdeepn (And.intro hro htt));clear hz1 hh1 hh1' hout hbw HS q htt hdeepn hro hDk qh fh;go_wp2
      go_meet
      refine ⟨.slice Av (List.length (α := BD (List (TR (m + 1)))) (D.kids.map T)) cv, by rw [HEq.out.1], ?_⟩;rw [HEq.out.2.1, HEq.out.2.2, List.append_nil];exact HTd.out
  case rest =>
   obtain ⟨vk2, rfl, hz2, hh2, hout2, hbw2⟩ := hcut;obtain ⟨A6, c6, rfl⟩ := hout2.form;unfold blkCs at hz2 hh2;have qz := fun j => cell_of_row wc (w.heap.size) j _ _ _ hz2;have fz : ∀ j, wc.frozen? ⟨w.heap.size, j, none⟩ = false := fun j => by simp [World.frozen?, hz2]
   have qh2 := fun j => cell_of_row wc (w.heap.size + 1) j _ _ _ hh2;go_wp2_with fail;have HE := hdn (told_end K D.level D.mark D.start (tightT r D) D.info D.text (.slice Aa D.align.length ca) (.slice A6 (List.length (α := BD (List (TR (m + 1)))) (D.kids.map T ++ rowsT m D)) c6) rfl hbw2 hz2);have hcap : List.length (α := BD (List (TR (m + 1)))) (D.kids.map T ++ rowsT m D) ≤ 9223372036854775807 := by
    have h1 : (rowsT m D).length ≤ D.lines.length := by
     unfold rowsT;split
     ·rw [List.length_map]; exact Nat.le_refl _
     ·exact Nat.zero_le _
    have h2 : D.lines.length ≤ B := Nat.le_trans (Nat.le_add_left _ _) hDk.lines;show List.length (α := TR (m + 2)) _ ≤ _;rw [List.length_append, List.length_map];omega
   have hBl := hout2.blks hcap;have HBl := hdn hBl
   obtain ⟨W3, hW3⟩ : ∃ W3, ((((((((((wc.setCell ⟨w.heap.size, 0, none⟩ (.int .u8 (K : Int))).setCell ⟨w.heap.size, 1, none⟩ (.int .i64 D.level)).setCell ⟨w.heap.size, 2, none⟩ (.int .u8 (D.mark : Int))).setCell ⟨w.heap.size, 3, none⟩ (.int .i64 D.start)).setCell ⟨w.heap.size, 4, none⟩ (.bool (tightT r D))).setCell ⟨w.heap.size, 5, none⟩ (.string D.info)).setCell ⟨w.heap.size, 6, none⟩ (.string D.text)).setCell ⟨w.heap.size, 7, none⟩ (.slice Aa D.align.length ca)).setCell ⟨w.heap.size, 8, none⟩ (.slice A6 (List.length (α := BD (List (TR (m + 1)))) (D.kids.map T ++ rowsT m D)) c6)).setCell ⟨w.heap.size, 9, none⟩ (.slice none 0 0)) = W3 := ⟨_, rfl⟩
   rw [hW3] at HE ⊢;refine bodyPost_ret (lf_results_row_tmp rfl _ W3 w.heap.size _ _ _ _ rfl HE.out.row Tryz.underlying28 rfl (by kernel_rfl)) rfl ?_;have hsz := HE.out.size;have hcs := hbw2.size;have hww := hw.size;have hW3l := HE.out.below.size;refine ⟨_, _, by rw [<- hK]; rfl, ?_, ?_, HE.out.below⟩
   ·exact (HAl0.out.keep fun k hk => (HE.out.below.block k (by omega)).trans (hw.block k hk.2)).mono fun k hk => ⟨.inl hk, by omega⟩
   ·refine (BlksAt.keep (w := wc) (w' := W3) (S := fun k => ((k ≠ c0 ∧ k < w0.heap.size) ∨ w.heap.size + 2 ≤ k) ∧ k < wc.heap.size) (fun k hk => HE.out.same k ?_) (m + 2) HBl.out).mono fun k hk => ⟨?_, ?_⟩
    ·have h1 := hk.1;omega
    ·have h1 := hk.1;omega
    ·rw [hsz]; exact hk.2
theorem deepT_le (r : Rd) : ∀ (f i : Nat), deepT f r i ≤ f + 1
 | 0, i => by
  unfold deepT deepN;split <;> omega
 | f + 1, i => by
  have h := foldl_le (f + 1) ((r.nd i).kids.map (deepT f r)) (fun x hx => by obtain ⟨k, _, rfl⟩ := List.mem_map.1 hx; exact deepT_le r f k) (Nat.zero_le _);unfold deepT deepN;split <;> omega
theorem told_f {B c0 : Nat} {w0 : World} {base rp : Nat} {own : Nat -> Nat} {P : List Nat} {r : Rd} (h0 : St F w0 base rp own P r) (hr : Ok B r) (hB : B ≤ 1000000) (hG : MaxB w0) (hc0 : ∀ k, k < r.nds.length -> own c0 ≠ k + 1) : ∀ (f i : Nat), i < r.nds.length -> r.nds.length ≤ i + f -> f ≤ 190000 -> ToldC c0 w0 P (f + 2) (toldF f r i) (deepT f r i) i
 | 0, i, hi, hf, _ => absurd hf (by omega)
 | f + 1, i, hi, hf, hb => told_step h0 hr (f + 1) i hi (toldF f r) (deepT f r) (fun k hk => told_f h0 hr hB hG hc0 f k (hr.kid i k hk).2.1 (by have := (hr.kid i k hk).1; omega) (by omega)) (fun k => Nat.le_trans (deepT_le r f k) (by omega)) hB hG hc0
