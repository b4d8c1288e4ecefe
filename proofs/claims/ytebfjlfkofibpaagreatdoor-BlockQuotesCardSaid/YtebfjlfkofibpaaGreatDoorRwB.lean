/- rows.Aligns. -/
import Derived.Test.YtebfjlfkofibpaaGreatDoorRwA
import Derived.Test.YtebfjlfkofibpaaGreatDoorBkLo
namespace Go.Proofs.YtebfjlfkofibpaaGreatDoor
set_option maxHeartbeats 8000000
set_option maxRecDepth 100000
open Go.RowKit Go.Shelf
attribute [local go_sem] Oper.semAt_some
theorem u8_infoR : (Tryz.prog.info? 5).map (fun i => (i.zero, i.size, i.bytes)) = some (some (.int .u8 0), 1, 1) := by kernel_rfl
theorem alignsF_snoc (x : List UInt8) : ∀ l : List (List UInt8), alignsF (l ++ [x]) = match alignsF l, alignC x with | some r, some a => some (r ++ [a]) | _, _ => none
 | [] => by
  show (match alignC x, alignsF [] with | some a, some r => some (a :: r) | _, _ => none) = _
  cases alignC x <;> rfl
 | c :: l => by
  show (match alignC c, alignsF (l ++ [x]) with | some a, some r => some (a :: r) | _, _ => none) = _
  rw [alignsF_snoc x l];rw [show alignsF (c :: l) = (match alignC c, alignsF l with | some a, some r => some (a :: r) | _, _ => none) from rfl]
  cases alignC c <;> cases alignsF l <;> cases alignC x <;> rfl
theorem alignsF_none : ∀ (l m : List (List UInt8)), alignsF l = none -> alignsF (l ++ m) = none
 | [], m, h => by cases h
 | c :: l, m, h => by
  show (match alignC c, alignsF (l ++ m) with | some a, some r => some (a :: r) | _, _ => none) = none
  rw [show alignsF (c :: l) = (match alignC c, alignsF l with | some a, some r => some (a :: r) | _, _ => none) from rfl] at h
  cases hc : alignC c with
  | none => rfl
  | some a =>
   cases hl : alignsF l with
   | none => rw [alignsF_none l m hl]
   | some r => rw [hc, hl] at h; cases h
theorem alignsF_len : ∀ (l : List (List UInt8)) (r : List UInt8), alignsF l = some r -> r.length = l.length
 | [], r, h => by cases h; rfl
 | c :: l, r, h => by
  rw [show alignsF (c :: l) = (match alignC c, alignsF l with | some a, some r => some (a :: r) | _, _ => none) from rfl] at h
  cases hc : alignC c with
  | none => rw [hc] at h; cases h
  | some a =>
   cases hl : alignsF l with
   | none => rw [hc, hl] at h; cases h
   | some r' =>
    rw [hc, hl] at h
    cases h
    simp [alignsF_len l r' hl]
def lofs (l : List ByteArray) : List (List UInt8) := l.map fun x => x.data.toList
theorem lofs_cells (b : List UInt8) : lofs ((cutCells b 0 []).map cellT) = (cutCells b 0 []).map fun c => blankT (unbar c) := by
 unfold lofs;rw [List.map_map];rfl
theorem idx_at : ∀ (l : List UInt8) (c : UInt8) (j : Nat), Lib.indexByte l c = j -> l[j]? = some c
 | [], c, j, h => by
  exfalso;have h : (-1 : Int) = j := h;omega
 | b :: l, c, j, h => by
  unfold Lib.indexByte at h
  by_cases hb : (b == c) = true
  ·rw [if_pos hb] at h;obtain rfl : j = 0 := by omega
   rw [<- eq_of_beq hb]; rfl
  ·rw [if_neg hb] at h
   by_cases h2 : (Lib.indexByte l c == -1) = true
   ·rw [if_pos h2] at h; omega
   ·rw [if_neg h2] at h;obtain ⟨i, rfl⟩ : ∃ i, j = i + 1 := ⟨j - 1, by have := Lib.indexByte_ge l c; have : Lib.indexByte l c ≠ -1 := fun e => h2 (by rw [e]; rfl); omega⟩;exact idx_at l c i (by omega)
theorem contains_bar (l : List UInt8) : Lib.contains l [124] = decide ((124 : UInt8) ∈ l) := by
 unfold Lib.contains;have hi : ∀ l : List UInt8, Lib.index l [124] = Lib.indexByte l 124 := fun l => by
  induction l with
  | nil => rfl
  | cons b l ih =>
   unfold Lib.index Lib.indexByte;rw [ih];have e : List.isPrefixOf [124] (b :: l) = (b == 124) := by
    simp only [List.isPrefixOf, Bool.and_true];exact BEq.comm
   rw [e]
 rw [hi]
 by_cases hm : (124 : UInt8) ∈ l
 ·rw [decide_eq_true hm];refine decide_eq_true ?_;have h1 := Lib.indexByte_ge l 124
  by_cases h2 : Lib.indexByte l 124 = -1
  ·obtain ⟨k, hk, he⟩ := List.getElem_of_mem hm;exact absurd (by rw [List.getElem?_eq_getElem hk, he]) (Lib.indexByte_none h2 k)
  ·omega
 ·rw [decide_eq_false hm];refine decide_eq_false fun h => ?_;obtain ⟨j, hj⟩ : ∃ j : Nat, Lib.indexByte l 124 = j := ⟨(Lib.indexByte l 124).toNat, by omega⟩;exact hm (List.mem_of_getElem? (idx_at l 124 j hj))
theorem trim_c (s t : ByteArray) (ch : UInt8) (hc : ch.toNat < 128) (ht : (⟨(Lib.trimB s.data.toList ch).toArray⟩ : ByteArray) = t) (hs : s.size ≤ 9223372036854775807) (W : World) :
  Calls Tryz.prog 33 #[.string s, .string ⟨#[ch]⟩] W fun e w' => e = .returned (.string t) ∧ ∃ d, w' = W.drewN d := by
 refine cMq (Tryz.strings_Trim_one s ch hc W hs) ?_;rintro e w' ⟨rfl, h⟩;rw [ht];exact ⟨rfl, h.elim (fun h => ⟨0, h⟩) (fun h => ⟨1, h⟩)⟩
theorem trimB_len (l : List UInt8) (c : UInt8) : (Lib.trimB l c).length ≤ l.length := by
 unfold Lib.trimB Lib.trimLeftB Lib.trimRightB;have h1 := (List.dropWhile_sublist (l := l.reverse) (· == c)).length_le;have h2 := (List.dropWhile_sublist (l := (l.reverse.dropWhile (· == c)).reverse) (· == c)).length_le;rw [List.length_reverse] at h1 h2;omega
theorem take_two : ∀ (l : List UInt8), (l.take 2 = [58, 58]) ↔ Lib.hasPrefix l [58, 58] = true
 | [] => by simp [Lib.hasPrefix, List.isPrefixOf]
 | [a] => by simp [Lib.hasPrefix, List.isPrefixOf]
 | a :: b :: l => by
  unfold Lib.hasPrefix;simp only [List.isPrefixOf, Bool.and_true, Bool.and_eq_true, beq_iff_eq, List.take_succ_cons, List.take_zero, List.cons.injEq, and_true];exact ⟨fun h => ⟨h.1.symm, h.2.symm⟩, fun h => ⟨h.1.symm, h.2.symm⟩⟩
theorem head_one (l : List UInt8) : (l.head? == some 58) = Lib.hasPrefix l [58] := by
 cases l with
 | nil => rfl
 | cons a l =>
  unfold Lib.hasPrefix;simp only [List.isPrefixOf, Bool.and_true, List.head?_cons];show (a == 58) = ((58 : UInt8) == a);exact BEq.comm
theorem alignC_eq (c bare rest : ByteArray) (L R P S : Bool) (hbd : bare.data.toList = Lib.trimB c.data.toList 58) (hrd : rest.data.toList = Lib.trimB bare.data.toList 45)
  (hL : Lib.hasPrefix c.data.toList (⟨#[58]⟩ : ByteArray).data.toList = L) (hR : Lib.hasSuffix c.data.toList (⟨#[58]⟩ : ByteArray).data.toList = R)
  (hP : Lib.hasPrefix c.data.toList (⟨#[58, 58]⟩ : ByteArray).data.toList = P) (hS : Lib.hasSuffix c.data.toList (⟨#[58, 58]⟩ : ByteArray).data.toList = S) :
  alignC c.data.toList = if bare.size = 0 ∨ rest.size ≠ 0 ∨ 2 < c.size - bare.size ∨ (c.size - bare.size = 2 ∧ ¬ (L = true ∧ R = true)) ∨ P = true ∨ S = true then none else some (if L = true ∧ R = true then 2 else if L = true then 1 else if R = true then 3 else 0) := by
 have e1 : ∀ b : ByteArray, (b.data.toList = []) = (b.size = 0) := fun b => propext ⟨fun h => by rw [show b.size = b.data.toList.length from lTq.symm, h]; rfl, fun h => List.eq_nil_of_length_eq_zero ((show b.data.toList.length = b.size from lTq).trans h)⟩;have e2 : ∀ b : ByteArray, b.data.toList.length = b.size := fun b => lTq;have e3 : (c.data.toList.take 2 = [58, 58]) = (P = true) := propext ((take_two _).trans (by rw [<- hP]));have e4 : (c.data.toList.reverse.take 2 = [58, 58]) = (S = true) := propext ((take_two _).trans (by
  rw [<- hS];unfold Lib.hasPrefix Lib.hasSuffix List.isSuffixOf;rfl))
 have e5 : (c.data.toList.head? == some 58) = L := (head_one _).trans hL;have e6 : (c.data.toList.getLast? == some 58) = R := by
  rw [<- hR, show (⟨#[58]⟩ : ByteArray).data.toList = [58] from rfl, suf_one]
  by_cases h : c.data.toList.getLast? = some 58
  ·rw [h]; rfl
  ·rw [decide_eq_false h]; exact beq_eq_false_iff_ne.2 h
 unfold alignC;simp only [<- hbd, <- hrd, e1, e2, e3, e4, e5, e6, ne_eq]
theorem al_bad (B : Nat) {W w : World} {b : ByteArray} {g : Nat} (d : Nat) (hb0 : Boxed W g 22 (.slice none 0 0)) (hb1 : Boxed W (g + 1) 4 (.bool false)) (hbs : Boxed W (g + 1 + 1 + 1) 9 (.string b)) (hB : Below g w W) :
  KeepsFrom B W (((W.drewN d).setCell ⟨g, 0, none⟩ (.slice none 0 0)).setCell ⟨g + 1, 0, none⟩ (.bool false)) ∧
   (Boxed (((W.drewN d).setCell ⟨g, 0, none⟩ (.slice none 0 0)).setCell ⟨g + 1, 0, none⟩ (.bool false)) g 22 (.slice none 0 0) ∧
    Boxed (((W.drewN d).setCell ⟨g, 0, none⟩ (.slice none 0 0)).setCell ⟨g + 1, 0, none⟩ (.bool false)) (g + 1) 4 (.bool false) ∧
    Boxed (((W.drewN d).setCell ⟨g, 0, none⟩ (.slice none 0 0)).setCell ⟨g + 1, 0, none⟩ (.bool false)) (g + 1 + 1 + 1) 9 (.string b)) ∧
   Below g w (((W.drewN d).setCell ⟨g, 0, none⟩ (.slice none 0 0)).setCell ⟨g + 1, 0, none⟩ (.bool false)) := by
 have K : KeepsOthers W (W.drewN d) := ⟨Nat.le_refl _, fun _ _ h _ => h⟩;have b0 : Boxed (W.drewN d) g 22 (.slice none 0 0) := hb0;have b1 : Boxed (W.drewN d) (g + 1) 4 (.bool false) := hb1;have bs : Boxed (W.drewN d) (g + 1 + 1 + 1) 9 (.string b) := hbs;exact ⟨((K.trans (KeepsOthers.setCell _ _ _)).trans (KeepsOthers.setCell _ _ _)).from B,
  ⟨(b0.set _).other (by omega) _, (b1.other (by omega) _).set _, (bs.other (by omega) _).other (by omega) _⟩,
  ((below_drewN hB d).setCell (p := ⟨g, 0, none⟩) (Nat.le_refl _) _).setCell (p := ⟨g + 1, 0, none⟩) (Nat.le_succ _) _⟩
theorem box_app {W w1 : World} {B2 B t T n k : Nat} {xs : List Value} {v u v' : Value} {o : Obj} (hb : Boxed W B t u) (hte : t ≠ T) (hrow : W.ownsRow n T 1 v k xs) (hgrow : (W.alloc o).grownBy w1 v.ownBlock) (hne : B ≠ B2) : Boxed (w1.setCell ⟨B2, 0, none⟩ v') B t u :=
 ((hb.alloc o).kept hgrow (hb.not_row hte hrow)).other hne v'
theorem al_good (Bk : Nat) {W w w1 : World} {b : ByteArray} {g : Nat} {al : List UInt8} {a : UInt8} {v v' : Value} {o : Obj} (d : Nat)
  (hb0 : Boxed W g 22 (.slice none 0 0)) (hb1 : Boxed W (g + 1) 4 (.bool false)) (hbs : Boxed W (g + 1 + 1 + 1) 9 (.string b)) (hB : Below g w W) (hgW : g ≤ W.heap.size)
  (hv : Boxed W (g + 1 + 1) 22 v) (hrow : W.ownsRow g 5 1 v al.length (al.map u8c)) (hown' : w1.ownsRow g 5 1 v' (al.length + 1) (al.map u8c ++ [u8c a])) (hgrow : ((W.drewN d).alloc o).grownBy w1 v.ownBlock) :
  KeepsFrom Bk W (w1.setCell ⟨g + 1 + 1, 0, none⟩ v') ∧ KeepY g (g + 1 + 1 + 1) W (w1.setCell ⟨g + 1 + 1, 0, none⟩ v') ∧
   (∃ u, Boxed (w1.setCell ⟨g + 1 + 1, 0, none⟩ v') (g + 1 + 1) 22 u ∧ (w1.setCell ⟨g + 1 + 1, 0, none⟩ v').ownsRow g 5 1 u (al ++ [a]).length ((al ++ [a]).map u8c)) ∧
   (Boxed (w1.setCell ⟨g + 1 + 1, 0, none⟩ v') g 22 (.slice none 0 0) ∧ Boxed (w1.setCell ⟨g + 1 + 1, 0, none⟩ v') (g + 1) 4 (.bool false) ∧ Boxed (w1.setCell ⟨g + 1 + 1, 0, none⟩ v') (g + 1 + 1 + 1) 9 (.string b)) ∧
   Below g w (w1.setCell ⟨g + 1 + 1, 0, none⟩ v') := by
 have K : KeepsOthers W (W.drewN d) := ⟨Nat.le_refl _, fun _ _ h _ => h⟩;have v0 : Boxed (W.drewN d) (g + 1 + 1) 22 v := hv;have b0 : Boxed (W.drewN d) g 22 (.slice none 0 0) := hb0;have b1 : Boxed (W.drewN d) (g + 1) 4 (.bool false) := hb1;have bs : Boxed (W.drewN d) (g + 1 + 1 + 1) 9 (.string b) := hbs;have hr : (W.drewN d).ownsRow g 5 1 v al.length (al.map u8c) := hrow;obtain ⟨_, a2, a3, a4, a5⟩ := v0.appended (by decide) hr hgW (by omega) hown' hgrow;have s' := box_app (B2 := g + 1 + 1) (v' := v') bs (by decide) hr hgrow (by omega)
 have hbw : Below g W (w1.setCell ⟨g + 1 + 1, 0, none⟩ v') := (below_drewN (Below.refl g W) d).trans a5;refine ⟨(K.trans a4).from Bk, ?_, ⟨_, a2, ?_⟩, ⟨box_app b0 (by decide) hr hgrow (by omega), box_app b1 (by decide) hr hgrow (by omega), s'⟩, hB.trans hbw⟩
 ·have hk := keepY_app (n₀ := g) (Bs := g + 1 + 1 + 1) (W := W.drewN d) a5 ((show (w1.setCell ⟨g + 1 + 1, 0, none⟩ v').heap[g + 1 + 1 + 1]? = _ from s').trans (show (W.drewN d).heap[g + 1 + 1 + 1]? = _ from bs).symm) ⟨_, v0⟩ (by decide) (by decide) hr hgrow;exact ⟨⟨hbw, hk.1.2⟩, hk.2⟩
 ·rw [List.length_append, List.map_append];exact a3
def AlignsR (w : World) (o : Option (List UInt8)) (e : Ending) (w' : World) : Prop := Below w.heap.size w w' ∧ match o with
 | some l => ∃ v, e = .returned (.tuple #[v, .bool true]) ∧ w'.ownsRow w.heap.size 5 1 v l.length (l.map u8c)
 | none => e = .returned (.tuple #[.slice none 0 0, .bool false])
theorem aligns_any (s : ByteArray) (w : World) (hs : s.size ≤ 1000000) (hm : MaxB w) :
  Calls Tryz.prog 91 #[.string s] w (AlignsR w (alignsL s)) := by
 obtain ⟨m, hmm⟩ := hm;have hm : MaxB w := ⟨m, hmm⟩;have HCn := hdn fun (w' : World) (hb : Below w.heap.size w w') => Tryz.strings_Contains s ⟨#[124]⟩ m w' (by omega) ((hb.cell (p := ⟨0, 0, none⟩) (World.block_lt_of_cell? w _ hmm)).trans hmm);refine (callsIn_wide (n := 10)).1 ?_;refine callsIn_of_wp_marks Tryz.func91 rfl trivial ?_ rfl
 simp only [Tryz.ntmps91, List.size_toArray, List.length_cons, List.length_nil, Nat.reduceAdd, Nat.reduceSub, Array.replicate_succ, Array.replicate_zero, List.push_toArray, List.append_toArray, List.nil_append, List.cons_append];have hC0 := HCn.out ((w.alloc (.cells #[.slice none 0 0] 22)).alloc (.cells #[.bool false] 4)) (((Below.refl _ w).alloc (Nat.le_refl _) _).alloc (by simp) _);obtain ⟨CB, hCB⟩ : ∃ CB, Lib.contains s.data.toList (⟨#[124]⟩ : ByteArray).data.toList = CB := ⟨_, rfl⟩;rw [hCB] at hC0
 cases CB with
 | false =>
  have hv : alignsL s = none := by
   unfold alignsL;rw [show (⟨#[124]⟩ : ByteArray).data.toList = [124] from rfl, contains_bar] at hCB;rw [if_neg (of_decide_eq_false hCB)]
  gi_wp2_with (refine ⟨trivial, ?_⟩; gi_at_call 96; refine (callsIn_wide.2 hC0).mono ?_; rintro e w1 ⟨rfl, rfl⟩)
  have c0 := ((Boxed.new w 22 (.slice none 0 0)).alloc (.cells #[.bool false] 4)).cell;have c1 := (Boxed.new (w.alloc (.cells #[.slice none 0 0] 22)) 4 (.bool false)).cell;rw [World.size_alloc] at c1;refine ⟨_, ?_, ((Below.refl _ w).alloc (Nat.le_refl _) _).alloc (by simp) _, by rw [hv]⟩;simp [results, Tryz.f91, go_sem, c0, c1]
 | true =>
  have hmem : (124 : UInt8) ∈ s.data.toList := by
   rw [show (⟨#[124]⟩ : ByteArray).data.toList = [124] from rfl, contains_bar] at hCB;exact of_decide_eq_true hCB
  have hv : alignsL s = alignsF (lofs ((cutCells (barS s.data.toList) 0 []).map cellT)) := by
   unfold alignsL;rw [if_pos hmem, lofs_cells];rfl
  rw [hv];have hCe := cells_any s;obtain ⟨b, hbd⟩ : ∃ b : ByteArray, (⟨(barS s.data.toList).toArray⟩ : ByteArray) = b := ⟨_, rfl⟩;have hbd2 : b.data.toList = barS s.data.toList := by rw [<- hbd]
  have hbz : b.size ≤ 1000000 := by
   have h1 := barS_len s.data.toList;have h2 : b.data.toList.length = b.size := lTq;have h3 : s.data.toList.length = s.size := lTq;rw [hbd2] at h2;omega
  rw [hbd] at hCe;rw [<- hbd2];clear hv hmem hCB
  gi_wp2_with (first
   | (refine ⟨trivial, ?_⟩; gi_at_call 96; refine (callsIn_wide.2 hC0).mono ?_; rintro e w1 ⟨rfl, rfl⟩)
   | (refine ⟨trivial, ?_⟩; gi_at_call 79; refine (callsIn_wide.2 (hCe _ hs)).mono ?_; rintro e w2 ⟨rfl, hbx, hb2⟩))
  have z0 := ((Boxed.new w 22 (.slice none 0 0)).alloc (.cells #[.bool false] 4)).alloc (.cells #[.slice none 0 0] 22);have z1 := (Boxed.new (w.alloc (.cells #[.slice none 0 0] 22)) 4 (.bool false)).alloc (.cells #[.slice none 0 0] 22);have z2 := Boxed.new ((w.alloc (.cells #[.slice none 0 0] 22)).alloc (.cells #[.bool false] 4)) 22 (.slice none 0 0)
  have hW1 : Below w.heap.size w (((w.alloc (.cells #[.slice none 0 0] 22)).alloc (.cells #[.bool false] 4)).alloc (.cells #[.slice none 0 0] 22)) := (((Below.refl _ w).alloc (Nat.le_refl _) _).alloc (by simp) _).alloc (by simp; omega) _;obtain ⟨W1, hWW⟩ : ∃ W1, ((w.alloc (.cells #[.slice none 0 0] 22)).alloc (.cells #[.bool false] 4)).alloc (.cells #[.slice none 0 0] 22) = W1 := ⟨_, rfl⟩;have hsz : W1.heap.size = w.heap.size + 1 + 1 + 1 := by rw [<- hWW]; simp
  simp only [World.size_alloc] at z1 z2;rw [hWW] at z0 z1 z2 hW1 hbx hb2;have z0' : Boxed w2 w.heap.size 22 (.slice none 0 0) := (hb2.block _ (by omega)).trans z0;have z1' : Boxed w2 (w.heap.size + 1) 4 (.bool false) := (hb2.block _ (by omega)).trans z1;have z2' : Boxed w2 (w.heap.size + 1 + 1) 22 (.slice none 0 0) := (hb2.block _ (by omega)).trans z2;have hBw : Below w.heap.size w w2 := hW1.trans (hb2.mono hW1.size);have hlt2 : W1.heap.size < w2.heap.size := (gSq.1 hbx).1;rw [hsz] at hbx hlt2;clear hWW z0 z1 z2 hb2 hCe
  obtain ⟨i0, hi, hz0, hz1, hz2⟩ := info_parts u8_infoR;have hcl := cut_len b.data.toList 0 [];have hbl2 : b.data.toList.length = b.size := lTq;have hmX : MaxX w.heap.size w2 := ⟨w, hm, Nat.le_refl _, hBw⟩;refine wpIn_rangeFunc_ownG rfl (by omega) (gf := 117) (lb := #[.pointer (some ⟨w.heap.size + 1 + 1 + 1, 0, none⟩)]) rfl trivial (enters_of Tryz.func117 (by kernel_rfl) rfl)
   (cells_stops 9 (w.heap.size + 1 + 1 + 1) w.heap.size b w2 hbz hlt2 hBw.size hbx hmX) KeepY.trans (keepY_b hBw.size hlt2) (Below.refl _ _) (fun _ => rfl)
   (fun pre W => (((∃ v, Boxed W (w.heap.size + 1 + 1) 22 v ∧ W.ownsRow w.heap.size 5 1 v ((alignsF (lofs (sbs pre))).getD []).length (((alignsF (lofs (sbs pre))).getD []).map u8c) ∧ (alignsF (lofs (sbs pre))).isSome = true) ∧ (Boxed W w.heap.size 22 (.slice none 0 0) ∧ (Boxed W (w.heap.size + 1) 4 (.bool false) ∧ Boxed W (w.heap.size + 1 + 1 + 1) 9 (.string b)))) ∧ Below w.heap.size w W))
   (fun c pre W => ((c = .ret ∧ alignsF (lofs (sbs pre)) = none) ∧ (Boxed W w.heap.size 22 (.slice none 0 0) ∧ (Boxed W (w.heap.size + 1) 4 (.bool false) ∧ Boxed W (w.heap.size + 1 + 1 + 1) 9 (.string b)))) ∧ Below w.heap.size w W)
   (OwnFrom.and (OwnFrom.and (Own.from (holdsRow_own w.heap.size (w.heap.size + 1 + 1) 22 5 1 (fun pre : List Sb => ((alignsF (lofs (sbs pre))).getD []).length) (fun pre => ((alignsF (lofs (sbs pre))).getD []).map u8c) (fun pre _ => (alignsF (lofs (sbs pre))).isSome = true)) _) (OwnFrom.and (Own.from (boxed_own _ _ (fun _ => .slice none 0 0)) _) (OwnFrom.and (Own.from (boxed_own _ _ (fun _ => .bool false)) _) (Own.from (boxed_own _ _ (fun _ => .string b)) _)))) (ownFrom_below (Nat.le_refl _) hBw.size))
   (fun c => OwnFrom.and (OwnFrom.and (ownFrom_pure _ (fun pre : List Sb => c = .ret ∧ alignsF (lofs (sbs pre)) = none)) (OwnFrom.and (Own.from (boxed_own _ _ (fun _ => .slice none 0 0)) _) (OwnFrom.and (Own.from (boxed_own _ _ (fun _ => .bool false)) _) (Own.from (boxed_own _ _ (fun _ => .string b)) _)))) (ownFrom_below (Nat.le_refl _) hBw.size))
   ⟨⟨⟨_, z2', World.ownsRow_nil _ _ _ _, rfl⟩, z0', z1', hbx⟩, hBw⟩
   (fun x => { tmps := #[.string s, undef, .pointer (some ⟨w.heap.size, 0, none⟩), .pointer (some ⟨w.heap.size + 1, 0, none⟩), .pointer (some ⟨w.heap.size + 1 + 1, 0, none⟩), .string x.1, undef, undef, undef, undef, undef, .string s, .bool true, .bool false, .string s, .func (.func 117) #[] #[.pointer (some ⟨w.heap.size + 1 + 1 + 1, 0, none⟩)], .string x.1, undef, undef, undef, undef, undef, undef, undef, undef, undef, undef, undef, undef, undef, undef, undef, undef, undef, undef, undef, undef, undef, undef, undef, undef, undef, undef, undef, undef, undef, undef, undef, undef, undef, undef, undef, undef, undef, undef, undef, undef, undef, undef, undef, undef, undef, undef, undef, undef, undef, undef, undef, undef, undef, undef, undef], defers := [] }) ?assign ?body ?done ?stop
  case assign =>
   intro l x W K hK
   gi_wp2
   exact hK
  case body =>
   rintro l pre x W ⟨⟨⟨v, hv, hrow, hsome⟩, hb0, hb1, hbs⟩, hB⟩ hlt;have hc := hv.cell;have hc0 := hb0.cell;have hc1 := hb1.cell;have hf0 := hb0.frozen;have hf1 := hb1.frozen;obtain ⟨al, hal⟩ : ∃ al, alignsF (lofs (sbs pre)) = some al := Option.isSome_iff_exists.1 hsome;rw [hal] at hrow;simp only [Option.getD_some] at hrow;have hall : al.length ≤ 1000001 := by
    have h := alignsF_len _ _ hal;unfold lofs at h;rw [List.length_map, sbs_len] at h;omega
   have hnx : alignsF (lofs (sbs (pre ++ [x]))) = match alignC x.1.data.toList with | some a => some (al ++ [a]) | none => none := by
    rw [sbs_snoc];unfold lofs at hal ⊢;rw [List.map_append, List.map_singleton, alignsF_snoc, hal]
    cases alignC x.1.data.toList <;> rfl
   obtain ⟨c, hcz⟩ := x;have HN := hdn hnx;have hcn : c.data.toList.length = c.size := lTq;have hcx : c.size ≤ 1000000 := hcz;have ht1 : (Lib.trimB c.data.toList 58).length ≤ c.data.toList.length := trimB_len c.data.toList 58;obtain ⟨bare, hbare⟩ : ∃ bare : ByteArray, (⟨(Lib.trimB c.data.toList 58).toArray⟩ : ByteArray) = bare := ⟨_, rfl⟩;have hbd : bare.data.toList = Lib.trimB c.data.toList 58 := by rw [<- hbare]
   have hbn : bare.data.toList.length = bare.size := lTq;have hbr : bare.size ≤ c.size := by rw [<- hbn, hbd, <- hcn]; exact ht1
   obtain ⟨rest, hrest⟩ : ∃ rest : ByteArray, (⟨(Lib.trimB bare.data.toList 45).toArray⟩ : ByteArray) = rest := ⟨_, rfl⟩;have hrd : rest.data.toList = Lib.trimB bare.data.toList 45 := by rw [<- hrest]
   have HT1 := hdn (trim_c c bare 58 (by decide) hbare (by omega));have HT2 := hdn (trim_c bare rest 45 (by decide) hrest (by omega));have HP1' := fun W => Tryz.strings_HasPrefix c ⟨#[58]⟩ W;have HP2' := fun W => Tryz.strings_HasPrefix c ⟨#[58, 58]⟩ W;have HS1' := fun W => Tryz.strings_HasSuffix c ⟨#[58]⟩ W (by omega);have HS2' := fun W => Tryz.strings_HasSuffix c ⟨#[58, 58]⟩ W (by omega);obtain ⟨L, hL⟩ : ∃ L, Lib.hasPrefix c.data.toList (⟨#[58]⟩ : ByteArray).data.toList = L := ⟨_, rfl⟩;obtain ⟨R, hR⟩ : ∃ R, Lib.hasSuffix c.data.toList (⟨#[58]⟩ : ByteArray).data.toList = R := ⟨_, rfl⟩
   obtain ⟨P, hP⟩ : ∃ P, Lib.hasPrefix c.data.toList (⟨#[58, 58]⟩ : ByteArray).data.toList = P := ⟨_, rfl⟩;obtain ⟨S, hS⟩ : ∃ S, Lib.hasSuffix c.data.toList (⟨#[58, 58]⟩ : ByteArray).data.toList = S := ⟨_, rfl⟩;rw [hL] at HP1'; rw [hP] at HP2'; rw [hR] at HS1'; rw [hS] at HS2';have HP1 := hdn HP1'; have HP2 := hdn HP2'; have HS1 := hdn HS1'; have HS2 := hdn HS2';have HA := hdn (alignC_eq c bare rest L R P S hbd hrd hL hR hP hS);clear hnx hL hR hP hS hbare hrest hbd hrd ht1 HP1' HP2' HS1' HS2' hcn hbn;have HBad := fun d => al_bad w2.heap.size d hb0 hb1 hbs hB;have HBad := hdn HBad
   have HV := hdn fun d => (show Boxed (W.drewN d) (w.heap.size + 1 + 1) 22 v from hv);have HR := hdn fun d => (show (W.drewN d).ownsRow w.heap.size 5 1 v al.length (al.map u8c) from hrow)
   by_cases h1 : bare.size = 0
   ·have hb := bytes_no h1;have hN : alignsF (lofs (sbs (pre ++ [⟨c, hcz⟩]))) = none := by
     have h := HN.out;rw [HA.out, if_pos (.inl h1)] at h;exact h
    have HN := hdn hN;clear hN
    gi_wp2_with (first
    | ((try refine ⟨trivial, ?_⟩); gi_at_call 33; (with_reducible refine (CallsIn.inRound l (callsIn_wide.2 (HT1.out _))).mono ?_); rintro e w3 ⟨rfl, d3, rfl⟩)
    | ((try refine ⟨trivial, ?_⟩); gi_at_call 33; (with_reducible refine (CallsIn.inRound l (callsIn_wide.2 (HT2.out _))).mono ?_); rintro e w3 ⟨rfl, d4, rfl⟩)
    | ((try refine ⟨trivial, ?_⟩); gi_at_call 47; (with_reducible refine (CallsIn.inRound l (callsIn_wide.2 (HP1.out _))).mono ?_); rintro e w3 ⟨rfl, rfl⟩)
    | ((try refine ⟨trivial, ?_⟩); gi_at_call 47; (with_reducible refine (CallsIn.inRound l (callsIn_wide.2 (HP2.out _))).mono ?_); rintro e w3 ⟨rfl, rfl⟩)
    | ((try refine ⟨trivial, ?_⟩); gi_at_call 116; (with_reducible refine (CallsIn.inRound l (callsIn_wide.2 (HS1.out _))).mono ?_); rintro e w3 ⟨rfl, rfl⟩)
    | ((try refine ⟨trivial, ?_⟩); gi_at_call 116; (with_reducible refine (CallsIn.inRound l (callsIn_wide.2 (HS2.out _))).mono ?_); rintro e w3 ⟨rfl, rfl⟩)
    | (refine And.intro trivial ?_))
    exact ⟨(HBad.out d3).1, ⟨⟨rfl, HN.out⟩, (HBad.out d3).2.1⟩, (HBad.out d3).2.2⟩
   have hb := bytes_ne h1
   by_cases h2 : rest.size ≠ 0
   ·have hr := bytes_ne h2;have hN : alignsF (lofs (sbs (pre ++ [⟨c, hcz⟩]))) = none := by
     have h := HN.out;rw [HA.out, if_pos (.inr (.inl h2))] at h;exact h
    have HN := hdn hN;clear hN
    gi_wp2_with (first
    | ((try refine ⟨trivial, ?_⟩); gi_at_call 33; (with_reducible refine (CallsIn.inRound l (callsIn_wide.2 (HT1.out _))).mono ?_); rintro e w3 ⟨rfl, d3, rfl⟩)
    | ((try refine ⟨trivial, ?_⟩); gi_at_call 33; (with_reducible refine (CallsIn.inRound l (callsIn_wide.2 (HT2.out _))).mono ?_); rintro e w3 ⟨rfl, d4, rfl⟩)
    | ((try refine ⟨trivial, ?_⟩); gi_at_call 47; (with_reducible refine (CallsIn.inRound l (callsIn_wide.2 (HP1.out _))).mono ?_); rintro e w3 ⟨rfl, rfl⟩)
    | ((try refine ⟨trivial, ?_⟩); gi_at_call 47; (with_reducible refine (CallsIn.inRound l (callsIn_wide.2 (HP2.out _))).mono ?_); rintro e w3 ⟨rfl, rfl⟩)
    | ((try refine ⟨trivial, ?_⟩); gi_at_call 116; (with_reducible refine (CallsIn.inRound l (callsIn_wide.2 (HS1.out _))).mono ?_); rintro e w3 ⟨rfl, rfl⟩)
    | ((try refine ⟨trivial, ?_⟩); gi_at_call 116; (with_reducible refine (CallsIn.inRound l (callsIn_wide.2 (HS2.out _))).mono ?_); rintro e w3 ⟨rfl, rfl⟩)
    | (refine And.intro trivial ?_))
    exact ⟨(HBad.out _).1, ⟨⟨rfl, HN.out⟩, (HBad.out _).2.1⟩, (HBad.out _).2.2⟩
   have hr := bytes_no (Decidable.not_not.1 h2)
   by_cases h3 : 2 < c.size - bare.size
   ·have h3i : (2 : Int) < (c.size : Int) - (bare.size : Int) := by omega
    have hN : alignsF (lofs (sbs (pre ++ [⟨c, hcz⟩]))) = none := by
     have h := HN.out;rw [HA.out, if_pos (.inr (.inr (.inl h3)))] at h;exact h
    have HN := hdn hN;clear hN
    gi_wp2_with (first
    | ((try refine ⟨trivial, ?_⟩); gi_at_call 33; (with_reducible refine (CallsIn.inRound l (callsIn_wide.2 (HT1.out _))).mono ?_); rintro e w3 ⟨rfl, d3, rfl⟩)
    | ((try refine ⟨trivial, ?_⟩); gi_at_call 33; (with_reducible refine (CallsIn.inRound l (callsIn_wide.2 (HT2.out _))).mono ?_); rintro e w3 ⟨rfl, d4, rfl⟩)
    | ((try refine ⟨trivial, ?_⟩); gi_at_call 47; (with_reducible refine (CallsIn.inRound l (callsIn_wide.2 (HP1.out _))).mono ?_); rintro e w3 ⟨rfl, rfl⟩)
    | ((try refine ⟨trivial, ?_⟩); gi_at_call 47; (with_reducible refine (CallsIn.inRound l (callsIn_wide.2 (HP2.out _))).mono ?_); rintro e w3 ⟨rfl, rfl⟩)
    | ((try refine ⟨trivial, ?_⟩); gi_at_call 116; (with_reducible refine (CallsIn.inRound l (callsIn_wide.2 (HS1.out _))).mono ?_); rintro e w3 ⟨rfl, rfl⟩)
    | ((try refine ⟨trivial, ?_⟩); gi_at_call 116; (with_reducible refine (CallsIn.inRound l (callsIn_wide.2 (HS2.out _))).mono ?_); rintro e w3 ⟨rfl, rfl⟩)
    | (refine And.intro trivial ?_))
    exact ⟨(HBad.out _).1, ⟨⟨rfl, HN.out⟩, (HBad.out _).2.1⟩, (HBad.out _).2.2⟩
   have h3i : ¬ (2 : Int) < (c.size : Int) - (bare.size : Int) := by omega
   by_cases h4 : c.size - bare.size = 2
   ·have h4i : ((c.size : Int) - (bare.size : Int) == 2) = true := by rw [show (c.size : Int) - (bare.size : Int) = 2 by omega]; rfl
    cases L with
    | false =>
     have hN : alignsF (lofs (sbs (pre ++ [⟨c, hcz⟩]))) = none := by
      have h := HN.out;rw [HA.out, if_pos (.inr (.inr (.inr (.inl ⟨h4, fun h => by cases h.1⟩))))] at h;exact h
     have HN := hdn hN;clear hN
     gi_wp2_with (first
    | ((try refine ⟨trivial, ?_⟩); gi_at_call 33; (with_reducible refine (CallsIn.inRound l (callsIn_wide.2 (HT1.out _))).mono ?_); rintro e w3 ⟨rfl, d3, rfl⟩)
    | ((try refine ⟨trivial, ?_⟩); gi_at_call 33; (with_reducible refine (CallsIn.inRound l (callsIn_wide.2 (HT2.out _))).mono ?_); rintro e w3 ⟨rfl, d4, rfl⟩)
    | ((try refine ⟨trivial, ?_⟩); gi_at_call 47; (with_reducible refine (CallsIn.inRound l (callsIn_wide.2 (HP1.out _))).mono ?_); rintro e w3 ⟨rfl, rfl⟩)
    | ((try refine ⟨trivial, ?_⟩); gi_at_call 47; (with_reducible refine (CallsIn.inRound l (callsIn_wide.2 (HP2.out _))).mono ?_); rintro e w3 ⟨rfl, rfl⟩)
    | ((try refine ⟨trivial, ?_⟩); gi_at_call 116; (with_reducible refine (CallsIn.inRound l (callsIn_wide.2 (HS1.out _))).mono ?_); rintro e w3 ⟨rfl, rfl⟩)
    | ((try refine ⟨trivial, ?_⟩); gi_at_call 116; (with_reducible refine (CallsIn.inRound l (callsIn_wide.2 (HS2.out _))).mono ?_); rintro e w3 ⟨rfl, rfl⟩)
    | (refine And.intro trivial ?_))
     exact ⟨(HBad.out _).1, ⟨⟨rfl, HN.out⟩, (HBad.out _).2.1⟩, (HBad.out _).2.2⟩
    | true =>
     cases R with
     | false =>
      have hN : alignsF (lofs (sbs (pre ++ [⟨c, hcz⟩]))) = none := by
       have h := HN.out;rw [HA.out, if_pos (.inr (.inr (.inr (.inl ⟨h4, fun h => by cases h.2⟩))))] at h;exact h
      have HN := hdn hN;clear hN
      gi_wp2_with (first
    | ((try refine ⟨trivial, ?_⟩); gi_at_call 33; (with_reducible refine (CallsIn.inRound l (callsIn_wide.2 (HT1.out _))).mono ?_); rintro e w3 ⟨rfl, d3, rfl⟩)
    | ((try refine ⟨trivial, ?_⟩); gi_at_call 33; (with_reducible refine (CallsIn.inRound l (callsIn_wide.2 (HT2.out _))).mono ?_); rintro e w3 ⟨rfl, d4, rfl⟩)
    | ((try refine ⟨trivial, ?_⟩); gi_at_call 47; (with_reducible refine (CallsIn.inRound l (callsIn_wide.2 (HP1.out _))).mono ?_); rintro e w3 ⟨rfl, rfl⟩)
    | ((try refine ⟨trivial, ?_⟩); gi_at_call 47; (with_reducible refine (CallsIn.inRound l (callsIn_wide.2 (HP2.out _))).mono ?_); rintro e w3 ⟨rfl, rfl⟩)
    | ((try refine ⟨trivial, ?_⟩); gi_at_call 116; (with_reducible refine (CallsIn.inRound l (callsIn_wide.2 (HS1.out _))).mono ?_); rintro e w3 ⟨rfl, rfl⟩)
    | ((try refine ⟨trivial, ?_⟩); gi_at_call 116; (with_reducible refine (CallsIn.inRound l (callsIn_wide.2 (HS2.out _))).mono ?_); rintro e w3 ⟨rfl, rfl⟩)
    | (refine And.intro trivial ?_))
      exact ⟨(HBad.out _).1, ⟨⟨rfl, HN.out⟩, (HBad.out _).2.1⟩, (HBad.out _).2.2⟩
     | true =>
      cases P with
      | true =>
       have hN : alignsF (lofs (sbs (pre ++ [⟨c, hcz⟩]))) = none := by
        have h := HN.out;rw [HA.out, if_pos (.inr (.inr (.inr (.inr (.inl rfl)))))] at h;exact h
       have HN := hdn hN;clear hN
       gi_wp2_with (first
    | ((try refine ⟨trivial, ?_⟩); gi_at_call 33; (with_reducible refine (CallsIn.inRound l (callsIn_wide.2 (HT1.out _))).mono ?_); rintro e w3 ⟨rfl, d3, rfl⟩)
    | ((try refine ⟨trivial, ?_⟩); gi_at_call 33; (with_reducible refine (CallsIn.inRound l (callsIn_wide.2 (HT2.out _))).mono ?_); rintro e w3 ⟨rfl, d4, rfl⟩)
    | ((try refine ⟨trivial, ?_⟩); gi_at_call 47; (with_reducible refine (CallsIn.inRound l (callsIn_wide.2 (HP1.out _))).mono ?_); rintro e w3 ⟨rfl, rfl⟩)
    | ((try refine ⟨trivial, ?_⟩); gi_at_call 47; (with_reducible refine (CallsIn.inRound l (callsIn_wide.2 (HP2.out _))).mono ?_); rintro e w3 ⟨rfl, rfl⟩)
    | ((try refine ⟨trivial, ?_⟩); gi_at_call 116; (with_reducible refine (CallsIn.inRound l (callsIn_wide.2 (HS1.out _))).mono ?_); rintro e w3 ⟨rfl, rfl⟩)
    | ((try refine ⟨trivial, ?_⟩); gi_at_call 116; (with_reducible refine (CallsIn.inRound l (callsIn_wide.2 (HS2.out _))).mono ?_); rintro e w3 ⟨rfl, rfl⟩)
    | (refine And.intro trivial ?_))
       exact ⟨(HBad.out _).1, ⟨⟨rfl, HN.out⟩, (HBad.out _).2.1⟩, (HBad.out _).2.2⟩
      | false =>
       cases S with
       | true =>
        have hN : alignsF (lofs (sbs (pre ++ [⟨c, hcz⟩]))) = none := by
         have h := HN.out;rw [HA.out, if_pos (.inr (.inr (.inr (.inr (.inr rfl)))))] at h;exact h
        have HN := hdn hN;clear hN
        gi_wp2_with (first
    | ((try refine ⟨trivial, ?_⟩); gi_at_call 33; (with_reducible refine (CallsIn.inRound l (callsIn_wide.2 (HT1.out _))).mono ?_); rintro e w3 ⟨rfl, d3, rfl⟩)
    | ((try refine ⟨trivial, ?_⟩); gi_at_call 33; (with_reducible refine (CallsIn.inRound l (callsIn_wide.2 (HT2.out _))).mono ?_); rintro e w3 ⟨rfl, d4, rfl⟩)
    | ((try refine ⟨trivial, ?_⟩); gi_at_call 47; (with_reducible refine (CallsIn.inRound l (callsIn_wide.2 (HP1.out _))).mono ?_); rintro e w3 ⟨rfl, rfl⟩)
    | ((try refine ⟨trivial, ?_⟩); gi_at_call 47; (with_reducible refine (CallsIn.inRound l (callsIn_wide.2 (HP2.out _))).mono ?_); rintro e w3 ⟨rfl, rfl⟩)
    | ((try refine ⟨trivial, ?_⟩); gi_at_call 116; (with_reducible refine (CallsIn.inRound l (callsIn_wide.2 (HS1.out _))).mono ?_); rintro e w3 ⟨rfl, rfl⟩)
    | ((try refine ⟨trivial, ?_⟩); gi_at_call 116; (with_reducible refine (CallsIn.inRound l (callsIn_wide.2 (HS2.out _))).mono ?_); rintro e w3 ⟨rfl, rfl⟩)
    | (refine And.intro trivial ?_))
        exact ⟨(HBad.out _).1, ⟨⟨rfl, HN.out⟩, (HBad.out _).2.1⟩, (HBad.out _).2.2⟩
       | false =>
        have hN : alignsF (lofs (sbs (pre ++ [⟨c, hcz⟩]))) = some (al ++ [2]) := by
         have h := HN.out;rw [HA.out, if_neg (fun h => by rcases h with h | h | h | h | h | h; exact h1 h; exact h2 h; exact h3 h; exact h.2 ⟨rfl, rfl⟩; cases h; cases h)] at h;exact h
        have HN := hdn hN;clear hN
        gi_wp2_with (first
    | ((try refine ⟨trivial, ?_⟩); gi_at_call 33; (with_reducible refine (CallsIn.inRound l (callsIn_wide.2 (HT1.out _))).mono ?_); rintro e w3 ⟨rfl, d3, rfl⟩)
    | ((try refine ⟨trivial, ?_⟩); gi_at_call 33; (with_reducible refine (CallsIn.inRound l (callsIn_wide.2 (HT2.out _))).mono ?_); rintro e w3 ⟨rfl, d4, rfl⟩)
    | ((try refine ⟨trivial, ?_⟩); gi_at_call 47; (with_reducible refine (CallsIn.inRound l (callsIn_wide.2 (HP1.out _))).mono ?_); rintro e w3 ⟨rfl, rfl⟩)
    | ((try refine ⟨trivial, ?_⟩); gi_at_call 47; (with_reducible refine (CallsIn.inRound l (callsIn_wide.2 (HP2.out _))).mono ?_); rintro e w3 ⟨rfl, rfl⟩)
    | ((try refine ⟨trivial, ?_⟩); gi_at_call 116; (with_reducible refine (CallsIn.inRound l (callsIn_wide.2 (HS1.out _))).mono ?_); rintro e w3 ⟨rfl, rfl⟩)
    | ((try refine ⟨trivial, ?_⟩); gi_at_call 116; (with_reducible refine (CallsIn.inRound l (callsIn_wide.2 (HS2.out _))).mono ?_); rintro e w3 ⟨rfl, rfl⟩)
    | (gi_at_builtin; refine wpListIn_append_own _ rfl _ _ 22 rfl w.heap.size 5 i0 (.int .u8 0) 1 1 Tryz.underlying22 hi hz0 hz1 hz2 rfl (by decide) _ _ _ rfl ((HR.out (d3 + d4)).alloc _) ⟨(W.drewN (d3 + d4)).heap.size, 0, none⟩ 1 1 [.int .u8 2] rfl rfl (cell_one_new _ _ _) (by simp [Value.oneCell']) (by unfold maxLen; omega) (by omega) (by have := hB.size; simp; omega) ?_; intro v' w1 hown' hgrow _; obtain ⟨g', cap', rfl⟩ := ownsRow_succ hown'; obtain ⟨hv1, _⟩ := (HV.out (d3 + d4)).appended (by decide) (HR.out (d3 + d4)) hB.size (by omega) hown' hgrow; have hcg := hv1.cell; have hfg := hv1.frozen))
        have hN := HN.out;obtain ⟨q1, q2, ⟨u, q3, q4⟩, q5, q6⟩ := al_good w2.heap.size (a := 2) (d3 + d4) hb0 hb1 hbs hB hB.size hv hrow hown' hgrow;exact ⟨q1, q2, ⟨⟨u, q3, by rw [hN]; exact q4, by rw [hN]; rfl⟩, q5⟩, q6⟩
   ·have h4i : ((c.size : Int) - (bare.size : Int) == 2) = false := beq_eq_false_iff_ne.2 (by omega)
    cases P with
    | true =>
     have hN : alignsF (lofs (sbs (pre ++ [⟨c, hcz⟩]))) = none := by
      have h := HN.out;rw [HA.out, if_pos (.inr (.inr (.inr (.inr (.inl rfl)))))] at h;exact h
     have HN := hdn hN;clear hN
     gi_wp2_with (first
    | ((try refine ⟨trivial, ?_⟩); gi_at_call 33; (with_reducible refine (CallsIn.inRound l (callsIn_wide.2 (HT1.out _))).mono ?_); rintro e w3 ⟨rfl, d3, rfl⟩)
    | ((try refine ⟨trivial, ?_⟩); gi_at_call 33; (with_reducible refine (CallsIn.inRound l (callsIn_wide.2 (HT2.out _))).mono ?_); rintro e w3 ⟨rfl, d4, rfl⟩)
    | ((try refine ⟨trivial, ?_⟩); gi_at_call 47; (with_reducible refine (CallsIn.inRound l (callsIn_wide.2 (HP1.out _))).mono ?_); rintro e w3 ⟨rfl, rfl⟩)
    | ((try refine ⟨trivial, ?_⟩); gi_at_call 47; (with_reducible refine (CallsIn.inRound l (callsIn_wide.2 (HP2.out _))).mono ?_); rintro e w3 ⟨rfl, rfl⟩)
    | ((try refine ⟨trivial, ?_⟩); gi_at_call 116; (with_reducible refine (CallsIn.inRound l (callsIn_wide.2 (HS1.out _))).mono ?_); rintro e w3 ⟨rfl, rfl⟩)
    | ((try refine ⟨trivial, ?_⟩); gi_at_call 116; (with_reducible refine (CallsIn.inRound l (callsIn_wide.2 (HS2.out _))).mono ?_); rintro e w3 ⟨rfl, rfl⟩)
    | (refine And.intro trivial ?_))
     exact ⟨(HBad.out _).1, ⟨⟨rfl, HN.out⟩, (HBad.out _).2.1⟩, (HBad.out _).2.2⟩
    | false =>
     cases S with
     | true =>
      have hN : alignsF (lofs (sbs (pre ++ [⟨c, hcz⟩]))) = none := by
       have h := HN.out;rw [HA.out, if_pos (.inr (.inr (.inr (.inr (.inr rfl)))))] at h;exact h
      have HN := hdn hN;clear hN
      gi_wp2_with (first
    | ((try refine ⟨trivial, ?_⟩); gi_at_call 33; (with_reducible refine (CallsIn.inRound l (callsIn_wide.2 (HT1.out _))).mono ?_); rintro e w3 ⟨rfl, d3, rfl⟩)
    | ((try refine ⟨trivial, ?_⟩); gi_at_call 33; (with_reducible refine (CallsIn.inRound l (callsIn_wide.2 (HT2.out _))).mono ?_); rintro e w3 ⟨rfl, d4, rfl⟩)
    | ((try refine ⟨trivial, ?_⟩); gi_at_call 47; (with_reducible refine (CallsIn.inRound l (callsIn_wide.2 (HP1.out _))).mono ?_); rintro e w3 ⟨rfl, rfl⟩)
    | ((try refine ⟨trivial, ?_⟩); gi_at_call 47; (with_reducible refine (CallsIn.inRound l (callsIn_wide.2 (HP2.out _))).mono ?_); rintro e w3 ⟨rfl, rfl⟩)
    | ((try refine ⟨trivial, ?_⟩); gi_at_call 116; (with_reducible refine (CallsIn.inRound l (callsIn_wide.2 (HS1.out _))).mono ?_); rintro e w3 ⟨rfl, rfl⟩)
    | ((try refine ⟨trivial, ?_⟩); gi_at_call 116; (with_reducible refine (CallsIn.inRound l (callsIn_wide.2 (HS2.out _))).mono ?_); rintro e w3 ⟨rfl, rfl⟩)
    | (refine And.intro trivial ?_))
      exact ⟨(HBad.out _).1, ⟨⟨rfl, HN.out⟩, (HBad.out _).2.1⟩, (HBad.out _).2.2⟩
     | false =>
      cases L with
      | true =>
       cases R with
       | true =>
        have hN : alignsF (lofs (sbs (pre ++ [⟨c, hcz⟩]))) = some (al ++ [2]) := by
         have h := HN.out;rw [HA.out, if_neg (fun h => by rcases h with h | h | h | h | h | h; exact h1 h; exact h2 h; exact h3 h; exact h4 h.1; cases h; cases h)] at h;exact h
        have HN := hdn hN;clear hN
        gi_wp2_with (first
    | ((try refine ⟨trivial, ?_⟩); gi_at_call 33; (with_reducible refine (CallsIn.inRound l (callsIn_wide.2 (HT1.out _))).mono ?_); rintro e w3 ⟨rfl, d3, rfl⟩)
    | ((try refine ⟨trivial, ?_⟩); gi_at_call 33; (with_reducible refine (CallsIn.inRound l (callsIn_wide.2 (HT2.out _))).mono ?_); rintro e w3 ⟨rfl, d4, rfl⟩)
    | ((try refine ⟨trivial, ?_⟩); gi_at_call 47; (with_reducible refine (CallsIn.inRound l (callsIn_wide.2 (HP1.out _))).mono ?_); rintro e w3 ⟨rfl, rfl⟩)
    | ((try refine ⟨trivial, ?_⟩); gi_at_call 47; (with_reducible refine (CallsIn.inRound l (callsIn_wide.2 (HP2.out _))).mono ?_); rintro e w3 ⟨rfl, rfl⟩)
    | ((try refine ⟨trivial, ?_⟩); gi_at_call 116; (with_reducible refine (CallsIn.inRound l (callsIn_wide.2 (HS1.out _))).mono ?_); rintro e w3 ⟨rfl, rfl⟩)
    | ((try refine ⟨trivial, ?_⟩); gi_at_call 116; (with_reducible refine (CallsIn.inRound l (callsIn_wide.2 (HS2.out _))).mono ?_); rintro e w3 ⟨rfl, rfl⟩)
    | (gi_at_builtin; refine wpListIn_append_own _ rfl _ _ 22 rfl w.heap.size 5 i0 (.int .u8 0) 1 1 Tryz.underlying22 hi hz0 hz1 hz2 rfl (by decide) _ _ _ rfl ((HR.out (d3 + d4)).alloc _) ⟨(W.drewN (d3 + d4)).heap.size, 0, none⟩ 1 1 [.int .u8 2] rfl rfl (cell_one_new _ _ _) (by simp [Value.oneCell']) (by unfold maxLen; omega) (by omega) (by have := hB.size; simp; omega) ?_; intro v' w1 hown' hgrow _; obtain ⟨g', cap', rfl⟩ := ownsRow_succ hown'; obtain ⟨hv1, _⟩ := (HV.out (d3 + d4)).appended (by decide) (HR.out (d3 + d4)) hB.size (by omega) hown' hgrow; have hcg := hv1.cell; have hfg := hv1.frozen))
        have hN := HN.out;obtain ⟨q1, q2, ⟨u, q3, q4⟩, q5, q6⟩ := al_good w2.heap.size (a := 2) (d3 + d4) hb0 hb1 hbs hB hB.size hv hrow hown' hgrow;exact ⟨q1, q2, ⟨⟨u, q3, by rw [hN]; exact q4, by rw [hN]; rfl⟩, q5⟩, q6⟩
       | false =>
        have hN : alignsF (lofs (sbs (pre ++ [⟨c, hcz⟩]))) = some (al ++ [1]) := by
         have h := HN.out;rw [HA.out, if_neg (fun h => by rcases h with h | h | h | h | h | h; exact h1 h; exact h2 h; exact h3 h; exact h4 h.1; cases h; cases h)] at h;exact h
        have HN := hdn hN;clear hN
        gi_wp2_with (first
    | ((try refine ⟨trivial, ?_⟩); gi_at_call 33; (with_reducible refine (CallsIn.inRound l (callsIn_wide.2 (HT1.out _))).mono ?_); rintro e w3 ⟨rfl, d3, rfl⟩)
    | ((try refine ⟨trivial, ?_⟩); gi_at_call 33; (with_reducible refine (CallsIn.inRound l (callsIn_wide.2 (HT2.out _))).mono ?_); rintro e w3 ⟨rfl, d4, rfl⟩)
    | ((try refine ⟨trivial, ?_⟩); gi_at_call 47; (with_reducible refine (CallsIn.inRound l (callsIn_wide.2 (HP1.out _))).mono ?_); rintro e w3 ⟨rfl, rfl⟩)
    | ((try refine ⟨trivial, ?_⟩); gi_at_call 47; (with_reducible refine (CallsIn.inRound l (callsIn_wide.2 (HP2.out _))).mono ?_); rintro e w3 ⟨rfl, rfl⟩)
    | ((try refine ⟨trivial, ?_⟩); gi_at_call 116; (with_reducible refine (CallsIn.inRound l (callsIn_wide.2 (HS1.out _))).mono ?_); rintro e w3 ⟨rfl, rfl⟩)
    | ((try refine ⟨trivial, ?_⟩); gi_at_call 116; (with_reducible refine (CallsIn.inRound l (callsIn_wide.2 (HS2.out _))).mono ?_); rintro e w3 ⟨rfl, rfl⟩)
    | (gi_at_builtin; refine wpListIn_append_own _ rfl _ _ 22 rfl w.heap.size 5 i0 (.int .u8 0) 1 1 Tryz.underlying22 hi hz0 hz1 hz2 rfl (by decide) _ _ _ rfl ((HR.out (d3 + d4)).alloc _) ⟨(W.drewN (d3 + d4)).heap.size, 0, none⟩ 1 1 [.int .u8 1] rfl rfl (cell_one_new _ _ _) (by simp [Value.oneCell']) (by unfold maxLen; omega) (by omega) (by have := hB.size; simp; omega) ?_; intro v' w1 hown' hgrow _; obtain ⟨g', cap', rfl⟩ := ownsRow_succ hown'; obtain ⟨hv1, _⟩ := (HV.out (d3 + d4)).appended (by decide) (HR.out (d3 + d4)) hB.size (by omega) hown' hgrow; have hcg := hv1.cell; have hfg := hv1.frozen))
        have hN := HN.out;obtain ⟨q1, q2, ⟨u, q3, q4⟩, q5, q6⟩ := al_good w2.heap.size (a := 1) (d3 + d4) hb0 hb1 hbs hB hB.size hv hrow hown' hgrow;exact ⟨q1, q2, ⟨⟨u, q3, by rw [hN]; exact q4, by rw [hN]; rfl⟩, q5⟩, q6⟩
      | false =>
       cases R with
       | true =>
        have hN : alignsF (lofs (sbs (pre ++ [⟨c, hcz⟩]))) = some (al ++ [3]) := by
         have h := HN.out;rw [HA.out, if_neg (fun h => by rcases h with h | h | h | h | h | h; exact h1 h; exact h2 h; exact h3 h; exact h4 h.1; cases h; cases h)] at h;exact h
        have HN := hdn hN;clear hN
        gi_wp2_with (first
    | ((try refine ⟨trivial, ?_⟩); gi_at_call 33; (with_reducible refine (CallsIn.inRound l (callsIn_wide.2 (HT1.out _))).mono ?_); rintro e w3 ⟨rfl, d3, rfl⟩)
    | ((try refine ⟨trivial, ?_⟩); gi_at_call 33; (with_reducible refine (CallsIn.inRound l (callsIn_wide.2 (HT2.out _))).mono ?_); rintro e w3 ⟨rfl, d4, rfl⟩)
    | ((try refine ⟨trivial, ?_⟩); gi_at_call 47; (with_reducible refine (CallsIn.inRound l (callsIn_wide.2 (HP1.out _))).mono ?_); rintro e w3 ⟨rfl, rfl⟩)
    | ((try refine ⟨trivial, ?_⟩); gi_at_call 47; (with_reducible refine (CallsIn.inRound l (callsIn_wide.2 (HP2.out _))).mono ?_); rintro e w3 ⟨rfl, rfl⟩)
    | ((try refine ⟨trivial, ?_⟩); gi_at_call 116; (with_reducible refine (CallsIn.inRound l (callsIn_wide.2 (HS1.out _))).mono ?_); rintro e w3 ⟨rfl, rfl⟩)
    | ((try refine ⟨trivial, ?_⟩); gi_at_call 116; (with_reducible refine (CallsIn.inRound l (callsIn_wide.2 (HS2.out _))).mono ?_); rintro e w3 ⟨rfl, rfl⟩)
    | (gi_at_builtin; refine wpListIn_append_own _ rfl _ _ 22 rfl w.heap.size 5 i0 (.int .u8 0) 1 1 Tryz.underlying22 hi hz0 hz1 hz2 rfl (by decide) _ _ _ rfl ((HR.out (d3 + d4)).alloc _) ⟨(W.drewN (d3 + d4)).heap.size, 0, none⟩ 1 1 [.int .u8 3] rfl rfl (cell_one_new _ _ _) (by simp [Value.oneCell']) (by unfold maxLen; omega) (by omega) (by have := hB.size; simp; omega) ?_; intro v' w1 hown' hgrow _; obtain ⟨g', cap', rfl⟩ := ownsRow_succ hown'; obtain ⟨hv1, _⟩ := (HV.out (d3 + d4)).appended (by decide) (HR.out (d3 + d4)) hB.size (by omega) hown' hgrow; have hcg := hv1.cell; have hfg := hv1.frozen))
        have hN := HN.out;obtain ⟨q1, q2, ⟨u, q3, q4⟩, q5, q6⟩ := al_good w2.heap.size (a := 3) (d3 + d4) hb0 hb1 hbs hB hB.size hv hrow hown' hgrow;exact ⟨q1, q2, ⟨⟨u, q3, by rw [hN]; exact q4, by rw [hN]; rfl⟩, q5⟩, q6⟩
       | false =>
        have hN : alignsF (lofs (sbs (pre ++ [⟨c, hcz⟩]))) = some (al ++ [0]) := by
         have h := HN.out;rw [HA.out, if_neg (fun h => by rcases h with h | h | h | h | h | h; exact h1 h; exact h2 h; exact h3 h; exact h4 h.1; cases h; cases h)] at h;exact h
        have HN := hdn hN;clear hN
        gi_wp2_with (first
    | ((try refine ⟨trivial, ?_⟩); gi_at_call 33; (with_reducible refine (CallsIn.inRound l (callsIn_wide.2 (HT1.out _))).mono ?_); rintro e w3 ⟨rfl, d3, rfl⟩)
    | ((try refine ⟨trivial, ?_⟩); gi_at_call 33; (with_reducible refine (CallsIn.inRound l (callsIn_wide.2 (HT2.out _))).mono ?_); rintro e w3 ⟨rfl, d4, rfl⟩)
    | ((try refine ⟨trivial, ?_⟩); gi_at_call 47; (with_reducible refine (CallsIn.inRound l (callsIn_wide.2 (HP1.out _))).mono ?_); rintro e w3 ⟨rfl, rfl⟩)
    | ((try refine ⟨trivial, ?_⟩); gi_at_call 47; (with_reducible refine (CallsIn.inRound l (callsIn_wide.2 (HP2.out _))).mono ?_); rintro e w3 ⟨rfl, rfl⟩)
    | ((try refine ⟨trivial, ?_⟩); gi_at_call 116; (with_reducible refine (CallsIn.inRound l (callsIn_wide.2 (HS1.out _))).mono ?_); rintro e w3 ⟨rfl, rfl⟩)
    | ((try refine ⟨trivial, ?_⟩); gi_at_call 116; (with_reducible refine (CallsIn.inRound l (callsIn_wide.2 (HS2.out _))).mono ?_); rintro e w3 ⟨rfl, rfl⟩)
    | (gi_at_builtin; refine wpListIn_append_own _ rfl _ _ 22 rfl w.heap.size 5 i0 (.int .u8 0) 1 1 Tryz.underlying22 hi hz0 hz1 hz2 rfl (by decide) _ _ _ rfl ((HR.out (d3 + d4)).alloc _) ⟨(W.drewN (d3 + d4)).heap.size, 0, none⟩ 1 1 [.int .u8 0] rfl rfl (cell_one_new _ _ _) (by simp [Value.oneCell']) (by unfold maxLen; omega) (by omega) (by have := hB.size; simp; omega) ?_; intro v' w1 hown' hgrow _; obtain ⟨g', cap', rfl⟩ := ownsRow_succ hown'; obtain ⟨hv1, _⟩ := (HV.out (d3 + d4)).appended (by decide) (HR.out (d3 + d4)) hB.size (by omega) hown' hgrow; have hcg := hv1.cell; have hfg := hv1.frozen))
        have hN := HN.out;obtain ⟨q1, q2, ⟨u, q3, q4⟩, q5, q6⟩ := al_good w2.heap.size (a := 0) (d3 + d4) hb0 hb1 hbs hB hB.size hv hrow hown' hgrow;exact ⟨q1, q2, ⟨⟨u, q3, by rw [hN]; exact q4, by rw [hN]; rfl⟩, q5⟩, q6⟩
  case done =>
   rintro D ys W hD hys ⟨⟨⟨v, hv, hrow, hsome⟩, hb0, hb1, _⟩, hB⟩ hK;rw [hys] at hrow hsome;have hc := hv.cell;have hc0 := hb0.cell;have hc1 := hb1.cell;have hf0 := hb0.frozen;have hf1 := hb1.frozen;obtain ⟨A, c, rfl⟩ := bk_own_slice hrow;obtain ⟨al, hal⟩ : ∃ al, alignsF (lofs ((cutCells b.data.toList 0 []).map cellT)) = some al := Option.isSome_iff_exists.1 hsome;rw [hal] at hrow;simp only [Option.getD_some] at hrow;rw [hal] at hc hv;simp only [Option.getD_some] at hc hv
   gi_wp2
   have r1 := hrow.kept (grownBy_setCell' W w.heap.size (.slice A al.length c)) (.inr (hb0.not_row (by decide) hrow).symm);have b1 := hb1.other (B' := w.heap.size) (by omega) (.slice A al.length c);have r2 := r1.kept (grownBy_setCell' _ (w.heap.size + 1) (.bool true)) (.inr (b1.not_row (by decide) r1).symm);have b0 := (hb0.set (.slice A al.length c)).other (B' := w.heap.size + 1) (by omega) (.bool true);have b1 := b1.set (.bool true);have hD0 : D ≠ w.heap.size := fun e => by rw [e, show W.heap[w.heap.size]? = _ from hb0] at hK; cases hK
   have hD1 : D ≠ w.heap.size + 1 := fun e => by rw [e, show W.heap[w.heap.size + 1]? = _ from hb1] at hK; cases hK
   have hK2 := (Below.heap_setCell (W.setCell ⟨w.heap.size, 0, none⟩ (.slice A al.length c)) ⟨w.heap.size + 1, 0, none⟩ (.bool true) D hD1).trans ((Below.heap_setCell W ⟨w.heap.size, 0, none⟩ (.slice A al.length c) D hD0).trans hK);have hBB := (hB.setCell (p := ⟨w.heap.size, 0, none⟩) (Nat.le_refl _) (.slice A al.length c)).setCell (p := ⟨w.heap.size + 1, 0, none⟩) (Nat.le_succ _) (.bool true);obtain ⟨W2, hW2⟩ : ∃ W2, (W.setCell ⟨w.heap.size, 0, none⟩ (.slice A al.length c)).setCell ⟨w.heap.size + 1, 0, none⟩ (.bool true) = W2 := ⟨_, rfl⟩;rw [hW2] at r2 b0 b1 hK2 hBB ⊢
   have c0 := (b0.kept (grownBy_putObj' _ D (.deferred none)) (fun e => by cases e; exact hD0 rfl)).cell;have c1 := (b1.kept (grownBy_putObj' _ D (.deferred none)) (fun e => by cases e; exact hD1 rfl)).cell;refine ⟨by simp, .inl ⟨_, _, rfl, run_takeDeferred hK2, ?_⟩⟩;refine ⟨.tuple #[.slice A al.length c, .bool true], ?_, hBB.trans (belowK_b (w := w) (Nat.le_refl _) W2 D _ _ (by have := hBw.size; omega) hK2 rfl rfl), by rw [hal]; exact ⟨_, rfl, ownsRow_putObj r2 _ hK2 rfl⟩⟩;simp [results, Tryz.f91, go_sem, c0, c1]
  case stop =>
   rintro D c pre W hD hpre ⟨⟨⟨rfl, hnone⟩, hb0, hb1, _⟩, hB⟩ hK;have hb0' : Boxed (W.putObj D (.deferred none)) w.heap.size 22 (.slice none 0 0) := hb0.kept (grownBy_putObj' _ D _) (fun e => by cases e; rw [show W.heap[w.heap.size]? = _ from hb0] at hK; cases hK);have hb1' : Boxed (W.putObj D (.deferred none)) (w.heap.size + 1) 4 (.bool false) := hb1.kept (grownBy_putObj' _ D _) (fun e => by cases e; rw [show W.heap[w.heap.size + 1]? = _ from hb1] at hK; cases hK)
   gi_wp2
   refine ⟨by simp, .inl ⟨_, _, rfl, run_takeDeferred hK, ?_⟩⟩;have hc0 := hb0'.cell;have hc1 := hb1'.cell;have hno : alignsF (lofs ((cutCells b.data.toList 0 []).map cellT)) = none := by
    obtain ⟨r, hr⟩ := hpre;rw [<- hr];unfold lofs at hnone ⊢;rw [List.map_append];exact alignsF_none _ _ hnone
   refine ⟨.tuple #[.slice none 0 0, .bool false], ?_, hB.trans (belowK_b (w := w) (Nat.le_refl _) W D _ _ (by have := hBw.size; omega) hK rfl rfl), by rw [hno]⟩;simp [results, Tryz.f91, go_sem, hc0, hc1]
