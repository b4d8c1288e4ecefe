/- Newlines of one kind, plainly. -/
import Derived.Test.YtebfjlfkofibpaaGreatDoorBkP
import Derived.Lib.ReplaceLaws
import Derived.Lib.CountLaws
import Derived.Lib.SplitLaws
import Derived.RangeFuncNested
import Derived.RangeFuncBound
import Derived.RangeFuncCalls
import Derived.RangeFuncLeaves
import Derived.RangeFuncBox
import Derived.RangeFuncKeeps
import Derived.RangeFuncWrites
import Derived.Shelf.Abstract
import Derived.Shelf.RegionOpen
import Derived.WalkKit
import Derived.OwnWalkIn
import Derived.TacticsInMore
import Derived.LoopNIn
import Derived.LoopIn
import Derived.Maps.AppendAt
namespace Go.Proofs.YtebfjlfkofibpaaGreatDoor
set_option maxHeartbeats 8000000
set_option maxRecDepth 100000
section
def nlS : Bool -> List UInt8 -> List UInt8
 | _, [] => []
 | p, b :: r => if b = 13 then 10 :: nlS true r else if p = true ∧ b = 10 then nlS false r else b :: nlS false r
def nlL (l : List UInt8) : List UInt8 := nlS false l
def crL : List UInt8 -> List UInt8
 | [] => []
 | b :: r => if b = 13 ∧ r.head? = some 10 then crL r else b :: crL r
theorem crL_hit {r : List UInt8} (h : r.head? = some 10) : crL (13 :: r) = crL r := by
 rw [crL, if_pos ⟨rfl, h⟩]
theorem crL_miss {b : UInt8} {r : List UInt8} (h : ¬ (b = 13 ∧ r.head? = some 10)) : crL (b :: r) = b :: crL r := by
 rw [crL, if_neg h]
theorem nlS_13 (p : Bool) (r : List UInt8) : nlS p (13 :: r) = 10 :: nlS true r := by rw [nlS, if_pos rfl]
theorem nlS_10 (r : List UInt8) : nlS true (10 :: r) = nlS false r := by rw [nlS, if_neg (by decide), if_pos ⟨rfl, rfl⟩]
theorem nlS_else {p : Bool} {b : UInt8} {r : List UInt8} (h : b ≠ 13) (h2 : p = false ∨ b ≠ 10) : nlS p (b :: r) = b :: nlS false r := by
 rw [nlS, if_neg h, if_neg];rintro ⟨e1, e2⟩;rcases h2 with h2 | h2
 ·rw [h2] at e1; cases e1
 ·exact h2 e2
theorem nlS_any {y : UInt8} {r : List UInt8} (h : y ≠ 10) : nlS true (y :: r) = nlS false (y :: r) := by
 by_cases h13 : y = 13
 ·subst h13;rw [nlS_13, nlS_13]
 ·rw [nlS_else h13 (.inr h), nlS_else h13 (.inl rfl)]
def noCr (b : UInt8) : UInt8 := if b = 13 then 10 else b
theorem nlS_cr : ∀ l : List UInt8, nlS false l = (crL l).map noCr ∧ nlS true l = (if l.head? = some 10 then (crL l.tail).map noCr else (crL l).map noCr)
 | [] => ⟨rfl, rfl⟩
 | b :: r => by
  obtain ⟨i1, i2⟩ := nlS_cr r
  by_cases hb : b = 13
  ·subst hb;have e1 : nlS false (13 :: r) = (crL (13 :: r)).map noCr := by
    rw [nlS_13, i2]
    by_cases h : r.head? = some 10
    ·rw [if_pos h, crL_hit h]
     match r, h with
     | c :: r2, h =>
      have hc : c = 10 := by simpa using h
      subst hc;rw [crL_miss (by simp)];rfl
    ·rw [if_neg h, crL_miss (fun h2 => h h2.2)];rfl
   refine ⟨e1, ?_⟩;rw [if_neg (by simp), <- e1, nlS_13, nlS_13]
  ·have e1 : nlS false (b :: r) = (crL (b :: r)).map noCr := by
    rw [nlS_else hb (.inl rfl), crL_miss (fun h => hb h.1), List.map_cons, <- i1];unfold noCr;rw [if_neg hb]
   refine ⟨e1, ?_⟩
   by_cases h10 : b = 10
   ·subst h10;rw [if_pos (show (10 :: r).head? = some 10 from rfl), nlS_10, i1];rfl
   ·rw [if_neg (by simpa using h10), <- e1, nlS_else hb (.inr h10), nlS_else hb (.inl rfl)]
theorem rep_cons {sub new : List UInt8} {b : UInt8} {l : List UInt8} (h : sub.isPrefixOf (b :: l) = false) (K : Nat) : Lib.replaceK sub new K (b :: l) = b :: Lib.replaceK sub new K l := by
 cases K with
 | zero => rfl
 | succ K =>
  have hge := Lib.index_ge l sub;have hi : Lib.index (b :: l) sub = if Lib.index l sub == -1 then -1 else Lib.index l sub + 1 := by
   conv => lhs; unfold Lib.index
   rw [h];rfl
  unfold Lib.replaceK
  by_cases hm : Lib.index l sub = -1
  ·rw [hi, hm];rfl
  ·have hf : (Lib.index l sub == -1) = false := beq_eq_false_iff_ne.2 hm;rw [hf] at hi ⊢;have hi : Lib.index (b :: l) sub = Lib.index l sub + 1 := hi;have hf2 : (Lib.index (b :: l) sub == -1) = false := beq_eq_false_iff_ne.2 (by omega);rw [hf2, hi];obtain ⟨j, hj⟩ : ∃ j : Nat, Lib.index l sub = j := ⟨(Lib.index l sub).toNat, by omega⟩;rw [hj, show ((j : Int) + 1).toNat = j + 1 by omega, show ((j : Int)).toNat = j by omega, show j + 1 + sub.length = (j + sub.length) + 1 by omega];rfl
theorem rep_hit {sub new : List UInt8} {b : UInt8} {l : List UInt8} (h : sub.isPrefixOf (b :: l) = true) (K : Nat) : Lib.replaceK sub new (K + 1) (b :: l) = new ++ Lib.replaceK sub new K ((b :: l).drop sub.length) := by
 have hi : Lib.index (b :: l) sub = ((0 : Nat) : Int) := by
  unfold Lib.index;rw [if_pos h];rfl
 rw [Lib.replaceK_hit sub new K (b :: l) 0 hi];simp
theorem cnt_cons {sub : List UInt8} {b : UInt8} {l : List UInt8} (hs : sub ≠ []) (h : sub.isPrefixOf (b :: l) = false) : Lib.count (b :: l) sub = Lib.count l sub := by
 have hge := Lib.index_ge l sub;have hi : Lib.index (b :: l) sub = if Lib.index l sub == -1 then -1 else Lib.index l sub + 1 := by
  conv => lhs; unfold Lib.index
  rw [h];rfl
 by_cases hm : Lib.index l sub = -1
 ·rw [Lib.count_miss hm, Lib.count_miss (by rw [hi, hm]; rfl)]
 ·have hf : (Lib.index l sub == -1) = false := beq_eq_false_iff_ne.2 hm;rw [hf] at hi;have hi : Lib.index (b :: l) sub = Lib.index l sub + 1 := hi;obtain ⟨j, hj⟩ : ∃ j : Nat, Lib.index l sub = j := ⟨(Lib.index l sub).toNat, by omega⟩;rw [Lib.count_hit hs hj, Lib.count_hit (i := j + 1) hs (by rw [hi, hj]; omega), show j + 1 + sub.length = (j + sub.length) + 1 by omega];rfl
theorem cnt_hit {sub : List UInt8} {b : UInt8} {l : List UInt8} (hs : sub ≠ []) (h : sub.isPrefixOf (b :: l) = true) : Lib.count (b :: l) sub = 1 + Lib.count ((b :: l).drop sub.length) sub := by
 have hi : Lib.index (b :: l) sub = ((0 : Nat) : Int) := by
  unfold Lib.index;rw [if_pos h];rfl
 rw [Lib.count_hit hs hi, Nat.zero_add]
theorem repK_nil {sub new : List UInt8} (hs : sub ≠ []) (K : Nat) : Lib.replaceK sub new K [] = [] := by
 cases K with
 | zero => rfl
 | succ K =>
  unfold Lib.replaceK Lib.index
  cases sub with
  | nil => exact absurd rfl hs
  | cons c r => rfl
theorem rep_cr1 : ∀ (l : List UInt8) (K : Nat), Lib.count l [13] ≤ K -> Lib.replaceK [13] [10] K l = l.map noCr
 | [], K, _ => repK_nil (by simp) K
 | b :: l, K, h => by
  by_cases hb : b = 13
  ·subst hb;have hp : ([13] : List UInt8).isPrefixOf (13 :: l) = true := by simp [List.isPrefixOf]
   rw [cnt_hit (by simp) hp] at h;obtain ⟨K, rfl⟩ : ∃ K', K = K' + 1 := ⟨K - 1, by omega⟩;rw [rep_hit hp];have h : 1 + Lib.count l [13] ≤ K + 1 := h;have := rep_cr1 l K (by omega);show 10 :: Lib.replaceK [13] [10] K l = _;rw [this];rfl
  ·have hp : ([13] : List UInt8).isPrefixOf (b :: l) = false := by
    simp [List.isPrefixOf];exact fun e => hb e.symm
   rw [cnt_cons (by simp) hp] at h;rw [rep_cons hp, rep_cr1 l K h, List.map_cons];unfold noCr;rw [if_neg hb]
theorem rep_cr2 : ∀ (n : Nat) (l : List UInt8), l.length ≤ n -> ∀ (K : Nat), Lib.count l [13, 10] ≤ K -> Lib.replaceK [13, 10] [10] K l = crL l
 | _, [], _, K, _ => repK_nil (by simp) K
 | 0, _ :: _, h, _, _ => by simp at h
 | n + 1, b :: l, hn, K, h => by
  have hn : l.length ≤ n := by simpa using hn
  by_cases hb : b = 13 ∧ l.head? = some 10
  ·obtain ⟨rfl, hl⟩ := hb
   match l, hl, hn, h with
   | c :: r, hl, hn, h =>
    have hc : c = 10 := by simpa using hl
    subst hc;have hp : ([13, 10] : List UInt8).isPrefixOf (13 :: 10 :: r) = true := by simp [List.isPrefixOf]
    rw [cnt_hit (by simp) hp] at h;obtain ⟨K, rfl⟩ : ∃ K', K = K' + 1 := ⟨K - 1, by omega⟩;have h : 1 + Lib.count r [13, 10] ≤ K + 1 := h;rw [rep_hit hp];show 10 :: Lib.replaceK [13, 10] [10] K r = _;rw [rep_cr2 n r (by simp at hn; omega) K (by omega)];rw [crL_hit rfl, crL_miss (by simp)]
  ·have hp : ([13, 10] : List UInt8).isPrefixOf (b :: l) = false := by
    rw [Bool.eq_false_iff];intro e;apply hb
    cases l with
    | nil => simp [List.isPrefixOf] at e
    | cons c r =>
     simp [List.isPrefixOf] at e;exact ⟨e.1.symm, by rw [<- e.2]; rfl⟩
   rw [cnt_cons (by simp) hp] at h;rw [rep_cons hp, rep_cr2 n l hn K h]
   conv => rhs; unfold crL
   rw [if_neg hb]
theorem nl_two (l : List UInt8) (K K' : Nat) (h : Lib.count l [13, 10] ≤ K) (h' : Lib.count (crL l) [13] ≤ K') : Lib.replaceK [13] [10] K' (Lib.replaceK [13, 10] [10] K l) = nlL l := by
 rw [rep_cr2 _ l (Nat.le_refl _) K h, rep_cr1 _ K' h', nlL, (nlS_cr l).1]
theorem nlS_len : ∀ (l : List UInt8) (p : Bool), (nlS p l).length ≤ l.length
 | [], _ => Nat.le_refl _
 | b :: r, p => by
  have h1 := nlS_len r true;have h2 := nlS_len r false;unfold nlS;split
  ·simp; exact h1
  ·split
   ·simp; omega
   ·simp; exact h2
theorem nlL_len (l : List UInt8) : (nlL l).length ≤ l.length := nlS_len l false
theorem crL_len : ∀ l : List UInt8, (crL l).length ≤ l.length
 | [] => Nat.le_refl _
 | b :: r => by
  have := crL_len r;unfold crL;split <;> simp <;> omega
end
section
open Go.RowKit
theorem unbar_len : ∀ l : List UInt8, (unbar l).length ≤ l.length
 | [] => Nat.le_refl _
 | [c] => Nat.le_refl _
 | c :: d :: l => by
  rw [unbar];split
  ·have := unbar_len l;simp;omega
  ·have := unbar_len (d :: l);simp at this ⊢;omega
theorem rep_bar : ∀ (n : Nat) (l : List UInt8), l.length ≤ n -> ∀ (K : Nat), Lib.count l [92, 124] ≤ K -> Lib.replaceK [92, 124] [124] K l = unbar l
 | _, [], _, K, _ => by rw [repK_nil (by simp)]; rfl
 | _, [c], _, K, _ => by
  rw [rep_cons (by simp [List.isPrefixOf]), repK_nil (by simp)];rfl
 | 0, c :: d :: l, hn, _, _ => absurd hn (by simp)
 | n + 1, c :: d :: l, hn, K, hK => by
  rw [unbar]
  by_cases h : c = 92 ∧ d = 124
  ·obtain ⟨rfl, rfl⟩ := h;rw [if_pos ⟨rfl, rfl⟩];have hp : ([92, 124] : List UInt8).isPrefixOf (92 :: 124 :: l) = true := by simp [List.isPrefixOf]
   have hc := cnt_hit (sub := [92, 124]) (by simp) hp;have hd : ((92 : UInt8) :: 124 :: l).drop ([92, 124] : List UInt8).length = l := rfl;rw [hd] at hc;obtain ⟨K, rfl⟩ : ∃ K', K = K' + 1 := ⟨K - 1, by omega⟩;rw [rep_hit hp, hd, rep_bar n l (by simp at hn; omega) K (by omega)];rfl
  ·rw [if_neg h];have hp : ([92, 124] : List UInt8).isPrefixOf (c :: d :: l) = false := by
    cases hb : ([92, 124] : List UInt8).isPrefixOf (c :: d :: l) with
    | false => rfl
    | true =>
     exfalso;simp [List.isPrefixOf] at hb;exact h ⟨hb.1.symm, hb.2.symm⟩
   rw [rep_cons hp, rep_bar n (d :: l) (by simp at hn ⊢; omega) K (by rw [<- cnt_cons (by simp) hp]; exact hK)]
def cellT (c : List UInt8) : ByteArray := ⟨(blankT (unbar c)).toArray⟩
theorem rowL_eq (s : ByteArray) : rowL s = (cutCells (barS s.data.toList) 0 []).map cellT := by
 unfold rowL cellsL cellT;rw [List.map_map];rfl
def prevB (l : List UInt8) (i : Nat) : UInt8 := if i = 0 then 0 else l.getD (i - 1) 0
theorem cut_step (l : List UInt8) (i fr : Nat) (hi : i < l.length) (hf : fr ≤ i) : cutCells (l.drop i) (prevB l i) ((l.drop fr).take (i - fr)) =
  if l[i] = 124 ∧ prevB l i ≠ 92 then ((l.drop fr).take (i - fr)) :: cutCells (l.drop (i + 1)) (prevB l (i + 1)) [] else cutCells (l.drop (i + 1)) (prevB l (i + 1)) ((l.drop fr).take (i + 1 - fr)) := by
 rw [List.drop_eq_getElem_cons hi, cutCells];have hp : prevB l (i + 1) = l[i] := by
  unfold prevB;rw [if_neg (by omega)];simp [List.getD, List.getElem?_eq_getElem hi]
 have ht : (l.drop fr).take (i - fr) ++ [l[i]] = (l.drop fr).take (i + 1 - fr) := by
  rw [show i + 1 - fr = (i - fr) + 1 by omega, List.take_succ_eq_append_getElem (by rw [List.length_drop]; omega)]
  congr 2
  rw [List.getElem_drop]
  congr 1
  omega
 rw [hp, ht]
theorem cut_len : ∀ (l : List UInt8) (p : UInt8) (a : List UInt8), (cutCells l p a).length ≤ l.length + 1 ∧ 1 ≤ (cutCells l p a).length
 | [], _, _ => by simp [cutCells]
 | c :: l, p, a => by
  rw [cutCells];split
  ·have := cut_len l c [];simp;omega
  ·have := cut_len l c (a ++ [c]);simp;omega
theorem barS_len (l : List UInt8) : (barS l).length ≤ l.length := by
 have h1 : (blankT l).length ≤ l.length := trimS_len l [32, 9];have hd : (blankT l).dropLast.length ≤ (blankT l).length := by rw [List.length_dropLast]; omega
 have h2 : ((blankT l).drop 1).length ≤ (blankT l).length := by rw [List.length_drop]; omega
 have h3 : ((blankT l).drop 1).dropLast.length ≤ (blankT l).length := by rw [List.length_dropLast, List.length_drop]; omega
 unfold barS;simp only;split
 ·split
  ·omega
  ·omega
 ·split
  ·omega
  ·omega
end
section
open Go.RowKit Go.Shelf
attribute [local go_sem] Oper.semAt_some
theorem rw_room (k : Nat) : Fence.wide.room k := fun d h => by cases h
theorem rw_roundDepth {m m' : Nat} {P : Program} {l : Nat} {f : FuncId} {tmps : Array Value} {assign body : Code} {w : World} {R : Ending -> World -> Prop}
  (h : RoundIn Fence.wide m P l f tmps assign body w R) : RoundIn Fence.wide m' P l f tmps assign body w R := ⟨h.1, fun c cs _ => h.2 c cs (rw_room _)⟩
theorem rw_yieldDepth {m : Nat} (m' : Nat) {P : Program} {l : Nat} {args : Array Value} {W : World} {R : Ending -> World -> Prop} (h : YieldAt Fence.wide m P l args W R) : YieldAt Fence.wide m' P l args W R := by
 obtain ⟨fn, tmps, assign, body, hy, hR⟩ := h;exact ⟨fn, tmps, assign, body, hy, rw_roundDepth hR⟩
theorem bar_any (c : ByteArray) (w : World) (hc : c.size ≤ 1000000) (hm : MaxB w) : Calls Tryz.prog 44 #[.string c, .string ⟨#[92, 124]⟩, .string ⟨#[124]⟩] w (RpR w (unbar c.data.toList)) := by
 have hl : c.data.toList.length = c.size := lTq;have hcnt : Lib.countB c ⟨#[92, 124]⟩ ≤ c.size + 1 := by
  have := Lib.countB_le ⟨#[92, 124]⟩ (by decide) c.size c (Nat.le_refl _);omega
 have h := replaceAll_any c ⟨#[92, 124]⟩ ⟨#[124]⟩ w (by omega) hm (by decide) (by decide) (by show c.size + Lib.countB c ⟨#[92, 124]⟩ * 1 ≤ _; omega);rw [show (⟨#[92, 124]⟩ : ByteArray).data.toList = [92, 124] from rfl, show (⟨#[124]⟩ : ByteArray).data.toList = [124] from rfl, rep_bar _ _ (Nat.le_refl _) _ (Nat.le_refl _)] at h;exact h
theorem cell_in (n m l by_ : Nat) (c : ByteArray) (W : World) (hc : c.size ≤ 1000000) (hm : MaxB W) (hbox : W.heap[by_]? = some (.cells #[.func (.yield l) #[] #[]] 87 (0, 0))) (R : Ending -> World -> Prop)
  (hY : ∀ W1, Below W.heap.size W W1 -> YieldAt Fence.wide m Tryz.prog l #[.string (cellT c.data.toList)] W1 R) (hR : ∀ e W', R e W' -> ∃ b, e = .returned (.bool b)) :
  CallsIn Fence.wide n Tryz.prog 118 #[.string c, .pointer (some ⟨by_, 0, none⟩)] W R := by
 have hl : c.data.toList.length = c.size := lTq;have HRA := hdn fun w' (b : Below W.heap.size W w') => bar_any c w' hc (hm.later b);unfold RpR at HRA;obtain ⟨U, hU⟩ : ∃ U : ByteArray, (⟨(unbar c.data.toList).toArray⟩ : ByteArray) = U := ⟨_, rfl⟩;rw [hU] at HRA;have hUz : U.size ≤ 1000000 := by
  have := unbar_len c.data.toList;rw [<- hU];show (unbar c.data.toList).toArray.size ≤ _;simp;omega
 have HT := hdn fun w' => colsTrim_any U w' (by omega);unfold StrB at HT;have hcell : (⟨(blankT U.data.toList).toArray⟩ : ByteArray) = cellT c.data.toList := by rw [<- hU]; rfl
 rw [hcell] at HT;obtain ⟨X, hX⟩ : ∃ X, cellT c.data.toList = X := ⟨_, rfl⟩;rw [hX] at HT hY;have HY := hdn hY;have hlt := (gSq.1 hbox).1;have hc0 : ∀ w', Below W.heap.size W w' -> w'.cell? ⟨by_, 0, none⟩ = some (.func (.yield l) #[] #[]) := fun w' b => by
  have := (b.block by_ hlt).trans hbox;unfold World.cell?;rw [this];rfl
 have HC := hdn hc0;have q0 := hc0 W (Below.refl _ _);have mixed : Tryz.prog.follows .mixedOrders = true := by kernel_rfl
 clear hY hc0 hbox hcell hU;refine callsIn_of_wp Tryz.func118 rfl trivial ?_ rfl;simp only [Tryz.ntmps118, List.size_toArray, List.length_cons, List.length_nil, Nat.reduceAdd, Nat.reduceSub, Array.replicate_succ, Array.replicate_zero, List.push_toArray, List.append_toArray, List.nil_append, List.cons_append]
 gi_wp2_with fail
 gi_region_with_o (first
  | (refine ⟨trivial, fun h => absurd h (by decide), ?_⟩; gi_at_call 44; refine (callsIn_wide.2 (HRA.out _ (Below.refl _ W).drew)).mono ?_; rintro e w1 ⟨rfl, b1⟩; have B1 := hdn (show Below W.heap.size W w1 from (Below.refl _ W).drew.trans b1); have q1 := HC.out _ B1.out; clear b1)
  | (refine ⟨trivial, fun h => absurd h (by decide), ?_⟩; gi_at_call 113; refine (callsIn_wide.2 (HT.out _)).mono ?_; rintro e w2 ⟨rfl, b2⟩; have B2 := hdn (below_on B1.out b2); obtain ⟨fn, tmps, assign, body, hy, hRd⟩ := rw_yieldDepth (n - 1) (HY.out _ B2.out); have q2 := HC.out _ B2.out; clear b2)
  | (refine ⟨fun h => absurd h (by decide), ?_⟩; refine hRd.mono ?_; rintro e w3 hr3; obtain ⟨b3, rfl⟩ := hR _ _ hr3)
  | (refine hRd.mono ?_; rintro e w3 hr3; obtain ⟨b3, rfl⟩ := hR _ _ hr3))
 all_goals
  gi_wp2
  go_ret;exact hr3
abbrev Sb : Type := { x : ByteArray // x.size ≤ 1000000 }
def sbs (l : List Sb) : List ByteArray := l.map fun x => x.1
theorem sbs_snoc (l : List Sb) (x : Sb) : sbs (l ++ [x]) = sbs l ++ [x.1] := by unfold sbs; simp
theorem sbs_len (l : List Sb) : (sbs l).length = l.length := by unfold sbs; simp
theorem cellT_size (c : List UInt8) : (cellT c).size ≤ c.length := by
 have h1 := unbar_len c;have h2 : (blankT (unbar c)).length ≤ (unbar c).length := trimS_len (unbar c) [32, 9];show (blankT (unbar c)).toArray.size ≤ _;simp;omega
def BelB (n₀ Bs : Nat) (W W' : World) : Prop := Below n₀ W W' ∧ W'.heap[Bs]? = W.heap[Bs]?
theorem BelB.trans {n₀ Bs : Nat} {A B C : World} (h : BelB n₀ Bs A B) (k : BelB n₀ Bs B C) : BelB n₀ Bs A C := ⟨h.1.trans k.1, k.2.trans h.2⟩
theorem BelB.below {n₀ Bs : Nat} {A B C : World} (h : BelB n₀ Bs A B) (hA : n₀ ≤ A.heap.size) (hs : Bs < A.heap.size) (k : Below B.heap.size B C) : BelB n₀ Bs A C :=
 ⟨h.1.trans (k.mono (Nat.le_trans hA h.1.size)), (k.block Bs (Nat.lt_of_lt_of_le hs h.1.size)).trans h.2⟩
def KeepY (n₀ Bs : Nat) (W W' : World) : Prop := BelB n₀ Bs W W' ∧ ∀ (b : Nat) (cs : Array Value) (fr : Nat × Nat), W.heap[b]? = some (.cells cs 87 fr) -> W'.heap[b]? = W.heap[b]?
theorem KeepY.trans {n₀ Bs : Nat} {A B C : World} (h : KeepY n₀ Bs A B) (k : KeepY n₀ Bs B C) : KeepY n₀ Bs A C :=
 ⟨h.1.trans k.1, fun b cs fr hb => (k.2 b cs fr ((h.2 b cs fr hb).trans hb)).trans (h.2 b cs fr hb)⟩
theorem keepY_b {n₀ Bs : Nat} {w : World} (hn : n₀ ≤ w.heap.size) (hs : Bs < w.heap.size) (W : World) (l : Nat) (o o' : Obj) (hl : w.heap.size ≤ l) (h : W.heap[l]? = some o) (hc : o.isCells = false) (hw : o.isWalk = false) : KeepY n₀ Bs W (W.putObj l o') :=
 ⟨⟨belowK_b hn W l o o' hl h hc hw, World.putObj_heap_other (by omega)⟩, fun b cs fr hb => World.putObj_heap_other (fun e => by rw [e, h] at hb; cases hb; cases hc)⟩
def MaxX (n₀ : Nat) (W : World) : Prop := ∃ w1, MaxB w1 ∧ w1.heap.size ≤ n₀ ∧ Below w1.heap.size w1 W
theorem MaxX.max {n₀ : Nat} {W : World} (h : MaxX n₀ W) : MaxB W := by
 obtain ⟨w1, h1, _, h3⟩ := h;exact h1.later h3
theorem MaxX.later {n₀ : Nat} {W W' : World} (h : MaxX n₀ W) (hb : Below n₀ W W') : MaxX n₀ W' := by
 obtain ⟨w1, h1, h2, h3⟩ := h;exact ⟨w1, h1, h2, h3.trans (hb.mono h2)⟩
theorem below_grown0 {w w' : World} (h : Below w.heap.size w w') : w.grownBy w' none := ⟨h.os, h.tape, h.output, h.size, fun i hi _ => h.block i hi⟩
def CeW (n₀ Bs l by_ : Nat) (L : List UInt8) (J : List Sb -> World -> Prop) (W : World) (v4 v9 : Value) (wr : World) : Prop := ∃ (i fr : Nat) (pr : List (List UInt8)) (ps : List Sb),
 v9 = .int .i64 (i : Int) ∧ v4 = .int .i64 (fr : Int) ∧ fr ≤ i ∧ i ≤ L.length ∧ cutCells L 0 [] = pr ++ cutCells (L.drop i) (prevB L i) ((L.drop fr).take (i - fr)) ∧ (sbs ps = pr.map cellT ∧ J ps wr) ∧ BelB n₀ Bs W wr ∧ wr.heap[by_]? = some (.cells #[.func (.yield l) #[] #[]] 87 (0, 0)) ∧ W.heap.size ≤ wr.heap.size
theorem cells_stops (n Bs n₀ : Nat) (b : ByteArray) (w0 : World) (hbz : b.size ≤ 1000000) (hBs : Bs < w0.heap.size) (hn₀ : n₀ ≤ w0.heap.size) (hbox : w0.heap[Bs]? = some (.cells #[.string b] 9 (0, 0))) (hm : MaxX n₀ w0) :
  SeqStopsK Fence.wide n Tryz.prog 117 #[.pointer (some ⟨Bs, 0, none⟩)] (fun x : Sb => #[Value.string x.1]) (KeepY n₀ Bs) (fun xs => sbs xs = (cutCells b.data.toList 0 []).map cellT) (fun pre => sbs pre <+: (cutCells b.data.toList 0 []).map cellT) (cutCells b.data.toList 0 []).length w0 := by
 intro l J Jx W hW hJ hJx hY h0;have hl : b.data.toList.length = b.size := lTq;obtain ⟨L, hL⟩ : ∃ L, b.data.toList = L := ⟨_, rfl⟩;rw [hL] at hY hl ⊢;obtain ⟨X, hX⟩ : ∃ X, cutCells L 0 [] = X := ⟨_, rfl⟩;rw [hX] at hY ⊢;have hmW : MaxX n₀ W := hm.later (hW.mono hn₀);have hn₀W : n₀ ≤ W.heap.size := Nat.le_trans hn₀ hW.size;have hbW : W.heap[Bs]? = some (.cells #[.string b] 9 (0, 0)) := (hW.block Bs hBs).trans hbox;have hsW : Bs < W.heap.size := Nat.lt_of_lt_of_le hBs hW.size
 -- a cell is handed on at whatever world
 have hcell : ∀ (pr : List (List UInt8)) (ps : List Sb) (c : ByteArray) (wr : World), c.size ≤ 1000000 -> pr.length < X.length -> (sbs ps = pr.map cellT ∧ J ps wr) -> BelB n₀ Bs W wr -> wr.heap[W.heap.size]? = some (.cells #[.func (.yield l) #[] #[]] 87 (0, 0)) -> W.heap.size ≤ wr.heap.size ->
   CallsIn Fence.wide (n - 1) Tryz.prog 118 #[.string c, .pointer (some ⟨W.heap.size, 0, none⟩)] wr fun e W' =>
    (e = .returned (.bool true) ∧ (∃ ps', sbs ps' = (pr ++ [c.data.toList]).map cellT ∧ J ps' W') ∧ BelB n₀ Bs W W' ∧ W'.heap[W.heap.size]? = some (.cells #[.func (.yield l) #[] #[]] 87 (0, 0)) ∧ W.heap.size ≤ W'.heap.size) ∨ (e = .returned (.bool false) ∧ ∃ ps', sbs ps' = (pr ++ [c.data.toList]).map cellT ∧ Jx ps' W') := by
  intro pr ps c wr hc hlen hj hb hbx hz;refine cell_in (n - 1) (n - 1) l W.heap.size c wr hc (hmW.later hb.1).max hbx _ (fun W1 hb1 => ?_) (fun e W' h => h.elim (fun h => ⟨_, h.1⟩) (fun h => ⟨_, h.1⟩));have hj1 : J ps W1 := hJ _ wr W1 none hj.2 (below_grown0 hb1) (fun r e => by cases e);have hcz : (cellT c.data.toList).size ≤ 1000000 := by
   have h1 := cellT_size c.data.toList;have h2 : c.data.toList.length = c.size := lTq;omega
  have hps : sbs (ps ++ [⟨cellT c.data.toList, hcz⟩]) = (pr ++ [c.data.toList]).map cellT := by rw [sbs_snoc, hj.1, List.map_append, List.map_singleton]
  refine YieldAt.mono (hY ps ⟨cellT c.data.toList, hcz⟩ W1 hj1 (by rw [<- sbs_len, hj.1, List.length_map]; exact hlen)) fun e W' h => ?_;rcases h with ⟨h1, h2, h3⟩ | ⟨h1, h2⟩
  ·refine .inl ⟨h1, ⟨_, hps, h2⟩, (hb.below hn₀W hsW hb1).trans h3.1, ?_, ?_⟩
   ·have hk := (hb1.block W.heap.size (gSq.1 hbx).1).trans hbx;exact (h3.2 _ _ _ hk).trans hk
   ·have := hb1.size;have := h3.1.1.size;omega
  ·exact .inr ⟨h1, _, hps, h2⟩
 have HC := hdn hcell;have H0 := hdn (show CeW n₀ Bs l W.heap.size L J W (.int .i64 0) (.int .i64 0) (W.alloc (.cells #[.func (.yield l) #[] #[]] 87)) from ⟨0, 0, [], [], rfl, rfl, Nat.le_refl _, Nat.zero_le _, rfl, ⟨rfl, hJ [] W _ none h0 (World.grownBy_alloc W _ none) (fun r e => by cases e)⟩, ⟨(Below.refl n₀ W).alloc hn₀W _, Below.heap_alloc W _ _ hsW⟩, heap_alloc_new W _, by simp⟩);have HbW := hdn hbW;have q0 := cell_of_row W Bs 0 _ _ _ hbW;have hbsW : Bs < W.heap.size := hsW;have HX := hdn hX;have HL := hdn hL;clear hcell hbW hX hY hJ hJx hW hmW hm hbox h0 hL
 refine callsIn_of_wp Tryz.func117 rfl trivial ?_ rfl;simp only [Tryz.ntmps117, List.size_toArray, List.length_cons, List.length_nil, Nat.reduceAdd, Nat.reduceSub, Array.replicate_succ, Array.replicate_zero, List.push_toArray, List.append_toArray, List.nil_append, List.cons_append]
 gi_wp2
 gi_loopw [4, 9] (fun v4 v9 wr => CeW n₀ Bs l W.heap.size L J W v4 v9 wr) (fun _ v9 _ => b.size - (intOf v9).toNat)
 case atStart => exact H0.out
 case round =>
  obtain ⟨i, fr, pr, ps, rfl, rfl, hfi, hil, hcut, hj, hb, hbx, hz⟩ := hrel;clear H0;have qs := cell_of_row wr Bs 0 _ _ _ (hb.2.trans HbW.out)
  by_cases hlt : i < L.length
  ·have hlb : i < b.size := by omega
   have hli : (i : Int) < (b.size : Int) := by omega
   rw [cut_step L i fr hlt hfi] at hcut;have hLi : L[i] = b[i] := by
    have := HL.out;subst this;rfl
   rw [hLi] at hcut;have hJm := HC.out pr ps (b.extract fr i) wr (by rw [ByteArray.size_extract]; omega);have hex : (b.extract fr i).data.toList = (L.drop fr).take (i - fr) := by rw [Lib.extract_data, HL.out]
   rw [hex] at hJm;obtain ⟨acc, hacc⟩ : ∃ acc, (L.drop fr).take (i - fr) = acc := ⟨_, rfl⟩;rw [hacc] at hcut hJm;have HJ1 := hdn hj; have HB := hdn hb; have HBx := hdn hbx;have hcall : b[i] = 124 ∧ prevB L i ≠ 92 -> X = pr ++ acc :: cutCells (L.drop (i + 1)) (prevB L (i + 1)) [] := fun h => by rw [<- HX.out, hcut, if_pos h]
   have hgo : ¬ (b[i] = 124 ∧ prevB L i ≠ 92) -> CeW n₀ Bs l W.heap.size L J W (.int .i64 (fr : Int)) (.int .i64 ((i : Int) + 1)) wr := fun h => by
    refine ⟨i + 1, fr, pr, ps, by congr 1, rfl, by omega, hlt, ?_, hj, hb, hbx, hz⟩;rw [hcut, if_neg h]
   have HCall := hdn hcall; have HGo := hdn hgo; have HJm := hdn hJm;clear hj hb hcut hcall hgo hJm hbx hex hLi;have hprev : 0 < i -> prevB L i = b[i - 1]'(by omega) := fun h => by
    unfold prevB;rw [if_neg (by omega)];have := HL.out;subst this;show (b.data.toList[i - 1]?).getD 0 = _;rw [List.getElem?_eq_getElem (show i - 1 < b.data.toList.length by omega)];rfl
   by_cases h124 : b[i] = 124
   ·have i124 : ((b[i].toNat : Int) != 124) = false := by rw [h124]; rfl
    by_cases h0 : i = 0
    ·have hi0 : ¬ (0 : Int) < (i : Int) := by omega
     have hi0' : ¬ 0 < i := by omega
     have hx := HCall.out ⟨h124, by unfold prevB; rw [if_pos h0]; decide⟩;have HJx := hdn (HJm.out (by rw [hx, List.length_append]; simp) HJ1.out HB.out HBx.out hz);have Hx := hdn hx;clear HGo HCall HJm hprev h124 hx h0
     gi_wp2_with (first
      | (refine ⟨trivial, fun h => absurd h (by decide), ?_⟩; gi_at_call 118; refine HJx.out.mono ?_; rintro e W3 (⟨rfl, ⟨ps3, hps3, hJ3⟩, hb3, hbx3, hz3⟩ | ⟨rfl, ps3, hps3, hJ3⟩))
      | (refine ⟨fun h => absurd h (by decide), ?_⟩; gi_at_call 118; refine HJx.out.mono ?_; rintro e W3 (⟨rfl, ⟨ps3, hps3, hJ3⟩, hb3, hbx3, hz3⟩ | ⟨rfl, ps3, hps3, hJ3⟩)))
     ·gi_wp2
      go_roundw
      case rel => exact ⟨i + 1, i + 1, pr ++ [acc], ps3, by first | rfl | go_num, by first | rfl | go_num, Nat.le_refl _, by omega, by rw [HX.out, Hx.out, Nat.sub_self, List.take_zero]; simp, ⟨hps3, hJ3⟩, hb3, hbx3, hz3⟩
      case measure => simp [intOf]; omega
     ·gi_wp2
      refine bodyPost_ret (results_none rfl _ _ _) rfl ?_;exact ⟨⟨_, rfl⟩, .inr ⟨_, by rw [hps3, Hx.out]; exact ⟨(cutCells (L.drop (i + 1)) (prevB L (i + 1)) []).map cellT, by simp⟩, hJ3⟩⟩
    ·have hpj := hprev (by omega)
     by_cases h92 : prevB L i = 92
     ·have HG := hdn (HGo.out (fun h => h.2 h92));rw [hpj] at h92;obtain ⟨j, rfl⟩ : ∃ j, i = j + 1 := ⟨i - 1, by omega⟩;have h92' : b[j] = 92 := h92;have i92 : ((b[j].toNat : Int) == 92) = true := by rw [h92']; rfl
      have hjl : j < b.size := by omega
      clear HGo HCall HJm hprev h124 h92 h92' hpj
      gi_wp2
      go_roundw
      case rel => exact HG.out
      case measure => simp [intOf]; omega
     ·have hx := HCall.out ⟨h124, h92⟩;have HJx := hdn (HJm.out (by rw [hx, List.length_append]; simp) HJ1.out HB.out HBx.out hz);have Hx := hdn hx;rw [hpj] at h92;obtain ⟨j, rfl⟩ : ∃ j, i = j + 1 := ⟨i - 1, by omega⟩;have h92' : ¬ b[j] = 92 := h92;have i92 : ((b[j].toNat : Int) == 92) = false := by rw [show ((b[j].toNat : Int) == 92) = (b[j] == 92) from beqc b[j] 92]; exact beq_no h92'
      have hjl : j < b.size := by omega
      clear HGo HCall HJm hprev h124 h92 h92' hpj hx
      gi_wp2_with (first
       | (refine ⟨trivial, fun h => absurd h (by decide), ?_⟩; gi_at_call 118; refine HJx.out.mono ?_; rintro e W3 (⟨rfl, ⟨ps3, hps3, hJ3⟩, hb3, hbx3, hz3⟩ | ⟨rfl, ps3, hps3, hJ3⟩))
       | (refine ⟨fun h => absurd h (by decide), ?_⟩; gi_at_call 118; refine HJx.out.mono ?_; rintro e W3 (⟨rfl, ⟨ps3, hps3, hJ3⟩, hb3, hbx3, hz3⟩ | ⟨rfl, ps3, hps3, hJ3⟩)))
      ·gi_wp2
       go_roundw
       case rel => exact ⟨j + 1 + 1, j + 1 + 1, pr ++ [acc], ps3, by first | rfl | go_num, by first | rfl | go_num, Nat.le_refl _, by omega, by rw [HX.out, Hx.out, Nat.sub_self, List.take_zero]; simp, ⟨hps3, hJ3⟩, hb3, hbx3, hz3⟩
       case measure => simp [intOf]; omega
      ·gi_wp2
       refine bodyPost_ret (results_none rfl _ _ _) rfl ?_;exact ⟨⟨_, rfl⟩, .inr ⟨_, by rw [hps3, Hx.out]; exact ⟨(cutCells (L.drop (j + 1 + 1)) (prevB L (j + 1 + 1)) []).map cellT, by simp⟩, hJ3⟩⟩
   ·have i124 : ((b[i].toNat : Int) != 124) = true := by show (!((b[i].toNat : Int) == 124)) = true; rw [show ((b[i].toNat : Int) == 124) = (b[i] == 124) from beqc b[i] 124]; simp [h124]
    have HG := hdn (HGo.out (fun h => h124 h.1));clear HGo HCall HJm hprev h124
    gi_wp2
    go_roundw
    case rel => exact HG.out
    case measure => simp [intOf]; omega
  ·have hle : i = L.length := by omega
   have hni : ¬ (i : Int) < (b.size : Int) := by omega
   have hfb : (fr : Int) ≤ (b.size : Int) := by omega
   have hacc : (L.drop fr).take (i - fr) = L.drop fr := List.take_of_length_le (by rw [List.length_drop]; omega);rw [hle, List.drop_length, <- hle, hacc] at hcut;have hx : X = pr ++ [L.drop fr] := by rw [<- HX.out, hcut]; rfl
   have hex : (b.extract fr b.size).data.toList = L.drop fr := by rw [Lib.extract_data, HL.out, List.take_of_length_le (by rw [List.length_drop]; omega)]
   have hJm := HC.out pr ps (b.extract fr b.size) wr (by rw [ByteArray.size_extract]; omega) (by rw [hx, List.length_append]; simp) hj hb hbx hz;rw [hex, <- hx] at hJm;have HJx := hdn hJm;clear hj hb hbx hcut hJm hex hacc
   gi_wp2_with (first
    | (refine ⟨trivial, fun h => absurd h (by decide), ?_⟩; gi_at_call 118; refine HJx.out.mono ?_; rintro e W3 (⟨rfl, ⟨ps3, hps3, hJ3⟩, hb3, hbx3, hz3⟩ | ⟨rfl, ps3, hps3, hJ3⟩))
    | (refine ⟨fun h => absurd h (by decide), ?_⟩; gi_at_call 118; refine HJx.out.mono ?_; rintro e W3 (⟨rfl, ⟨ps3, hps3, hJ3⟩, hb3, hbx3, hz3⟩ | ⟨rfl, ps3, hps3, hJ3⟩)))
   ·gi_wp2
    go_end0
    exact ⟨⟨_, rfl⟩, .inl ⟨_, hps3, hJ3⟩⟩
   ·gi_wp2
    go_end0
    exact ⟨⟨_, rfl⟩, .inr ⟨_, by rw [hps3]; exact List.prefix_refl _, hJ3⟩⟩
end
