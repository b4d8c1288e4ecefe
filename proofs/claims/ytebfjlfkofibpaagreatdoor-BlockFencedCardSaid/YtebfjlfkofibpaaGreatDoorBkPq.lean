/- What is told of lines of letters. -/
import Derived.Test.YtebfjlfkofibpaaGreatDoorBkPp
import Derived.Test.YtebfjlfkofibpaaGreatDoorBkLp
import Derived.Test.YtebfjlfkofibpaaGreatDoorBkPa
namespace Go.Proofs.YtebfjlfkofibpaaGreatDoor
open Go.RowKit
theorem told_none {R : Rd} {d : Nd} (hn : R.nds = [d]) (hk : d.kids = []) (h10 : d.kind = 1) : ∀ f : Nat, 0 < f -> BD.kids (K := List (TR (f + 2))) (toldF f R 0) = [] ∧ deepT f R 0 = 0
 | 0, h => absurd h (by omega)
 | f + 1, _ => by
  have h0 : R.nd 0 = d := by unfold Rd.nd; rw [hn]; rfl
  constructor
  ·show (R.nd 0).kids.map (toldF f R) ++ rowsT (f + 1) (R.nd 0) = [];rw [h0, hk];unfold rowsT;rw [if_neg (by omega)];rfl
  ·unfold deepT;rw [h0, hk];unfold deepN;rw [if_neg (by omega)];rfl
theorem told_one {R : Rd} {d e : Nd} (hn : R.nds = [d, e]) (hk : d.kids = [1]) (h10 : d.kind = 1) (he : e.kids = []) (h5 : 5 ≤ e.kind ∧ e.kind ≤ 9) : ∀ f : Nat, 0 < f -> (∃ y : BD (List (TR (f + 1))), BD.kids (K := List (TR (f + 2))) (toldF f R 0) = [y] ∧ y.kind = e.kind ∧ y.text = e.text ∧ y.info = e.info) ∧ deepT f R 0 = 0
 | 0, h => absurd h (by omega)
 | f + 1, _ => by
  have h0 : R.nd 0 = d := by unfold Rd.nd; rw [hn]; rfl
  have h1 : R.nd 1 = e := by unfold Rd.nd; rw [hn]; rfl
  constructor
  ·refine ⟨toldF f R 1, ?_, ?_, ?_, ?_⟩
   ·show (R.nd 0).kids.map (toldF f R) ++ rowsT (f + 1) (R.nd 0) = _;rw [h0, hk];unfold rowsT;rw [if_neg (by omega)];rfl
   ·cases f <;> exact congrArg Nd.kind h1
   ·cases f <;> exact congrArg Nd.text h1
   ·cases f <;> exact congrArg Nd.info h1
  ·have hd1 : deepT f R 1 = 0 := by
    cases f with
    | zero => unfold deepT deepN; rw [h1, if_neg (by omega)]
    | succ f => unfold deepT deepN; rw [h1, he, if_neg (by omega)]; rfl
   unfold deepT;rw [h0, hk, List.map_cons, hd1];unfold deepN;rw [if_neg (by omega)];rfl
structure GoodS (s : ByteArray) (ls : List ByteArray) (cur : List UInt8) : Prop where
 eq : s.data.toList = flatN ls ++ cur
 ls : ∀ x ∈ ls, LetL x.data.toList
 cur : ∀ b ∈ cur, LetB b
theorem GoodS.nil : GoodS ⟨#[]⟩ [] [] := ⟨rfl, (fun x hx => by cases hx), fun b hb => by cases hb⟩
theorem GoodS.letter {s t : ByteArray} {ls : List ByteArray} {cur : List UInt8} {c : UInt8} (h : GoodS s ls cur) (hc : LetB c) (ht : t.data.toList = s.data.toList ++ [c]) : GoodS t ls (cur ++ [c]) :=
 ⟨by rw [ht, h.eq, List.append_assoc], h.ls, fun b hb => by
  rcases List.mem_append.1 hb with hb | hb
  ·exact h.cur b hb
  ·rw [List.mem_singleton.1 hb]; exact hc⟩
theorem GoodS.line {s t : ByteArray} {ls : List ByteArray} {cur : List UInt8} (h : GoodS s ls cur) (hc : cur ≠ []) (ht : t.data.toList = s.data.toList ++ [10]) : GoodS t (ls ++ [⟨cur.toArray⟩]) [] :=
 ⟨by rw [ht, h.eq, flatN_append]; simp [flatN], fun x hx => by
  rcases List.mem_append.1 hx with hx | hx
  ·exact h.ls x hx
  ·rw [List.mem_singleton.1 hx]; exact ⟨hc, h.cur⟩, fun b hb => by cases hb⟩
theorem GoodS.last {s : ByteArray} {ls : List ByteArray} {cur : List UInt8} (h : GoodS s ls cur) (hs : s.size ≠ 0) : ∃ b, s.data.toList.getLast? = some b ∧ (b = 10 ↔ cur = []) := by
 by_cases hc : cur = []
 ·subst hc;rcases snoc_cases ls with rfl | ⟨y, c, rfl⟩
  ·exfalso;have := h.eq;have h2 : s.data.toList.length = s.size := Array.length_toList;rw [this] at h2;exact hs h2.symm
  ·refine ⟨10, ?_, by simp⟩;rw [h.eq, flatN_append, List.append_nil];show (flatN y ++ (c.data.toList ++ 10 :: [])).getLast? = _;rw [<- List.append_assoc];exact List.getLast?_concat
 ·rcases snoc_cases cur with h0 | ⟨y, c, rfl⟩
  ·exact absurd h0 hc
  ·refine ⟨c, ?_, ?_⟩
   ·rw [h.eq, <- List.append_assoc];exact List.getLast?_concat
   ·have := h.cur c (by simp);unfold LetB at this;constructor
    ·intro e; subst e; exact absurd this (by decide)
    ·intro e; exact absurd e hc
def linesG (ls : List ByteArray) (cur : List UInt8) : List ByteArray := ls ++ (if cur = [] then [] else [⟨cur.toArray⟩])
theorem let_flat {x : ByteArray} (h : ∀ b ∈ x.data.toList, LetB b) : Flat1 x := fun b hb => by
 have := h b hb;unfold LetB at this;constructor <;> (intro e; subst e; exact absurd this (by decide))
theorem GoodS.lines {s : ByteArray} {ls : List ByteArray} {cur : List UInt8} (h : GoodS s ls cur) : linesL s = linesG ls cur ∧ ∀ x ∈ linesG ls cur, LetL x.data.toList := by
 have hl := lines_flat (cur := ⟨cur.toArray⟩) h.eq (fun x hx => let_flat (h.ls x hx).2) (let_flat h.cur);constructor
 ·rw [hl];unfold linesG
  by_cases hc : cur = []
  ·subst hc; rfl
  ·rw [if_neg hc, if_neg];intro e;apply hc;have : cur.toArray.size = 0 := e;simpa using this
 ·intro x hx;unfold linesG at hx;rcases List.mem_append.1 hx with hx | hx
  ·exact h.ls x hx
  ·by_cases hc : cur = []
   ·rw [if_pos hc] at hx; cases hx
   ·rw [if_neg hc, List.mem_singleton] at hx;rw [hx];exact ⟨hc, h.cur⟩
theorem flat_join : ∀ (ls : List ByteArray), ls ≠ [] -> flatN ls = joinLK ls ++ [10] := by
 intro ls
 induction ls with
 | nil => intro h; exact absurd rfl h
 | cons x r ih =>
  intro _
  cases r with
  | nil => simp [flatN, joinLK]
  | cons y r =>
   rw [flatN, ih (by simp)];simp [joinLK]
theorem GoodS.want {s : ByteArray} {ls : List ByteArray} {cur : List UInt8} (h : GoodS s ls cur) : (joinN (linesG ls cur)).data.toList = if cur = [] then s.data.toList.dropLast else s.data.toList := by
 show joinLK (linesG ls cur) = _;unfold linesG
 by_cases hc : cur = []
 ·subst hc;rw [if_pos rfl, if_pos rfl, List.append_nil, h.eq, List.append_nil]
  by_cases hl : ls = []
  ·subst hl; rfl
  ·rw [flat_join ls hl, List.dropLast_concat]
 ·rw [if_neg hc, if_neg hc, h.eq]
  by_cases hl : ls = []
  ·subst hl; simp [flatN, joinLK]
  ·rw [joinL_snocK _ _ hl, flat_join ls hl];simp
theorem GoodS.fin {s : ByteArray} {ls : List ByteArray} {cur : List UInt8} (h : GoodS s ls cur) : (finT s).refs = [] ∧ ((linesG ls cur = [] ∧ BD.kids (K := List (TR (fueT s + 2))) (treT s) = [] ∧ deepT (fueT s) (finT s) 0 = 0) ∨
  (linesG ls cur ≠ [] ∧ (∃ y : BD (List (TR (fueT s + 1))), BD.kids (K := List (TR (fueT s + 2))) (treT s) = [y] ∧ y.kind = 5 ∧ y.text = joinN (linesG ls cur)) ∧ deepT (fueT s) (finT s) 0 = 0)) := by
 obtain ⟨h1, h2⟩ := h.lines;have hf : finT s = Rd.final (linesG ls cur) := by unfold finT; rw [h1]
 unfold treT fueT;rw [hf]
 cases hq : linesG ls cur with
 | nil =>
  refine ⟨rfl, .inl ⟨rfl, ?_⟩⟩;have hn : (Rd.final []).nds = [docK [] false] := rfl;have hl : 0 < (Rd.final []).nds.length := by rw [hn]; decide
  exact told_none hn rfl rfl _ hl
 | cons x xs =>
  rw [hq] at h2;obtain ⟨k1, k2⟩ := final_par h2;have hl : 0 < (Rd.final (x :: xs)).nds.length := by rw [k1]; exact Nat.zero_lt_succ _
  obtain ⟨⟨y, m1, m2, m3, _⟩, m4⟩ := told_one k1 rfl rfl rfl (by show 5 ≤ 5 ∧ 5 ≤ 9; decide) _ hl;exact ⟨k2, .inr ⟨by simp, ⟨y, m1, m2, m3⟩, m4⟩⟩
