/- Lines of letters are one paragraph. -/
import Derived.Test.YtebfjlfkofibpaaGreatDoorBkPs
import Derived.Test.YtebfjlfkofibpaaGreatDoorBkTo
namespace Go.Proofs.YtebfjlfkofibpaaGreatDoor
open Go.RowKit
def LetB (b : UInt8) : Prop := 97 ≤ b.toNat ∧ b.toNat ≤ 122
def LetL (l : List UInt8) : Prop := l ≠ [] ∧ ∀ b ∈ l, LetB b
theorem let_ne {b c : UInt8} (h : LetB b) (hc : ¬ LetB c) : b ≠ c := fun e => hc (e ▸ h)
theorem let_head {l : List UInt8} (h : LetL l) {c : UInt8} (hc : ¬ LetB c) : l.head? ≠ some c := fun e => by
 have := h.2 c (List.mem_of_mem_head? e);exact hc this
theorem let_front {l : List UInt8} (h : LetL l) {c : UInt8} (hc : ¬ LetB c) : frontN l c = 0 := by
 cases hz : frontN l c with
 | zero => rfl
 | succ n => exact absurd (frontN_pos (show 0 < frontN l c by omega)) (let_head h hc)
theorem hasP_head {l p : List UInt8} {c : UInt8} (hp : p.head? = some c) (h : l.head? ≠ some c) : Lib.hasPrefix l p = false := by
 cases hh : Lib.hasPrefix l p with
 | false => rfl
 | true =>
  exfalso
  match p, hp with
  | d :: p, hp =>
   match l with
   | [] => simp [Lib.hasPrefix] at hh
   | b :: l =>
    simp [Lib.hasPrefix] at hh;simp at hp h;exact h (hh.1.symm.trans hp)
theorem small_let {b : UInt8} (h : LetB b) : small b = b := by
 unfold LetB at h;unfold small smallN;rw [if_neg (by omega)];simp
theorem lower_head {l : List UInt8} (h : LetL l) : (lowerL l).head? ≠ some 60 := by
 intro e
 match l, h with
 | b :: l, h =>
  have hb := h.2 b (by simp);unfold lowerL at e;rw [List.map_cons, small_let hb] at e;simp at e;subst e;exact absurd hb (by unfold LetB; decide)
theorem aft_none {low : List UInt8} {front : ByteArray} {ends : List ByteArray} (ws : List (List UInt8)) (hf : front.data.toList.head? = some 60) (h : low.head? ≠ some 60) : aftB low front ends ws = false := by
 unfold aftB;rw [List.any_eq_false];intro x _;unfold aftW;rw [hasP_head (c := 60) (by
  match hq : front.data.toList, hf with
  | b :: q, hf => simpa using hf) h]
 simp
theorem let_html {l : List UInt8} (h : LetL l) : htmlN l = 0 := by
 have h60 : ¬ LetB 60 := by unfold LetB; decide
 have hl := lower_head h;have hd := let_head h h60;have hP : ∀ p : List UInt8, p.head? = some 60 -> Lib.hasPrefix l p = false := fun p hp => hasP_head hp hd;unfold htmlN;rw [show afterR l = false from aft_none _ rfl hl, show afterO l = false from aft_none _ rfl hl, show afterS l = false from aft_none _ rfl hl];rw [hP _ rfl, hP _ rfl, hP _ rfl];have hdecl : declB l = false := by
  unfold declB
  match l, h, hd with
  | b :: l, _, hd =>
   have : ((b :: l).take 2 == [60, 33]) = false := by
    rw [beq_eq_false_iff_ne];intro e
    cases l with
    | nil => simp at e
    | cons c l => simp at e; exact hd (by simp [e.1])
   rw [this];simp
 have hbl : blankB l = false := by
  unfold blankB tagN;rw [hP _ rfl];simp
 rw [hdecl, hbl];simp
theorem let_item {l : List UInt8} (h : LetL l) : itemN l = none := by
 match l, h with
 | b :: l, h =>
  have hb := h.2 b (by simp);have hb1 := hb;unfold LetB at hb1;have hd : digN (b :: l) = 0 := by
   unfold digN;rw [List.takeWhile_cons, if_neg]
   ·rfl
   ·unfold digB;simp;omega
  unfold itemN;rw [hd];simp only [List.getElem?_cons_zero];have e1 : (b == 45) = false := by rw [beq_eq_false_iff_ne]; exact let_ne hb (by unfold LetB; decide)
  have e2 : (b == 43) = false := by rw [beq_eq_false_iff_ne]; exact let_ne hb (by unfold LetB; decide)
  have e3 : (b == 42) = false := by rw [beq_eq_false_iff_ne]; exact let_ne hb (by unfold LetB; decide)
  rw [e1, e2, e3];simp
theorem let_blank {l cs : List UInt8} (h : LetL l) (hcs : ∀ c ∈ cs, ¬ LetB c) : Lib.trimLeftS l cs = l ∧ Lib.trimS l cs = l := by
 have hno : ∀ b ∈ l, cs.contains b = false := fun b hb => by
  rw [<- Bool.not_eq_true, List.contains_iff_mem];exact fun hm => hcs b hm (h.2 b hb)
 have hd : ∀ m : List UInt8, (∀ b ∈ m, cs.contains b = false) -> m.dropWhile (cs.contains ·) = m := fun m hm => by
  match m, hm with
  | [], _ => rfl
  | b :: m, hm => rw [List.dropWhile_cons, if_neg (by rw [hm b (by simp)]; exact Bool.false_ne_true)]
 have h1 : Lib.trimLeftS l cs = l := hd l hno;refine ⟨h1, ?_⟩;unfold Lib.trimS;have h2 : Lib.trimRightS l cs = l := by
  unfold Lib.trimRightS;rw [hd _ fun b hb => hno b (List.mem_reverse.1 hb), List.reverse_reverse]
 rw [h2, h1]
theorem let_width {l : List UInt8} (h : LetL l) (c : Nat) : widthN l c = 0 := by
 match l, h with
 | b :: l, h =>
  have hb := h.2 b (by simp);unfold widthN colF;have : colS c b = none := by
   unfold colS;rw [if_neg (let_ne hb (by unfold LetB; decide)), if_neg (let_ne hb (by unfold LetB; decide))]
  rw [this];simp
structure LetF (t : ByteArray) : Prop where
 size : t.size ≠ 0
 head : headLev t.data.toList = 0
 fence : openV t.data.toList = none
 html : htmlN t.data.toList = 0
 align : alignsL t = none
 under : underN t.data.toList = 0
 rule : ruleB t.data.toList = false
 item : itemN t.data.toList = none
 bare : Lib.trimLeftS t.data.toList [32, 9] = t.data.toList
 width : widthN t.data.toList 0 = 0
 gt : t.data.toList.head? ≠ some 62
theorem letF {t : ByteArray} (h : LetL t.data.toList) : LetF t := by
 have hl : t.data.toList.length = t.size := Array.length_toList;refine ⟨fun e => ?_, ?_, ?_, let_html h, ?_, ?_, ?_, let_item h, (let_blank h ?_).1, let_width h 0, let_head h (by unfold LetB; decide)⟩
 ·rw [e] at hl;exact h.1 (List.eq_nil_of_length_eq_zero hl)
 ·unfold headLev headIs;rw [let_front h (by unfold LetB; decide)];simp
 ·unfold openV fenceB;rw [let_front h (by unfold LetB; decide), let_front h (by unfold LetB; decide)];simp
 ·unfold alignsL;rw [if_neg fun hm => absurd (h.2 124 hm) (by unfold LetB; decide)]
 ·unfold underN underB;rw [let_front h (by unfold LetB; decide), let_front h (by unfold LetB; decide)];simp
 ·cases hr : ruleB t.data.toList with
  | false => rfl
  | true =>
   obtain ⟨b, h1, h2⟩ := ruleB_head hr;rcases h2 with rfl | rfl | rfl <;> exact absurd h1 (let_head h (by unfold LetB; decide))
 ·intro c hc;simp at hc;rcases hc with rfl | rfl <;> (unfold LetB; decide)
theorem walkF_none (f : Nat) {r : Rd} {a : Nat} (hc : r.cur = some a) (hi : r.inner a = none) : Rd.walkF f r = (r, false) := by
 cases f with
 | zero => rfl
 | succ f =>
  unfold Rd.walkF;rw [hc];simp only;rw [hi]
theorem deepF_none (f : Nat) {r : Rd} {a : Nat} (hi : r.inner a = none) : Rd.deepF f r a = a := by
 cases f with
 | zero => rfl
 | succ f => unfold Rd.deepF; rw [hi]
theorem look_plain {r : Rd} (h : LetF r.rest) (hc : r.col = 0) : r.look = (r, 0) := by
 have hb : r.bareT = r.rest := by
  unfold Rd.bareT;rw [h.bare]
 have hw : r.bareW = 0 := by
  unfold Rd.bareW;rw [hc, h.width]
 have hh : r.head r.rest = none := by unfold Rd.head; rw [if_pos h.head]
 have hf : r.fenced r.rest 0 = none := by unfold Rd.fenced; rw [h.fence]
 have hm : r.html r.rest = none := by unfold Rd.html; simp only; rw [if_pos (.inl h.html)]
 have ht : r.table r.rest = none := by
  unfold Rd.table
  repeat' split
  all_goals first | rfl | (rename_i he; rw [h.align] at he; cases he) | skip
  ·rename_i he _;rw [h.align] at he
   cases he
 have hu : r.under r.rest = (r, false) := by
  unfold Rd.under;split
  ·rfl
  ·rw [if_pos (.inr h.under)]
 have hr : r.rule r.rest = none := by unfold Rd.rule; rw [if_neg (by rw [h.rule]; exact Bool.false_ne_true)]
 have hi : r.item r.rest 0 = (r, 0) := by unfold Rd.item; rw [h.item]
 unfold Rd.look;simp only;rw [hb, hw, if_neg (by omega), if_neg h.gt, hh, hf, hm, ht, hu];simp only;rw [if_neg Bool.false_ne_true, hr];exact hi
theorem lookF_plain (f : Nat) {r : Rd} (h : LetF r.rest) (hc : r.col = 0) (h7 : r.curK ≠ 7) (h8 : r.curK ≠ 8) : Rd.lookF (f + 1) r = r.left := by
 unfold Rd.lookF;rw [if_neg (by rintro (e | e); exact h7 e; exact h8 e)];simp only;rw [look_plain h hc];rfl
theorem read_plain {r : Rd} {l : ByteArray} {a : Nat} {q : Rd} (h : LetF l) (hw : Rd.walkF r.nds.length { r with rest := l, col := 0, cur := some 0 } = ({ r with rest := l, col := 0, cur := some a }, false)) (hi : r.inner a = none) (h7 : (r.nd a).kind ≠ 7) (h8 : (r.nd a).kind ≠ 8)
  (hq : ({ r with rest := l, col := 0, cur := some a, tip := some a, lzy := false } : Rd) = q) : r.read l = q.left := by
 have hi2 : ({ r with rest := l, col := 0, cur := some a } : Rd).inner a = none := hi;unfold Rd.read;simp only [hw];rw [if_neg Bool.false_ne_true];have hd : ({ r with rest := l, col := 0, cur := some a } : Rd).deepest ((some a).getD 0) = a := deepF_none _ hi2;rw [hd, show decide (some a ≠ some a) = false by simp];rw [hq];refine lookF_plain _ ?_ ?_ ?_ ?_
 ·rw [<- hq]; exact h
 ·rw [<- hq]
 ·rw [<- hq]; exact h7
 ·rw [<- hq]; exact h8
theorem settle_none {r : Rd} {a : Nat} (hc : r.cur = some a) (hi : r.inner a = none) : r.settle = r := by
 unfold Rd.settle;rw [hc];simp only;rw [hi]
theorem left_idle {r : Rd} {a : Nat} (hz : r.lzy = false) (hc : r.cur = some a) (hi : r.inner a = none) :
  ((r.nd a).kind = 7 -> r.left = r.upd a { r.nd a with lines := (r.nd a).lines ++ [r.rest], last := if 0 < (r.nd a).fm ∨ r.bareT.size ≠ 0 then r.n else (r.nd a).last }) ∧
  ((r.nd a).kind = 5 -> r.left = r.upd a { r.nd a with lines := (r.nd a).lines ++ [r.bareT], last := r.n }) ∧
  ((r.nd a).kind ≤ 4 -> r.bareT.size ≠ 0 -> r.left = (r.fresh (Nd.new 5)).turn r.nds.length fun x => { x with lines := [r.bareT] }) := by
 have hn : ¬ (r.lzy = true ∧ r.bareT.size ≠ 0 ∧ r.tipK = 5) := fun h => by rw [hz] at h; exact absurd h.1 Bool.false_ne_true
 have hl : r.left = (if (r.nd a).kind = 7 then r.upd a { r.nd a with lines := (r.nd a).lines ++ [r.rest], last := if 0 < (r.nd a).fm ∨ r.bareT.size ≠ 0 then r.n else (r.nd a).last }
   else if (r.nd a).kind = 8 then (if endsB r.rest.data.toList (r.nd a).html = true then (r.upd a { r.nd a with lines := (r.nd a).lines ++ [r.rest], last := r.n }).close a else r.upd a { r.nd a with lines := (r.nd a).lines ++ [r.rest], last := r.n })
   else if (r.nd a).kind = 5 ∨ (r.nd a).kind = 10 then r.upd a { r.nd a with lines := (r.nd a).lines ++ [r.bareT], last := r.n }
   else if r.bareT.size ≠ 0 then (r.fresh (Nd.new 5)).turn r.nds.length fun x => { x with lines := [r.bareT] }
   else r) := by
  unfold Rd.left;simp only [if_neg hn];rw [hc, settle_none hc hi];rfl
 refine ⟨fun h => ?_, fun h => ?_, fun h h2 => ?_⟩
 ·rw [hl, if_pos h]
 ·rw [hl, if_neg (by omega), if_neg (by omega), if_pos (.inl h)]
 ·rw [hl, if_neg (by omega), if_neg (by omega), if_neg (by omega), if_pos h2]
def docK (ks : List Nat) (o : Bool) : Nd := { Nd.new 1 with opn := o, kids := ks }
def parN (ls : List ByteArray) : Nd := { Nd.new 5 with parent := some 0, opn := true, first := 1, last := (ls.length : Int), lines := ls }
theorem read_first {r : Rd} {l : ByteArray} (h : LetF l) (hn : r.nds = [docK [] true]) (h1 : r.n = 1) : (r.read l).nds = [docK [1] true, parN [l]] ∧ (r.read l).refs = r.refs ∧ (r.read l).n = 1 := by
 obtain ⟨nds, rest, col, n, cur, tip, lzy, refs⟩ := r;simp only at hn h1;subst hn;subst h1;have hb : Rd.bareT ⟨[docK [] true], l, 0, 1, some 0, some 0, false, refs⟩ = l := by
  unfold Rd.bareT;rw [h.bare]
 rw [read_plain (a := 0) (r := ⟨[docK [] true], rest, col, 1, cur, tip, lzy, refs⟩) h (walkF_none _ rfl rfl) rfl (by show (1 : Nat) ≠ 7; decide) (by show (1 : Nat) ≠ 8; decide) rfl];rw [(left_idle (r := ⟨[docK [] true], l, 0, 1, some 0, some 0, false, refs⟩) (a := 0) rfl rfl rfl).2.2 (by show (1 : Nat) ≤ 4; decide) (by rw [hb]; exact h.size)];rw [hb];exact ⟨rfl, rfl, rfl⟩
theorem read_next {r : Rd} {l : ByteArray} {ls : List ByteArray} (h : LetF l) (hn : r.nds = [docK [1] true, parN ls]) (h1 : r.n = ls.length + 1) : (r.read l).nds = [docK [1] true, parN (ls ++ [l])] ∧ (r.read l).refs = r.refs ∧ (r.read l).n = ls.length + 1 := by
 obtain ⟨nds, rest, col, n, cur, tip, lzy, refs⟩ := r;simp only at hn h1;subst hn;subst h1;have hb : ∀ (nd : List Nd) (n : Nat) (c t : Option Nat) (z : Bool) (x : List RefT), Rd.bareT ⟨nd, l, 0, n, c, t, z, x⟩ = l := fun _ _ _ _ _ _ => by
  unfold Rd.bareT;rw [h.bare]
 have hg : ∀ c, Rd.goes ⟨[docK [1] true, parN ls], l, 0, ls.length + 1, c, tip, lzy, refs⟩ 1 = (⟨[docK [1] true, parN ls], l, 0, ls.length + 1, c, tip, lzy, refs⟩, true, false) := fun c => by
  unfold Rd.goes;simp only [hb];rw [if_neg (by show ¬ (5 : Nat) = 2; decide), if_neg (by show ¬ (5 : Nat) = 4; decide), if_pos (by show (5 : Nat) = 5 ∨ (5 : Nat) = 10; decide)];simp [h.size]
 rw [read_plain (a := 1) (r := ⟨[docK [1] true, parN ls], rest, col, ls.length + 1, cur, tip, lzy, refs⟩) h ?_ rfl (by show (5 : Nat) ≠ 7; decide) (by show (5 : Nat) ≠ 8; decide) rfl]
 ·rw [(left_idle (r := ⟨[docK [1] true, parN ls], l, 0, ls.length + 1, some 1, some 1, false, refs⟩) (a := 1) rfl rfl rfl).2.1 rfl];rw [hb];refine ⟨?_, rfl, rfl⟩;unfold parN;rw [List.length_append];rfl
 ·show Rd.walkF 2 _ = _;unfold Rd.walkF;simp only;rw [show Rd.inner ⟨[docK [1] true, parN ls], l, 0, ls.length + 1, some 0, tip, lzy, refs⟩ 0 = some 1 from rfl];simp only [hg];rw [if_neg Bool.false_ne_true, if_pos trivial];exact walkF_none _ rfl rfl
theorem read_pars : ∀ (ms ls : List ByteArray) (r : Rd), (∀ l ∈ ms, LetF l) -> r.nds = [docK [1] true, parN ls] -> r.n = ls.length -> (Rd.linesF ms r).nds = [docK [1] true, parN (ls ++ ms)] ∧ (Rd.linesF ms r).refs = r.refs
 | [], ls, r, _, hn, _ => by
  rw [List.append_nil];exact ⟨hn, rfl⟩
 | l :: ms, ls, r, h, hn, h1 => by
  unfold Rd.linesF;obtain ⟨k1, k2, k3⟩ := read_next (r := { r with n := r.n + 1 }) (h l (by simp)) hn (by show r.n + 1 = _; omega);obtain ⟨m1, m2⟩ := read_pars ms (ls ++ [l]) _ (fun x hx => h x (by simp [hx])) k1 (by rw [k3]; simp);exact ⟨by rw [m1]; simp, m2.trans k2⟩
theorem lines_pars {l : ByteArray} {ms : List ByteArray} (h : ∀ x ∈ l :: ms, LetF x) : (Rd.linesF (l :: ms) Rd.start).nds = [docK [1] true, parN (l :: ms)] ∧ (Rd.linesF (l :: ms) Rd.start).refs = [] := by
 unfold Rd.linesF;obtain ⟨k1, k2, k3⟩ := read_first (r := { Rd.start with n := Rd.start.n + 1 }) (h l (by simp)) rfl rfl;obtain ⟨m1, m2⟩ := read_pars ms [l] _ (fun x hx => h x (by simp [hx])) k1 k3;exact ⟨m1, m2.trans k2⟩
theorem def_none {s : ByteArray} (h : s.data.toList.head? ≠ some 91) : (defV s).2.2.2 = 0 := by
 have h0 : labelN s.data.toList 0 = none := by
  unfold labelN;have : (s.data.toList[0]? == some 91) = false := by
   rw [beq_eq_false_iff_ne, <- List.head?_eq_getElem?];exact h
  rw [this];rfl
 unfold defV defN labelE;rw [h0];simp
theorem defineF_none (f : Nat) {s : ByteArray} {l : List RefT} (h : s.data.toList.head? ≠ some 91) : defineF f s l = (s, l) := by
 cases f with
 | zero => rfl
 | succ f => unfold defineF; rw [if_pos (def_none h)]
theorem join_ends : ∀ (l : ByteArray) (ms : List ByteArray), (∀ x ∈ l :: ms, LetL x.data.toList) -> (∃ b, (joinLK (l :: ms)).head? = some b ∧ LetB b) ∧ (∃ b, (joinLK (l :: ms)).getLast? = some b ∧ LetB b)
 | l, ms, h => by
  have hl := h l (by simp);constructor
  ·match hq : l.data.toList, hl with
   | b :: q, hl =>
    refine ⟨b, ?_, hl.2 b (by simp)⟩;simp [joinLK, hq]
  ·rcases snoc_cases (l :: ms) with h0 | ⟨y, c, hyc⟩
   ·cases h0
   ·have hc := h c (by rw [hyc]; simp);rw [hyc];have hg : ∀ m : List UInt8, m ≠ [] -> ∃ b, m.getLast? = some b ∧ b ∈ m := fun m hm => by
     rcases snoc_cases m with h0 | ⟨y, d, hyd⟩
     ·exact absurd h0 hm
     ·exact ⟨d, by rw [hyd, List.getLast?_concat], by rw [hyd]; simp⟩
    obtain ⟨b, hb1, hb2⟩ := hg _ hc.1;refine ⟨b, ?_, hc.2 b hb2⟩
    by_cases hy : y = []
    ·subst hy;unfold joinLK;simpa using hb1
    ·rw [joinL_snocK _ _ hy, List.getLast?_append];rw [List.getLast?_cons, hb1];rfl
theorem trim_ends {l cs : List UInt8} {a b : UInt8} (ha : l.head? = some a) (hb : l.getLast? = some b) (h1 : cs.contains a = false) (h2 : cs.contains b = false) : Lib.trimS l cs = l := by
 have hd : ∀ (m : List UInt8) (x : UInt8), m.head? = some x -> cs.contains x = false -> m.dropWhile (cs.contains ·) = m := fun m x hm hx => by
  match m, hm with
  | y :: m, hm =>
   simp at hm;subst hm;rw [List.dropWhile_cons, if_neg (by rw [hx]; exact Bool.false_ne_true)]
 unfold Lib.trimS;have : Lib.trimRightS l cs = l := by
  unfold Lib.trimRightS;rw [hd l.reverse b (by rw [List.head?_reverse]; exact hb) h2, List.reverse_reverse]
 rw [this];exact hd l a ha h1
theorem let_white {b : UInt8} (h : LetB b) : ([32, 9, 10] : List UInt8).contains b = false := by
 rw [<- Bool.not_eq_true, List.contains_iff_mem];intro hm;unfold LetB at h;simp at hm;rcases hm with rfl | rfl | rfl <;> exact absurd h (by decide)
theorem final_par {l : ByteArray} {ms : List ByteArray} (h : ∀ x ∈ l :: ms, LetL x.data.toList) : (Rd.final (l :: ms)).nds = [docK [1] false, { parN (l :: ms) with opn := false, text := joinN (l :: ms) }] ∧ (Rd.final (l :: ms)).refs = [] := by
 obtain ⟨k1, k2⟩ := lines_pars fun x hx => letF (h x hx);obtain ⟨⟨a, ha, hla⟩, b, hb, hlb⟩ := join_ends l ms h;have hdef : defineF (joinN (l :: ms)).size (joinN (l :: ms)) [] = (joinN (l :: ms), []) := defineF_none _ (by
  show (joinLK (l :: ms)).head? ≠ _;rw [ha];intro e
  cases e
  exact absurd hla (by unfold LetB; decide))
 have htr : trimN (joinN (l :: ms)) = joinN (l :: ms) := by
  unfold trimN joinN;rw [show (⟨(joinLK (l :: ms)).toArray⟩ : ByteArray).data.toList = joinLK (l :: ms) from rfl, trim_ends ha hb (let_white hla) (let_white hlb)]
 have hz : ¬ (joinN (l :: ms)).size = 0 := fun e => by
  have : (joinLK (l :: ms)).length = 0 := by
   have h2 : (joinN (l :: ms)).size = (joinLK (l :: ms)).length := by show (joinLK (l :: ms)).toArray.size = _; simp
   omega
  rw [List.eq_nil_of_length_eq_zero this] at ha
  cases ha
 obtain ⟨q, hq⟩ : ∃ q, Rd.linesF (l :: ms) Rd.start = q := ⟨_, rfl⟩;unfold Rd.final;rw [hq] at k1 k2 ⊢;obtain ⟨nds, rest, col, n, cur, tip, lzy, refs⟩ := q;simp only at k1 k2;subst k1;subst k2;unfold Rd.close;show (Rd.closeF 2 _ _).nds = _ ∧ (Rd.closeF 2 _ _).refs = _;unfold Rd.closeF;rw [show Rd.inner ⟨[docK [1] true, parN (l :: ms)], rest, col, n, some 0, tip, lzy, []⟩ 0 = some 1 from rfl];simp only;unfold Rd.closeF;rw [show Rd.inner ⟨[docK [1] true, parN (l :: ms)], rest, col, n, some 0, tip, lzy, []⟩ 1 = none from rfl];simp only
 have hs : Rd.shut ⟨[docK [1] true, parN (l :: ms)], rest, col, n, some 0, tip, lzy, []⟩ 1 = ⟨[docK [1] true, { parN (l :: ms) with opn := false, text := joinN (l :: ms) }], rest, col, n, some 0, tip, lzy, []⟩ := by
  unfold Rd.shut;simp only;rw [if_pos (by show (5 : Nat) = 5; rfl)];rw [show (Rd.nd ⟨[docK [1] true, parN (l :: ms)], rest, col, n, some 0, tip, lzy, []⟩ 1).lines = l :: ms from rfl, hdef];simp only;rw [htr, if_neg hz];rfl
 rw [hs];exact ⟨rfl, rfl⟩
