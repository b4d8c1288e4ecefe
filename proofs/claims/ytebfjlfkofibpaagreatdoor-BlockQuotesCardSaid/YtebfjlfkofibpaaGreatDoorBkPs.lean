/- Lines one by one. -/
import Derived.Test.YtebfjlfkofibpaaGreatDoorBkKe
namespace Go.Proofs.YtebfjlfkofibpaaGreatDoor
open Go.RowKit
theorem close_n (r : Rd) (b : Nat) : (r.close b).n = r.n := (close_like r b).n
theorem settle_n (r : Rd) : r.settle.n = r.n := (settle_like r).n
theorem push_n (r : Rd) (b : Nat) : (r.push b).n = r.n := by
 unfold Rd.push;split <;> rfl
theorem popF_n (K : Nat) : ∀ (f : Nat) (r : Rd), (Rd.popF K f r).n = r.n
 | 0, _ => rfl
 | f + 1, r => by
  unfold Rd.popF;split
  ·split
   ·rfl
   ·exact (popF_n K f _).trans (close_n _ _)
  ·rfl
theorem fresh_n (r : Rd) (d : Nd) : (r.fresh d).n = r.n := by
 unfold Rd.fresh Rd.begin;rw [push_n, popF_n, settle_n];rfl
theorem goes_n (r : Rd) (b : Nat) : (r.goes b).1.n = r.n := by
 unfold Rd.goes;simp only
 repeat' split
 all_goals first | rfl | exact close_n _ _
theorem head_n {r q : Rd} {t : ByteArray} (h : r.head t = some q) : q.n = r.n := by
 unfold Rd.head at h;split at h
 ·cases h
 ·cases h
  exact fresh_n _ _
theorem fenced_n {r q : Rd} {t : ByteArray} {w : Nat} (h : r.fenced t w = some q) : q.n = r.n := by
 unfold Rd.fenced at h;split at h
 ·cases h
 ·cases h
  exact fresh_n _ _
theorem html_n {r q : Rd} {t : ByteArray} (h : r.html t = some q) : q.n = r.n := by
 unfold Rd.html at h;simp only at h;split at h
 ·cases h
 ·cases h
  split
  ·exact (close_n _ _).trans (fresh_n _ _)
  ·exact fresh_n _ _
theorem table_n {r q : Rd} {t : ByteArray} (h : r.table t = some q) : q.n = r.n := by
 unfold Rd.table at h
 repeat' split at h
 all_goals first | cases h; done | (cases h; rfl)
theorem under_n (r : Rd) (t : ByteArray) : (r.under t).1.n = r.n := by
 unfold Rd.under;simp only
 repeat' split
 all_goals rfl
theorem rule_n {r q : Rd} {t : ByteArray} (h : r.rule t = some q) : q.n = r.n := by
 unfold Rd.rule at h;split at h
 ·cases h
  exact fresh_n _ _
 ·cases h
theorem item_n (r : Rd) (t : ByteArray) (w : Nat) : (r.item t w).1.n = r.n := by
 have key : ∀ (r2 : Rd) (c : Prop) [Decidable c] (d e : Nd) (x : Option Nat), ((if c then ({ (r2.fresh d) with cur := x } : Rd) else r2).fresh e).n = r2.n := fun r2 c _ d e x => by
  refine (fresh_n _ _).trans ?_
  by_cases h : c
  ·rw [if_pos h]; exact fresh_n _ _
  ·rw [if_neg h]
 unfold Rd.item;split
 ·rfl
 ·split
  ·rfl
  ·exact key _ _ _ _ _
theorem look_n (r : Rd) : r.look.1.n = r.n := by
 unfold Rd.look;simp only;split
 ·unfold Rd.code;split
  ·rfl
  ·exact fresh_n _ _
 ·split
  ·exact fresh_n _ _
  ·split
   ·exact head_n (by assumption)
   ·split
    ·exact fenced_n (by assumption)
    ·split
     ·exact html_n (by assumption)
     ·split
      ·exact table_n (by assumption)
      ·split
       ·exact under_n _ _
       ·split
        ·exact (rule_n (by assumption)).trans (under_n _ _)
        ·exact (item_n _ _ _).trans (under_n _ _)
theorem left_n (r : Rd) : r.left.n = r.n := by
 obtain ⟨q, hq⟩ : ∃ q, (if r.lzy = true ∧ r.bareT.size ≠ 0 ∧ r.tipK = 5 then r else r.settle) = q := ⟨_, rfl⟩;have hqn : q.n = r.n := by
  rw [<- hq];split
  ·rfl
  ·exact settle_n r
 unfold Rd.left;simp only [hq];generalize (if r.lzy = true ∧ r.bareT.size ≠ 0 ∧ r.tipK = 5 then r.tip else r.cur).getD 0 = b;split
 ·exact hqn
 ·split
  ·split
   ·exact (close_n _ _).trans hqn
   ·exact hqn
  ·split
   ·exact hqn
   ·split
    ·exact (fresh_n _ _).trans hqn
    ·exact hqn
theorem walkF_n : ∀ (f : Nat) (r : Rd), (Rd.walkF f r).1.n = r.n
 | 0, _ => rfl
 | f + 1, r => by
  unfold Rd.walkF;split
  ·rfl
  ·split
   ·rfl
   ·simp only;split
    ·exact goes_n _ _
    ·split
     ·exact (walkF_n f _).trans (goes_n _ _)
     ·exact goes_n _ _
theorem lookF_n : ∀ (f : Nat) (r : Rd), (Rd.lookF f r).n = r.n
 | 0, _ => rfl
 | f + 1, r => by
  unfold Rd.lookF;split
  ·exact left_n r
  ·simp only;split
   ·exact look_n r
   ·split
    ·exact (left_n _).trans (look_n r)
    ·exact (lookF_n f _).trans (look_n r)
theorem read_n (r : Rd) (s : ByteArray) : (r.read s).n = r.n := by
 unfold Rd.read;simp only;split
 ·exact walkF_n _ _
 ·exact (lookF_n _ _).trans (walkF_n _ _)
theorem start_nd (j : Nat) : Rd.start.nd j = if j = 0 then { Nd.new 1 with opn := true } else Nd.new 0 := by
 unfold Rd.start Rd.nd
 cases j with
 | zero => rfl
 | succ j => rfl
theorem start_ok : Okd 0 Rd.start := by
 have h0 : ∀ j, (Rd.start.nd j).kids = [] := fun j => by rw [start_nd]; split <;> rfl
 have hp : ∀ j, (Rd.start.nd j).parent = none := fun j => by rw [start_nd]; split <;> rfl
 refine ⟨⟨by decide, by decide, fun i hi => ?_, fun i k hk => ?_, fun i p he => ?_, fun i hi ho => ?_, by decide, by rfl⟩, by rfl⟩
 ·have hi : i < 1 := hi;obtain rfl : i = 0 := by omega
  rw [start_nd, if_pos rfl];exact ⟨List.Pairwise.nil, by decide, by decide, fun _ => rfl, by decide, by decide, by decide⟩
 ·rw [h0] at hk; cases hk
 ·rw [hp] at he; cases he
 ·rw [start_nd, if_neg hi] at ho
  cases ho
theorem lines_ok : ∀ (ls : List ByteArray) (B : Nat) (r : Rd), Okd B r -> r.nds.length + 2 * sumZ ls + 3 * ls.length ≤ 100000 -> r.n + ls.length ≤ 1000000 -> 4 * sumZ ls ≤ 1000000 -> B + 4 * sumZ ls + ls.length ≤ 1000000 ->
  Okd (B + 4 * sumZ ls + ls.length) (Rd.linesF ls r) ∧ (Rd.linesF ls r).nds.length ≤ r.nds.length + 2 * sumZ ls + 3 * ls.length
 | [], _, _, h, _, _, _, _ => ⟨h.up (by omega), by unfold Rd.linesF; omega⟩
 | l :: ls, B, r, h, hf, hn, hs, hB => by
  have hz : sumZ (l :: ls) = l.size + sumZ ls := by unfold sumZ; simp
  rw [hz] at hf hs hB ⊢;rw [List.length_cons] at hf hn hB ⊢;unfold Rd.linesF;obtain ⟨q, hq⟩ : ∃ q, ({ r with n := r.n + 1 } : Rd) = q := ⟨_, rfl⟩;have hqo : Okd B q := by rw [<- hq]; exact ⟨h.ok.same rfl (Nat.le_refl _) (by show r.n + 1 ≤ _; omega), h.d0⟩
  have hql : q.nds.length = r.nds.length := by rw [<- hq]
  have hqn : q.n = r.n + 1 := by rw [<- hq]
  rw [hq];obtain ⟨k1, k2⟩ := read_ok (B := B) (C := B + 4 * l.size + 1) (by omega) hqo l (by omega) (by omega) (Nat.le_refl _);obtain ⟨m1, m2⟩ := lines_ok ls (B + 4 * l.size + 1) (q.read l) k1 (by omega) (by rw [read_n]; omega) (by omega) (by omega);exact ⟨m1.up (by omega), by omega⟩
theorem linesF_n : ∀ (ls : List ByteArray) (r : Rd), (Rd.linesF ls r).n = r.n + ls.length
 | [], _ => rfl
 | l :: ls, r => by
  unfold Rd.linesF;rw [linesF_n ls, read_n, List.length_cons];show r.n + 1 + ls.length = _;omega
theorem linesF_snoc : ∀ (ls : List ByteArray) (l : ByteArray) (r : Rd), Rd.linesF (ls ++ [l]) r = ({ Rd.linesF ls r with n := (Rd.linesF ls r).n + 1 } : Rd).read l
 | [], _, _ => rfl
 | _ :: ls, l, _ => linesF_snoc ls l _
theorem final_ok {B : Nat} {ls : List ByteArray} (h : Okd B (Rd.linesF ls Rd.start)) (hB : B ≤ 1000000) : Ok B (Rd.final ls) ∧ (∀ j, ((Rd.final ls).nd j).opn = false) ∧ (Rd.final ls).nds.length = (Rd.linesF ls Rd.start).nds.length ∧ ((Rd.final ls).nd 0).kind = 1 := by
 obtain ⟨q, hq⟩ : ∃ q, ({ (Rd.linesF ls Rd.start) with cur := some 0 } : Rd) = q := ⟨_, rfl⟩;have hqo : Ok B q := by rw [<- hq]; exact h.ok.same rfl (Nat.le_refl _) h.ok.nn
 have hq0 : (q.nd 0).opn = true := by rw [<- hq]; exact h.d0
 have hf : Rd.final ls = q.close 0 := by unfold Rd.final; rw [hq]
 rw [hf];obtain ⟨c1, c2, _, c4, _⟩ := close_facts hB hqo (opn_lt hq0) hq0;refine ⟨c1, ?_, by rw [c4.len, <- hq], by rw [(c4.nd 0).kind]; exact hqo.d1⟩;intro j
 cases ho : ((q.close 0).nd j).opn with
 | false => rfl
 | true => exact absurd (allopn c1 j (Nat.le_refl _) ho) (by rw [c2]; exact Bool.false_ne_true)
where
 allopn {q : Rd} (h : Ok B q) : ∀ {n : Nat} (j : Nat), j ≤ n -> (q.nd j).opn = true -> (q.nd 0).opn = true
  | _, 0, _, ho => ho
  | 0, j + 1, hj, _ => absurd hj (by omega)
  | n + 1, j + 1, hj, ho => by
   obtain ⟨p, h1, h2, _⟩ := h.opn (j + 1) (by omega) ho;exact allopn h (n := n) p (by have := (h.par (j + 1) p h1).1; omega) h2
