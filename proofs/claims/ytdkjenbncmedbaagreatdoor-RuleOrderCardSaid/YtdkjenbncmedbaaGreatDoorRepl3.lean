/- What a byteStringReplacer makes of a text: plain law. -/
import Derived.Test.YtdkjenbncmedbaaGreatDoorRepl2
namespace Go.Proofs.YtdkjenbncmedbaaGreatDoor
open Go.RowKit

def rep1 (ps : List (UInt8 × ByteArray)) (b : UInt8) : List UInt8 := match tabv ps b with | none => [b] | some s => s.data.toList
/-- What Replace comes to. -/
def repl (ps : List (UInt8 × ByteArray)) (l : List UInt8) : List UInt8 := (l.map (rep1 ps)).flatten
/-- What the pairs of L add to a text's length. -/
def adj (L : List (UInt8 × ByteArray)) (l : List UInt8) : Int := (L.map fun p => (l.count p.1 : Int) * ((p.2.size : Int) - 1)).sum
def adj1 (ps : List (UInt8 × ByteArray)) (b : UInt8) : Int := match tabv ps b with | none => 0 | some s => (s.size : Int) - 1

theorem rep1_len (ps : List (UInt8 × ByteArray)) (b : UInt8) : ((rep1 ps b).length : Int) = 1 + adj1 ps b := by
  unfold rep1 adj1
  cases tabv ps b with
  | none => rfl
  | some s =>
    have e : s.data.toList.length = s.size := Array.length_toList
    simp only [e]
    omega
theorem repl_cons (ps : List (UInt8 × ByteArray)) (b : UInt8) (l : List UInt8) : repl ps (b :: l) = rep1 ps b ++ repl ps l := rfl
theorem repl_append (ps : List (UInt8 × ByteArray)) (l k : List UInt8) : repl ps (l ++ k) = repl ps l ++ repl ps k := by
  unfold repl; rw [List.map_append, List.flatten_append]
theorem adj_nil (L : List (UInt8 × ByteArray)) : adj L [] = 0 := by
  unfold adj
  induction L with
  | nil => rfl
  | cons p L ih => rw [List.map_cons, List.sum_cons, ih]; simp
theorem tabv_none {ps : List (UInt8 × ByteArray)} {x : UInt8} (h : x ∉ ps.map (·.1)) : tabv ps x = none := by
  induction ps with
  | nil => rfl
  | cons p l ih =>
    rw [List.map_cons, List.mem_cons, not_or] at h
    rw [tabv, if_neg (fun e => h.1 e.symm)]
    exact ih h.2
theorem tabv_mem {ps : List (UInt8 × ByteArray)} {x : UInt8} {s : ByteArray} (h : tabv ps x = some s) : (x, s) ∈ ps := by
  induction ps with
  | nil => cases h
  | cons p l ih =>
    rw [tabv] at h
    split at h
    · rename_i e; cases h; rw [← e]; simp
    · exact List.mem_cons_of_mem _ (ih h)
theorem tabv_of_mem {ps : List (UInt8 × ByteArray)} {p : UInt8 × ByteArray} (hnd : (ps.map (·.1)).Nodup) (h : p ∈ ps) : tabv ps p.1 = some p.2 := by
  induction ps with
  | nil => cases h
  | cons q l ih =>
    rw [List.map_cons, List.nodup_cons] at hnd
    rw [tabv]
    rcases List.mem_cons.1 h with rfl | h
    · rw [if_pos rfl]
    · rw [if_neg (fun e => hnd.1 (by rw [e]; exact List.mem_map_of_mem h))]
      exact ih hnd.2 h
theorem adj_cons (ps : List (UInt8 × ByteArray)) (hnd : (ps.map (·.1)).Nodup) (b : UInt8) (l : List UInt8) : adj ps (b :: l) = adj1 ps b + adj ps l := by
  induction ps with
  | nil => simp [adj, adj1, tabv]
  | cons p ps ih =>
    rw [List.map_cons, List.nodup_cons] at hnd
    have h := ih hnd.2
    have e1 : ∀ k, adj (p :: ps) k = (k.count p.1 : Int) * ((p.2.size : Int) - 1) + adj ps k := fun k => by unfold adj; rw [List.map_cons, List.sum_cons]
    rw [e1, e1, h, List.count_cons]
    unfold adj1
    rw [tabv]
    by_cases hb : p.1 = b
    · subst hb
      have hn : tabv ps p.1 = none := tabv_none hnd.1
      simp only [beq_self_eq_true, if_true, hn]
      have e : ((l.count p.1 + 1 : Nat) : Int) = (l.count p.1 : Int) + 1 := by omega
      rw [e, Int.add_mul, Int.one_mul]
      omega
    · have hb' : (b == p.1) = false := by rw [beq_eq_false_iff_ne]; exact fun e => hb e.symm
      rw [if_neg hb, hb']
      simp only [Bool.false_eq_true, if_false, Nat.add_zero]
      omega
theorem repl_len (ps : List (UInt8 × ByteArray)) (hnd : (ps.map (·.1)).Nodup) : ∀ l : List UInt8, ((repl ps l).length : Int) = l.length + adj ps l
  | [] => by rw [adj_nil]; rfl
  | b :: l => by
    have h := repl_len ps hnd l
    have h1 := rep1_len ps b
    rw [repl_cons, adj_cons ps hnd, List.length_append, List.length_cons]
    omega
theorem adj_reverse (L : List (UInt8 × ByteArray)) (l : List UInt8) : adj L.reverse l = adj L l := by
  unfold adj; rw [List.map_reverse, List.sum_reverse]
theorem adj_take (L : List (UInt8 × ByteArray)) (l : List UInt8) (k : Nat) (hk : k < L.length) : adj (L.take (k + 1)) l = adj (L.take k) l + (l.count L[k].1 : Int) * ((L[k].2.size : Int) - 1) := by
  unfold adj
  rw [List.take_succ_eq_append_getElem hk, List.map_append, List.sum_append, List.map_singleton, List.sum_singleton]
theorem adj_term (l : List UInt8) (p : UInt8 × ByteArray) (hp : p.2.size ≤ 8) : -(l.length : Int) ≤ (l.count p.1 : Int) * ((p.2.size : Int) - 1) ∧ (l.count p.1 : Int) * ((p.2.size : Int) - 1) ≤ 8 * l.length := by
  have hc : (l.count p.1 : Int) ≤ l.length := by have := List.count_le_length (a := p.1) (l := l); omega
  have h0 : (0 : Int) ≤ (l.count p.1 : Int) := by omega
  generalize (l.count p.1 : Int) = c at *
  have hs : p.2.size = 0 ∨ p.2.size = 1 ∨ p.2.size = 2 ∨ p.2.size = 3 ∨ p.2.size = 4 ∨ p.2.size = 5 ∨ p.2.size = 6 ∨ p.2.size = 7 ∨ p.2.size = 8 := by omega
  rcases hs with h | h | h | h | h | h | h | h | h <;> rw [h] <;> constructor <;> omega
theorem adj_bound (l : List UInt8) : ∀ (L : List (UInt8 × ByteArray)), (∀ p ∈ L, p.2.size ≤ 8) → -((L.length : Int) * l.length) ≤ adj L l ∧ adj L l ≤ 8 * ((L.length : Int) * l.length)
  | [], _ => by simp [adj]
  | p :: L, h => by
    have ih := adj_bound l L (fun q hq => h q (List.mem_cons_of_mem _ hq))
    have ht := adj_term l p (h p (by simp))
    have e : adj (p :: L) l = (l.count p.1 : Int) * ((p.2.size : Int) - 1) + adj L l := by unfold adj; rw [List.map_cons, List.sum_cons]
    have e2 : (((p :: L).length : Nat) : Int) * (l.length : Int) = (L.length : Int) * l.length + l.length := by rw [List.length_cons]; push_cast; rw [Int.add_mul, Int.one_mul]
    rw [e, e2]
    omega
theorem repl_same (ps : List (UInt8 × ByteArray)) : ∀ l : List UInt8, (∀ b ∈ l, tabv ps b = none) → repl ps l = l
  | [], _ => rfl
  | b :: l, h => by
    rw [repl_cons, repl_same ps l (fun c hc => h c (List.mem_cons_of_mem _ hc)), rep1, h b (by simp)]
    rfl
theorem rep1_le (ps : List (UInt8 × ByteArray)) (hp : ∀ p ∈ ps, p.2.size ≤ 8) (b : UInt8) : (rep1 ps b).length ≤ 8 := by
  unfold rep1
  cases h : tabv ps b with
  | none => simp
  | some s =>
    have := hp _ (tabv_mem h)
    have e : s.data.toList.length = s.size := Array.length_toList
    simp only [e]
    exact this
theorem repl_le (ps : List (UInt8 × ByteArray)) (hp : ∀ p ∈ ps, p.2.size ≤ 8) : ∀ l : List UInt8, (repl ps l).length ≤ 8 * l.length
  | [] => Nat.le_refl _
  | b :: l => by
    have := repl_le ps hp l
    have := rep1_le ps hp b
    rw [repl_cons, List.length_append, List.length_cons]
    omega
theorem repl_take (ps : List (UInt8 × ByteArray)) (l : List UInt8) (k : Nat) (hk : k < l.length) : repl ps (l.take (k + 1)) = repl ps (l.take k) ++ rep1 ps l[k] := by
  rw [List.take_succ_eq_append_getElem hk, repl_append]
  show _ ++ (rep1 ps l[k] ++ []) = _
  rw [List.append_nil]
theorem repl_split (ps : List (UInt8 × ByteArray)) (l : List UInt8) (k : Nat) : repl ps l = repl ps (l.take k) ++ repl ps (l.drop k) := by
  rw [← repl_append, List.take_append_drop]
end Go.Proofs.YtdkjenbncmedbaaGreatDoor
