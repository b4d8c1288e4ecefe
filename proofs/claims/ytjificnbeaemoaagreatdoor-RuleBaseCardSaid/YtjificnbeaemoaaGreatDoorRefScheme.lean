/- The reference's Scheme. -/
import Derived.Test.YtjificnbeaemoaaGreatDoorScheme2
namespace Go.Proofs.YtjificnbeaemoaaGreatDoor
open Go.RowKit

def good : List UInt8 → Bool
  | [] => true
  | b :: r => letter b && r.all mayS
theorem letter_mayS {b : UInt8} (h : letter b = true) : mayS b = true := by unfold mayS; rw [h]; rfl
theorem good_snoc (l : List UInt8) (x : UInt8) (hne : l ≠ []) (h : good l = true) : good (l ++ [x]) = mayS x := by
  cases l with
  | nil => exact absurd rfl hne
  | cons b r =>
    simp only [good, Bool.and_eq_true] at h
    simp only [List.cons_append, good, h.1, List.all_append, h.2, List.all_cons, List.all_nil, Bool.true_and, Bool.and_true]
theorem good_prefix (l r : List UInt8) (h : good l = false) : good (l ++ r) = false := by
  cases l with
  | nil => simp [good] at h
  | cons b q =>
    simp only [good, List.cons_append, List.all_append] at h ⊢
    rw [← Bool.and_assoc, h, Bool.false_and]
theorem schemeOf_good (l : List UInt8) : schemeOf l = if l ≠ [] ∧ good l = true then some (lowerL l) else none := by
  unfold schemeOf
  cases l with
  | nil => simp
  | cons b r =>
    simp only [good, List.all_cons]
    by_cases hl : letter b = true
    · simp [hl, letter_mayS hl]
    · simp [hl]
theorem take_ne (l : List UInt8) (k : Nat) (h0 : 0 < k) (h : k ≤ l.length) : l.take k ≠ [] := by
  intro e
  have := congrArg List.length e
  rw [List.length_take, List.length_nil] at this
  omega
theorem schemeOf_bad (l : List UInt8) (h : good l = false) : schemeOf l = none := by
  rw [schemeOf_good, if_neg (by rw [h]; simp)]
theorem tw_split (t : List UInt8) (k : Nat) (x : UInt8) (hk : k < t.length) (hx : t[k] = x) (hx8 : x ≠ 58) (hall : (t.take k).all (ne 58) = true) : ∃ r, t.takeWhile (ne 58) = (t.take k ++ [x]) ++ r := by
  have e : t = t.take k ++ x :: t.drop (k + 1) := by
    conv => lhs; rw [← List.take_append_drop k t]
    rw [List.drop_eq_getElem_cons hk, hx]
  have h1 : ne 58 x = true := by unfold ne; simp [hx8]
  refine ⟨(t.drop (k + 1)).takeWhile (ne 58), ?_⟩
  conv => lhs; rw [e]
  rw [List.takeWhile_append_of_pos (fun b hb => List.all_eq_true.1 hall b hb), List.takeWhile_cons, h1]
  simp
theorem tw_at (t : List UInt8) (k : Nat) (hk : k < t.length) (hx : t[k] = 58) (hall : (t.take k).all (ne 58) = true) : t.takeWhile (ne 58) = t.take k ∧ (58 : UInt8) ∈ t := by
  have e : t = t.take k ++ 58 :: t.drop (k + 1) := by
    conv => lhs; rw [← List.take_append_drop k t]
    rw [List.drop_eq_getElem_cons hk, hx]
  refine ⟨?_, by rw [← hx]; exact List.getElem_mem hk⟩
  conv => lhs; rw [e]
  rw [List.takeWhile_append_of_pos (fun b hb => List.all_eq_true.1 hall b hb), List.takeWhile_cons]
  simp [ne]
theorem u8_beq {x c : UInt8} (h : x ≠ c) : ((x.toNat : Int) == (c.toNat : Int)) = false := by
  rw [beq_eq_false_iff_ne]
  intro e
  exact h (UInt8.toNat_inj.1 (by omega))
end Go.Proofs.YtjificnbeaemoaaGreatDoor
