/- Code between backquotes, plainly: where a row of as many stands next. -/
import Derived.Test.YtjhfmdfihbkcaaaGreatDoorAtRow
namespace Go.Proofs.YtjhfmdfihbkcaaaGreatDoor
open Go.RowKit

/-- From k on: where the next row of just n backquotes stands. -/
def cfind (l : List UInt8) (n : Nat) : Nat → Nat → Option Nat
  | 0, _ => none
  | f + 1, k => if k < l.length then (if rowN l k = 0 then cfind l n f (k + 1) else if rowN l k = n then some k else cfind l n f (k + rowN l k)) else none
theorem cfind_fuel (l : List UInt8) (n : Nat) : ∀ f f' k, l.length ≤ k + f → l.length ≤ k + f' → cfind l n f k = cfind l n f' k
  | 0, 0, _, _, _ => rfl
  | 0, f' + 1, k, h, _ => by unfold cfind; rw [if_neg (by omega)]
  | f + 1, 0, k, _, h => by unfold cfind; rw [if_neg (by omega)]
  | f + 1, f' + 1, k, h, h' => by
    unfold cfind
    split
    · split
      · exact cfind_fuel l n f f' (k + 1) (by omega) (by omega)
      · split
        · rfl
        · exact cfind_fuel l n f f' _ (by omega) (by omega)
    · rfl
/-- .. with as much fuel as there is text. -/
def cnext (l : List UInt8) (n k : Nat) : Option Nat := cfind l n (l.length + 1 - k) k
theorem cnext_end {l : List UInt8} {n k : Nat} (h : l.length ≤ k) : cnext l n k = none := by
  unfold cnext
  generalize l.length + 1 - k = f
  cases f with
  | zero => rfl
  | succ f => unfold cfind; rw [if_neg (by omega)]
theorem cnext_skip {l : List UInt8} {n k : Nat} (h : k < l.length) (h0 : rowN l k = 0) : cnext l n k = cnext l n (k + 1) := by
  unfold cnext
  rw [show l.length + 1 - k = (l.length - k) + 1 by omega]
  rw [show cfind l n (l.length - k + 1) k = cfind l n (l.length - k) (k + 1) by rw [cfind, if_pos h, if_pos h0]]
  exact cfind_fuel l n _ _ _ (by omega) (by omega)
theorem cnext_row {l : List UInt8} {n k : Nat} (h : k < l.length) (h0 : rowN l k ≠ 0) (hn : rowN l k ≠ n) : cnext l n k = cnext l n (k + rowN l k) := by
  unfold cnext
  rw [show l.length + 1 - k = (l.length - k) + 1 by omega]
  rw [show cfind l n (l.length - k + 1) k = cfind l n (l.length - k) (k + rowN l k) by rw [cfind, if_pos h, if_neg h0, if_neg hn]]
  exact cfind_fuel l n _ _ _ (by omega) (by omega)
theorem cnext_found {l : List UInt8} {n k : Nat} (h : k < l.length) (h0 : rowN l k ≠ 0) (hn : rowN l k = n) : cnext l n k = some k := by
  unfold cnext
  rw [show l.length + 1 - k = (l.length - k) + 1 by omega, cfind, if_pos h, if_neg h0, if_pos hn]
theorem rowN_zero {l : List UInt8} {k : Nat} : rowN l k = 0 ↔ l[k]? ≠ some 96 := by
  unfold rowN
  by_cases h : k < l.length
  · rw [List.drop_eq_getElem_cons h, List.getElem?_eq_getElem h]
    by_cases e : l[k] = 96
    · rw [e]; simp
    · have hb : (l[k] == 96) = false := by simpa using e
      rw [List.takeWhile_cons, hb]
      simp only [Bool.false_eq_true, if_false, List.length_nil, true_iff]
      intro e2
      exact e (Option.some.inj e2)
  · rw [List.drop_eq_nil_of_le (by omega), List.getElem?_eq_none (by omega)]
    simp
theorem indexByte_spec (l : List UInt8) (c : UInt8) : (Lib.indexByte l c = -1 ∧ ∀ j : Nat, l[j]? ≠ some c) ∨ ∃ a : Nat, Lib.indexByte l c = (a : Int) ∧ l[a]? = some c ∧ ∀ j : Nat, j < a → l[j]? ≠ some c := by
  induction l with
  | nil => exact .inl ⟨rfl, fun j => by simp⟩
  | cons b l ih =>
    unfold Lib.indexByte
    by_cases hb : b = c
    · subst hb
      refine .inr ⟨0, by simp, rfl, fun j hj => by omega⟩
    · have hb' : (b == c) = false := by simpa using hb
      rw [hb']
      rcases ih with ⟨h1, h2⟩ | ⟨a, h1, h2, h3⟩
      · refine .inl ⟨by simp [h1], fun j => ?_⟩
        cases j with
        | zero => simpa using hb
        | succ j => simpa using h2 j
      · refine .inr ⟨a + 1, ?_, by simpa using h2, fun j hj => ?_⟩
        · have hne : ((Lib.indexByte l c) == (-1 : Int)) = false := by rw [h1, beq_eq_false_iff_ne]; omega
          rw [hne, h1]
          simp
        · cases j with
          | zero => simpa using hb
          | succ j => simpa using h3 j (by omega)
/-- What lies between is no row: the search goes on at the first backquote. -/
theorem cnext_jump {l : List UInt8} {n : Nat} : ∀ (a k : Nat), k + a ≤ l.length → (∀ j, j < a → l[k + j]? ≠ some 96) → cnext l n k = cnext l n (k + a)
  | 0, _, _, _ => rfl
  | a + 1, k, h, hj => by
    have h0 : rowN l k = 0 := rowN_zero.2 (hj 0 (by omega))
    rw [cnext_skip (by omega) h0, cnext_jump a (k + 1) (by omega) (fun j hja => by have := hj (j + 1) (by omega); rwa [show k + (j + 1) = k + 1 + j by omega] at this)]
    congr 1
    omega
/-- The text between, as it is read. -/
def noNl (b : UInt8) : UInt8 := if b = 10 then 32 else b
def shave (t : List UInt8) : List UInt8 := if (t.any (· != 32) && Lib.hasPrefix t [32] && Lib.hasSuffix t [32]) = true then (t.drop 1).take (t.length - 2) else t
structure CodeO where
  text : List UInt8
  stop : Nat
  is : Bool
def codeAt (l : List UInt8) (i : Int) : CodeO :=
  if 0 ≤ i ∧ l[i.toNat]? = some 96 then
    match cnext l (rowN l i.toNat) (i.toNat + rowN l i.toNat) with
    | none => ⟨[], i.toNat + rowN l i.toNat, false⟩
    | some k => ⟨shave (((l.drop (i.toNat + rowN l i.toNat)).take (k - (i.toNat + rowN l i.toNat))).map noNl), k + rowN l i.toNat, true⟩
  else ⟨[], 0, false⟩
end Go.Proofs.YtjhfmdfihbkcaaaGreatDoor
