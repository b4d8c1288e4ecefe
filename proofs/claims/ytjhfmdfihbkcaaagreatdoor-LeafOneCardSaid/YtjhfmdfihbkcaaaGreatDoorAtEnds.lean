/- Where the markup of atoms ends, plainly: further on, within the text, and (but for code) with a `>`. -/
import Derived.Test.YtjhfmdfihbkcaaaGreatDoorAtTag
import Derived.Lib.IndexMore
namespace Go.Proofs.YtjhfmdfihbkcaaaGreatDoor
open Go.RowKit

theorem prefix_last {l x : List UInt8} {k : Nat} {c : UInt8} (h : Lib.hasPrefix (l.drop k) x = true) (hx : x.getLast? = some c) : 1 ≤ x.length ∧ k + x.length ≤ l.length ∧ l[k + x.length - 1]? = some c := by
  unfold Lib.hasPrefix at h
  rw [List.isPrefixOf_iff_prefix] at h
  obtain ⟨t, ht⟩ := h
  have hne : x ≠ [] := by rintro rfl; cases hx
  have h1 : 1 ≤ x.length := List.length_pos_iff.2 hne
  have hl : (l.drop k).length = x.length + t.length := by rw [← ht, List.length_append]
  rw [List.length_drop] at hl
  refine ⟨h1, by omega, ?_⟩
  have e : l[k + x.length - 1]? = (l.drop k)[x.length - 1]? := by rw [List.getElem?_drop]; congr 1; omega
  rw [e, ← ht, List.getElem?_append_left (by omega), ← List.getLast?_eq_getElem?, hx]
theorem closedN_spec (l : List UInt8) (i : Nat) : ∀ xs : List ByteArray, closedN l i xs = 0 ∨ ∃ x ∈ xs, Lib.hasPrefix (l.drop i) x.data.toList = true ∧ closedN l i xs = i + x.data.toList.length
  | [] => .inl rfl
  | x :: xs => by
    unfold closedN
    by_cases h : Lib.hasPrefix (l.drop i) x.data.toList = true
    · rw [if_pos h]
      exact .inr ⟨x, by simp, h, by rw [Array.length_toList]; rfl⟩
    · rw [if_neg h]
      rcases closedN_spec l i xs with h | ⟨y, hy, h1, h2⟩
      · exact .inl h
      · exact .inr ⟨y, by simp [hy], h1, h2⟩
theorem closedN_ends (l : List UInt8) (i : Nat) (xs : List ByteArray) (hx : ∀ x ∈ xs, x.data.toList.getLast? = some 62) (h : 0 < closedN l i xs) : i < closedN l i xs ∧ closedN l i xs ≤ l.length ∧ l[closedN l i xs - 1]? = some 62 := by
  rcases closedN_spec l i xs with h0 | ⟨x, hm, h1, h2⟩
  · omega
  · obtain ⟨a, b, c⟩ := prefix_last h1 (hx x hm)
    rw [h2]
    exact ⟨by omega, b, c⟩
theorem gapN_ge (l : List UInt8) (i : Nat) : i ≤ gapN l i := run_ge _ l i
theorem attrsF_ge (l : List UInt8) : ∀ (n i : Nat), i ≤ l.length → i ≤ attrsF l n i
  | 0, _, _ => Nat.le_refl _
  | n + 1, i, h => by
    unfold attrsF
    split
    · exact Nat.le_refl _
    · rename_i k hk
      have h1 := attrN_lt l i k h hk
      have h2 := attrsF_ge l n k h1.2
      omega
theorem tagN_ends (l : List UInt8) (h : 0 < tagN l) : 2 < tagN l ∧ tagN l ≤ l.length ∧ l[tagN l - 1]? = some 62 := by
  revert h
  unfold tagN
  split
  · cases hw : wordN l ⟨#[]⟩ ⟨#[45]⟩ (if Lib.hasPrefix l [60, 47] = true then 2 else 1) with
    | none => intro h; cases h
    | some j =>
      have h1 := wordN_lt _ _ _ _ _ hw
      have h2 := wordN_le _ _ _ _ _ hw
      have h3 : 1 < j := by split at h1 <;> omega
      show 0 < tagEnd l (Lib.hasPrefix l [60, 47]) j → 2 < tagEnd l (Lib.hasPrefix l [60, 47]) j ∧ _
      unfold tagEnd
      split
      · intro h
        have h4 := gapN_ge l j
        have h5 := closedN_ends l _ _ (by decide) h
        exact ⟨by omega, h5.2⟩
      · intro h
        have h4 := gapN_ge l (attrsN l j)
        have h6 := attrsF_ge l (l.length + 1) j h2
        have h5 := closedN_ends l _ _ (by decide) h
        unfold attrsN at h4 h5 ⊢
        exact ⟨by omega, h5.2⟩
  · intro h; cases h
theorem tagN_le (l : List UInt8) : tagN l ≤ l.length := by
  by_cases h : 0 < tagN l
  · exact (tagN_ends l h).2.1
  · omega
end Go.Proofs.YtjhfmdfihbkcaaaGreatDoor
