/- Code between more backquotes than it has in a row, plainly: it is read as it is. -/
import Derived.Test.YtikokedphocpiaaDoorAtCodeP
namespace Go.Proofs.YtikokedphocpiaaDoor
open Go.RowKit

theorem row_in (r : List UInt8) : ∀ j, j < (r.takeWhile (· == 96)).length → r[j]? = some 96 := by
  induction r with
  | nil => intro j h; simp at h
  | cons a r ih =>
    intro j h
    rw [List.takeWhile_cons] at h
    by_cases e : (a == 96) = true
    · rw [e] at h
      cases j with
      | zero => simpa using e
      | succ j => simp at h ⊢; exact ih j h
    · rw [if_neg e] at h
      simp at h
theorem row_out (r : List UInt8) : r[(r.takeWhile (· == 96)).length]? ≠ some 96 := by
  induction r with
  | nil => simp
  | cons a r ih =>
    rw [List.takeWhile_cons]
    by_cases e : (a == 96) = true
    · rw [if_pos e]
      simpa using ih
    · rw [if_neg e]
      intro h
      apply e
      simpa using h
theorem rowN_in (l : List UInt8) (k j : Nat) (h : j < rowN l k) : l[k + j]? = some 96 := by
  rw [← List.getElem?_drop]
  exact row_in _ j h
theorem rowN_out (l : List UInt8) (k : Nat) : l[k + rowN l k]? ≠ some 96 := by
  rw [← List.getElem?_drop]
  exact row_out _
theorem rowN_is {l : List UInt8} {k n : Nat} (h : ∀ j, j < n → l[k + j]? = some 96) (h2 : l[k + n]? ≠ some 96) : rowN l k = n := by
  rcases Nat.lt_trichotomy (rowN l k) n with h3 | h3 | h3
  · exact absurd (h _ h3) (rowN_out l k)
  · exact h3
  · exact absurd (rowN_in l k n h3) h2
/-- The row that ends at k, and the longest so far. -/
def trailK (l : List UInt8) : Nat → Nat
  | 0 => 0
  | k + 1 => if l[k]? = some 96 then trailK l k + 1 else 0
def mostK (l : List UInt8) : Nat → Nat
  | 0 => 0
  | k + 1 => max (mostK l k) (trailK l (k + 1))
theorem trailK_le (l : List UInt8) : ∀ k, trailK l k ≤ k
  | 0 => Nat.le_refl _
  | k + 1 => by
    have := trailK_le l k
    unfold trailK
    split <;> omega
theorem mostK_le (l : List UInt8) : ∀ k, mostK l k ≤ k
  | 0 => Nat.le_refl _
  | k + 1 => by
    have h1 := mostK_le l k
    have h2 := trailK_le l (k + 1)
    unfold mostK
    omega
theorem trail_most (l : List UInt8) : ∀ k, trailK l k ≤ mostK l k
  | 0 => Nat.le_refl _
  | k + 1 => by rw [mostK]; omega
theorem most_mono (l : List UInt8) (k : Nat) : ∀ d, mostK l k ≤ mostK l (k + d)
  | 0 => Nat.le_refl _
  | d + 1 => by
    have := most_mono l k d
    rw [← Nat.add_assoc, mostK]
    omega
theorem trail_run (l : List UInt8) (p : Nat) : ∀ n, (∀ j, j < n → l[p + j]? = some 96) → n ≤ trailK l (p + n)
  | 0, _ => Nat.zero_le _
  | n + 1, h => by
    have := trail_run l p n fun j hj => h j (by omega)
    rw [← Nat.add_assoc, trailK, if_pos (h n (by omega))]
    omega
theorem run_most (l : List UInt8) (p n : Nat) (hp : p + n ≤ l.length) (h : ∀ j, j < n → l[p + j]? = some 96) : n ≤ mostK l l.length := by
  have h1 := trail_run l p n h
  have h2 := trail_most l (p + n)
  have h3 := most_mono l (p + n) (l.length - (p + n))
  rw [show p + n + (l.length - (p + n)) = l.length by omega] at h3
  omega
theorem cnext_far {l : List UInt8} {n K : Nat} (hK : K ≤ l.length) : ∀ (d k : Nat), k + d = K → (∀ j, k ≤ j → j < K → rowN l j < n ∧ j + rowN l j ≤ K) → cnext l n k = cnext l n K := by
  intro d
  induction d using Nat.strongRecOn with
  | ind d ih =>
    intro k hk h
    by_cases hd : d = 0
    · subst hd; rw [show k = K by omega]
    · have hkl : k < l.length := by omega
      have h1 := h k (Nat.le_refl _) (by omega)
      by_cases h0 : rowN l k = 0
      · rw [cnext_skip hkl h0]
        exact ih (d - 1) (by omega) (k + 1) (by omega) fun j hj hj2 => h j (by omega) hj2
      · rw [cnext_row hkl h0 (by omega)]
        exact ih (d - rowN l k) (by omega) (k + rowN l k) (by omega) fun j hj hj2 => h j (by omega) hj2
def backT (n : Nat) (s more : List UInt8) : List UInt8 := List.replicate n 96 ++ 32 :: (s ++ 32 :: (List.replicate n 96 ++ 120 :: more))
theorem backT_len (n : Nat) (s more : List UInt8) : (backT n s more).length = 2 * n + s.length + 3 + more.length := by
  unfold backT
  simp
  omega
theorem backT_sign (n : Nat) (s more : List UInt8) (j : Nat) (h : j < n) : (backT n s more)[j]? = some 96 := by
  unfold backT
  rw [List.getElem?_append_left (by simpa using h), List.getElem?_replicate, if_pos h]
theorem backT_tail (n : Nat) (s more : List UInt8) (j : Nat) : (backT n s more)[n + j]? = (32 :: (s ++ 32 :: (List.replicate n 96 ++ 120 :: more)))[j]? := by
  unfold backT
  rw [List.getElem?_append_right (by simp)]
  congr 1
  simp
theorem backT_one (n : Nat) (s more : List UInt8) : (backT n s more)[n]? = some 32 := backT_tail n s more 0
theorem backT_mid (n : Nat) (s more : List UInt8) (j : Nat) (h : j < s.length) : (backT n s more)[n + (j + 1)]? = s[j]? := by
  rw [backT_tail, List.getElem?_cons_succ, List.getElem?_append_left h]
theorem backT_end (n : Nat) (s more : List UInt8) (j : Nat) : (backT n s more)[n + (s.length + j + 1)]? = (32 :: (List.replicate n 96 ++ 120 :: more))[j]? := by
  rw [backT_tail, List.getElem?_cons_succ, List.getElem?_append_right (by omega)]
  congr 1
  omega
theorem backT_two (n : Nat) (s more : List UInt8) : (backT n s more)[n + (s.length + 1)]? = some 32 := backT_end n s more 0
theorem backT_last (n : Nat) (s more : List UInt8) : rowN (backT n s more) (n + s.length + 2) = n := by
  refine rowN_is (fun j hj => ?_) ?_
  · have := backT_end n s more (j + 1)
    rw [show n + s.length + 2 + j = n + (s.length + (j + 1) + 1) by omega, this, List.getElem?_cons_succ, List.getElem?_append_left (by simpa using hj), List.getElem?_replicate, if_pos hj]
  · have := backT_end n s more (n + 1)
    rw [show n + s.length + 2 + n = n + (s.length + (n + 1) + 1) by omega, this, List.getElem?_cons_succ, List.getElem?_append_right (by simp)]
    simp
theorem back_code (s more : List UInt8) (n : Nat) (hn : n = mostK s s.length + 1) (hb : (s.map noNl).any (· != 32) = true) :
    codeAt (backT n s more) 0 = ⟨s.map noNl, s.length + 2 + 2 * n, true⟩ := by
  have h0 : (backT n s more)[0]? = some 96 := backT_sign n s more 0 (by omega)
  have hr : rowN (backT n s more) 0 = n := rowN_is (fun j hj => by rw [Nat.zero_add]; exact backT_sign n s more j hj) (by rw [Nat.zero_add, backT_one]; decide)
  have hl := backT_len n s more
  have hf : cnext (backT n s more) n n = some (n + s.length + 2) := by
    rw [cnext_far (K := n + s.length + 2) (by omega) (s.length + 2) n (by omega)]
    · exact cnext_found (by omega) (by rw [backT_last]; omega) (backT_last n s more)
    · intro j hj1 hj2
      have hin := rowN_in (backT n s more) j
      obtain ⟨m, hm⟩ : ∃ m, rowN (backT n s more) j = m := ⟨_, rfl⟩
      rw [hm] at hin ⊢
      have hst : j + m ≤ n + s.length + 1 := by
        rcases Nat.lt_or_ge (n + s.length + 1) (j + m) with h | h
        · have := hin (n + s.length + 1 - j) (by omega)
          rw [show j + (n + s.length + 1 - j) = n + (s.length + 1) by omega, backT_two] at this
          cases this
        · exact h
      refine ⟨?_, by omega⟩
      by_cases hjn : j = n
      · subst hjn
        rcases Nat.eq_zero_or_pos m with h | h
        · omega
        · have := hin 0 h
          rw [Nat.add_zero, backT_one] at this
          cases this
      · have := run_most s (j - (n + 1)) m (by omega) fun t ht => by
          have h1 := hin t ht
          rwa [show j + t = n + (j - (n + 1) + t + 1) by omega, backT_mid _ _ _ _ (by omega)] at h1
        omega
  have htx : ((backT n s more).drop n).take (n + s.length + 2 - n) = 32 :: (s ++ [32]) := by
    unfold backT
    rw [List.drop_left' (by simp), show n + s.length + 2 - n = s.length + 1 + 1 by omega, List.take_succ_cons, List.take_append, List.take_of_length_le (by omega), show s.length + 1 - s.length = 1 by omega]
    rfl
  unfold codeAt
  rw [show ((0 : Int)).toNat = 0 from rfl, if_pos ⟨by omega, h0⟩, hr, Nat.zero_add, hf]
  simp only
  rw [htx]
  have hmap : (32 :: (s ++ [32])).map noNl = 32 :: (s.map noNl ++ [32]) := by simp [noNl]
  rw [hmap]
  have hsh : shave (32 :: (s.map noNl ++ [32])) = s.map noNl := by
    unfold shave
    have h1 : (32 :: (s.map noNl ++ [32])).any (· != 32) = true := by rw [List.any_cons, List.any_append, hb]; simp
    have h2 : Lib.hasPrefix (32 :: (s.map noNl ++ [32])) [32] = true := by unfold Lib.hasPrefix; simp
    have h3 : Lib.hasSuffix (32 :: (s.map noNl ++ [32])) [32] = true := by
      unfold Lib.hasSuffix
      rw [List.isSuffixOf_iff_suffix]
      exact ⟨32 :: s.map noNl, by simp⟩
    rw [h1, h2, h3, if_pos (by rfl)]
    simp
  rw [hsh]
  congr 1
  omega
end Go.Proofs.YtikokedphocpiaaDoor
