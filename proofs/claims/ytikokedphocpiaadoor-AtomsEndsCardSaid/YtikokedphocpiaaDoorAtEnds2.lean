/- Where code, an address in brackets and a piece of HTML end, plainly. -/
import Derived.Test.YtikokedphocpiaaDoorAtHtmn
import Derived.Test.YtikokedphocpiaaDoorAtAuto
import Derived.Test.YtikokedphocpiaaDoorAtCode
import Derived.Lib.Bytes2
namespace Go.Proofs.YtikokedphocpiaaDoor
open Go.RowKit

theorem cfind_spec {l : List UInt8} {n : Nat} : ∀ {f k j : Nat}, cfind l n f k = some j → k ≤ j ∧ j < l.length ∧ rowN l j = n ∧ n ≠ 0
  | 0, _, _, h => by cases h
  | f + 1, k, j, h => by
    unfold cfind at h
    split at h
    · rename_i hk
      split at h
      · have := cfind_spec h
        exact ⟨by omega, this.2⟩
      · rename_i h0
        split at h
        · rename_i hn
          cases h
          exact ⟨Nat.le_refl _, hk, hn, by omega⟩
        · have := cfind_spec h
          exact ⟨by omega, this.2⟩
    · cases h
theorem rowN_get (l : List UInt8) (k j : Nat) (h : j < rowN l k) : l[k + j]? = some 96 := by
  unfold rowN at h
  rw [← List.getElem?_drop]
  have hp : (l.drop k).takeWhile (· == 96) <+: l.drop k := List.takeWhile_prefix _
  obtain ⟨t, ht⟩ := hp
  rw [← ht, List.getElem?_append_left h, List.getElem?_eq_getElem h]
  have := List.all_takeWhile (p := fun b : UInt8 => b == 96) (l := l.drop k)
  rw [List.all_eq_true] at this
  have h2 := this _ (List.getElem_mem h)
  simpa using h2
def EndOk (l : List UInt8) (c : UInt8) (lo h : Nat) : Prop := ∃ q, h = q + 1 ∧ lo < h ∧ h ≤ l.length ∧ l[q]? = some c
theorem code_ends (l : List UInt8) (i : Int) (h : (codeAt l i).is = true) : ∃ k : Nat, i = k ∧ EndOk l 96 (k + 1) (codeAt l i).stop := by
  revert h
  unfold codeAt
  split
  · rename_i hi
    obtain ⟨k, rfl⟩ : ∃ k : Nat, i = k := ⟨i.toNat, by omega⟩
    rw [Int.toNat_natCast]
    cases hc : cnext l (rowN l k) (k + rowN l k) with
    | none => intro h; cases h
    | some j =>
      intro _
      obtain ⟨h1, h2, h3, h4⟩ := cfind_spec hc
      have h5 := rowN_le l j
      refine ⟨k, rfl, j + rowN l k - 1, ?_, ?_, ?_, ?_⟩
      · show j + rowN l k = _; omega
      · show k + 1 < j + rowN l k; omega
      · show j + rowN l k ≤ _; omega
      · have := rowN_get l j (rowN l k - 1) (by omega)
        rwa [show j + (rowN l k - 1) = j + rowN l k - 1 by omega] at this
  · intro h; cases h
theorem cut_found (l : List UInt8) (c : UInt8) (h : (Lib.cut l [c]).2.2 = true) : l[(Lib.cut l [c]).1.length]? = some c := by
  unfold Lib.cut at h ⊢
  rcases Lib.index_spec l [c] with ⟨h1, _⟩ | ⟨i, h1, h2, h3, _⟩
  · rw [h1] at h; cases h
  · rw [h1, if_pos (by omega)]
    simp only [Int.toNat_natCast]
    have hk : i < l.length := by
      unfold Lib.occAt at h3
      rcases Nat.lt_or_ge i l.length with h4 | h4
      · exact h4
      · rw [List.drop_eq_nil_of_le h4] at h3; cases h3
    rw [List.length_take, Nat.min_eq_left h2]
    unfold Lib.occAt at h3
    rw [List.isPrefixOf_iff_prefix] at h3
    obtain ⟨t, ht⟩ := h3
    have : l[i + 0]? = some c := by rw [← List.getElem?_drop, ← ht]; rfl
    exact this
theorem auto_ends (l : List UInt8) (i : Int) : (autoAt l i).2.2 = 0 ∨ ∃ k : Nat, i = k ∧ (autoAt l i).2.2 = k + (autoAt l i).1.length + 2 ∧ EndOk l 62 k (autoAt l i).2.2 := by
  unfold autoAt
  split
  · rename_i hi
    obtain ⟨k, rfl⟩ : ∃ k : Nat, i = k := ⟨i.toNat, by omega⟩
    rw [Int.toNat_natCast] at hi ⊢
    obtain ⟨c, hc⟩ : ∃ c, Lib.cut (l.drop (k + 1)) [62] = c := ⟨_, rfl⟩
    have hf := cut_found (l.drop (k + 1)) 62
    rw [hc] at hf ⊢
    cases hb : c.2.2 with
    | false => left; unfold autoC; rw [if_pos hb]
    | true =>
      have hg := hf hb
      rw [List.getElem?_drop] at hg
      obtain ⟨hl, _⟩ := List.getElem?_eq_some_iff.1 hg
      have hE : EndOk l 62 k (k + c.1.length + 2) := ⟨k + c.1.length + 1, by omega, by omega, by omega, by rwa [show k + 1 + c.1.length = k + c.1.length + 1 by omega] at hg⟩
      unfold autoC
      rw [if_neg (by rw [hb]; simp)]
      split
      · exact .inr ⟨k, rfl, rfl, hE⟩
      · split
        · exact .inr ⟨k, rfl, rfl, hE⟩
        · exact .inl rfl
  · exact .inl rfl
def GoodPs (ps : List (ByteArray × ByteArray)) : Prop := ∀ p ∈ ps, 2 ≤ p.1.data.toList.length ∧ (p.1.data.toList ++ p.2.data.toList).getLast? = some 62 ∧ (p.2.data.toList = [] → 2 < p.1.data.toList.length)
theorem good_ps : GoodPs htmlPs := by unfold GoodPs htmlPs; decide
theorem htmlS_ends (l : List UInt8) (k : Nat) : ∀ ps : List (ByteArray × ByteArray), GoodPs ps → htmlS (l.drop k) k ps = 0 ∨ EndOk l 62 (k + 2) (htmlS (l.drop k) k ps)
  | [], _ => .inl rfl
  | (a, b) :: r, hg => by
    unfold htmlS
    have h1 := hg (a, b) (List.mem_cons_self ..)
    simp only at h1
    split
    · rename_i hp
      have hp1 : Lib.hasPrefix (l.drop k) a.data.toList = true := by
        cases h : Lib.hasPrefix (l.drop k) a.data.toList with
        | true => rfl
        | false => rw [h] at hp; cases hp
      have ht : Lib.trimPrefix (l.drop k) a.data.toList = l.drop (k + a.data.toList.length) := by unfold Lib.trimPrefix; rw [if_pos hp1, List.drop_drop]
      rw [ht]
      have hal := Lib.hasPrefix_le hp1
      rw [List.length_drop] at hal
      rcases Lib.index_spec (l.drop (k + a.data.toList.length)) b.data.toList with ⟨h2, _⟩ | ⟨i, h2, h3, h4, _⟩
      · rw [h2, if_pos (by decide)]; exact .inl rfl
      · rw [h2, if_neg (by omega), Int.toNat_natCast]
        right
        have hA : a.size = a.data.toList.length := by rw [Array.length_toList]; rfl
        have hB : b.size = b.data.toList.length := by rw [Array.length_toList]; rfl
        rw [hA, hB]
        cases hbn : b.data.toList with
        | nil =>
          rw [hbn, List.append_nil] at h1
          have h5 : i = 0 := by
            rw [hbn] at h2
            have : Lib.index (l.drop (k + a.data.toList.length)) [] = 0 := by cases l.drop (k + a.data.toList.length) <;> rfl
            omega
          obtain ⟨p1, p2, p3⟩ := prefix_last hp1 h1.2.1
          have h6 := h1.2.2 rfl
          rw [h5]
          exact ⟨k + a.data.toList.length - 1, by simp; omega, by simp; omega, by simp; omega, p3⟩
        | cons x t =>
          rw [hbn] at h1 h4
          have hlast : (x :: t).getLast? = some 62 := by rw [← h1.2.1, List.getLast?_append, List.getLast?_eq_some_getLast (show x :: t ≠ [] by simp)]; rfl
          unfold Lib.occAt at h4
          rw [List.drop_drop] at h4
          obtain ⟨p1, p2, p3⟩ := prefix_last (l := l) (x := x :: t) (k := k + a.data.toList.length + i) (by unfold Lib.hasPrefix; exact h4) hlast
          exact ⟨k + a.data.toList.length + i + (x :: t).length - 1, by omega, by omega, p2, p3⟩
    · exact htmlS_ends l k r fun p hp => hg p (List.mem_cons_of_mem _ hp)
theorem html_ends (l : List UInt8) (i : Int) : htmlAt l i = 0 ∨ ∃ k : Nat, i = k ∧ EndOk l 62 (k + 2) (htmlAt l i) := by
  unfold htmlAt
  split
  · rename_i hi
    obtain ⟨k, rfl⟩ : ∃ k : Nat, i = k := ⟨i.toNat, by omega⟩
    rw [Int.toNat_natCast]
    unfold htmlC
    split
    · rename_i ht
      right
      obtain ⟨t1, t2, t3⟩ := tagN_ends _ ht
      rw [List.length_drop] at t2
      rw [List.getElem?_drop] at t3
      exact ⟨k, rfl, k + (tagN (l.drop k) - 1), by omega, by omega, by omega, t3⟩
    · rcases htmlS_ends l k htmlPs good_ps with h | h
      · exact .inl h
      · exact .inr ⟨k, rfl, h⟩
  · exact .inl rfl
theorem esc_ends (l : List UInt8) (i : Int) : escAt l i = none ∨ ∃ (k : Nat) (c : UInt8), i = k ∧ escAt l i = some c ∧ k + 2 ≤ l.length := by
  cases h : escAt l i with
  | none => exact .inl rfl
  | some c =>
    right
    unfold escAt at h
    split at h
    · rename_i hi
      obtain ⟨k, rfl⟩ : ∃ k : Nat, i = k := ⟨i.toNat, by omega⟩
      rw [Int.toNat_natCast] at h
      refine ⟨k, c, rfl, rfl, ?_⟩
      split at h
      · cases hg : l[k + 1]? with
        | none => rw [hg] at h; cases h
        | some x => have := (List.getElem?_eq_some_iff.1 hg).1; omega
      · cases h
    · cases h
end Go.Proofs.YtikokedphocpiaaDoor
