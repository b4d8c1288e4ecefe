/- Newlines of one kind, plainly: as the two replacements make them, and as a loop does. -/
import Derived.Lib.ReplaceLaws
import Derived.Lib.CountLaws
namespace Go.Proofs.YtdkjenbncmedbaaGreatDoor

/-- With one kind of newline; p: behind a carriage return. -/
def nlS : Bool → List UInt8 → List UInt8
  | _, [] => []
  | p, b :: r => if b = 13 then 10 :: nlS true r else if p = true ∧ b = 10 then nlS false r else b :: nlS false r
def nlL (l : List UInt8) : List UInt8 := nlS false l
def crL : List UInt8 → List UInt8
  | [] => []
  | b :: r => if b = 13 ∧ r.head? = some 10 then crL r else b :: crL r
theorem crL_hit {r : List UInt8} (h : r.head? = some 10) : crL (13 :: r) = crL r := by
  rw [crL, if_pos ⟨rfl, h⟩]
theorem crL_miss {b : UInt8} {r : List UInt8} (h : ¬ (b = 13 ∧ r.head? = some 10)) : crL (b :: r) = b :: crL r := by
  rw [crL, if_neg h]
theorem nlS_13 (p : Bool) (r : List UInt8) : nlS p (13 :: r) = 10 :: nlS true r := by rw [nlS, if_pos rfl]
theorem nlS_10 (r : List UInt8) : nlS true (10 :: r) = nlS false r := by rw [nlS, if_neg (by decide), if_pos ⟨rfl, rfl⟩]
theorem nlS_else {p : Bool} {b : UInt8} {r : List UInt8} (h : b ≠ 13) (h2 : p = false ∨ b ≠ 10) : nlS p (b :: r) = b :: nlS false r := by
  rw [nlS, if_neg h, if_neg]
  rintro ⟨e1, e2⟩
  rcases h2 with h2 | h2
  · rw [h2] at e1; cases e1
  · exact h2 e2
theorem nlS_any {y : UInt8} {r : List UInt8} (h : y ≠ 10) : nlS true (y :: r) = nlS false (y :: r) := by
  by_cases h13 : y = 13
  · subst h13
    rw [nlS_13, nlS_13]
  · rw [nlS_else h13 (.inr h), nlS_else h13 (.inl rfl)]
def noCr (b : UInt8) : UInt8 := if b = 13 then 10 else b
theorem nlS_cr : ∀ l : List UInt8, nlS false l = (crL l).map noCr ∧ nlS true l = (if l.head? = some 10 then (crL l.tail).map noCr else (crL l).map noCr)
  | [] => ⟨rfl, rfl⟩
  | b :: r => by
    obtain ⟨i1, i2⟩ := nlS_cr r
    by_cases hb : b = 13
    · subst hb
      have e1 : nlS false (13 :: r) = (crL (13 :: r)).map noCr := by
        rw [nlS_13, i2]
        by_cases h : r.head? = some 10
        · rw [if_pos h, crL_hit h]
          match r, h with
          | c :: r2, h =>
            have hc : c = 10 := by simpa using h
            subst hc
            rw [crL_miss (by simp)]
            rfl
        · rw [if_neg h, crL_miss (fun h2 => h h2.2)]
          rfl
      refine ⟨e1, ?_⟩
      rw [if_neg (by simp), ← e1, nlS_13, nlS_13]
    · have e1 : nlS false (b :: r) = (crL (b :: r)).map noCr := by
        rw [nlS_else hb (.inl rfl), crL_miss (fun h => hb h.1), List.map_cons, ← i1]
        unfold noCr
        rw [if_neg hb]
      refine ⟨e1, ?_⟩
      by_cases h10 : b = 10
      · subst h10
        rw [if_pos (show (10 :: r).head? = some 10 from rfl), nlS_10, i1]
        rfl
      · rw [if_neg (by simpa using h10), ← e1, nlS_else hb (.inr h10), nlS_else hb (.inl rfl)]

theorem rep_cons {sub new : List UInt8} {b : UInt8} {l : List UInt8} (h : sub.isPrefixOf (b :: l) = false) (K : Nat) : Lib.replaceK sub new K (b :: l) = b :: Lib.replaceK sub new K l := by
  cases K with
  | zero => rfl
  | succ K =>
    have hge := Lib.index_ge l sub
    have hi : Lib.index (b :: l) sub = if Lib.index l sub == -1 then -1 else Lib.index l sub + 1 := by
      conv => lhs; unfold Lib.index
      rw [h]
      rfl
    unfold Lib.replaceK
    by_cases hm : Lib.index l sub = -1
    · rw [hi, hm]
      rfl
    · have hf : (Lib.index l sub == -1) = false := beq_eq_false_iff_ne.2 hm
      rw [hf] at hi ⊢
      have hi : Lib.index (b :: l) sub = Lib.index l sub + 1 := hi
      have hf2 : (Lib.index (b :: l) sub == -1) = false := beq_eq_false_iff_ne.2 (by omega)
      rw [hf2, hi]
      obtain ⟨j, hj⟩ : ∃ j : Nat, Lib.index l sub = j := ⟨(Lib.index l sub).toNat, by omega⟩
      rw [hj, show ((j : Int) + 1).toNat = j + 1 by omega, show ((j : Int)).toNat = j by omega, show j + 1 + sub.length = (j + sub.length) + 1 by omega]
      rfl
theorem rep_hit {sub new : List UInt8} {b : UInt8} {l : List UInt8} (h : sub.isPrefixOf (b :: l) = true) (K : Nat) : Lib.replaceK sub new (K + 1) (b :: l) = new ++ Lib.replaceK sub new K ((b :: l).drop sub.length) := by
  have hi : Lib.index (b :: l) sub = ((0 : Nat) : Int) := by
    unfold Lib.index
    rw [if_pos h]
    rfl
  rw [Lib.replaceK_hit sub new K (b :: l) 0 hi]
  simp
theorem cnt_cons {sub : List UInt8} {b : UInt8} {l : List UInt8} (hs : sub ≠ []) (h : sub.isPrefixOf (b :: l) = false) : Lib.count (b :: l) sub = Lib.count l sub := by
  have hge := Lib.index_ge l sub
  have hi : Lib.index (b :: l) sub = if Lib.index l sub == -1 then -1 else Lib.index l sub + 1 := by
    conv => lhs; unfold Lib.index
    rw [h]
    rfl
  by_cases hm : Lib.index l sub = -1
  · rw [Lib.count_miss hm, Lib.count_miss (by rw [hi, hm]; rfl)]
  · have hf : (Lib.index l sub == -1) = false := beq_eq_false_iff_ne.2 hm
    rw [hf] at hi
    have hi : Lib.index (b :: l) sub = Lib.index l sub + 1 := hi
    obtain ⟨j, hj⟩ : ∃ j : Nat, Lib.index l sub = j := ⟨(Lib.index l sub).toNat, by omega⟩
    rw [Lib.count_hit hs hj, Lib.count_hit (i := j + 1) hs (by rw [hi, hj]; omega), show j + 1 + sub.length = (j + sub.length) + 1 by omega]
    rfl
theorem cnt_hit {sub : List UInt8} {b : UInt8} {l : List UInt8} (hs : sub ≠ []) (h : sub.isPrefixOf (b :: l) = true) : Lib.count (b :: l) sub = 1 + Lib.count ((b :: l).drop sub.length) sub := by
  have hi : Lib.index (b :: l) sub = ((0 : Nat) : Int) := by
    unfold Lib.index
    rw [if_pos h]
    rfl
  rw [Lib.count_hit hs hi, Nat.zero_add]
theorem repK_nil {sub new : List UInt8} (hs : sub ≠ []) (K : Nat) : Lib.replaceK sub new K [] = [] := by
  cases K with
  | zero => rfl
  | succ K =>
    unfold Lib.replaceK Lib.index
    cases sub with
    | nil => exact absurd rfl hs
    | cons c r => rfl
theorem rep_cr1 : ∀ (l : List UInt8) (K : Nat), Lib.count l [13] ≤ K → Lib.replaceK [13] [10] K l = l.map noCr
  | [], K, _ => repK_nil (by simp) K
  | b :: l, K, h => by
    by_cases hb : b = 13
    · subst hb
      have hp : ([13] : List UInt8).isPrefixOf (13 :: l) = true := by simp [List.isPrefixOf]
      rw [cnt_hit (by simp) hp] at h
      obtain ⟨K, rfl⟩ : ∃ K', K = K' + 1 := ⟨K - 1, by omega⟩
      rw [rep_hit hp]
      have h : 1 + Lib.count l [13] ≤ K + 1 := h
      have := rep_cr1 l K (by omega)
      show 10 :: Lib.replaceK [13] [10] K l = _
      rw [this]
      rfl
    · have hp : ([13] : List UInt8).isPrefixOf (b :: l) = false := by
        simp [List.isPrefixOf]
        exact fun e => hb e.symm
      rw [cnt_cons (by simp) hp] at h
      rw [rep_cons hp, rep_cr1 l K h, List.map_cons]
      unfold noCr
      rw [if_neg hb]
theorem rep_cr2 : ∀ (n : Nat) (l : List UInt8), l.length ≤ n → ∀ (K : Nat), Lib.count l [13, 10] ≤ K → Lib.replaceK [13, 10] [10] K l = crL l
  | _, [], _, K, _ => repK_nil (by simp) K
  | 0, _ :: _, h, _, _ => by simp at h
  | n + 1, b :: l, hn, K, h => by
    have hn : l.length ≤ n := by simpa using hn
    by_cases hb : b = 13 ∧ l.head? = some 10
    · obtain ⟨rfl, hl⟩ := hb
      match l, hl, hn, h with
      | c :: r, hl, hn, h =>
        have hc : c = 10 := by simpa using hl
        subst hc
        have hp : ([13, 10] : List UInt8).isPrefixOf (13 :: 10 :: r) = true := by simp [List.isPrefixOf]
        rw [cnt_hit (by simp) hp] at h
        obtain ⟨K, rfl⟩ : ∃ K', K = K' + 1 := ⟨K - 1, by omega⟩
        have h : 1 + Lib.count r [13, 10] ≤ K + 1 := h
        rw [rep_hit hp]
        show 10 :: Lib.replaceK [13, 10] [10] K r = _
        rw [rep_cr2 n r (by simp at hn; omega) K (by omega)]
        rw [crL_hit rfl, crL_miss (by simp)]
    · have hp : ([13, 10] : List UInt8).isPrefixOf (b :: l) = false := by
        rw [Bool.eq_false_iff]
        intro e
        apply hb
        cases l with
        | nil => simp [List.isPrefixOf] at e
        | cons c r =>
          simp [List.isPrefixOf] at e
          exact ⟨e.1.symm, by rw [← e.2]; rfl⟩
      rw [cnt_cons (by simp) hp] at h
      rw [rep_cons hp, rep_cr2 n l hn K h]
      conv => rhs; unfold crL
      rw [if_neg hb]
/-- The two replacements, one behind the other. -/
theorem nl_two (l : List UInt8) (K K' : Nat) (h : Lib.count l [13, 10] ≤ K) (h' : Lib.count (crL l) [13] ≤ K') : Lib.replaceK [13] [10] K' (Lib.replaceK [13, 10] [10] K l) = nlL l := by
  rw [rep_cr2 _ l (Nat.le_refl _) K h, rep_cr1 _ K' h', nlL, (nlS_cr l).1]

theorem nlS_len : ∀ (l : List UInt8) (p : Bool), (nlS p l).length ≤ l.length
  | [], _ => Nat.le_refl _
  | b :: r, p => by
    have h1 := nlS_len r true
    have h2 := nlS_len r false
    unfold nlS
    split
    · simp; exact h1
    · split
      · simp; omega
      · simp; exact h2
theorem nlL_len (l : List UInt8) : (nlL l).length ≤ l.length := nlS_len l false
theorem crL_len : ∀ l : List UInt8, (crL l).length ≤ l.length
  | [] => Nat.le_refl _
  | b :: r => by
    have := crL_len r
    unfold crL
    split <;> simp <;> omega
theorem nlS_no : ∀ (l : List UInt8) (p : Bool), (13 : UInt8) ∉ nlS p l
  | [], _ => by simp [nlS]
  | b :: r, p => by
    have h1 := nlS_no r true
    have h2 := nlS_no r false
    unfold nlS
    split
    · simp [h1]
    · next hb =>
      split
      · exact h2
      · simp [h2]
        exact fun e => hb e.symm
theorem nlS_id : ∀ (l : List UInt8), (13 : UInt8) ∉ l → nlS false l = l
  | [], _ => rfl
  | b :: r, h => by
    have hb : b ≠ 13 := fun e => h (by simp [e])
    have hr : (13 : UInt8) ∉ r := fun e => h (by simp [e])
    unfold nlS
    rw [if_neg hb, if_neg (by simp), nlS_id r hr]
theorem nlL_id {l : List UInt8} (h : (13 : UInt8) ∉ l) : nlL l = l := nlS_id l h
theorem nlL_no (l : List UInt8) : (13 : UInt8) ∉ nlL l := nlS_no l false
theorem nlS_mem : ∀ (l : List UInt8) (p : Bool) (x : UInt8), x ∈ nlS p l → x = 10 ∨ x ∈ l
  | [], _, x, h => by simp [nlS] at h
  | b :: r, p, x, h => by
    have h1 := nlS_mem r true x
    have h2 := nlS_mem r false x
    unfold nlS at h
    split at h
    · rcases List.mem_cons.1 h with e | e
      · exact .inl e
      · exact (h1 e).imp id (List.mem_cons_of_mem _)
    · split at h
      · exact (h2 h).imp id (List.mem_cons_of_mem _)
      · rcases List.mem_cons.1 h with e | e
        · exact .inr (by simp [e])
        · exact (h2 e).imp id (List.mem_cons_of_mem _)
theorem nlL_nil {l : List UInt8} (h : nlL l = []) : l = [] := by
  cases l with
  | nil => rfl
  | cons b r =>
    exfalso
    unfold nlL nlS at h
    split at h
    · cases h
    · rw [if_neg (by simp)] at h
      cases h
end Go.Proofs.YtdkjenbncmedbaaGreatDoor
