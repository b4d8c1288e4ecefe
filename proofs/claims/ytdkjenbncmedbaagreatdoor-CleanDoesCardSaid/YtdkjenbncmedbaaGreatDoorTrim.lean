/- strings.TrimFunc at the predicate 'a rune up to 32', on bytes: the bytes up to 32 at both ends fall. -/
import Derived.Shelf.GgClosure.StringsTrimFunc
import Derived.Lib.TrimUEq
namespace Go.Proofs.YtdkjenbncmedbaaGreatDoor
open Go.Lib

/-- Is a byte a blank of an address? -/
def sp (b : UInt8) : Bool := decide (b.toNat ≤ 32)
def spR (r : Nat) : Bool := decide (r ≤ 32)
def lcut (l : List UInt8) : List UInt8 := l.dropWhile sp
def rcut (l : List UInt8) : List UInt8 := (l.reverse.dropWhile sp).reverse

theorem spR_yes {r : Nat} (h : r ≤ 32) : spR r = true := decide_eq_true h
theorem spR_no {r : Nat} (h : ¬ r ≤ 32) : spR r = false := decide_eq_false h
theorem sp_yes {b : UInt8} (h : b.toNat ≤ 32) : sp b = true := decide_eq_true h
theorem sp_no {b : UInt8} (h : ¬ b.toNat ≤ 32) : sp b = false := decide_eq_false h

theorem decodeN_high (n b0 b1 b2 b3 : Nat) (h : 128 ≤ b0) (h0 : b0 < 256) : 128 ≤ (decodeN n b0 b1 b2 b3).1 := by
  unfold decodeN
  repeat' split
  all_goals first | (exfalso; omega) | (simp only; omega)

theorem decodeL_high (l : List UInt8) (h : 128 ≤ (l.getD 0 0).toNat) : 128 ≤ (decodeL l).1 := by
  rw [decodeL_N]
  exact decodeN_high _ _ _ _ _ h (UInt8.toNat_lt _)
theorem decodeL_low (l : List UInt8) (h : (l.getD 0 0).toNat < 128) : decodeL l = ((l.getD 0 0).toNat, 1) := by
  rw [decodeL_N, decodeN_ascii _ _ _ _ _ h]

theorem idx_left (s : ByteArray) : ∀ (f pos : Nat), s.size ≤ pos + f → lcut (s.data.toList.drop pos) = if idxFuncFrom spR false s f pos = -1 then [] else s.data.toList.drop (idxFuncFrom spR false s f pos).toNat
  | 0, pos, h => by
    have : s.data.toList.drop pos = [] := List.drop_eq_nil_of_le (by rw [← size_eq]; omega)
    simp [lcut, idxFuncFrom, this]
  | f + 1, pos, h => by
    by_cases hp : pos < s.size
    · have hlt : pos < s.data.toList.length := by rw [← size_eq]; exact hp
      have hc : s.data.toList.drop pos = s.data.toList[pos] :: s.data.toList.drop (pos + 1) := List.drop_eq_getElem_cons hlt
      have hg : (s.data.toList.drop pos).getD 0 0 = s.data.toList[pos] := by rw [hc]; rfl
      simp only [idxFuncFrom, if_pos hp]
      rw [← decodeL_drop]
      by_cases ha : s.data.toList[pos].toNat < 128
      · rw [decodeL_low _ (by rw [hg]; exact ha), hg]
        simp only
        by_cases hs : s.data.toList[pos].toNat ≤ 32
        · have e1 : spR s.data.toList[pos].toNat = true := spR_yes hs
          have e2 : sp s.data.toList[pos] = true := sp_yes hs
          rw [e1, hc]
          simp only [lcut, List.dropWhile_cons, e2, if_true, Bool.true_eq_false, if_false]
          exact idx_left s f (pos + 1) (by omega)
        · have e1 : spR s.data.toList[pos].toNat = false := spR_no hs
          have e2 : sp s.data.toList[pos] = false := sp_no (by omega)
          rw [e1]
          simp only [if_true]
          rw [if_neg (by omega), Int.toNat_natCast]
          conv => lhs; rw [hc]
          simp only [lcut, List.dropWhile_cons, e2, Bool.false_eq_true, if_false]
          exact hc.symm
      · have hh := decodeL_high (s.data.toList.drop pos) (by rw [hg]; omega)
        have e1 : spR (decodeL (s.data.toList.drop pos)).1 = false := spR_no (by omega)
        have e2 : sp s.data.toList[pos] = false := sp_no (by omega)
        rw [e1]
        simp only [if_true]
        rw [if_neg (by omega), Int.toNat_natCast]
        conv => lhs; rw [hc]
        simp only [lcut, List.dropWhile_cons, e2, Bool.false_eq_true, if_false]
        exact hc.symm
    · have : s.data.toList.drop pos = [] := List.drop_eq_nil_of_le (by rw [← size_eq]; omega)
      rw [idxFuncFrom_end _ _ _ _ _ hp, if_pos rfl, this]
      rfl

theorem trimLeft_sp (s : ByteArray) : (trimLeftF spR s).data.toList = lcut s.data.toList := by
  have h := idx_left s s.size 0 (by omega)
  rw [List.drop_zero] at h
  rw [h]
  unfold trimLeftF idxFunc
  split
  · rfl
  · rw [extract_data, List.take_of_length_le (by rw [List.length_drop, ← size_eq]; exact Nat.le_refl _)]

theorem rcut_all (l : List UInt8) (h : ∀ b ∈ l, sp b = true) : rcut l = [] := by
  have e : ∀ k : List UInt8, (∀ b ∈ k, sp b = true) → k.dropWhile sp = [] := by
    intro k hk
    induction k with
    | nil => rfl
    | cons b k ih => rw [List.dropWhile_cons, hk b (by simp), if_pos rfl, ih (fun c hc => hk c (by simp [hc]))]
  rw [rcut, e _ (fun b hb => h b (List.mem_reverse.1 hb))]; rfl
theorem getD_at (l : List UInt8) (i : Nat) (h : i < l.length) : l.getD i 0 = l[i] := by rw [List.getD, List.getElem?_eq_getElem h]; rfl
theorem rcut_snoc (a : List UInt8) (c : UInt8) (r : List UInt8) (hc : sp c = false) (h : ∀ b ∈ r, sp b = true) : rcut (a ++ [c] ++ r) = a ++ [c] := by
  rw [rcut, List.reverse_append, List.dropWhile_append_of_pos (fun b hb => h b (List.mem_reverse.1 hb))]
  simp [hc]
theorem rcut_at (l : List UInt8) (i : Nat) (hi : 0 < i) (hil : i ≤ l.length) (hc : sp (l.getD (i - 1) 0) = false) (h : ∀ b ∈ l.drop i, sp b = true) : rcut l = l.take i := by
  have e : l.take i = l.take (i - 1) ++ [l.getD (i - 1) 0] := by
    conv => lhs; rw [show i = i - 1 + 1 by omega]
    rw [List.take_succ_eq_append_getElem (by omega)]
    congr 2
    simp [List.getD]
    rw [List.getElem?_eq_getElem (by omega)]; rfl
  conv => lhs; rw [← List.take_append_drop i l, e]
  rw [rcut_snoc _ _ _ hc h, ← e]

theorem idx_right (s : ByteArray) : ∀ (f i : Nat), i ≤ s.size → i ≤ f → (∀ b ∈ s.data.toList.drop i, sp b = true) →
    (lastIdxFuncFrom spR false s f i = -1 ∧ rcut s.data.toList = []) ∨
    (0 ≤ lastIdxFuncFrom spR false s f i ∧ rcut s.data.toList = s.data.toList.take ((lastIdxFuncFrom spR false s f i).toNat + (decodeL (s.data.toList.drop (lastIdxFuncFrom spR false s f i).toNat)).2))
  | 0, i, hi, hf, ht => by
    obtain rfl : i = 0 := by omega
    exact .inl ⟨rfl, rcut_all _ ht⟩
  | f + 1, i, hi, hf, ht => by
    have hil : i ≤ s.data.toList.length := by rw [← size_eq]; exact hi
    by_cases h0 : 0 < i
    · have hw := decodeLastL_width (s.data.toList.take i) (by rw [List.length_take]; omega)
      rw [List.length_take, Nat.min_eq_left hil] at hw
      have hopen : OpenAt s.data.toList i := by
        by_cases he : i = s.data.toList.length
        · exact .inl he
        · right
          have hlt : i < s.data.toList.length := by omega
          have hm : s.data.toList.getD i 0 ∈ s.data.toList.drop i := by
            rw [List.drop_eq_getElem_cons hlt]
            simp [List.getD, List.getElem?_eq_getElem hlt]
          have := ht _ hm
          simp only [sp, decide_eq_true_eq] at this
          omega
      have hfw := fw_width s.data.toList i h0 hil hopen
      unfold lastIdxFuncFrom
      rw [if_pos h0]
      by_cases ha : (s.data.toList.getD (i - 1) 0).toNat ≤ 32
      · have hd : decodeLastL (s.data.toList.take i) = ((s.data.toList.getD (i - 1) 0).toNat, 1) := by
          rcases last_cases s.data.toList i h0 hil with ⟨_, hd⟩ | ⟨hb, _⟩ | ⟨hb, _⟩
          · exact hd
          · omega
          · omega
        have e1 : spR (s.data.toList.getD (i - 1) 0).toNat = true := spR_yes ha
        rw [hd]
        simp only [e1, Bool.true_eq_false, if_false]
        refine idx_right s f (i - 1) (by omega) (by omega) ?_
        intro b hb
        rw [List.drop_eq_getElem_cons (by omega), show i - 1 + 1 = i by omega, List.mem_cons] at hb
        rcases hb with rfl | hb
        · have : s.data.toList.getD (i - 1) 0 = s.data.toList[i - 1]'(by omega) := getD_at _ _ (by omega)
          rw [this] at ha
          exact sp_yes ha
        · exact ht b hb
      · have hrune : ¬ (decodeLastL (s.data.toList.take i)).1 ≤ 32 := by
          rcases last_cases s.data.toList i h0 hil with ⟨_, hd⟩ | ⟨hb, hd⟩ | ⟨hb, st, hst, hd, hsum⟩
          · rw [hd]; exact ha
          · rw [hd]; decide
          · rw [hd]
            by_cases hlow : (((s.data.toList.take i).drop st).getD 0 0).toNat < 128
            · rw [decodeL_low _ hlow] at hsum
              simp only at hsum
              rw [getD_dropU, Nat.add_zero, getD_takeU _ _ _ hst, show st = i - 1 by omega] at hlow
              omega
            · have := decodeL_high _ (by omega : 128 ≤ (((s.data.toList.take i).drop st).getD 0 0).toNat)
              omega
        have e1 : spR (decodeLastL (s.data.toList.take i)).1 = false := spR_no hrune
        rw [e1]
        simp only [if_true]
        refine .inr ⟨by omega, ?_⟩
        rw [Int.toNat_natCast, hfw, show i - (decodeLastL (s.data.toList.take i)).2 + (decodeLastL (s.data.toList.take i)).2 = i by omega]
        exact rcut_at _ i h0 hil (sp_no ha) ht
    · obtain rfl : i = 0 := by omega
      unfold lastIdxFuncFrom
      rw [if_neg h0]
      exact .inl ⟨rfl, rcut_all _ ht⟩

theorem trimRight_sp (s : ByteArray) : (trimRightF spR s).data.toList = rcut s.data.toList := by
  have h := idx_right s s.size s.size (Nat.le_refl _) (Nat.le_refl _) (by
    rw [List.drop_eq_nil_of_le (by rw [← size_eq]; exact Nat.le_refl _)]
    intro b hb
    cases hb)
  unfold trimRightF rightEndF lastIdxFunc
  rcases h with ⟨h1, h2⟩ | ⟨h1, h2⟩
  · rw [h1, h2]
    simp
  · rw [if_pos h1, extract_data, h2]
    have hd : ∀ k, (decodeGoB (s.extract k s.size)).2 = (decodeL (s.data.toList.drop k)).2 ∨ s.size ≤ k := by
      intro k
      by_cases hk : k < s.size
      · left
        have e : (s.extract k s.size).size = s.size - k := by rw [ByteArray.size_extract]; omega
        unfold decodeGoB
        rw [if_neg (by omega), ← decodeL_drop, List.drop_zero, extract_data, List.take_of_length_le (by rw [List.length_drop, ← size_eq]; exact Nat.le_refl _)]
      · right; omega
    generalize (lastIdxFuncFrom spR false s s.size s.size).toNat = k at *
    rcases hd k with h | h
    · rw [h, List.drop_zero, Nat.sub_zero]
    · have hl : s.data.toList.length ≤ k := by rw [← size_eq]; exact h
      rw [List.drop_zero, Nat.sub_zero, List.take_of_length_le (by omega), List.take_of_length_le (by omega)]
theorem trim_sp (s : ByteArray) : (trimF spR s).data.toList = rcut (lcut s.data.toList) := by
  unfold trimF
  rw [trimRight_sp, trimLeft_sp]
end Go.Proofs.YtdkjenbncmedbaaGreatDoor
