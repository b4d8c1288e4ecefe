/- A label's words with a blank between each two, plainly: byte by byte. -/
import Derived.Test.YtbcfhpomclkccaaDoorRsFold
import Derived.Test.YtbcfhpomclkccaaDoorRsJoin
import Derived.Test.YtbcfhpomclkccaaDoorRsAnyS
import Derived.Test.YtbcfhpomclkccaaDoorRsLab
import Derived.Lib.FieldsP
import Derived.Lib.TrimAscii
namespace Go.Proofs.YtbcfhpomclkccaaDoor
open Go.RowKit

/-- Blanks and newlines between words are one blank; none at the ends. -/
def sqF : List UInt8 → List UInt8 → Bool → List UInt8
  | [], acc, _ => acc
  | c :: l, acc, g => if ws3 c then sqF l acc true else sqF l ((if g && !acc.isEmpty then acc ++ [32] else acc) ++ [c]) false
def sqL (l : List UInt8) : List UInt8 := sqF l [] true
def wsN (r : Nat) : Bool := r == 32 || r == 9 || r == 10
theorem sqF_none (u : List UInt8) : ∀ (l acc : List UInt8), (∀ c ∈ u, ws3 c = false) → acc ≠ [] → sqF (u ++ l) acc false = sqF l (acc ++ u) false := by
  induction u with
  | nil => intro l acc _ _; simp
  | cons c u ih =>
    intro l acc h ha
    rw [List.cons_append, sqF, if_neg (by rw [h c (by simp)]; exact Bool.false_ne_true), Bool.false_and, if_neg Bool.false_ne_true, ih l _ (fun x hx => h x (List.mem_cons_of_mem _ hx)) (by simp)]
    simp
theorem sqF_word (u : List UInt8) (l acc : List UInt8) (h : ∀ c ∈ u, ws3 c = false) (hu : u ≠ []) : sqF (u ++ l) acc true = sqF l ((if acc = [] then [] else acc ++ [32]) ++ u) false := by
  cases u with
  | nil => exact absurd rfl hu
  | cons c u =>
    rw [List.cons_append, sqF, if_neg (by rw [h c (by simp)]; exact Bool.false_ne_true)]
    rw [sqF_none u l _ (fun x hx => h x (List.mem_cons_of_mem _ hx)) (by simp)]
    cases acc <;> simp
theorem sqF_len : ∀ (l acc : List UInt8) (g : Bool), (sqF l acc g).length ≤ acc.length + l.length + (if g then 1 else 0)
  | [], acc, g => by simp [sqF]
  | c :: l, acc, g => by
    rw [sqF]
    split
    · have := sqF_len l acc true
      simp at this ⊢
      omega
    · have := sqF_len l ((if g && !acc.isEmpty then acc ++ [32] else acc) ++ [c]) false
      rw [List.length_append, List.length_singleton] at this
      rw [List.length_cons]
      have h2 : (if g && !acc.isEmpty then acc ++ [32] else acc).length ≤ acc.length + (if g then 1 else 0) := by
        cases g
        · simp
        · cases acc <;> simp
      rw [if_neg Bool.false_ne_true] at this
      omega
theorem joinL_last (xs : List ByteArray) (y z : ByteArray) (u : List UInt8) (h : z.data.toList = y.data.toList ++ u) : joinL (xs ++ [z]) = joinL (xs ++ [y]) ++ u := by
  by_cases hx : xs = []
  · subst hx; simp [joinL, h]
  · rw [joinL_snoc _ _ hx, joinL_snoc _ _ hx, h]; simp
theorem joinL_nil (xs : List ByteArray) (h : ∀ x ∈ xs, x.data.toList ≠ []) : joinL xs = [] ↔ xs = [] := by
  cases xs with
  | nil => simp [joinL]
  | cons x r => simp [joinL, h x (by simp)]
theorem joinL_count (xs : List ByteArray) (h : xs ≠ []) : (joinL xs).length + 1 = sumZ xs + xs.length := by
  cases xs with
  | nil => exact absurd rfl h
  | cons x r =>
    have h : ∀ r : List ByteArray, (r.flatMap fun y => (32 : UInt8) :: y.data.toList).length = sumZ r + r.length := by
      intro r
      induction r with
      | nil => rfl
      | cons y r ih =>
        rw [List.flatMap_cons, List.length_append, ih]
        have : y.data.toList.length = y.size := Array.length_toList
        simp [sumZ] at this ⊢
        omega
    have hx : x.data.toList.length = x.size := Array.length_toList
    simp only [joinL, List.length_append, h, hx]
    simp [sumZ]
    omega
def pieces (s : ByteArray) (SP : List (Nat × Nat)) : List ByteArray := SP.map fun x => s.extract x.1 x.2
theorem ext_toList (s : ByteArray) (a b : Nat) : (s.extract a b).data.toList = (s.data.toList.drop a).take (b - a) := Lib.extract_data s a b
theorem ext_grow (s : ByteArray) (a b k : Nat) (h : a ≤ b) : (s.extract a (b + k)).data.toList = (s.extract a b).data.toList ++ (s.data.toList.drop b).take k := by
  rw [ext_toList, ext_toList, show b + k - a = (b - a) + k by omega, List.take_add, List.drop_drop, show a + (b - a) = b by omega]
/-- One rune: all of its bytes white, or none. -/
theorem rune_white (s : ByteArray) (pos : Nat) (h : pos < s.size) : 1 ≤ (Utf8.decode s pos).2 ∧ pos + (Utf8.decode s pos).2 ≤ s.size ∧ ((wsN (Utf8.decode s pos).1 = true ∧ (Utf8.decode s pos).2 = 1 ∧ ∃ c, s.data.toList[pos]? = some c ∧ ws3 c = true) ∨ (wsN (Utf8.decode s pos).1 = false ∧ ∀ c ∈ (s.data.toList.drop pos).take (Utf8.decode s pos).2, ws3 c = false)) := by
  have hl : s.data.toList.length = s.size := Array.length_toList
  have hne : s.data.toList.drop pos ≠ [] := by intro e; have := congrArg List.length e; rw [List.length_drop, hl] at this; simp at this; omega
  have hdw := Lib.decodeL_width (s.data.toList.drop pos)
  have hdz := Lib.decodeL_le _ hne
  rw [List.length_drop, hl] at hdz
  have hdl : Lib.decodeL (s.data.toList.drop pos) = Utf8.decode s pos := Lib.decodeL_drop s pos
  rw [hdl] at hdw hdz
  refine ⟨hdw, by omega, ?_⟩
  have hdr : s.data.toList.drop pos = s[pos] :: s.data.toList.drop (pos + 1) := by
    rw [List.drop_eq_getElem_cons (by omega)]; rfl
  by_cases ha : (s[pos]'h).toNat < 128
  · have hd : Utf8.decode s pos = ((s[pos]'h).toNat, 1) := by rw [← hdl, hdr, Lib.decodeL_ascii _ _ ha]
    rw [hd]
    have hw : wsN (s[pos]'h).toNat = ws3 s[pos] := by
      unfold wsN ws3
      have e : ∀ (c n : UInt8), (c.toNat == n.toNat) = (c == n) := fun c n => by rw [Bool.eq_iff_iff, beq_iff_eq, beq_iff_eq]; exact ⟨fun e => UInt8.toNat_inj.1 e, fun e => by rw [e]⟩
      rw [← e _ 32, ← e _ 9, ← e _ 10]
      rfl
    simp only
    rw [hw]
    cases hq : ws3 s[pos] with
    | true => exact .inl ⟨by first | rfl | trivial, by first | rfl | trivial, s[pos], get_list s pos h, hq⟩
    | false => exact .inr ⟨by first | rfl | trivial, by rw [hdr]; simpa using hq⟩
  · have hh := decode_high s pos h (by omega)
    refine .inr ⟨by unfold wsN; simp; omega, ?_⟩
    intro c hc
    obtain ⟨j, hj, hjc⟩ := List.mem_iff_getElem.1 hc
    rw [List.length_take] at hj
    obtain ⟨hk, hk2⟩ := decode_tail s pos h (by omega) j (by omega)
    have : c = s[pos + j] := by rw [← hjc, List.getElem_take, List.getElem_drop]; rfl
    rw [this]
    unfold ws3
    simp only [Bool.or_eq_false_iff, beq_eq_false_iff_ne]
    refine ⟨⟨?_, ?_⟩, ?_⟩ <;> (intro e; rw [e] at hk2; revert hk2; decide)
theorem spans_sq (s : ByteArray) : ∀ (f pos : Nat) (st : Option Nat) (SP : List (Nat × Nat)), s.size ≤ pos + f → pos ≤ s.size → (∀ x ∈ SP, x.1 < x.2 ∧ x.2 ≤ s.size) → (∀ a, st = some a → a < pos) →
    (∀ x ∈ Lib.closeSpans s (Lib.spansFromP wsN s f pos st SP), x.1 < x.2 ∧ x.2 ≤ s.size) ∧ joinL (pieces s (Lib.closeSpans s (Lib.spansFromP wsN s f pos st SP))) = (match st with
      | none => sqF (s.data.toList.drop pos) (joinL (pieces s SP)) true
      | some a => sqF (s.data.toList.drop pos) (joinL (pieces s (SP ++ [(a, pos)]))) false) := by
  have hl : s.data.toList.length = s.size := Array.length_toList
  have hend : ∀ (f pos : Nat) (st : Option Nat) (SP : List (Nat × Nat)), ¬ pos < s.size → pos ≤ s.size → (∀ x ∈ SP, x.1 < x.2 ∧ x.2 ≤ s.size) → (∀ a, st = some a → a < pos) →
      (∀ x ∈ Lib.closeSpans s (SP, st), x.1 < x.2 ∧ x.2 ≤ s.size) ∧ joinL (pieces s (Lib.closeSpans s (SP, st))) = (match st with
      | none => sqF (s.data.toList.drop pos) (joinL (pieces s SP)) true
      | some a => sqF (s.data.toList.drop pos) (joinL (pieces s (SP ++ [(a, pos)]))) false) := by
    intro f pos st SP h1 h2 hSP hst
    obtain rfl : pos = s.size := by omega
    rw [List.drop_eq_nil_of_le (by omega)]
    cases st with
    | none => exact ⟨hSP, rfl⟩
    | some a =>
      refine ⟨?_, rfl⟩
      intro x hx
      rcases List.mem_append.1 hx with hx | hx
      · exact hSP x hx
      · rw [List.mem_singleton] at hx
        subst hx
        exact ⟨hst a rfl, Nat.le_refl _⟩
  have hpn : ∀ (SP : List (Nat × Nat)), (∀ x ∈ SP, x.1 < x.2 ∧ x.2 ≤ s.size) → ∀ x ∈ pieces s SP, x.data.toList ≠ [] := by
    intro SP hSP x hx
    obtain ⟨y, hy, rfl⟩ := List.mem_map.1 hx
    have := hSP y hy
    intro e
    have h2 := congrArg List.length e
    rw [ext_toList, List.length_take, List.length_drop, hl] at h2
    simp at h2
    omega
  intro f
  induction f with
  | zero =>
    intro pos st SP h1 h2 hSP hst
    exact hend 0 pos st SP (by omega) h2 hSP hst
  | succ f ih =>
    intro pos st SP h1 h2 hSP hst
    by_cases hp : pos < s.size
    · obtain ⟨hw1, hw2, hc⟩ := rune_white s pos hp
      obtain ⟨⟨r, k⟩, hd⟩ : ∃ x, Utf8.decode s pos = x := ⟨_, rfl⟩
      rw [hd] at hw1 hw2 hc
      simp only at hw1 hw2 hc
      rcases hc with ⟨hc, rfl, c, hg, hc3⟩ | ⟨hc, hall⟩
      · have hdr : s.data.toList.drop pos = c :: s.data.toList.drop (pos + 1) := by
          have hlt : pos < s.data.toList.length := by omega
          rw [List.drop_eq_getElem_cons hlt]
          rw [List.getElem?_eq_getElem hlt] at hg
          rw [Option.some.inj hg]
        cases st with
        | none =>
          rw [show Lib.spansFromP wsN s (f + 1) pos none SP = Lib.spansFromP wsN s f (pos + 1) none SP from (by rw [Lib.spansFromP.eq_def]; simp only; rw [if_pos hp, hd]; simp only; rw [if_pos hc])]
          have := ih (pos + 1) none SP (by omega) (by omega) hSP (fun _ h => by cases h)
          refine ⟨this.1, ?_⟩
          rw [this.2]
          simp only
          rw [hdr, sqF, if_pos hc3]
        | some a =>
          have hst' := hst a rfl
          rw [show Lib.spansFromP wsN s (f + 1) pos (some a) SP = Lib.spansFromP wsN s f (pos + 1) none (SP ++ [(a, pos)]) from (by rw [Lib.spansFromP.eq_def]; simp only; rw [if_pos hp, hd]; simp only; rw [if_pos hc])]
          have := ih (pos + 1) none (SP ++ [(a, pos)]) (by omega) (by omega) (fun x hx => by
            rcases List.mem_append.1 hx with hx | hx
            · exact hSP x hx
            · rw [List.mem_singleton] at hx
              subst hx
              exact ⟨hst', h2⟩) (fun _ h => by cases h)
          refine ⟨this.1, ?_⟩
          rw [this.2]
          simp only
          rw [hdr, sqF, if_pos hc3]
      · have hdr : s.data.toList.drop pos = (s.data.toList.drop pos).take k ++ s.data.toList.drop (pos + k) := by rw [← List.drop_drop, List.take_append_drop]
        have hne : (s.data.toList.drop pos).take k ≠ [] := by
          intro e
          have := congrArg List.length e
          rw [List.length_take, List.length_drop, hl] at this
          simp at this
          omega
        cases st with
        | some a =>
          have hst' := hst a rfl
          rw [show Lib.spansFromP wsN s (f + 1) pos (some a) SP = Lib.spansFromP wsN s f (pos + k) (some a) SP from (by rw [Lib.spansFromP.eq_def]; simp only; rw [if_pos hp, hd]; simp only; rw [if_neg (by rw [hc]; exact Bool.false_ne_true)])]
          have := ih (pos + k) (some a) SP (by omega) (by omega) hSP (fun b h => by cases h; omega)
          refine ⟨this.1, ?_⟩
          rw [this.2]
          simp only
          have hA : joinL (pieces s (SP ++ [(a, pos)])) ≠ [] := by
            intro e
            have h3 := (joinL_nil _ (hpn (SP ++ [(a, pos)]) (fun x hx => by
              rcases List.mem_append.1 hx with hx | hx
              · exact hSP x hx
              · rw [List.mem_singleton] at hx
                subst hx
                exact ⟨hst', h2⟩))).1 e
            simp [pieces] at h3
          have e : sqF (s.data.toList.drop pos) (joinL (pieces s (SP ++ [(a, pos)]))) false = sqF (s.data.toList.drop (pos + k)) (joinL (pieces s (SP ++ [(a, pos)])) ++ (s.data.toList.drop pos).take k) false := by
            conv => lhs; rw [hdr]
            exact sqF_none _ _ _ hall hA
          rw [e]
          congr 1
          unfold pieces
          rw [List.map_append, List.map_append]
          exact joinL_last _ _ _ _ (ext_grow s a pos k (by omega))
        | none =>
          rw [show Lib.spansFromP wsN s (f + 1) pos none SP = Lib.spansFromP wsN s f (pos + k) (some pos) SP from (by rw [Lib.spansFromP.eq_def]; simp only; rw [if_pos hp, hd]; simp only; rw [if_neg (by rw [hc]; exact Bool.false_ne_true)])]
          have := ih (pos + k) (some pos) SP (by omega) (by omega) hSP (fun b h => by cases h; omega)
          refine ⟨this.1, ?_⟩
          rw [this.2]
          simp only
          have e : sqF (s.data.toList.drop pos) (joinL (pieces s SP)) true = sqF (s.data.toList.drop (pos + k)) ((if joinL (pieces s SP) = [] then [] else joinL (pieces s SP) ++ [32]) ++ (s.data.toList.drop pos).take k) false := by
            conv => lhs; rw [hdr]
            exact sqF_word _ _ _ hall hne
          rw [e]
          congr 1
          have hx : (s.extract pos (pos + k)).data.toList = (s.data.toList.drop pos).take k := by rw [ext_toList, show pos + k - pos = k by omega]
          by_cases hp0 : SP = []
          · subst hp0
            simp [pieces, joinL]
          · have h4 : pieces s SP ≠ [] := by simp [pieces, hp0]
            have h5 : joinL (pieces s SP) ≠ [] := fun e => h4 ((joinL_nil _ (hpn SP hSP)).1 e)
            rw [if_neg h5]
            rw [show pieces s (SP ++ [(pos, pos + k)]) = pieces s SP ++ [s.extract pos (pos + k)] from List.map_append, joinL_snoc _ _ h4, hx]
            simp
    · rw [show Lib.spansFromP wsN s (f + 1) pos st SP = (SP, st) from Lib.spansFromP_end wsN s (f + 1) pos st SP hp]
      exact hend f pos st SP hp h2 hSP hst
theorem fields_sq (s : ByteArray) : joinL (Lib.goFieldsP wsN s) = sqL s.data.toList := by
  have := (spans_sq s s.size 0 none [] (by omega) (Nat.zero_le _) (fun _ h => by cases h) (fun _ h => by cases h)).2
  unfold Lib.goFieldsP Lib.spansOfP sqL
  rw [List.drop_zero] at this
  exact this
theorem fields_le (s : ByteArray) : sumZ (Lib.goFieldsP wsN s) + (Lib.goFieldsP wsN s).length ≤ s.size + 2 := by
  have h1 := fields_sq s
  have h2 := sqF_len s.data.toList [] true
  have hl : s.data.toList.length = s.size := Array.length_toList
  by_cases h : Lib.goFieldsP wsN s = []
  · rw [h]; simp [sumZ]
  · have h3 := joinL_count _ h
    rw [h1] at h3
    unfold sqL at h3
    simp at h2
    omega
end Go.Proofs.YtbcfhpomclkccaaDoor
