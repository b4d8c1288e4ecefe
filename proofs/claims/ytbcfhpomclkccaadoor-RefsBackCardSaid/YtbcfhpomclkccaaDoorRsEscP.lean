/- A text with backslashes, read again: plainly. -/
import Derived.Test.YtbcfhpomclkccaaDoorRsRb
namespace Go.Proofs.YtbcfhpomclkccaaDoor
open Go.RowKit

/-- Signs that are all signs, each once, a backslash and an ampersand among them. -/
structure Sg (g : List UInt8) : Prop where
  bs : (92 : UInt8) ∈ g
  am : (38 : UInt8) ∈ g
  sg : ∀ c ∈ g, signB c = true
  one : ∀ c ∈ g, g.count c = 1
theorem sgLabel : Sg [92, 91, 93, 38] := ⟨by decide, by decide, by decide, by decide⟩
theorem sgDest : Sg [92, 60, 62, 38] := ⟨by decide, by decide, by decide, by decide⟩
theorem sgTitle : Sg [92, 34, 38] := ⟨by decide, by decide, by decide, by decide⟩
theorem escL_cons (g : List UInt8) (c : UInt8) (l : List UInt8) : escL g (c :: l) = escC g c ++ escL g l := List.flatMap_cons
theorem escC_yes {g : List UInt8} (G : Sg g) {c : UInt8} (h : c ∈ g) : escC g c = [92, c] := by unfold escC; rw [G.one c h]; rfl
theorem escC_no {g : List UInt8} {c : UInt8} (h : c ∉ g) : escC g c = [c] := by unfold escC; rw [List.count_eq_zero_of_not_mem h]; rfl
theorem iany_split (chars : List UInt8) : ∀ (u r : List UInt8) (c : UInt8), (∀ x ∈ u, chars.contains x = false) → chars.contains c = true → Lib.indexAny (u ++ c :: r) chars = u.length
  | [], r, c, _, hc => by
    show Lib.indexAny (c :: r) chars = _
    rw [Lib.indexAny, if_pos hc]; rfl
  | x :: u, r, c, hu, hc => by
    have ih := iany_split chars u r c (fun y hy => hu y (List.mem_cons_of_mem _ hy)) hc
    rw [List.cons_append, Lib.indexAny, if_neg (by rw [hu x (by simp)]; exact Bool.false_ne_true), ih, if_neg (by rw [beq_iff_eq]; omega)]
    simp
theorem iany_none (chars : List UInt8) : ∀ u : List UInt8, (∀ x ∈ u, chars.contains x = false) → Lib.indexAny u chars = -1
  | [], _ => rfl
  | x :: u, hu => by
    have ih := iany_none chars u (fun y hy => hu y (List.mem_cons_of_mem _ hy))
    rw [Lib.indexAny, if_neg (by rw [hu x (by simp)]; exact Bool.false_ne_true), ih, if_pos (by decide)]
theorem list_split (g : List UInt8) : ∀ l : List UInt8, ∃ u r, l = u ++ r ∧ (∀ x ∈ u, x ∉ g) ∧ (r = [] ∨ ∃ c t, r = c :: t ∧ c ∈ g)
  | [] => ⟨[], [], rfl, (fun _ h => nomatch h), .inl rfl⟩
  | x :: l => by
    by_cases hx : x ∈ g
    · exact ⟨[], x :: l, rfl, (fun _ h => nomatch h), .inr ⟨x, l, rfl, hx⟩⟩
    · obtain ⟨u, r, h1, h2, h3⟩ := list_split g l
      refine ⟨x :: u, r, by rw [h1]; rfl, fun y hy => ?_, h3⟩
      rcases List.mem_cons.1 hy with rfl | hy
      · exact hx
      · exact h2 y hy
theorem escL_plain {g : List UInt8} : ∀ (u r : List UInt8), (∀ x ∈ u, x ∉ g) → escL g (u ++ r) = u ++ escL g r
  | [], r, _ => rfl
  | x :: u, r, h => by
    rw [List.cons_append, escL_cons, escC_no (h x (by simp)), escL_plain u r (fun y hy => h y (List.mem_cons_of_mem _ hy))]
    rfl
theorem not_two {g : List UInt8} (G : Sg g) {x : UInt8} (h : x ∉ g) : ([92, 38] : List UInt8).contains x = false := by
  rw [List.contains_eq_mem, decide_eq_false_iff_not]
  intro hm
  simp at hm
  rcases hm with rfl | rfl
  · exact h G.bs
  · exact h G.am
/-- What was written so is read as it was. -/
theorem unesc_esc {g : List UInt8} (G : Sg g) : ∀ (n : Nat) (l : List UInt8) (f : Nat), l.length ≤ n → (escL g l).length < f → unescF f ⟨(escL g l).toArray⟩ = l := by
  intro n
  induction n with
  | zero =>
    intro l f hn hf
    obtain rfl := List.eq_nil_of_length_eq_zero (by omega : l.length = 0)
    obtain ⟨f, rfl⟩ : ∃ f', f = f' + 1 := ⟨f - 1, by omega⟩
    rfl
  | succ n ih =>
    intro l f hn hf
    obtain ⟨f, rfl⟩ : ∃ f', f = f' + 1 := ⟨f - 1, by omega⟩
    obtain ⟨u, r, rfl, hu, hr⟩ := list_split g l
    rw [escL_plain u r hu] at hf ⊢
    have hu2 : ∀ x ∈ u, ([92, 38] : List UInt8).contains x = false := fun x hx => not_two G (hu x hx)
    rcases hr with rfl | ⟨c, t, rfl, hc⟩
    · have e1 : escL g [] = [] := rfl
      rw [e1, List.append_nil]
      try rw [List.append_nil]
      unfold unescF
      rw [show (⟨u.toArray⟩ : ByteArray).data.toList = u from rfl, iany_none _ u hu2, if_pos (by decide)]
    · rw [escL_cons, escC_yes G hc] at hf ⊢
      have hL : u ++ ([92, c] ++ escL g t) = u ++ 92 :: (c :: escL g t) := rfl
      rw [hL] at hf ⊢
      unfold unescF
      rw [show (⟨(u ++ 92 :: (c :: escL g t)).toArray⟩ : ByteArray).data.toList = u ++ 92 :: (c :: escL g t) from rfl, iany_split _ u _ 92 hu2 (by decide), if_neg (by omega), Int.toNat_natCast]
      have hsz : (⟨(u ++ 92 :: (c :: escL g t)).toArray⟩ : ByteArray).size = u.length + ((escL g t).length + 2) := by
        show (u ++ 92 :: (c :: escL g t)).toArray.size = _
        simp
      have hx : (⟨(u ++ 92 :: (c :: escL g t)).toArray⟩ : ByteArray).extract u.length (⟨(u ++ 92 :: (c :: escL g t)).toArray⟩ : ByteArray).size = ⟨(92 :: c :: escL g t).toArray⟩ := by
        apply str_mk
        rw [Lib.extract_data, hsz]
        show ((u ++ 92 :: (c :: escL g t)).drop u.length).take _ = _
        rw [List.drop_left, List.take_of_length_le (by simp)]
      rw [hx, List.take_left]
      congr 1
      unfold unescF.unescS
      have hd : (⟨(92 :: c :: escL g t).toArray⟩ : ByteArray).data.toList = 92 :: c :: escL g t := rfl
      rw [hd, if_pos (by simp [G.sg c hc])]
      have hx2 : (⟨(92 :: c :: escL g t).toArray⟩ : ByteArray).extract 2 (⟨(92 :: c :: escL g t).toArray⟩ : ByteArray).size = ⟨(escL g t).toArray⟩ := by
        apply str_mk
        rw [Lib.extract_data, hd]
        show (escL g t).take _ = _
        rw [List.take_of_length_le]
        show _ ≤ (92 :: c :: escL g t).toArray.size - 2
        simp
      rw [hx2, ih t f (by simp at hn; omega) (by simp at hf; omega)]
      rfl
theorem unescB_esc {g : List UInt8} (G : Sg g) (l : List UInt8) (x : ByteArray) (hx : x.data.toList = escL g l) : unescB x = ⟨l.toArray⟩ := by
  obtain rfl := str_mk x _ hx
  unfold unescB
  rw [unesc_esc G l.length l _ (Nat.le_refl _) (by show _ < (escL g l).toArray.size + 1; simp)]
/-- Up to what ends it. -/
theorem upF_esc {g : List UInt8} (G : Sg g) (e : UInt8) (may : UInt8 → Bool) (he : ¬ e = 92) (post : List UInt8) : ∀ (l pre : List UInt8) (f : Nat), (∀ c ∈ l, c ∉ g → ¬ c = e ∧ may c = true) → (escL g l).length < f →
    upF (pre ++ (escL g l ++ e :: post)) e may f pre.length = (pre.length + (escL g l).length, true)
  | [], pre, f, _, hf => by
    obtain ⟨f, rfl⟩ : ∃ f', f = f' + 1 := ⟨f - 1, by omega⟩
    have hg : (pre ++ (escL g [] ++ e :: post))[pre.length]? = some e := by simp [escL]
    rw [upF, hg]
    have hs : stepL (pre ++ (escL g [] ++ e :: post)) pre.length = 1 := by unfold stepL; rw [hg, if_neg (by simpa using he)]
    simp only
    rw [if_pos hs, if_pos (by simp)]
    rfl
  | c :: l, pre, f, h, hf => by
    obtain ⟨f, rfl⟩ : ∃ f', f = f' + 1 := ⟨f - 1, by omega⟩
    rw [escL_cons] at hf ⊢
    by_cases hc : c ∈ g
    · rw [escC_yes G hc] at hf ⊢
      have hL : pre ++ ([92, c] ++ escL g l ++ e :: post) = (pre ++ [92, c]) ++ (escL g l ++ e :: post) := by simp
      have h0 : (pre ++ ([92, c] ++ escL g l ++ e :: post))[pre.length]? = some 92 := by simp
      have h1 : (pre ++ ([92, c] ++ escL g l ++ e :: post))[pre.length + 1]? = some c := by simp
      have hs : stepL (pre ++ ([92, c] ++ escL g l ++ e :: post)) pre.length = 2 := by unfold stepL; rw [h0, if_pos (by rfl), h1]; simp only; rw [if_pos (G.sg c hc)]
      rw [upF, h0]
      simp only
      rw [if_neg (by omega), hL]
      have ih := upF_esc G e may he post l (pre ++ [92, c]) f (fun x hx => h x (List.mem_cons_of_mem _ hx)) (by simp at hf; omega)
      rw [show (pre ++ [92, c]).length = pre.length + 2 by simp] at ih
      rw [ih]
      simp
      omega
    · rw [escC_no hc] at hf ⊢
      have hL : pre ++ ([c] ++ escL g l ++ e :: post) = (pre ++ [c]) ++ (escL g l ++ e :: post) := by simp
      have h0 : (pre ++ ([c] ++ escL g l ++ e :: post))[pre.length]? = some c := by simp
      have hc92 : ¬ c = 92 := fun hh => hc (hh ▸ G.bs)
      have hs : stepL (pre ++ ([c] ++ escL g l ++ e :: post)) pre.length = 1 := by unfold stepL; rw [h0, if_neg (by simpa using hc92)]
      obtain ⟨k1, k2⟩ := h c (by simp) hc
      rw [upF, h0]
      simp only
      rw [if_pos hs, if_neg (by simpa using k1), if_pos k2, hL]
      have ih := upF_esc G e may he post l (pre ++ [c]) f (fun x hx => h x (List.mem_cons_of_mem _ hx)) (by simp at hf; omega)
      rw [show (pre ++ [c]).length = pre.length + 1 by simp] at ih
      rw [ih]
      simp
      omega
/-- How long a text is with backslashes, of any bytes. -/
theorem escL_append (g a b : List UInt8) : escL g (a ++ b) = escL g a ++ escL g b := List.flatMap_append
theorem escC_len {g : List UInt8} (G : Sg g) (c : UInt8) : (escC g c).length ≤ 2 := by
  by_cases h : c ∈ g
  · rw [escC_yes G h]; simp
  · rw [escC_no h]; simp
theorem escL_len2 {g : List UInt8} (G : Sg g) : ∀ l : List UInt8, (escL g l).length ≤ 2 * l.length
  | [] => by simp [escL]
  | c :: l => by
    have h1 := escL_len2 G l
    have h2 := escC_len G c
    rw [escL_cons, List.length_append, List.length_cons]
    omega
theorem high_no {g : List UInt8} (G : Sg g) : ∀ c ∈ ([239, 191, 189] : List UInt8), c ∉ g := by
  intro c hc hg
  have := G.sg c hg
  simp at hc
  rcases hc with rfl | rfl | rfl <;> (revert this; decide)
theorem escPlain_len {g : List UInt8} (G : Sg g) : ∀ (f : Nat) (l : List UInt8), (escL g (plainF f l)).length ≤ 3 * l.length
  | 0, _ => by simp [plainF, escL]
  | f + 1, l => by
    unfold plainF
    split
    · simp [escL]
    · rename_i h
      have h1 := frontN_in l (by omega)
      have h2 := escPlain_len G f (l.drop (frontN l).1)
      rw [List.length_drop] at h2
      rw [escL_append, List.length_append]
      split
      · have h3 := escL_len2 G (l.take (frontN l).1)
        rw [List.length_take] at h3
        omega
      · have h4 := escL_plain [239, 191, 189] [] (high_no G)
        rw [List.append_nil] at h4
        rw [h4]
        rw [show (([239, 191, 189] : List UInt8) ++ escL g []).length = 3 from rfl]
        omega
theorem escText_len {g : List UInt8} (G : Sg g) (l : List UInt8) : (escL g (textL l)).length ≤ 3 * l.length := by
  unfold textL plainL
  refine Nat.le_trans (escPlain_len G _ _) ?_
  split
  · rw [List.length_drop]; omega
  · omega
end Go.Proofs.YtbcfhpomclkccaaDoor
