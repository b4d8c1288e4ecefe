/- Words in a row of words with blanks between, plainly. -/
import Derived.Lib.IndexMore
import Derived.Lib.IndexAny
namespace Go.Proofs.Ytlhfjlfoddjciaa

theorem index_iff (s sub : List UInt8) : 0 ≤ Lib.index s sub ↔ ∃ a b, s = a ++ sub ++ b := by
  induction s with
  | nil =>
    unfold Lib.index
    cases sub with
    | nil => simp
    | cons c r => simp
  | cons c s ih =>
    unfold Lib.index
    by_cases hp : sub.isPrefixOf (c :: s) = true
    · simp only [hp, if_true]
      obtain ⟨b, hb⟩ := List.isPrefixOf_iff_prefix.1 hp
      exact ⟨fun _ => ⟨[], b, by simp [hb]⟩, fun _ => Int.le_refl _⟩
    · simp only [hp]
      have hno : ∀ a b, c :: s = a ++ sub ++ b ↔ ∃ a', a = c :: a' ∧ s = a' ++ sub ++ b := by
        intro a b
        cases a with
        | nil =>
          constructor
          · intro h; exact absurd (List.isPrefixOf_iff_prefix.2 ⟨b, by simpa using h.symm⟩) hp
          · rintro ⟨a', h, _⟩; cases h
        | cons d a' =>
          constructor
          · intro h; simp at h; obtain ⟨rfl, h⟩ := h; exact ⟨a', rfl, by simpa using h⟩
          · rintro ⟨a'', h, h2⟩; cases h; simp [h2]
      have ih' : 0 ≤ Lib.index s sub ↔ ∃ a b, c :: s = a ++ sub ++ b := by
        rw [ih]
        constructor
        · rintro ⟨a, b, h⟩; exact ⟨c :: a, b, (hno _ _).2 ⟨a, rfl, h⟩⟩
        · rintro ⟨a, b, h⟩; obtain ⟨a', _, h2⟩ := (hno _ _).1 h; exact ⟨a', b, h2⟩
      rw [← ih']
      by_cases h1 : Lib.index s sub = -1
      · simp [h1]
      · have : (Lib.index s sub == -1) = false := by simpa using h1
        simp only [this]
        constructor
        · intro h; simp at h; omega
        · intro h; simp; omega

def rowOf (ws : List (List UInt8)) : List UInt8 := 32 :: (ws.map (· ++ [32])).flatten
theorem rowOf_cons (w : List UInt8) (ws : List (List UInt8)) : rowOf (w :: ws) = 32 :: (w ++ rowOf ws) := by simp [rowOf]

theorem split_first {x y p q : List UInt8} (hx : (32 : UInt8) ∉ x) (hy : (32 : UInt8) ∉ y) (h : x ++ 32 :: p = y ++ 32 :: q) : x = y := by
  rcases List.append_eq_append_iff.1 h with ⟨c, h1, h2⟩ | ⟨c, h1, h2⟩
  · cases c with
    | nil => simp at h1; exact h1.symm
    | cons d r => simp at h2; obtain ⟨rfl, _⟩ := h2; exact absurd (by rw [h1]; simp) hy
  · cases c with
    | nil => simp at h1; exact h1
    | cons d r => simp at h2; obtain ⟨rfl, _⟩ := h2; exact absurd (by rw [h1]; simp) hx
theorem split_in {w r a t : List UInt8} (hw : (32 : UInt8) ∉ w) (h : w ++ r = a ++ 32 :: t) : ∃ a', r = a' ++ 32 :: t := by
  rcases List.append_eq_append_iff.1 h with ⟨c, _, h2⟩ | ⟨c, h1, h2⟩
  · exact ⟨c, h2⟩
  · cases c with
    | nil => exact ⟨[], by simpa using h2.symm⟩
    | cons d r => simp at h2; obtain ⟨rfl, _⟩ := h2; exact absurd (by rw [h1]; simp) hw

theorem row_iff (name : List UInt8) (hn : (32 : UInt8) ∉ name) : ∀ ws : List (List UInt8), (∀ w ∈ ws, (32 : UInt8) ∉ w) → ((∃ a b, rowOf ws = a ++ (32 :: name ++ [32]) ++ b) ↔ name ∈ ws)
  | [], _ => by
    simp only [rowOf, List.map_nil, List.flatten_nil, List.not_mem_nil, iff_false]
    rintro ⟨a, b, h⟩
    have := congrArg List.length h
    simp at this
    omega
  | w :: ws, hws => by
    have ih := row_iff name hn ws (fun w h => hws w (by simp [h]))
    have hw := hws w (by simp)
    rw [List.mem_cons, ← ih, rowOf_cons]
    constructor
    · rintro ⟨a, b, h⟩
      cases a with
      | nil =>
        left
        simp [rowOf] at h
        exact (split_first hw hn h).symm
      | cons c a =>
        right
        simp at h
        obtain ⟨rfl, h⟩ := h
        obtain ⟨a', h2⟩ := split_in hw (t := name ++ 32 :: b) (by simpa using h)
        exact ⟨a', b, by rw [h2]; simp⟩
    · rintro (rfl | ⟨a, b, h⟩)
      · exact ⟨[], (ws.map (· ++ [32])).flatten, by simp [rowOf]⟩
      · exact ⟨32 :: (w ++ a), b, by rw [h]; simp⟩

/-- A row of words holds a word, blanks around it. -/
theorem row_has (name : List UInt8) (hn : (32 : UInt8) ∉ name) (ws : List (List UInt8)) (hws : ∀ w ∈ ws, (32 : UInt8) ∉ w) : Lib.contains (rowOf ws) (32 :: name ++ [32]) = decide (name ∈ ws) := by
  unfold Lib.contains
  rw [decide_eq_decide, index_iff, row_iff name hn ws hws]
end Go.Proofs.Ytlhfjlfoddjciaa
