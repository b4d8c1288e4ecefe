/- strings.ReplaceAll of newlines by blanks: byte for byte. -/
import Derived.Test.YtikokedphocpiaaGreatDoorAtRepl
namespace Go.Proofs.YtikokedphocpiaaGreatDoor
open Go.RowKit

theorem index_byte (l : List UInt8) (c : UInt8) : Lib.index l [c] = Lib.indexByte l c := by
  induction l with
  | nil => rfl
  | cons b l ih =>
    unfold Lib.index Lib.indexByte
    rw [ih]
    have e : List.isPrefixOf [c] (b :: l) = (b == c) := by
      simp only [List.isPrefixOf, Bool.and_true]
      exact BEq.comm
    rw [e]
theorem map_noNl (l : List UInt8) (h : ∀ j : Nat, l[j]? ≠ some 10) : l.map noNl = l := by
  induction l with
  | nil => rfl
  | cons b l ih =>
    rw [List.map_cons, ih (fun j => by simpa using h (j + 1))]
    have hb : b ≠ 10 := by simpa using h 0
    unfold noNl
    rw [if_neg hb]
theorem repl_nl : ∀ (K : Nat) (l : List UInt8), Lib.count l [10] ≤ K → Lib.replaceK [10] [32] K l = l.map noNl := by
  intro K
  induction K with
  | zero =>
    intro l h
    unfold Lib.replaceK
    rcases indexByte_spec l 10 with ⟨h1, h2⟩ | ⟨a, h1, h2, h3⟩
    · exact (map_noNl l h2).symm
    · have := Lib.count_hit (s := l) (sub := [10]) (i := a) (by simp) (by rw [index_byte, h1])
      omega
  | succ K ih =>
    intro l h
    rcases indexByte_spec l 10 with ⟨h1, h2⟩ | ⟨a, h1, h2, h3⟩
    · unfold Lib.replaceK
      rw [index_byte, h1, if_pos (by rfl)]
      exact (map_noNl l h2).symm
    · have hi : Lib.index l [10] = (a : Int) := by rw [index_byte, h1]
      have hc := Lib.count_hit (s := l) (sub := [10]) (i := a) (by simp) hi
      have ha : a < l.length := (List.getElem?_eq_some_iff.1 h2).1
      rw [Lib.replaceK_hit _ _ K l a hi, ih _ (by simp only [List.length_singleton] at hc ⊢; omega)]
      have hl : l = l.take a ++ [10] ++ l.drop (a + 1) := by
        have e : l[a] = 10 := by rw [List.getElem?_eq_getElem ha] at h2; exact Option.some.inj h2
        rw [← e, List.append_assoc, List.singleton_append, ← List.drop_eq_getElem_cons ha, List.take_append_drop]
      have ht : (l.take a).map noNl = l.take a := map_noNl _ fun j => by
        rw [List.getElem?_take]
        split
        · next hj => exact h3 j hj
        · simp
      conv => rhs; rw [hl]
      rw [List.map_append, List.map_append, ht]
      rfl
theorem replNl_any (s : ByteArray) (w : World) (hs : s.size ≤ 1099511627) (hm : MaxB w) : Calls Tryz.prog 21 #[.string s, .string ⟨#[10]⟩, .string ⟨#[32]⟩] w (ReplR w (s.data.toList.map noNl)) := by
  have hc := Lib.countB_mul_le ⟨#[10]⟩ (by decide) s.size s (Nat.le_refl _)
  have e1 : (⟨#[10]⟩ : ByteArray).size = 1 := rfl
  have e2 : (⟨#[32]⟩ : ByteArray).size = 1 := rfl
  rw [e1] at hc
  have h := replaceAll_any s ⟨#[10]⟩ ⟨#[32]⟩ w (by omega) hm (by decide) (by decide) (by rw [e2]; omega)
  rw [show (⟨#[10]⟩ : ByteArray).data.toList = [10] from rfl, show (⟨#[32]⟩ : ByteArray).data.toList = [32] from rfl, repl_nl _ _ (Nat.le_refl (Lib.countB s ⟨#[10]⟩))] at h
  exact h
end Go.Proofs.YtikokedphocpiaaGreatDoor
