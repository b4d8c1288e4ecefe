/- url.Scheme and the reference's Scheme: an address's scheme. -/
import Derived.Test.YtdkjenbncmedbaaGreatDoorRefStrip
import Derived.Lib.IndexBytes
namespace Go.Proofs.YtdkjenbncmedbaaGreatDoor
open Go.RowKit

def ne (c b : UInt8) : Bool := b != c
theorem take_index (c : UInt8) : ∀ l : List UInt8, c ∈ l → l.take (Lib.indexByte l c).toNat = l.takeWhile (ne c)
  | [], h => by cases h
  | b :: l, h => by
    unfold Lib.indexByte
    by_cases hb : b = c
    · subst hb
      rw [List.takeWhile_cons]
      simp [ne]
    · have hb' : (b == c) = false := by simpa using hb
      have hm : c ∈ l := by
        rcases List.mem_cons.1 h with h | h
        · exact absurd h.symm hb
        · exact h
      have h0 := (indexByte_has l c).2 hm
      have h1 : (Lib.indexByte l c == -1) = false := by rw [beq_eq_false_iff_ne]; omega
      have h2 : (Lib.indexByte l c + 1).toNat = (Lib.indexByte l c).toNat + 1 := by omega
      have h3 : ne c b = true := by unfold ne; simp [hb]
      rw [hb', h1]
      simp only [Bool.false_eq_true, if_false]
      rw [h2, List.take_succ_cons, take_index c l hm, List.takeWhile_cons, h3]
      rfl
theorem cut_byte (l : List UInt8) (c : UInt8) : Lib.cut l [c] = if c ∈ l then (l.takeWhile (ne c), l.drop ((Lib.indexByte l c).toNat + 1), true) else (l, [], false) := by
  unfold Lib.cut
  rw [Lib.index_one]
  by_cases h : c ∈ l
  · rw [if_pos ((indexByte_has l c).2 h), if_pos h, take_index c l h]
    rfl
  · rw [if_neg (fun h' => h ((indexByte_has l c).1 h')), if_neg h]

def mayS (b : UInt8) : Bool := letter b || digit b || (b == 43 || b == 45 || b == 46)
/-- The scheme of a name that stands ahead of a colon. -/
def schemeOf (name : List UInt8) : Option (List UInt8) := if (match name with | [] => false | b :: _ => letter b) && name.all mayS then some (lowerL name) else none
def scheme (l : List UInt8) : Option (List UInt8) := if (58 : UInt8) ∈ strip l then schemeOf ((strip l).takeWhile (ne 58)) else none
def SchR (w : World) (o : Option (List UInt8)) (e : Ending) (w' : World) : Prop := e = .returned (.tuple #[.string ⟨(o.getD []).toArray⟩, .bool o.isSome]) ∧ Below w.heap.size w w'

theorem plus_mem (b : UInt8) : (0 ≤ Lib.indexByte (⟨#[43, 45, 46]⟩ : ByteArray).data.toList b) ↔ (b == 43 || b == 45 || b == 46) = true := by
  rw [indexByte_has]
  simp [or_assoc]
theorem mayS_any (b : UInt8) (w : World) : Calls Tryz.prog 80 #[.int .u8 (b.toNat : Int)] w (RB w (mayS b)) := by
  have hL := letter_any b w
  have hD := digit_any b w
  have hI := indexByte_any ⟨#[43, 45, 46]⟩ b w
  have hp := plus_mem b
  obtain ⟨i, hi⟩ : ∃ i, Lib.indexByte (⟨#[43, 45, 46]⟩ : ByteArray).data.toList b = i := ⟨_, rfl⟩
  rw [hi] at hI hp
  have hms : mayS b = (letter b || digit b || (b == 43 || b == 45 || b == 46)) := rfl
  obtain ⟨p, hpe⟩ : ∃ p, (b == 43 || b == 45 || b == 46) = p := ⟨_, rfl⟩
  rw [hpe] at hp hms
  have HL := Lib.hid hL
  have HD := Lib.hid hD
  have HI := Lib.hid hI
  have HM := Lib.hid hms
  clear hL hD hI hms hpe hi
  cases hl : letter b with
  | true =>
    rw [hl] at HL HM
    clear hp
    go_enter Tryz.func80, Tryz.ntmps80
    go_wp2_with fail
    refine Calls.mono HL.out ?_
    rintro e w1 ⟨rfl, rfl⟩
    go_wp2
    go_ret
    exact ⟨by rw [HM.out]; rfl, rfl⟩
  | false =>
    rw [hl] at HL HM
    cases hd : digit b with
    | true =>
      rw [hd] at HD HM
      clear hp
      go_enter Tryz.func80, Tryz.ntmps80
      go_wp2_with fail
      refine Calls.mono HL.out ?_
      rintro e w1 ⟨rfl, rfl⟩
      go_wp2_with fail
      refine Calls.mono HD.out ?_
      rintro e w1 ⟨rfl, rfl⟩
      go_wp2
      go_ret
      exact ⟨by rw [HM.out]; rfl, rfl⟩
    | false =>
      rw [hd] at HD HM
      have hpd : decide ((0 : Int) ≤ i) = p := by rw [Bool.eq_iff_iff, decide_eq_true_iff]; exact hp
      clear hp
      go_enter Tryz.func80, Tryz.ntmps80
      go_wp2_with fail
      refine Calls.mono HL.out ?_
      rintro e w1 ⟨rfl, rfl⟩
      go_wp2_with fail
      refine Calls.mono HD.out ?_
      rintro e w1 ⟨rfl, rfl⟩
      go_wp2_with fail
      refine Calls.mono HI.out ?_
      rintro e w1 ⟨rfl, rfl⟩
      go_wp2
      go_ret
      exact ⟨by rw [HM.out]; rfl, rfl⟩
end Go.Proofs.YtdkjenbncmedbaaGreatDoor
