/- lower.Text and tympanref30.Text: a text as it is written in HTML. -/
import Derived.Test.YtibaoocklempnaaGreatDoorRepl5
import Derived.Test.YtibaoocklempnaaGreatDoorLower
import Derived.IntWalk
namespace Go.Proofs.YtibaoocklempnaaGreatDoor
open Go.RowKit

def lowPairs : List (UInt8 × ByteArray) := [(38, ⟨#[38, 97, 109, 112, 59]⟩), (60, ⟨#[38, 108, 116, 59]⟩), (62, ⟨#[38, 103, 116, 59]⟩), (34, ⟨#[38, 113, 117, 111, 116, 59]⟩)]
theorem lowPairs_ok : Pairs lowPairs where
  pos := by decide
  few := by decide
  small := by decide
  notOne := by decide
  nodup := by decide
def low1 (b : UInt8) : List UInt8 := if b = 38 then [38, 97, 109, 112, 59] else if b = 60 then [38, 108, 116, 59] else if b = 62 then [38, 103, 116, 59] else if b = 34 then [38, 113, 117, 111, 116, 59] else [b]
/-- What lower.Text comes to. -/
def lowT (l : List UInt8) : List UInt8 := (l.map low1).flatten
theorem low1_le (b : UInt8) : (low1 b).length ≤ 6 := by
  unfold low1
  repeat' split
  all_goals simp
theorem low1_no (b : UInt8) : ∀ x ∈ low1 b, x ≠ 60 ∧ x ≠ 62 ∧ x ≠ 34 := by
  intro x hx
  unfold low1 at hx
  by_cases h1 : b = 38
  · rw [if_pos h1] at hx
    revert x
    decide
  by_cases h2 : b = 60
  · rw [if_neg h1, if_pos h2] at hx
    revert x
    decide
  by_cases h3 : b = 62
  · rw [if_neg h1, if_neg h2, if_pos h3] at hx
    revert x
    decide
  by_cases h4 : b = 34
  · rw [if_neg h1, if_neg h2, if_neg h3, if_pos h4] at hx
    revert x
    decide
  rw [if_neg h1, if_neg h2, if_neg h3, if_neg h4, List.mem_singleton] at hx
  subst hx
  exact ⟨h2, h3, h4⟩
theorem lowT_cons (b : UInt8) (l : List UInt8) : lowT (b :: l) = low1 b ++ lowT l := rfl
theorem lowT_append (a b : List UInt8) : lowT (a ++ b) = lowT a ++ lowT b := by
  unfold lowT
  rw [List.map_append, List.flatten_append]
theorem lowT_le : ∀ l : List UInt8, (lowT l).length ≤ 6 * l.length
  | [] => by decide
  | b :: l => by
    have := lowT_le l
    have := low1_le b
    rw [lowT_cons, List.length_append, List.length_cons]
    omega
theorem lowT_no (l : List UInt8) : ∀ x ∈ lowT l, x ≠ 60 ∧ x ≠ 62 ∧ x ≠ 34 := by
  intro x hx
  unfold lowT at hx
  obtain ⟨y, hy, hxy⟩ := List.mem_flatten.1 hx
  obtain ⟨b, _, rfl⟩ := List.mem_map.1 hy
  exact low1_no b x hxy
theorem lowT_take (l : List UInt8) (k : Nat) (hk : k < l.length) : lowT (l.take (k + 1)) = lowT (l.take k) ++ low1 l[k] := by
  rw [List.take_succ_eq_append_getElem hk, lowT_append]
  unfold lowT
  simp
theorem repl_low : ∀ l : List UInt8, repl lowPairs l = lowT l
  | [] => rfl
  | b :: l => by
    rw [repl_cons, repl_low l, lowT_cons]
    congr 1
    unfold rep1 low1 lowPairs
    simp only [tabv]
    by_cases h1 : (38 : UInt8) = b
    · subst h1; rfl
    · by_cases h2 : (60 : UInt8) = b
      · subst h2; rfl
      · by_cases h3 : (62 : UInt8) = b
        · subst h3; rfl
        · by_cases h4 : (34 : UInt8) = b
          · subst h4; rfl
          · rw [if_neg h1, if_neg h2, if_neg h3, if_neg h4, if_neg (fun e => h1 e.symm), if_neg (fun e => h2 e.symm), if_neg (fun e => h3 e.symm), if_neg (fun e => h4 e.symm)]

set_option maxHeartbeats 1000000 in
set_option maxRecDepth 100000 in
theorem lowText_any (s : ByteArray) (w : World) (hs : s.size ≤ 1099511627776) : Calls Tryz.prog 33 #[.string s] w (StrR w (lowT s.data.toList)) := by
  go_enter Tryz.func33, Tryz.ntmps33
  go_wp2_with fail
  refine Calls.mono (newReplacer_any lowPairs ⟨w.heap.size, 0, none⟩ 8 8 _ rfl (by decide) (by decide) ?_) ?_
  · intro j v hj
    have h : (w.alloc (.cells (pairCells lowPairs).toArray 9)).heap[w.heap.size]? = some (.cells (pairCells lowPairs).toArray 9 (0, 0)) := heap_alloc_new w _
    have e : (⟨w.heap.size, 0, none⟩ : Addr).add j = ⟨w.heap.size, j, none⟩ := by unfold Addr.add; split <;> simp_all
    rw [e]
    show (w.alloc (.cells (pairCells lowPairs).toArray 9)).cell? ⟨w.heap.size, j, none⟩ = _
    rw [cell_of_row _ _ j _ _ _ h, List.getElem?_toArray]
    exact hj
  rintro e w2 h2
  obtain ⟨R, rfl, b2, hrep⟩ := repl_use lowPairs lowPairs_ok s _ hs h2
  have HR := Lib.hid hrep
  have HB2 := Lib.hid b2
  clear h2 hrep b2
  go_wp2_with fail
  refine Calls.mono HR.out ?_
  rintro e w3 ⟨rfl, b3⟩
  have hz : w.heap.size + 1 ≤ w3.heap.size := by have := b3.size; simp at this; omega
  have HB3 := Lib.hid b3
  clear b3
  go_wp2
  go_ret
  refine ⟨?_, ?_⟩
  · rw [repl_low]
    rfl
  · have hal : Below w.heap.size w (w.alloc (.cells (pairCells lowPairs).toArray 9)) := (Below.refl _ _).alloc (Nat.le_refl _) _
    exact hal.trans (HB3.out.mono (by simp))

theorem lt_ext (s : ByteArray) (k : Nat) (h : k < s.size) : (s.extract k (k + 1)).data.toList = [s[k]] := by
  have hl : s.data.toList.length = s.size := Array.length_toList
  rw [Lib.extract_data, Nat.add_sub_cancel_left, List.drop_eq_getElem_cons (by omega)]
  rfl
theorem lt_add (X Y : ByteArray) : (X ++ Y).data.toList = X.data.toList ++ Y.data.toList := by
  rw [ByteArray.data_append, Array.toList_append]
theorem str_mk (X : ByteArray) (l : List UInt8) (h : X.data.toList = l) : X = ⟨l.toArray⟩ := by
  subst h
  rfl
theorem u8_eqf {x c : UInt8} (h : x ≠ c) : ((x.toNat : Int) == (c.toNat : Int)) = false := by
  rw [beq_eq_false_iff_ne]
  intro e
  exact h (UInt8.toNat_inj.1 (by omega))
/-- A text with what was taken as it is written, and how many bytes. -/
def LowL (l : List UInt8) (v i : Value) : Prop := ∃ (k : Nat) (X : ByteArray), i = .int .i64 k ∧ k ≤ l.length ∧ v = .string X ∧ Hid (X.data.toList = lowT (l.take k)) ∧ X.size ≤ 6 * k

set_option maxHeartbeats 4000000 in
set_option maxRecDepth 100000 in
theorem reflowText_any (s : ByteArray) (w : World) (hs : s.size ≤ 1099511627776) : Calls Tryz.prog 34 #[.string s] w fun e w' => e = .returned (.string ⟨(lowT s.data.toList).toArray⟩) ∧ w = w' := by
  have hsl : s.data.toList.length = s.size := Array.length_toList
  have HSL := Lib.hid hsl
  clear hsl
  go_enter Tryz.func34, Tryz.ntmps34
  go_wp2_with fail
  go_loop [3, 4] (fun v i => LowL s.data.toList v i) (fun _ i => s.size - (intOf i).toNat)
  case atStart => exact ⟨0, ⟨#[]⟩, rfl, Nat.zero_le _, rfl, rfl, Nat.le_refl _⟩
  case round =>
    obtain ⟨k, X, rfl, hk, rfl, HX, hXk⟩ := hrel
    have hks : k ≤ s.size := by rw [HSL.out] at hk; exact hk
    clear hk
    by_cases hlt : k < s.size
    · obtain ⟨x, hx⟩ : ∃ x, s[k] = x := ⟨_, rfl⟩
      have hki : (k : Int) < (s.size : Int) := by omega
      have hlt' : k < s.data.toList.length := by rw [HSL.out]; exact hlt
      have hft : lowT (s.data.toList.take (k + 1)) = lowT (s.data.toList.take k) ++ low1 x := by
        rw [lowT_take _ k hlt']
        show _ ++ low1 s[k] = _
        rw [hx]
      have HFT := Lib.hid hft
      clear hft
      by_cases h1 : x = 38
      · have z1 : ((x.toNat : Int) == 38) = true := by rw [h1]; rfl
        have hl1 : low1 x = [38, 97, 109, 112, 59] := by rw [h1]; rfl
        have hsum : ¬ (9223372036854775807 < X.size + 5) := by omega
        have HL1 := Lib.hid hl1
        clear h1 hl1
        go_wp2
        go_round
        case rel => exact ⟨k + 1, _, by go_num, by rw [HSL.out]; omega, rfl, Lib.hid (by rw [lt_add, HX.out, HFT.out, HL1.out]), by rw [ByteArray.size_append]; show X.size + 5 ≤ _; omega⟩
        case measure => simp [intOf]; omega
      have z1 : ((x.toNat : Int) == 38) = false := u8_eqf h1
      by_cases h2 : x = 60
      · have z2 : ((x.toNat : Int) == 60) = true := by rw [h2]; rfl
        have hl1 : low1 x = [38, 108, 116, 59] := by rw [h2]; rfl
        have hsum : ¬ (9223372036854775807 < X.size + 4) := by omega
        have HL1 := Lib.hid hl1
        clear h1 h2 hl1
        go_wp2
        go_round
        case rel => exact ⟨k + 1, _, by go_num, by rw [HSL.out]; omega, rfl, Lib.hid (by rw [lt_add, HX.out, HFT.out, HL1.out]), by rw [ByteArray.size_append]; show X.size + 4 ≤ _; omega⟩
        case measure => simp [intOf]; omega
      have z2 : ((x.toNat : Int) == 60) = false := u8_eqf h2
      by_cases h3 : x = 62
      · have z3 : ((x.toNat : Int) == 62) = true := by rw [h3]; rfl
        have hl1 : low1 x = [38, 103, 116, 59] := by rw [h3]; rfl
        have hsum : ¬ (9223372036854775807 < X.size + 4) := by omega
        have HL1 := Lib.hid hl1
        clear h1 h2 h3 hl1
        go_wp2
        go_round
        case rel => exact ⟨k + 1, _, by go_num, by rw [HSL.out]; omega, rfl, Lib.hid (by rw [lt_add, HX.out, HFT.out, HL1.out]), by rw [ByteArray.size_append]; show X.size + 4 ≤ _; omega⟩
        case measure => simp [intOf]; omega
      have z3 : ((x.toNat : Int) == 62) = false := u8_eqf h3
      by_cases h4 : x = 34
      · have z4 : ((x.toNat : Int) == 34) = true := by rw [h4]; rfl
        have hl1 : low1 x = [38, 113, 117, 111, 116, 59] := by rw [h4]; rfl
        have hsum : ¬ (9223372036854775807 < X.size + 6) := by omega
        have HL1 := Lib.hid hl1
        clear h1 h2 h3 h4 hl1
        go_wp2
        go_round
        case rel => exact ⟨k + 1, _, by go_num, by rw [HSL.out]; omega, rfl, Lib.hid (by rw [lt_add, HX.out, HFT.out, HL1.out]), by rw [ByteArray.size_append]; show X.size + 6 ≤ _; omega⟩
        case measure => simp [intOf]; omega
      have z4 : ((x.toNat : Int) == 34) = false := u8_eqf h4
      have hl1 : low1 x = [x] := by unfold low1; rw [if_neg h1, if_neg h2, if_neg h3, if_neg h4]
      have hex := lt_ext s k hlt
      rw [hx] at hex
      obtain ⟨Y, hY⟩ : ∃ Y, s.extract k (k + 1) = Y := ⟨_, rfl⟩
      have hYs : Y.size = 1 := by rw [← hY, ByteArray.size_extract]; omega
      have hsum : ¬ (9223372036854775807 < X.size + Y.size) := by omega
      have hlast : (X ++ Y).size ≤ 6 * (k + 1) := by rw [ByteArray.size_append]; omega
      rw [hY] at hex
      have HL1 := Lib.hid hl1
      have HEX := Lib.hid hex
      have HLAST := Lib.hid hlast
      clear h1 h2 h3 h4 hl1 hex hYs hlast
      go_wp2
      go_round
      case rel => exact ⟨k + 1, _, by go_num, by rw [HSL.out]; omega, rfl, Lib.hid (by rw [lt_add, HX.out, HEX.out, HFT.out, HL1.out]), HLAST.out⟩
      case measure => simp [intOf]; omega
    · obtain rfl : k = s.size := by omega
      go_wp2
      go_ret
      refine ⟨?_, rfl⟩
      have h := HX.out
      rw [List.take_of_length_le (by rw [HSL.out]; exact Nat.le_refl _)] at h
      rw [str_mk X _ h]
      rfl
end Go.Proofs.YtibaoocklempnaaGreatDoor
