/- WriteLong: what is written of any bytes has no sign of a tag, no quote in a value, and at most six times as many bytes; of bytes parted ahead of no byte of a longer character it is one behind the other. Proved for every input; no condition. -/
import Derived.Test.YtlhfjlfoddjciaaParts
import Derived.Deep.RegionHeld3
import Derived.IntWalk
namespace Go.Proofs.Ytlhfjlfoddjciaa
open Go.ChangeShapes Go.WideShapes Go.ChangeAt Go.RowKit
open Go.ChangeMaps (open_string shut_string)

/-- What Text (q false) and Value (q true) leave: a string of those bytes. -/
def StrR (w : World) (q : Bool) (s : List UInt8) (e : Ending) (w' : World) : Prop := ∃ t : ByteArray, e = .returned (.string t) ∧ t.data.toList = esc q s ∧ Below w.heap.size w w'
theorem text_str (s : ByteArray) (w : World) (hs : s.size ≤ 1099511627776) : Calls Try.prog 13 #[.string s] w (StrR w false s.data.toList) :=
  (text_any s w hs).mono fun _ _ ⟨he, hb⟩ => ⟨_, he, by simp, hb⟩
theorem value_str (s : ByteArray) (w : World) (hs : s.size ≤ 1099511627776) : Calls Try.prog 15 #[.string s] w (StrR w true s.data.toList) :=
  (value_any s w hs).mono fun _ _ ⟨he, hb⟩ => ⟨_, he, by simp, hb⟩

theorem below_step {w a b : World} (k : Below a.heap.size a b) (h : Below w.heap.size w a) : Below w.heap.size w b := h.trans (k.mono h.size)
theorem esc_byte {t : ByteArray} {q : Bool} {l : List UInt8} (h : t.data.toList = esc q l) (k : Nat) (hk : k < t.size) :
    (((t[k].toNat : Nat) : Int) == 60) = false ∧ (((t[k].toNat : Nat) : Int) == 62) = false ∧ (q = true → (((t[k].toNat : Nat) : Int) == 34) = false) := by
  have hm : t[k] ∈ esc q l := by
    rw [← h]
    exact Array.mem_toList_iff.2 (Array.getElem_mem (xs := t.data) hk)
  obtain ⟨h1, h2, h3⟩ := esc_fine q l _ hm
  have hne : ∀ (b : UInt8), t[k] ≠ b → (((t[k].toNat : Nat) : Int) == (b.toNat : Int)) = false := by
    intro b hb
    simp only [beq_eq_false_iff_ne, ne_eq, Int.natCast_inj]
    exact fun e => hb (UInt8.toNat_inj.1 e)
  exact ⟨hne 60 h1, hne 62 h2, fun hq => hne 34 (h3 hq)⟩
theorem esc_size {t : ByteArray} {q : Bool} {l : List UInt8} (h : t.data.toList = esc q l) : t.size ≤ 6 * l.length := by
  have e : t.data.toList.length = t.size := Array.length_toList
  have := esc_le q l
  rw [← h, e] at this
  exact this

theorem cut_head {s : ByteArray} {k : Nat} (h : ∀ hk : k < s.size, ¬ (128 ≤ s[k].toNat ∧ s[k].toNat < 192)) : (s.data.toList.drop k).head? ≠ some 160 := by
  intro e
  have hsl : s.data.toList.length = s.size := Array.length_toList
  rw [List.head?_drop] at e
  obtain ⟨hk, e⟩ := List.getElem?_eq_some_iff.1 e
  refine h (by omega) ?_
  have : s[k]'(by omega) = 160 := by rw [← e]; rfl
  rw [this]
  decide

theorem join_eq {q : Bool} {s t ta tb : ByteArray} {j : Nat} (hj : j ≤ s.size) (hh : (s.data.toList.drop j).head? ≠ some 160) (ht : t.data.toList = esc q s.data.toList)
    (ha : ta.data.toList = esc q (s.extract 0 j).data.toList) (hb : tb.data.toList = esc q (s.extract j s.size).data.toList) : ta ++ tb = t ∧ ta.size + tb.size ≤ 6 * s.size := by
  have hsl : s.data.toList.length = s.size := Array.length_toList
  have e1 : (s.extract 0 j).data.toList = s.data.toList.take j := by simp
  have e2 : (s.extract j s.size).data.toList = s.data.toList.drop j := by
    rw [Lib.extract_data, List.take_of_length_le (by rw [List.length_drop, hsl]; exact Nat.le_refl _)]
  rw [e1] at ha
  rw [e2] at hb
  have e : ta ++ tb = t := by
    apply ByteArray.ext
    apply Array.toList_inj.1
    rw [ByteArray.data_append, Array.toList_append, ha, hb, ht, ← esc_append q _ _ hh, List.take_append_drop]
  refine ⟨e, ?_⟩
  rw [← ByteArray.size_append, e, ← hsl]
  exact esc_size ht

set_option maxHeartbeats 4000000 in
set_option maxRecDepth 100000 in
theorem long_law (s : ByteArray) (i : Int) (w : World) (hG : Glob w) (hs : s.size ≤ 9223372036854775807) (hi : -9223372036854775808 ≤ i ∧ i ≤ 9223372036854775807) : Calls Try.prog 6 #[.string s, .int .i64 i] w (Yes w) := by
  have HG := Lib.hid hG
  have hpos := hG.pos
  clear hG
  by_cases hb : 3200 < s.size
  · go_enter Try.func6, Try.ntmps6
    go_wp2_with fail
    refine Calls.mono (known_any _ HG.out) ?_
    rintro e w1 ⟨rfl, b1⟩
    go_wp2
    go_ret
    exact ⟨rfl, b1⟩
  · go_enter Try.func6, Try.ntmps6
    go_wp2_with fail
    refine Calls.mono (known_any _ HG.out) ?_
    rintro e w1 ⟨rfl, b1⟩
    go_wp2_with fail
    refine Calls.mono (text_str _ _ (by omega)) ?_
    rintro e w2 ⟨t, rfl, ht, b2⟩
    go_wp2_with fail
    refine Calls.mono (value_str _ _ (by omega)) ?_
    rintro e w3 ⟨v, rfl, hv, b3⟩
    have hsl : s.data.toList.length = s.size := Array.length_toList
    have hts : t.size ≤ 6 * s.size := by have := esc_size ht; omega
    have hvs : v.size ≤ 6 * s.size := by have := esc_size hv; omega
    have HT := Lib.hid ht
    have HV := Lib.hid hv
    have b13 : Below w.heap.size w w3 := (b1.trans (b2.mono b1.size)).trans (b3.mono (Nat.le_trans b1.size b2.size))
    clear ht hv hsl b1 b2 b3
    go_wp2_with fail
    go_loop [7] (fun x => ∃ k : Nat, x = .int .i64 k ∧ k ≤ t.size) (fun x => t.size - (intOf x).toNat)
    case atStart => exact ⟨0, rfl, Nat.zero_le _⟩
    case round =>
      obtain ⟨k, rfl, hk⟩ := hrel
      by_cases hlt : k < t.size
      · obtain ⟨e1, e2, _⟩ := esc_byte HT.out k hlt
        go_wp2
        go_round
        case rel => exact ⟨k + 1, by go_num, by omega⟩
        case measure => simp [intOf]; omega
      · go_wp2_with fail
        go_loop [8] (fun x => ∃ k : Nat, x = .int .i64 k ∧ k ≤ v.size) (fun x => v.size - (intOf x).toNat)
        case atStart => exact ⟨0, rfl, Nat.zero_le _⟩
        case round =>
          obtain ⟨k', rfl, hk'⟩ := hrel
          by_cases hlt' : k' < v.size
          · obtain ⟨e1, e2, e3⟩ := esc_byte HV.out k' hlt'
            have e3 := e3 rfl
            go_wp2
            go_round
            case rel => exact ⟨k' + 1, by go_num, by omega⟩
            case measure => simp [intOf]; omega
          · have hjn : ∃ j : Nat, max i 0 % ((s.size : Int) + 1) = j ∧ j ≤ s.size := by
              have h1 := Int.emod_nonneg (max i 0) (show ((s.size : Int) + 1) ≠ 0 by omega)
              have h2 := Int.emod_lt_of_pos (max i 0) (show (0 : Int) < (s.size : Int) + 1 by omega)
              exact ⟨(max i 0 % ((s.size : Int) + 1)).toNat, by omega, by omega⟩
            have HJ := Lib.hid hjn
            clear hjn
            go_wp2_with fail
            go_loop [9] (fun x => ∃ k : Nat, x = .int .i64 k ∧ k ≤ s.size) (fun x => s.size - (intOf x).toNat)
            case atStart =>
              obtain ⟨j, e, h⟩ := HJ.out
              exact ⟨j, by rw [← e], h⟩
            case round =>
              clear HJ
              obtain ⟨j, rfl, hj⟩ := hrel
              by_cases hgo : ∃ hk : j < s.size, 128 ≤ s[j].toNat ∧ s[j].toNat < 192
              · obtain ⟨hk, h1, h2⟩ := hgo
                have e1 : ((128 : Int) ≤ (s[j].toNat : Int)) := by omega
                have e2 : ((s[j].toNat : Int) < 192) := by omega
                go_wp2
                go_round
                case rel => exact ⟨j + 1, by go_num, by omega⟩
                case measure => simp [intOf]; omega
              · have hh := cut_head (s := s) (k := j) (fun hk hb => hgo ⟨hk, hb⟩)
                have e1 : (t.size : Int) ≤ 6 * (s.size : Int) := by omega
                have e2 : (v.size : Int) ≤ 6 * (s.size : Int) := by omega
                have e3 : IntKind.i64.wrap (6 * (s.size : Int)) = 6 * (s.size : Int) := IntWalk.i64_in _ (by omega)
                have hway : ¬ j < s.size ∨ (∃ hk : j < s.size, (s[j].toNat : Int) < 128) ∨ (∃ hk : j < s.size, (192 : Int) ≤ (s[j].toNat : Int)) := by
                  by_cases hk : j < s.size
                  · by_cases h1 : s[j].toNat < 128
                    · exact .inr (.inl ⟨hk, by omega⟩)
                    · by_cases h2 : s[j].toNat < 192
                      · exact absurd ⟨hk, by omega, h2⟩ hgo
                      · exact .inr (.inr ⟨hk, by omega⟩)
                  · exact .inl hk
                clear hgo
                rcases hway with hk | ⟨hk, h1⟩ | ⟨hk, h1⟩
                all_goals
                  go_upto_region 18 with fail
                  go_region_held3 (fun w' => Below w.heap.size w w') (first | assumption | exact Below.drew (by assumption) | exact below_step (by assumption) (by assumption)) (first
                    | (go_at_call_of 13 (s.extract 0 j); refine Calls.mono (text_str _ _ (by rw [ByteArray.size_extract]; omega)) ?_; rintro e w5 ⟨ta, rfl, hta, b5⟩)
                    | (go_at_call 13; refine Calls.mono (text_str _ _ (by rw [ByteArray.size_extract]; omega)) ?_; rintro e w6 ⟨tb, rfl, htb, b6⟩; obtain ⟨q1, q2⟩ := join_eq hj hh HT.out hta htb; have q2' : ¬ (9223372036854775807 < ta.size + tb.size) := by omega)
                    | (go_at_call_of 15 (s.extract 0 j); refine Calls.mono (value_str _ _ (by rw [ByteArray.size_extract]; omega)) ?_; rintro e w7 ⟨va, rfl, hva, b7⟩)
                    | (go_at_call 15; refine Calls.mono (value_str _ _ (by rw [ByteArray.size_extract]; omega)) ?_; rintro e w8 ⟨vb, rfl, hvb, b8⟩; obtain ⟨q3, q4⟩ := join_eq hj hh HV.out hva hvb; have q4' : ¬ (9223372036854775807 < va.size + vb.size) := by omega))
                  go_wp2
                  go_ret
                  refine ⟨?_, ?_⟩
                  · go_simp
                  · assumption
end Go.Proofs.Ytlhfjlfoddjciaa
