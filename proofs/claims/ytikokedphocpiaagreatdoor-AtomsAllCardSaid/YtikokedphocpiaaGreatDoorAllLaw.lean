/- tympanlaw26.AtomsAll answers true for every input. -/
import Derived.Test.YtikokedphocpiaaGreatDoorDoesLaw
import Derived.Lib.ConvBytes
namespace Go.Proofs.YtikokedphocpiaaGreatDoor
open Go.RowKit

def AllW (w : World) (n : Nat) (v4 : Value) (wr : World) : Prop := ∃ k : Nat, v4 = .int .i64 k ∧ k ≤ n ∧ Below w.heap.size w wr
theorem conv_below (w : World) (e : TypeId) (s : ByteArray) : Below w.heap.size w (Lib.bytesWorld w e s) :=
  ⟨rfl, rfl, rfl, by rw [Lib.bytesWorld_size]; omega, fun j hj => Lib.bytesWorld_at_old w e s j hj⟩
theorem conv_slice (w : World) (e : TypeId) (s : ByteArray) : SlU8 (Lib.bytesWorld w e s) (.slice (some ⟨w.heap.size, 0, none⟩) s.size (grownCap w s.size 0 e)) s.data.toList :=
  ⟨_, _, _, rfl, by rw [Array.length_toList]; rfl, grownCap_ge _ _ _ _, fun _ => ⟨w.heap.size, 0, rfl, by rw [Lib.bytesWorld_size]; omega, fun j hj => by
    have hjs : j < s.size := by rw [Array.length_toList] at hj; exact hj
    rw [Nat.zero_add, Lib.bytesWorld_cell w e s j hjs, List.getD_eq_getElem?_getD, List.getElem?_eq_getElem hj]
    rfl⟩⟩
theorem conv_run (w : World) (s : ByteArray) : (convert 9 22 (.string s)).run Tryz.prog w = .ok (.slice (some ⟨w.heap.size, 0, none⟩) s.size (grownCap w s.size 0 5)) (Lib.bytesWorld w 5 s) :=
  Lib.run_convert_string_bytes w _ _ _ s Tryz.underlying9 Tryz.underlying22 Tryz.underlying5
set_option maxHeartbeats 4000000 in
set_option maxRecDepth 100000 in
theorem all_law (v : Value) (l : List UInt8) (w : World) (hm : MaxB w) (hv : SlU8 w v l) (hl : l.length ≤ 9223372036854775807) :
    Calls Tryz.prog 4 #[v] w (Yes w) := by
  have hv0 := hv
  obtain ⟨A, m, c, rfl, hml, hmc, _⟩ := hv
  by_cases hbig : 200 < m
  · have z : decide ((200 : Int) < (m : Int)) = true := by simp; omega
    clear hl hml hmc hv0 hm
    go_enter Tryz.func4, Tryz.ntmps4
    go_wp2
    go_ret
    exact ⟨rfl, Below.refl _ _⟩
  · have z : decide ((200 : Int) < (m : Int)) = false := by simp; omega
    have htl := textL_len l
    obtain ⟨T, hT⟩ : ∃ T : ByteArray, T = ⟨(textL l).toArray⟩ := ⟨_, rfl⟩
    have hTs : T.size ≤ 600 := by rw [hT]; show (textL l).length ≤ 600; omega
    have E0 := Lib.hid (show Calls Tryz.prog 5 #[.slice A m c] w (StrE w T) from (reftext_any (.slice A m c) l w (by omega) hv0).mono fun _ _ h => by rw [hT]; exact h)
    have HM := Lib.hid hm
    clear hT htl hv0 hl hml hm
    go_enter Tryz.func4, Tryz.ntmps4
    go_wp2_with fail
    refine Calls.mono E0.out ?_
    rintro e w1 ⟨rfl, b1⟩
    have HB1 := Lib.hid b1
    clear b1
    go_wp2_with fail
    go_loopw [4, 5] (fun v4 _ wx => AllW w T.size v4 wx) (fun v4 _ _ => T.size - (intOf v4).toNat)
    case atStart => exact ⟨0, rfl, Nat.zero_le _, HB1.out⟩
    case round =>
      obtain ⟨k, rfl, hk, hb⟩ := hrel
      have HB := Lib.hid hb
      clear hb
      by_cases h2 : k < T.size
      · have z2 : (k : Int) < (T.size : Int) := by omega
        obtain ⟨x, hx⟩ : ∃ x, T[k] = x := ⟨_, rfl⟩
        have hs1 : ¬ (9223372036854775807 < (⟨#[97]⟩ : ByteArray).size + T.size) := by show ¬ (_ < 1 + T.size); omega
        obtain ⟨S, hS⟩ : ∃ S, ⟨#[97]⟩ ++ T = S := ⟨_, rfl⟩
        have hSs : S.size ≤ 601 := by rw [← hS, ByteArray.size_append]; show 1 + T.size ≤ 601; omega
        have y92 : ((T[k].toNat : Int) != 92) = (x != 92) := by rw [hx]; exact bnec x 92
        have y96 : ((T[k].toNat : Int) != 96) = (x != 96) := by rw [hx]; exact bnec x 96
        have y60 : ((T[k].toNat : Int) != 60) = (x != 60) := by rw [hx]; exact bnec x 60
        cases h92 : (x != 92) with
        | false =>
          rw [h92] at y92
          clear hx h92 y96 y60
          have hcv := conv_run wr S
          have hB2 := below_on HB.out (conv_below wr 5 S)
          have hSl : S.data.toList.length ≤ 9223372036854775807 := by rw [Array.length_toList]; show S.size ≤ _; omega
          have hsu := conv_slice wr 5 S
          obtain ⟨V, hV⟩ : ∃ V, Lib.bytesWorld wr 5 S = V := ⟨_, rfl⟩
          obtain ⟨cap, hcap⟩ : ∃ cap, grownCap wr S.size 0 5 = cap := ⟨_, rfl⟩
          rw [hV, hcap] at hcv hsu
          rw [hV] at hB2
          have HBW := Lib.hid hB2
          have HD := Lib.hid (does_law _ _ ((k : Int) + 1) V (by omega) (HM.out.later hB2) hsu hSl)
          clear hV hcap hB2 hsu hSl
          go_wp2_with fail
          refine Calls.mono HD.out ?_
          rintro e w2 ⟨rfl, b2⟩
          go_wp2
          exact ⟨⟨k + 1, by go_num, h2, below_on HBW.out b2⟩, by simp [intOf]; omega⟩
        | true =>
          rw [h92] at y92
          cases h96 : (x != 96) with
          | false =>
            rw [h96] at y96
            clear hx h92 h96 y60
            have hcv := conv_run wr S
            have hB2 := below_on HB.out (conv_below wr 5 S)
            have hSl : S.data.toList.length ≤ 9223372036854775807 := by rw [Array.length_toList]; show S.size ≤ _; omega
            have hsu := conv_slice wr 5 S
            obtain ⟨V, hV⟩ : ∃ V, Lib.bytesWorld wr 5 S = V := ⟨_, rfl⟩
            obtain ⟨cap, hcap⟩ : ∃ cap, grownCap wr S.size 0 5 = cap := ⟨_, rfl⟩
            rw [hV, hcap] at hcv hsu
            rw [hV] at hB2
            have HBW := Lib.hid hB2
            have HD := Lib.hid (does_law _ _ ((k : Int) + 1) V (by omega) (HM.out.later hB2) hsu hSl)
            clear hV hcap hB2 hsu hSl
            go_wp2_with fail
            refine Calls.mono HD.out ?_
            rintro e w2 ⟨rfl, b2⟩
            go_wp2
            exact ⟨⟨k + 1, by go_num, h2, below_on HBW.out b2⟩, by simp [intOf]; omega⟩
          | true =>
            rw [h96] at y96
            cases h60 : (x != 60) with
            | false =>
              rw [h60] at y60
              clear hx h92 h96 h60
              have hcv := conv_run wr S
              have hB2 := below_on HB.out (conv_below wr 5 S)
              have hSl : S.data.toList.length ≤ 9223372036854775807 := by rw [Array.length_toList]; show S.size ≤ _; omega
              have hsu := conv_slice wr 5 S
              obtain ⟨V, hV⟩ : ∃ V, Lib.bytesWorld wr 5 S = V := ⟨_, rfl⟩
              obtain ⟨cap, hcap⟩ : ∃ cap, grownCap wr S.size 0 5 = cap := ⟨_, rfl⟩
              rw [hV, hcap] at hcv hsu
              rw [hV] at hB2
              have HBW := Lib.hid hB2
              have HD := Lib.hid (does_law _ _ ((k : Int) + 1) V (by omega) (HM.out.later hB2) hsu hSl)
              clear hV hcap hB2 hsu hSl
              go_wp2_with fail
              refine Calls.mono HD.out ?_
              rintro e w2 ⟨rfl, b2⟩
              go_wp2
              exact ⟨⟨k + 1, by go_num, h2, below_on HBW.out b2⟩, by simp [intOf]; omega⟩
            | true =>
              rw [h60] at y60
              clear hx h92 h96 h60
              go_wp2
              exact ⟨⟨k + 1, by go_num, h2, HB.out⟩, by simp [intOf]; omega⟩
      · have z2 : ¬ (k : Int) < (T.size : Int) := by omega
        clear h2
        go_wp2_with fail
        refine Calls.mono (known_any _ (HM.out.later HB.out)) ?_
        rintro e w2 ⟨rfl, b2⟩
        have b2 := below_on HB.out b2
        go_wp2
        go_ret
        exact ⟨rfl, b2⟩
end Go.Proofs.YtikokedphocpiaaGreatDoor
