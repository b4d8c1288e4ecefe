/- url.Scheme. -/
import Derived.Test.YtdkjenbncmedbaaGreatDoorScheme
namespace Go.Proofs.YtdkjenbncmedbaaGreatDoor
open Go.RowKit

def CutY (t : List UInt8) (w : World) (e : Ending) (w' : World) : Prop := ∃ (v : ByteArray) (n : Nat), e = .returned (.tuple #[.string ⟨(t.takeWhile (ne 58)).toArray⟩, .string v, .bool true]) ∧ w' = w.drewN n
def CutN (t : List UInt8) (w : World) (e : Ending) (w' : World) : Prop := ∃ (n : Nat), e = .returned (.tuple #[.string ⟨t.toArray⟩, .string ⟨#[]⟩, .bool false]) ∧ w' = w.drewN n
theorem cut_yes (t : List UInt8) (w : World) (hG : Glob w) (hs : t.length ≤ 1000000000) (h : (58 : UInt8) ∈ t) : Calls Tryz.prog 52 #[.string ⟨t.toArray⟩, .string ⟨#[58]⟩] w (CutY t w) := by
  obtain ⟨m, hm⟩ := hG.maxLen
  refine (Tryz.strings_Cut ⟨t.toArray⟩ ⟨#[58]⟩ m w (by show t.toArray.size < _; rw [List.size_toArray]; omega) hm).mono ?_
  rintro e w' ⟨rfl, n, rfl⟩
  have e1 : (⟨t.toArray⟩ : ByteArray).data.toList = t := rfl
  have e2 : (⟨#[58]⟩ : ByteArray).data.toList = [58] := rfl
  rw [e1, e2, cut_byte, if_pos h]
  exact ⟨_, n, rfl, rfl⟩
theorem cut_no (t : List UInt8) (w : World) (hG : Glob w) (hs : t.length ≤ 1000000000) (h : (58 : UInt8) ∉ t) : Calls Tryz.prog 52 #[.string ⟨t.toArray⟩, .string ⟨#[58]⟩] w (CutN t w) := by
  obtain ⟨m, hm⟩ := hG.maxLen
  refine (Tryz.strings_Cut ⟨t.toArray⟩ ⟨#[58]⟩ m w (by show t.toArray.size < _; rw [List.size_toArray]; omega) hm).mono ?_
  rintro e w' ⟨rfl, n, rfl⟩
  have e1 : (⟨t.toArray⟩ : ByteArray).data.toList = t := rfl
  have e2 : (⟨#[58]⟩ : ByteArray).data.toList = [58] := rfl
  rw [e1, e2, cut_byte, if_neg h]
  exact ⟨n, rfl, rfl⟩

set_option maxHeartbeats 2000000 in
set_option maxRecDepth 100000 in
theorem scheme_any (s : ByteArray) (w : World) (hG : Glob w) (hs : s.size ≤ 1000000000) : Calls Tryz.prog 54 #[.string s] w (SchR w (scheme s.data.toList)) := by
  have hstr := strip_any s w hG (by omega)
  have hsc : scheme s.data.toList = if (58 : UInt8) ∈ strip s.data.toList then schemeOf ((strip s.data.toList).takeWhile (ne 58)) else none := rfl
  have htl := strip_len s.data.toList
  obtain ⟨t, ht⟩ : ∃ t, strip s.data.toList = t := ⟨_, rfl⟩
  have hsl : s.data.toList.length = s.size := Array.length_toList
  rw [ht] at hstr hsc htl
  rw [hsl] at htl
  have HST := Lib.hid hstr
  have HG := Lib.hid hG
  clear hstr ht hsl hG
  by_cases hm : (58 : UInt8) ∈ t
  · rw [if_pos hm] at hsc
    obtain ⟨N, hN⟩ : ∃ N : ByteArray, (⟨(t.takeWhile (ne 58)).toArray⟩ : ByteArray) = N := ⟨_, rfl⟩
    have hNl : N.data.toList = t.takeWhile (ne 58) := by rw [← hN]
    rw [← hNl] at hsc
    have hNs : N.size ≤ 1000000000 := by
      have e : N.data.toList.length = N.size := Array.length_toList
      have := (List.takeWhile_sublist (ne 58) (l := t)).length_le
      rw [hNl] at e
      omega
    have HSC := Lib.hid hsc
    have HN := Lib.hid hN
    clear hsc hN hNl
    have hNsl : N.data.toList.length = N.size := Array.length_toList
    by_cases h0 : N.size = 0
    · have hnil : N.data.toList = [] := List.eq_nil_of_length_eq_zero (by omega)
      have hse : N.toList = [] := by rw [ByteArray.toList_eq, hnil]
      have hno : schemeOf N.data.toList = none := by rw [hnil]; rfl
      have HNO := Lib.hid hno
      clear hno hnil hNsl h0
      go_enter Tryz.func54, Tryz.ntmps54
      go_wp2_with fail
      refine Calls.mono HST.out ?_
      rintro e w1 ⟨rfl, b1⟩
      go_wp2_with fail
      refine Calls.mono (cut_yes t _ (HG.out.later b1) (by omega) hm) ?_
      rintro e w2 ⟨v, n, rfl, rfl⟩
      rw [HN.out]
      go_wp2
      go_ret2
      exact ⟨by rw [HSC.out, HNO.out]; rfl, below_dn b1 n⟩
    · have hse : ¬ N.toList = [] := by
        rw [ByteArray.toList_eq]
        intro h
        rw [h] at hNsl
        exact h0 hNsl.symm
      have hse2 : N.toList.isEmpty = false := by
        cases h : N.toList with
        | nil => exact absurd h hse
        | cons _ _ => rfl
      have hp0 : 0 < N.size := by omega
      have hpi : (0 : Int) < (N.size : Int) := by omega
      obtain ⟨b0, hb0⟩ : ∃ b, N[0] = b := ⟨_, rfl⟩
      have hcons : N.data.toList = b0 :: N.data.toList.drop 1 := by
        have := List.drop_eq_getElem_cons (l := N.data.toList) (i := 0) (by omega)
        rw [List.drop_zero] at this
        rw [← hb0]
        exact this
      have hso : schemeOf N.data.toList = if letter b0 && N.data.toList.all mayS then some (lowerL N.data.toList) else none := by
        unfold schemeOf
        rw [hcons]
      have HSO := Lib.hid hso
      have HNL := Lib.hid hNsl
      have hL := letter_any b0
      have HL := Lib.hid hL
      clear hso hNsl hcons h0 hL
      cases hl : letter b0 with
      | false =>
        rw [hl] at HL HSO
        go_enter Tryz.func54, Tryz.ntmps54
        go_wp2_with fail
        refine Calls.mono HST.out ?_
        rintro e w1 ⟨rfl, b1⟩
        go_wp2_with fail
        refine Calls.mono (cut_yes t _ (HG.out.later b1) (by omega) hm) ?_
        rintro e w2 ⟨v, n, rfl, rfl⟩
        rw [HN.out]
        go_wp2_with fail
        refine Calls.mono (HL.out _) ?_
        rintro e w3 ⟨rfl, rfl⟩
        go_wp2
        go_ret2
        exact ⟨by rw [HSC.out, HSO.out]; rfl, below_dn b1 n⟩
      | true =>
        rw [hl] at HL HSO
        have em := enters_of Tryz.func80 (by kernel_rfl) rfl
        have hlow := lower_any N
        have HLOW := Lib.hid hlow
        have hms := mayS_any
        have HMS := Lib.hid hms
        clear hlow hms
        go_enter Tryz.func54, Tryz.ntmps54
        go_wp2_with fail
        refine Calls.mono HST.out ?_
        rintro e w1 ⟨rfl, b1⟩
        go_wp2_with fail
        refine Calls.mono (cut_yes t _ (HG.out.later b1) (by omega) hm) ?_
        rintro e w2 ⟨v, n, rfl, rfl⟩
        rw [HN.out]
        go_wp2_with fail
        refine Calls.mono (HL.out _) ?_
        rintro e w3 ⟨rfl, rfl⟩
        have HB1 := Lib.hid b1
        clear b1
        go_wp2_with fail
        go_loop [30] (fun i => ∃ k : Nat, i = .int .i64 k ∧ k ≤ N.size ∧ (N.data.toList.take k).all mayS = true) (fun i => N.size - (intOf i).toNat)
        case atStart => exact ⟨0, rfl, Nat.zero_le _, rfl⟩
        case round =>
          obtain ⟨k, rfl, hk, hall⟩ := hrel
          have HALL := Lib.hid hall
          clear hall
          by_cases hlt : k < N.size
          · obtain ⟨x, hx⟩ : ∃ x, N[k] = x := ⟨_, rfl⟩
            have hki : (k : Int) < (N.size : Int) := by omega
            have hlt' : k < N.data.toList.length := by rw [HNL.out]; exact hlt
            have htk : N.data.toList.take (k + 1) = N.data.toList.take k ++ [x] := by
              rw [List.take_succ_eq_append_getElem hlt', ← hx]; rfl
            have hmem : x ∈ N.data.toList := by rw [← hx]; exact List.getElem_mem hlt'
            have HTK := Lib.hid htk
            have HMEM := Lib.hid hmem
            clear htk hmem
            have hmx := HMS.out x
            cases hmv : mayS x with
            | true =>
              rw [hmv] at hmx
              have HMX := Lib.hid hmx
              have HMV := Lib.hid hmv
              clear hmx hmv
              go_wp2_with fail
              refine Calls.mono (HMX.out _) ?_
              rintro e w4 ⟨rfl, rfl⟩
              go_wp2
              go_round
              case rel => exact ⟨k + 1, by go_num, by omega, by rw [HTK.out, List.all_append, HALL.out, List.all_cons, HMV.out]; rfl⟩
              case measure => simp [intOf]; omega
            | false =>
              rw [hmv] at hmx
              have HMX := Lib.hid hmx
              have hnall : N.data.toList.all mayS = false := by
                rw [List.all_eq_false]
                exact ⟨x, HMEM.out, by rw [hmv]; decide⟩
              have HNA := Lib.hid hnall
              clear hmx hmv hnall
              go_wp2_with fail
              refine Calls.mono (HMX.out _) ?_
              rintro e w4 ⟨rfl, rfl⟩
              go_wp2
              go_ret2
              exact ⟨by rw [HSC.out, HSO.out, HNA.out]; rfl, below_dn HB1.out n⟩
          · obtain rfl : k = N.size := by omega
            have hall2 : N.data.toList.all mayS = true := by
              have h := HALL.out
              rw [List.take_of_length_le (by rw [HNL.out]; exact Nat.le_refl _)] at h
              exact h
            have HA2 := Lib.hid hall2
            clear hall2
            go_wp2_with fail
            refine Calls.mono (HLOW.out _ (by omega)) ?_
            rintro e w4 ⟨rfl, b4⟩
            have HB4 := Lib.hid b4
            clear b4
            go_wp2
            go_ret2
            exact ⟨by rw [HSC.out, HSO.out, HA2.out]; rfl, (below_dn HB1.out n).trans (HB4.out.mono (below_dn HB1.out n).size)⟩
  · rw [if_neg hm] at hsc
    have HSC := Lib.hid hsc
    clear hsc
    go_enter Tryz.func54, Tryz.ntmps54
    go_wp2_with fail
    refine Calls.mono HST.out ?_
    rintro e w1 ⟨rfl, b1⟩
    go_wp2_with fail
    refine Calls.mono (cut_no t _ (HG.out.later b1) (by omega) hm) ?_
    rintro e w2 ⟨n, rfl, rfl⟩
    go_wp2
    go_ret2
    exact ⟨by rw [HSC.out]; rfl, below_dn b1 n⟩
end Go.Proofs.YtdkjenbncmedbaaGreatDoor
