/- The reference's Scheme. -/
import Derived.Test.YtdkjenbncmedbaaGreatDoorScheme2
namespace Go.Proofs.YtdkjenbncmedbaaGreatDoor
open Go.RowKit

def good : List UInt8 → Bool
  | [] => true
  | b :: r => letter b && r.all mayS
theorem letter_mayS {b : UInt8} (h : letter b = true) : mayS b = true := by unfold mayS; rw [h]; rfl
theorem good_snoc (l : List UInt8) (x : UInt8) (hne : l ≠ []) (h : good l = true) : good (l ++ [x]) = mayS x := by
  cases l with
  | nil => exact absurd rfl hne
  | cons b r =>
    simp only [good, Bool.and_eq_true] at h
    simp only [List.cons_append, good, h.1, List.all_append, h.2, List.all_cons, List.all_nil, Bool.true_and, Bool.and_true]
theorem good_prefix (l r : List UInt8) (h : good l = false) : good (l ++ r) = false := by
  cases l with
  | nil => simp [good] at h
  | cons b q =>
    simp only [good, List.cons_append, List.all_append] at h ⊢
    rw [← Bool.and_assoc, h, Bool.false_and]
theorem schemeOf_good (l : List UInt8) : schemeOf l = if l ≠ [] ∧ good l = true then some (lowerL l) else none := by
  unfold schemeOf
  cases l with
  | nil => simp
  | cons b r =>
    simp only [good, List.all_cons]
    by_cases hl : letter b = true
    · simp [hl, letter_mayS hl]
    · simp [hl]
theorem take_ne (l : List UInt8) (k : Nat) (h0 : 0 < k) (h : k ≤ l.length) : l.take k ≠ [] := by
  intro e
  have := congrArg List.length e
  rw [List.length_take, List.length_nil] at this
  omega
theorem schemeOf_bad (l : List UInt8) (h : good l = false) : schemeOf l = none := by
  rw [schemeOf_good, if_neg (by rw [h]; simp)]
theorem tw_split (t : List UInt8) (k : Nat) (x : UInt8) (hk : k < t.length) (hx : t[k] = x) (hx8 : x ≠ 58) (hall : (t.take k).all (ne 58) = true) : ∃ r, t.takeWhile (ne 58) = (t.take k ++ [x]) ++ r := by
  have e : t = t.take k ++ x :: t.drop (k + 1) := by
    conv => lhs; rw [← List.take_append_drop k t]
    rw [List.drop_eq_getElem_cons hk, hx]
  have h1 : ne 58 x = true := by unfold ne; simp [hx8]
  refine ⟨(t.drop (k + 1)).takeWhile (ne 58), ?_⟩
  conv => lhs; rw [e]
  rw [List.takeWhile_append_of_pos (fun b hb => List.all_eq_true.1 hall b hb), List.takeWhile_cons, h1]
  simp
theorem tw_at (t : List UInt8) (k : Nat) (hk : k < t.length) (hx : t[k] = 58) (hall : (t.take k).all (ne 58) = true) : t.takeWhile (ne 58) = t.take k ∧ (58 : UInt8) ∈ t := by
  have e : t = t.take k ++ 58 :: t.drop (k + 1) := by
    conv => lhs; rw [← List.take_append_drop k t]
    rw [List.drop_eq_getElem_cons hk, hx]
  refine ⟨?_, by rw [← hx]; exact List.getElem_mem hk⟩
  conv => lhs; rw [e]
  rw [List.takeWhile_append_of_pos (fun b hb => List.all_eq_true.1 hall b hb), List.takeWhile_cons]
  simp [ne]
theorem u8_beq {x c : UInt8} (h : x ≠ c) : ((x.toNat : Int) == (c.toNat : Int)) = false := by
  rw [beq_eq_false_iff_ne]
  intro e
  exact h (UInt8.toNat_inj.1 (by omega))

set_option maxHeartbeats 4000000 in
set_option maxRecDepth 100000 in
theorem refscheme_any (s : ByteArray) (w : World) (hs : s.size ≤ 1000000000) : Calls Tryz.prog 100 #[.string s] w (SchR w (scheme s.data.toList)) := by
  have hstr := refstrip_any s w (by omega)
  have hsc : scheme s.data.toList = if (58 : UInt8) ∈ strip s.data.toList then schemeOf ((strip s.data.toList).takeWhile (ne 58)) else none := rfl
  have htl := strip_len s.data.toList
  obtain ⟨t, ht⟩ : ∃ t, strip s.data.toList = t := ⟨_, rfl⟩
  have hsl : s.data.toList.length = s.size := Array.length_toList
  rw [ht] at hstr hsc htl
  rw [hsl] at htl
  obtain ⟨T, hT⟩ : ∃ T : ByteArray, (⟨t.toArray⟩ : ByteArray) = T := ⟨_, rfl⟩
  have hTt : T.data.toList = t := by rw [← hT]
  have hTs : T.size = t.length := by rw [← hTt]; exact Array.length_toList.symm
  have hTb : T.size ≤ 1000000000 := by omega
  have hstr2 : Calls Tryz.prog 116 #[.string s] w (fun e w' => e = .returned (.string T) ∧ Below w.heap.size w w') := by
    rw [← hT]; exact hstr
  have HST := Lib.hid hstr2
  have HSC := Lib.hid hsc
  have HTS := Lib.hid hTs
  have HTT := Lib.hid hTt
  have hreflow := reflower_any
  have HLOW := Lib.hid hreflow
  clear hstr hstr2 hsc ht hsl htl hT hTt hTs hreflow
  go_enter Tryz.func100, Tryz.ntmps100
  go_wp2_with fail
  refine Calls.mono HST.out ?_
  rintro e w1 ⟨rfl, b1⟩
  have HB1 := Lib.hid b1
  clear b1
  go_wp2_with fail
  go_loop [4] (fun i => ∃ k : Nat, i = .int .i64 k ∧ k ≤ T.size ∧ good (t.take k) = true ∧ (t.take k).all (ne 58) = true) (fun i => T.size - (intOf i).toNat)
  case atStart => exact ⟨0, rfl, Nat.zero_le _, rfl, rfl⟩
  case round =>
    obtain ⟨k, rfl, hk, hgk, hne⟩ := hrel
    have HGK := Lib.hid hgk
    have HNE := Lib.hid hne
    clear hgk hne
    by_cases hlt : k < T.size
    · obtain ⟨x, hx⟩ : ∃ x, T[k] = x := ⟨_, rfl⟩
      have hki : (k : Int) < (T.size : Int) := by omega
      have hlt' : k < t.length := by rw [← HTS.out]; exact hlt
      have hxt : t[k] = x := by
        rw [← hx]
        have h2 := HTT.out
        subst h2
        rfl
      by_cases h58 : x = 58
      · have z58 : ((x.toNat : Int) != 58) = false := by rw [h58]; rfl
        obtain ⟨htw, hmem⟩ := tw_at t k hlt' (by rw [hxt]; exact h58) HNE.out
        have hres : scheme s.data.toList = schemeOf (t.take k) := by rw [HSC.out, if_pos hmem, htw]
        have hext : (T.extract 0 k).data.toList = t.take k := by rw [Lib.extract_data, HTT.out]; simp
        have HRES := Lib.hid hres
        have HEXT := Lib.hid hext
        clear htw hmem hres hxt h58 hext
        by_cases hk0 : k = 0
        · subst hk0
          go_wp2
          go_ret2
          exact ⟨by rw [HRES.out]; rfl, HB1.out⟩
        · have zk : (((k : Nat) : Int) == 0) = false := by rw [beq_eq_false_iff_ne]; omega
          have zt : (((k : Nat) : Int) == ((T.size : Nat) : Int)) = false := by rw [beq_eq_false_iff_ne]; omega
          go_wp2_with fail
          refine Calls.mono (HLOW.out (T.extract 0 k) _ (by rw [ByteArray.size_extract]; omega)) ?_
          rintro e w4 ⟨rfl, b4⟩
          have HB4 := Lib.hid b4
          clear b4
          go_wp2
          go_ret2
          refine ⟨?_, HB1.out.trans (HB4.out.mono HB1.out.size)⟩
          rw [HRES.out, schemeOf_good, if_pos ⟨take_ne t k (by omega) (by omega), HGK.out⟩, ← HTT.out]
          rfl
      · have z58 : ((x.toNat : Int) != 58) = true := u8_ne h58
        have htk : t.take (k + 1) = t.take k ++ [x] := by rw [List.take_succ_eq_append_getElem hlt', hxt]
        have hx58 : ne 58 x = true := by unfold ne; simp [h58]
        have hbadf : good (t.take k ++ [x]) = false → scheme s.data.toList = none := by
          intro hb
          obtain ⟨r, hr⟩ := tw_split t k x hlt' hxt h58 HNE.out
          rw [HSC.out]
          split
          · rw [hr, schemeOf_bad _ (good_prefix _ _ hb)]
          · rfl
        have hL := refletter_any x
        have hD := refdigit_any x
        have HL := Lib.hid hL
        have HD := Lib.hid hD
        have HTK := Lib.hid htk
        have HGO := Lib.hid (congrArg good htk)
        have HX58 := Lib.hid hx58
        have HBADF := Lib.hid hbadf
        clear hL hD htk hx58 hbadf hxt h58
        by_cases hk0 : k = 0
        · subst hk0
          have hok : good [x] = letter x := by simp [good]
          cases hl : letter x with
          | true =>
            rw [hl] at HL hok
            have HOK := Lib.hid (show good (t.take 0 ++ [x]) = true from hok)
            clear hok HBADF
            go_wp2_with fail
            refine Calls.mono (HL.out _) ?_
            rintro e w4 ⟨rfl, rfl⟩
            go_wp2
            go_round
            case rel => exact ⟨0 + 1, rfl, by omega, by rw [HGO.out]; exact HOK.out, by rw [HTK.out, List.all_append, HNE.out, List.all_cons, HX58.out]; rfl⟩
            case measure => simp [intOf]; omega
          | false =>
            rw [hl] at HL hok
            have HBAD := Lib.hid (HBADF.out hok)
            clear hok HBADF
            go_wp2_with fail
            refine Calls.mono (HL.out _) ?_
            rintro e w4 ⟨rfl, rfl⟩
            go_wp2
            go_ret2
            exact ⟨by rw [HBAD.out]; rfl, HB1.out⟩
        · have hki2 : (0 : Int) < (k : Int) := by omega
          have hok : good (t.take k ++ [x]) = mayS x := good_snoc (t.take k) x (take_ne t k (by omega) (by omega)) HGK.out
          cases hl : letter x with
          | true =>
            rw [hl] at HL
            have hms : mayS x = true := by unfold mayS; rw [hl]; rfl
            have HOK := Lib.hid (hok.trans hms)
            clear hok hms HBADF
            go_wp2_with fail
            refine Calls.mono (HL.out _) ?_
            rintro e w4 ⟨rfl, rfl⟩
            go_wp2
            go_round
            case rel => exact ⟨k + 1, by go_num, by omega, by rw [HGO.out]; exact HOK.out, by rw [HTK.out, List.all_append, HNE.out, List.all_cons, HX58.out]; rfl⟩
            case measure => simp [intOf]; omega
          | false =>
            rw [hl] at HL
            cases hd : digit x with
            | true =>
              rw [hd] at HD
              have hms : mayS x = true := by unfold mayS; rw [hl, hd]; rfl
              have HOK := Lib.hid (hok.trans hms)
              clear hok hms HBADF
              go_wp2_with fail
              refine Calls.mono (HL.out _) ?_
              rintro e w4 ⟨rfl, rfl⟩
              go_wp2_with fail
              refine Calls.mono (HD.out _) ?_
              rintro e w5 ⟨rfl, rfl⟩
              go_wp2
              go_round
              case rel => exact ⟨k + 1, by go_num, by omega, by rw [HGO.out]; exact HOK.out, by rw [HTK.out, List.all_append, HNE.out, List.all_cons, HX58.out]; rfl⟩
              case measure => simp [intOf]; omega
            | false =>
              rw [hd] at HD
              by_cases h43 : x = 43
              · have z43 : ((x.toNat : Int) == 43) = true := by rw [h43]; rfl
                have hms : mayS x = true := by rw [h43]; decide
                have HOK := Lib.hid (hok.trans hms)
                clear hok hms HBADF h43
                go_wp2_with fail
                refine Calls.mono (HL.out _) ?_
                rintro e w4 ⟨rfl, rfl⟩
                go_wp2_with fail
                refine Calls.mono (HD.out _) ?_
                rintro e w5 ⟨rfl, rfl⟩
                go_wp2
                go_round
                case rel => exact ⟨k + 1, by go_num, by omega, by rw [HGO.out]; exact HOK.out, by rw [HTK.out, List.all_append, HNE.out, List.all_cons, HX58.out]; rfl⟩
                case measure => simp [intOf]; omega
              · have z43 : ((x.toNat : Int) == 43) = false := u8_beq h43
                by_cases h45 : x = 45
                · have z45 : ((x.toNat : Int) == 45) = true := by rw [h45]; rfl
                  have hms : mayS x = true := by rw [h45]; decide
                  have HOK := Lib.hid (hok.trans hms)
                  clear hok hms HBADF h43 h45
                  go_wp2_with fail
                  refine Calls.mono (HL.out _) ?_
                  rintro e w4 ⟨rfl, rfl⟩
                  go_wp2_with fail
                  refine Calls.mono (HD.out _) ?_
                  rintro e w5 ⟨rfl, rfl⟩
                  go_wp2
                  go_round
                  case rel => exact ⟨k + 1, by go_num, by omega, by rw [HGO.out]; exact HOK.out, by rw [HTK.out, List.all_append, HNE.out, List.all_cons, HX58.out]; rfl⟩
                  case measure => simp [intOf]; omega
                · have z45 : ((x.toNat : Int) == 45) = false := u8_beq h45
                  by_cases h46 : x = 46
                  · have z46 : ((x.toNat : Int) == 46) = true := by rw [h46]; rfl
                    have hms : mayS x = true := by rw [h46]; decide
                    have HOK := Lib.hid (hok.trans hms)
                    clear hok hms HBADF h43 h45 h46
                    go_wp2_with fail
                    refine Calls.mono (HL.out _) ?_
                    rintro e w4 ⟨rfl, rfl⟩
                    go_wp2_with fail
                    refine Calls.mono (HD.out _) ?_
                    rintro e w5 ⟨rfl, rfl⟩
                    go_wp2
                    go_round
                    case rel => exact ⟨k + 1, by go_num, by omega, by rw [HGO.out]; exact HOK.out, by rw [HTK.out, List.all_append, HNE.out, List.all_cons, HX58.out]; rfl⟩
                    case measure => simp [intOf]; omega
                  · have z46 : ((x.toNat : Int) == 46) = false := u8_beq h46
                    have hms : mayS x = false := by unfold mayS; rw [hl, hd]; simp [h43, h45, h46]
                    have HBAD := Lib.hid (HBADF.out (hok.trans hms))
                    clear hok hms HBADF h43 h45 h46
                    go_wp2_with fail
                    refine Calls.mono (HL.out _) ?_
                    rintro e w4 ⟨rfl, rfl⟩
                    go_wp2_with fail
                    refine Calls.mono (HD.out _) ?_
                    rintro e w5 ⟨rfl, rfl⟩
                    go_wp2
                    go_ret2
                    exact ⟨by rw [HBAD.out]; rfl, HB1.out⟩
    · obtain rfl : k = T.size := by omega
      have hno : scheme s.data.toList = none := by
        rw [HSC.out, if_neg]
        intro hm
        have h := HNE.out
        rw [List.take_of_length_le (by rw [HTS.out]; exact Nat.le_refl _)] at h
        have := List.all_eq_true.1 h _ hm
        simp [ne] at this
      have HNO := Lib.hid hno
      clear hno
      obtain ⟨q, hq⟩ : ∃ q, (((T.size : Nat) : Int) == 0) = q := ⟨_, rfl⟩
      cases q
      all_goals
        go_wp2
        go_ret2
        exact ⟨by rw [HNO.out]; rfl, HB1.out⟩
end Go.Proofs.YtdkjenbncmedbaaGreatDoor
