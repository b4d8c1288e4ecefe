/- tympanlaw22.LeafOne answers true for every input. -/
import Derived.Test.YtjhfmdfihbkcaaaGreatDoorLfKnown
import Derived.Test.YtjhfmdfihbkcaaaGreatDoorTagLoc
import Derived.Deep.DeepCutAuto
namespace Go.Proofs.YtjhfmdfihbkcaaaGreatDoor
open Go.RowKit

/-- At most one of the four. -/
theorem one_of (l : List UInt8) : (ruleB l = false ∧ headLev l = 0 ∧ openB l = false ∧ underN l ≠ 1) ∨ (ruleB l = true ∧ headLev l = 0 ∧ openB l = false ∧ underN l ≠ 1) ∨
    (ruleB l = false ∧ 0 < headLev l ∧ openB l = false ∧ underN l ≠ 1) ∨ (ruleB l = false ∧ headLev l = 0 ∧ openB l = true ∧ underN l ≠ 1) ∨ (ruleB l = false ∧ headLev l = 0 ∧ openB l = false ∧ underN l = 1) := by
  have hR : ruleB l = true → l.head? = some 42 ∨ l.head? = some 45 ∨ l.head? = some 95 := fun h => by
    obtain ⟨b, hb, rfl | rfl | rfl⟩ := ruleB_head h
    · exact .inl hb
    · exact .inr (.inl hb)
    · exact .inr (.inr hb)
  have hH : 0 < headLev l → l.head? = some 35 := headLev_pos
  have hO : openB l = true → l.head? = some 96 ∨ l.head? = some 126 := openB_head
  have hU : underN l = 1 → l.head? = some 61 := underN_one
  cases h1 : ruleB l <;> cases h2 : openB l <;> rcases Nat.eq_zero_or_pos (headLev l) with h3 | h3 <;> by_cases h4 : underN l = 1 <;> rw [h1] at hR <;> rw [h2] at hO <;> simp_all
  all_goals (first | omega | (rcases hR with h | h | h <;> simp_all) | (rcases hO with h | h <;> simp_all))
theorem tagN_head {l : List UInt8} (h : 0 < tagN l) : l[0]? = some 60 := by
  unfold tagN at h
  split at h
  · rename_i hp
    cases l with
    | nil => cases hp
    | cons b r =>
      have : (60 == b) = true := by
        have h2 : ((60 : UInt8) == b && List.isPrefixOf [] r) = true := hp
        exact (Bool.and_eq_true_iff.1 h2).1
      rw [List.getElem?_cons_zero, ← eq_of_beq this]
  · exact absurd h (Nat.lt_irrefl 0)
def CntS (w : World) (s5 : Value) (wx : World) : Prop := ∃ c : Nat, s5 = .int .i64 (c : Int) ∧ c ≤ 1 ∧ Below w.heap.size w wx
set_option maxHeartbeats 8000000 in
set_option maxRecDepth 100000 in
theorem one_law (s more : ByteArray) (w : World) (hm : MaxB w) (ht : SpTab w) (hs63 : s.size ≤ 9223372036854775807) (hm63 : more.size ≤ 9223372036854775807) : Calls Tryz.prog 3 #[.string s, .string more] w (Yes w) := by
  have HKN := Lib.hid fun w' (hb : Below w.heap.size w w') => known_any w' (hm.later hb) (ht.later hb)
  clear hm ht
  by_cases h1 : s.size ≤ 1500
  · have z1 : ¬ (1500 : Int) < (s.size : Int) := by omega
    by_cases h2 : more.size ≤ 1500
    · have z2 : ¬ (1500 : Int) < (more.size : Int) := by omega
      have HR := Lib.hid fun w' => rule_any s w' (by omega)
      have HH := Lib.hid fun w' => head_any s w' (by omega)
      have HO := Lib.hid fun w' => open_any s w' (by omega)
      have HU := Lib.hid fun w' => under_any s w' (by omega)
      have HTg := Lib.hid fun w' => tag_any s w' (by omega)
      have H1 := Lib.hid (one_of s.data.toList)
      have HE := Lib.hid fun h => tagN_ends s.data.toList h
      have HHd := Lib.hid fun h => tagN_head (l := s.data.toList) h
      have hsl : s.data.toList.length = s.size := Array.length_toList
      have HAg := Lib.hid fun (h : 0 < tagN s.data.toList) w' => show Calls Tryz.prog 9 #[.string (s.extract 0 (tagN s.data.toList) ++ more)] w' (RIb w' (tagN s.data.toList : Nat)) by
        have h3 := tag_any (s.extract 0 (tagN s.data.toList) ++ more) w' (by rw [ByteArray.size_append, ByteArray.size_extract]; omega)
        have h4 : (s.extract 0 (tagN s.data.toList) ++ more).data.toList = s.data.toList.take (tagN s.data.toList) ++ more.data.toList := by
          rw [ByteArray.data_append, Array.toList_append, Lib.extract_data]
          simp
        rw [h4, tag_again _ _ h] at h3
        exact h3
      obtain ⟨k, hk⟩ : ∃ k, tagN s.data.toList = k := ⟨_, rfl⟩
      have hkl : k ≤ s.size := by rw [← hk, ← hsl]; exact tagN_le _
      rw [hk] at HTg HE HHd HAg
      clear hk
      rcases Nat.eq_zero_or_pos k with hk0 | hkp
      · subst hk0
        clear HE HHd HAg
        rcases H1.out with ⟨r, h, o, u⟩ | ⟨r, h, o, u⟩ | ⟨r, h, o, u⟩ | ⟨r, h, o, u⟩ | ⟨r, h, o, u⟩
        · rw [r] at HR
          rw [h] at HH
          rw [o] at HO
          obtain ⟨q, hq⟩ : ∃ q, underN s.data.toList = q := ⟨_, rfl⟩
          rw [hq] at HU u
          have zq : ((q : Int) == 1) = false := by simp; omega
          clear r h o u hq H1
          go_enter Tryz.func3, Tryz.ntmps3
          go_wp2_with fail
          refine Calls.mono (HKN.out _ (Below.refl _ w)) ?_
          rintro e w1 ⟨rfl, b1⟩
          have HB1 := Lib.hid b1
          clear b1
          go_wp2_with fail
          refine Calls.mono (HR.out _) ?_
          rintro e w2 ⟨rfl, b2⟩
          have HB2 := Lib.hid (below_on HB1.out b2)
          clear b2 HB1
          go_wp2_with fail
          refine Calls.mono (HH.out _) ?_
          rintro e w3 ⟨rfl, b3⟩
          have HB3 := Lib.hid (below_on HB2.out b3)
          clear b3 HB2
          go_wp2_with fail
          refine Calls.mono (HO.out _) ?_
          rintro e w4 ⟨⟨x1, x2, x3, rfl⟩, b4⟩
          have HB4 := Lib.hid (below_on HB3.out b4)
          clear b4 HB3
          go_wp2_with fail
          refine Calls.mono (HU.out _) ?_
          rintro e w5 ⟨rfl, b5⟩
          have HB5 := Lib.hid (below_on (HB4.out.alloc HB4.out.size _) b5)
          clear b5 HB4
          go_wp2_with fail
          refine Calls.mono (HTg.out _) ?_
          rintro e w6 ⟨rfl, b6⟩
          have HB6 := Lib.hid (below_on HB5.out b6)
          clear b6 HB5
          go_wp2
          go_ret
          exact ⟨rfl, HB6.out⟩
        · rw [r] at HR
          rw [h] at HH
          rw [o] at HO
          obtain ⟨q, hq⟩ : ∃ q, underN s.data.toList = q := ⟨_, rfl⟩
          rw [hq] at HU u
          have zq : ((q : Int) == 1) = false := by simp; omega
          clear r h o u hq H1
          go_enter Tryz.func3, Tryz.ntmps3
          go_wp2_with fail
          refine Calls.mono (HKN.out _ (Below.refl _ w)) ?_
          rintro e w1 ⟨rfl, b1⟩
          have HB1 := Lib.hid b1
          clear b1
          go_wp2_with fail
          refine Calls.mono (HR.out _) ?_
          rintro e w2 ⟨rfl, b2⟩
          have HB2 := Lib.hid (below_on HB1.out b2)
          clear b2 HB1
          go_wp2_with fail
          refine Calls.mono (HH.out _) ?_
          rintro e w3 ⟨rfl, b3⟩
          have HB3 := Lib.hid (below_on HB2.out b3)
          clear b3 HB2
          go_wp2_with fail
          refine Calls.mono (HO.out _) ?_
          rintro e w4 ⟨⟨x1, x2, x3, rfl⟩, b4⟩
          have HB4 := Lib.hid (below_on HB3.out b4)
          clear b4 HB3
          go_wp2_with fail
          refine Calls.mono (HU.out _) ?_
          rintro e w5 ⟨rfl, b5⟩
          have HB5 := Lib.hid (below_on (HB4.out.alloc HB4.out.size _) b5)
          clear b5 HB4
          go_wp2_with fail
          refine Calls.mono (HTg.out _) ?_
          rintro e w6 ⟨rfl, b6⟩
          have HB6 := Lib.hid (below_on HB5.out b6)
          clear b6 HB5
          go_wp2
          go_ret
          exact ⟨rfl, HB6.out⟩
        · rw [r] at HR
          obtain ⟨v, hv⟩ : ∃ v, headLev s.data.toList = v := ⟨_, rfl⟩
          rw [hv] at HH h
          have zv : (0 : Int) < (v : Int) := by omega
          rw [o] at HO
          obtain ⟨q, hq⟩ : ∃ q, underN s.data.toList = q := ⟨_, rfl⟩
          rw [hq] at HU u
          have zq : ((q : Int) == 1) = false := by simp; omega
          clear r h o u hq H1 hv
          go_enter Tryz.func3, Tryz.ntmps3
          go_wp2_with fail
          refine Calls.mono (HKN.out _ (Below.refl _ w)) ?_
          rintro e w1 ⟨rfl, b1⟩
          have HB1 := Lib.hid b1
          clear b1
          go_wp2_with fail
          refine Calls.mono (HR.out _) ?_
          rintro e w2 ⟨rfl, b2⟩
          have HB2 := Lib.hid (below_on HB1.out b2)
          clear b2 HB1
          go_wp2_with fail
          refine Calls.mono (HH.out _) ?_
          rintro e w3 ⟨rfl, b3⟩
          have HB3 := Lib.hid (below_on HB2.out b3)
          clear b3 HB2
          go_wp2_with fail
          refine Calls.mono (HO.out _) ?_
          rintro e w4 ⟨⟨x1, x2, x3, rfl⟩, b4⟩
          have HB4 := Lib.hid (below_on HB3.out b4)
          clear b4 HB3
          go_wp2_with fail
          refine Calls.mono (HU.out _) ?_
          rintro e w5 ⟨rfl, b5⟩
          have HB5 := Lib.hid (below_on (HB4.out.alloc HB4.out.size _) b5)
          clear b5 HB4
          go_wp2_with fail
          refine Calls.mono (HTg.out _) ?_
          rintro e w6 ⟨rfl, b6⟩
          have HB6 := Lib.hid (below_on HB5.out b6)
          clear b6 HB5
          go_wp2
          go_ret
          exact ⟨rfl, HB6.out⟩
        · rw [r] at HR
          rw [h] at HH
          rw [o] at HO
          obtain ⟨q, hq⟩ : ∃ q, underN s.data.toList = q := ⟨_, rfl⟩
          rw [hq] at HU u
          have zq : ((q : Int) == 1) = false := by simp; omega
          clear r h o u hq H1
          go_enter Tryz.func3, Tryz.ntmps3
          go_wp2_with fail
          refine Calls.mono (HKN.out _ (Below.refl _ w)) ?_
          rintro e w1 ⟨rfl, b1⟩
          have HB1 := Lib.hid b1
          clear b1
          go_wp2_with fail
          refine Calls.mono (HR.out _) ?_
          rintro e w2 ⟨rfl, b2⟩
          have HB2 := Lib.hid (below_on HB1.out b2)
          clear b2 HB1
          go_wp2_with fail
          refine Calls.mono (HH.out _) ?_
          rintro e w3 ⟨rfl, b3⟩
          have HB3 := Lib.hid (below_on HB2.out b3)
          clear b3 HB2
          go_wp2_with fail
          refine Calls.mono (HO.out _) ?_
          rintro e w4 ⟨⟨x1, x2, x3, rfl⟩, b4⟩
          have HB4 := Lib.hid (below_on HB3.out b4)
          clear b4 HB3
          go_wp2_with fail
          refine Calls.mono (HU.out _) ?_
          rintro e w5 ⟨rfl, b5⟩
          have HB5 := Lib.hid (below_on (HB4.out.alloc HB4.out.size _) b5)
          clear b5 HB4
          go_wp2_with fail
          refine Calls.mono (HTg.out _) ?_
          rintro e w6 ⟨rfl, b6⟩
          have HB6 := Lib.hid (below_on HB5.out b6)
          clear b6 HB5
          go_wp2
          go_ret
          exact ⟨rfl, HB6.out⟩
        · rw [r] at HR
          rw [h] at HH
          rw [o] at HO
          obtain ⟨q, hq⟩ : ∃ q, underN s.data.toList = q := ⟨_, rfl⟩
          rw [hq] at HU u
          have zq : ((q : Int) == 1) = true := by simp; omega
          clear r h o u hq H1
          go_enter Tryz.func3, Tryz.ntmps3
          go_wp2_with fail
          refine Calls.mono (HKN.out _ (Below.refl _ w)) ?_
          rintro e w1 ⟨rfl, b1⟩
          have HB1 := Lib.hid b1
          clear b1
          go_wp2_with fail
          refine Calls.mono (HR.out _) ?_
          rintro e w2 ⟨rfl, b2⟩
          have HB2 := Lib.hid (below_on HB1.out b2)
          clear b2 HB1
          go_wp2_with fail
          refine Calls.mono (HH.out _) ?_
          rintro e w3 ⟨rfl, b3⟩
          have HB3 := Lib.hid (below_on HB2.out b3)
          clear b3 HB2
          go_wp2_with fail
          refine Calls.mono (HO.out _) ?_
          rintro e w4 ⟨⟨x1, x2, x3, rfl⟩, b4⟩
          have HB4 := Lib.hid (below_on HB3.out b4)
          clear b4 HB3
          go_wp2_with fail
          refine Calls.mono (HU.out _) ?_
          rintro e w5 ⟨rfl, b5⟩
          have HB5 := Lib.hid (below_on (HB4.out.alloc HB4.out.size _) b5)
          clear b5 HB4
          go_wp2_with fail
          refine Calls.mono (HTg.out _) ?_
          rintro e w6 ⟨rfl, b6⟩
          have HB6 := Lib.hid (below_on HB5.out b6)
          clear b6 HB5
          go_wp2
          go_ret
          exact ⟨rfl, HB6.out⟩
      · have he := HE.out hkp
        have hh := HHd.out hkp
        have HG := Lib.hid (HAg.out hkp)
        obtain ⟨j, rfl⟩ : ∃ j, k = j + 1 := ⟨k - 1, by omega⟩
        have hj : j < s.size := by omega
        have hj2 : (j : Int) < (s.size : Int) := by omega
        have hj3 : (j : Int) + 1 ≤ (s.size : Int) := by omega
        have h0 : 0 < s.size := by omega
        have e60 : (s[0] : UInt8) = 60 := by have h3 := get_list s 0 h0; rw [hh] at h3; exact (Option.some.inj h3).symm
        have e62 : (s[j] : UInt8) = 62 := by have h3 := get_list s j hj; rw [show j + 1 - 1 = j by omega] at he; rw [he.2.2] at h3; exact (Option.some.inj h3).symm
        have hov : ¬ (9223372036854775807 < (s.extract 0 (j + 1)).size + more.size) := by rw [ByteArray.size_extract]; omega
        have f60 : ((s[0] : UInt8).toNat : Int) = 60 := by rw [e60]; rfl
        have f62 : ((s[j] : UInt8).toNat : Int) = 62 := by rw [e62]; rfl
        have fj : ¬ (j : Int) + 1 = 0 := by omega
        clear he hh HE HHd HAg e60 e62
        rcases H1.out with ⟨r, h, o, u⟩ | ⟨r, h, o, u⟩ | ⟨r, h, o, u⟩ | ⟨r, h, o, u⟩ | ⟨r, h, o, u⟩
        · rw [r] at HR
          rw [h] at HH
          rw [o] at HO
          obtain ⟨q, hq⟩ : ∃ q, underN s.data.toList = q := ⟨_, rfl⟩
          rw [hq] at HU u
          have zq : ((q : Int) == 1) = false := by simp; omega
          clear r h o u hq H1
          go_enter Tryz.func3, Tryz.ntmps3
          go_wp2_with fail
          refine Calls.mono (HKN.out _ (Below.refl _ w)) ?_
          rintro e w1 ⟨rfl, b1⟩
          have HB1 := Lib.hid b1
          clear b1
          go_wp2_with fail
          refine Calls.mono (HR.out _) ?_
          rintro e w2 ⟨rfl, b2⟩
          have HB2 := Lib.hid (below_on HB1.out b2)
          clear b2 HB1
          go_wp2_with fail
          refine Calls.mono (HH.out _) ?_
          rintro e w3 ⟨rfl, b3⟩
          have HB3 := Lib.hid (below_on HB2.out b3)
          clear b3 HB2
          go_wp2_with fail
          refine Calls.mono (HO.out _) ?_
          rintro e w4 ⟨⟨x1, x2, x3, rfl⟩, b4⟩
          have HB4 := Lib.hid (below_on HB3.out b4)
          clear b4 HB3
          go_wp2_with fail
          refine Calls.mono (HU.out _) ?_
          rintro e w5 ⟨rfl, b5⟩
          have HB5 := Lib.hid (below_on (HB4.out.alloc HB4.out.size _) b5)
          clear b5 HB4
          go_wp2_with fail
          refine Calls.mono (HTg.out _) ?_
          rintro e w6 ⟨rfl, b6⟩
          have HB6 := Lib.hid (below_on HB5.out b6)
          clear b6 HB5
          go_wp2_with fail
          refine Calls.mono (HG.out _) ?_
          rintro e w7 ⟨rfl, b7⟩
          have b7 := below_on HB6.out b7
          go_wp2
          go_ret
          exact ⟨rfl, b7⟩
        · rw [r] at HR
          rw [h] at HH
          rw [o] at HO
          obtain ⟨q, hq⟩ : ∃ q, underN s.data.toList = q := ⟨_, rfl⟩
          rw [hq] at HU u
          have zq : ((q : Int) == 1) = false := by simp; omega
          clear r h o u hq H1
          go_enter Tryz.func3, Tryz.ntmps3
          go_wp2_with fail
          refine Calls.mono (HKN.out _ (Below.refl _ w)) ?_
          rintro e w1 ⟨rfl, b1⟩
          have HB1 := Lib.hid b1
          clear b1
          go_wp2_with fail
          refine Calls.mono (HR.out _) ?_
          rintro e w2 ⟨rfl, b2⟩
          have HB2 := Lib.hid (below_on HB1.out b2)
          clear b2 HB1
          go_wp2_with fail
          refine Calls.mono (HH.out _) ?_
          rintro e w3 ⟨rfl, b3⟩
          have HB3 := Lib.hid (below_on HB2.out b3)
          clear b3 HB2
          go_wp2_with fail
          refine Calls.mono (HO.out _) ?_
          rintro e w4 ⟨⟨x1, x2, x3, rfl⟩, b4⟩
          have HB4 := Lib.hid (below_on HB3.out b4)
          clear b4 HB3
          go_wp2_with fail
          refine Calls.mono (HU.out _) ?_
          rintro e w5 ⟨rfl, b5⟩
          have HB5 := Lib.hid (below_on (HB4.out.alloc HB4.out.size _) b5)
          clear b5 HB4
          go_wp2_with fail
          refine Calls.mono (HTg.out _) ?_
          rintro e w6 ⟨rfl, b6⟩
          have HB6 := Lib.hid (below_on HB5.out b6)
          clear b6 HB5
          go_wp2_with fail
          refine Calls.mono (HG.out _) ?_
          rintro e w7 ⟨rfl, b7⟩
          have b7 := below_on HB6.out b7
          go_wp2
          go_ret
          exact ⟨rfl, b7⟩
        · rw [r] at HR
          obtain ⟨v, hv⟩ : ∃ v, headLev s.data.toList = v := ⟨_, rfl⟩
          rw [hv] at HH h
          have zv : (0 : Int) < (v : Int) := by omega
          rw [o] at HO
          obtain ⟨q, hq⟩ : ∃ q, underN s.data.toList = q := ⟨_, rfl⟩
          rw [hq] at HU u
          have zq : ((q : Int) == 1) = false := by simp; omega
          clear r h o u hq H1 hv
          go_enter Tryz.func3, Tryz.ntmps3
          go_wp2_with fail
          refine Calls.mono (HKN.out _ (Below.refl _ w)) ?_
          rintro e w1 ⟨rfl, b1⟩
          have HB1 := Lib.hid b1
          clear b1
          go_wp2_with fail
          refine Calls.mono (HR.out _) ?_
          rintro e w2 ⟨rfl, b2⟩
          have HB2 := Lib.hid (below_on HB1.out b2)
          clear b2 HB1
          go_wp2_with fail
          refine Calls.mono (HH.out _) ?_
          rintro e w3 ⟨rfl, b3⟩
          have HB3 := Lib.hid (below_on HB2.out b3)
          clear b3 HB2
          go_wp2_with fail
          refine Calls.mono (HO.out _) ?_
          rintro e w4 ⟨⟨x1, x2, x3, rfl⟩, b4⟩
          have HB4 := Lib.hid (below_on HB3.out b4)
          clear b4 HB3
          go_wp2_with fail
          refine Calls.mono (HU.out _) ?_
          rintro e w5 ⟨rfl, b5⟩
          have HB5 := Lib.hid (below_on (HB4.out.alloc HB4.out.size _) b5)
          clear b5 HB4
          go_wp2_with fail
          refine Calls.mono (HTg.out _) ?_
          rintro e w6 ⟨rfl, b6⟩
          have HB6 := Lib.hid (below_on HB5.out b6)
          clear b6 HB5
          go_wp2_with fail
          refine Calls.mono (HG.out _) ?_
          rintro e w7 ⟨rfl, b7⟩
          have b7 := below_on HB6.out b7
          go_wp2
          go_ret
          exact ⟨rfl, b7⟩
        · rw [r] at HR
          rw [h] at HH
          rw [o] at HO
          obtain ⟨q, hq⟩ : ∃ q, underN s.data.toList = q := ⟨_, rfl⟩
          rw [hq] at HU u
          have zq : ((q : Int) == 1) = false := by simp; omega
          clear r h o u hq H1
          go_enter Tryz.func3, Tryz.ntmps3
          go_wp2_with fail
          refine Calls.mono (HKN.out _ (Below.refl _ w)) ?_
          rintro e w1 ⟨rfl, b1⟩
          have HB1 := Lib.hid b1
          clear b1
          go_wp2_with fail
          refine Calls.mono (HR.out _) ?_
          rintro e w2 ⟨rfl, b2⟩
          have HB2 := Lib.hid (below_on HB1.out b2)
          clear b2 HB1
          go_wp2_with fail
          refine Calls.mono (HH.out _) ?_
          rintro e w3 ⟨rfl, b3⟩
          have HB3 := Lib.hid (below_on HB2.out b3)
          clear b3 HB2
          go_wp2_with fail
          refine Calls.mono (HO.out _) ?_
          rintro e w4 ⟨⟨x1, x2, x3, rfl⟩, b4⟩
          have HB4 := Lib.hid (below_on HB3.out b4)
          clear b4 HB3
          go_wp2_with fail
          refine Calls.mono (HU.out _) ?_
          rintro e w5 ⟨rfl, b5⟩
          have HB5 := Lib.hid (below_on (HB4.out.alloc HB4.out.size _) b5)
          clear b5 HB4
          go_wp2_with fail
          refine Calls.mono (HTg.out _) ?_
          rintro e w6 ⟨rfl, b6⟩
          have HB6 := Lib.hid (below_on HB5.out b6)
          clear b6 HB5
          go_wp2_with fail
          refine Calls.mono (HG.out _) ?_
          rintro e w7 ⟨rfl, b7⟩
          have b7 := below_on HB6.out b7
          go_wp2
          go_ret
          exact ⟨rfl, b7⟩
        · rw [r] at HR
          rw [h] at HH
          rw [o] at HO
          obtain ⟨q, hq⟩ : ∃ q, underN s.data.toList = q := ⟨_, rfl⟩
          rw [hq] at HU u
          have zq : ((q : Int) == 1) = true := by simp; omega
          clear r h o u hq H1
          go_enter Tryz.func3, Tryz.ntmps3
          go_wp2_with fail
          refine Calls.mono (HKN.out _ (Below.refl _ w)) ?_
          rintro e w1 ⟨rfl, b1⟩
          have HB1 := Lib.hid b1
          clear b1
          go_wp2_with fail
          refine Calls.mono (HR.out _) ?_
          rintro e w2 ⟨rfl, b2⟩
          have HB2 := Lib.hid (below_on HB1.out b2)
          clear b2 HB1
          go_wp2_with fail
          refine Calls.mono (HH.out _) ?_
          rintro e w3 ⟨rfl, b3⟩
          have HB3 := Lib.hid (below_on HB2.out b3)
          clear b3 HB2
          go_wp2_with fail
          refine Calls.mono (HO.out _) ?_
          rintro e w4 ⟨⟨x1, x2, x3, rfl⟩, b4⟩
          have HB4 := Lib.hid (below_on HB3.out b4)
          clear b4 HB3
          go_wp2_with fail
          refine Calls.mono (HU.out _) ?_
          rintro e w5 ⟨rfl, b5⟩
          have HB5 := Lib.hid (below_on (HB4.out.alloc HB4.out.size _) b5)
          clear b5 HB4
          go_wp2_with fail
          refine Calls.mono (HTg.out _) ?_
          rintro e w6 ⟨rfl, b6⟩
          have HB6 := Lib.hid (below_on HB5.out b6)
          clear b6 HB5
          go_wp2_with fail
          refine Calls.mono (HG.out _) ?_
          rintro e w7 ⟨rfl, b7⟩
          have b7 := below_on HB6.out b7
          go_wp2
          go_ret
          exact ⟨rfl, b7⟩
    · have z2 : (1500 : Int) < (more.size : Int) := by omega
      go_enter Tryz.func3, Tryz.ntmps3
      go_wp2_with fail
      refine Calls.mono (HKN.out _ (Below.refl _ w)) ?_
      rintro e w1 ⟨rfl, b1⟩
      go_wp2
      go_ret
      exact ⟨rfl, b1⟩
  · have z1 : (1500 : Int) < (s.size : Int) := by omega
    go_enter Tryz.func3, Tryz.ntmps3
    go_wp2_with fail
    refine Calls.mono (HKN.out _ (Below.refl _ w)) ?_
    rintro e w1 ⟨rfl, b1⟩
    go_wp2
    go_ret
    exact ⟨rfl, b1⟩
end Go.Proofs.YtjhfmdfihbkcaaaGreatDoor
