/- The reference's Label at the front. -/
import Derived.Test.YtbcfhpomclkccaaDoorRsRg
import Derived.Test.YtbcfhpomclkccaaDoorRsDefA
namespace Go.Proofs.YtbcfhpomclkccaaDoor
open Go.RowKit

theorem white_any (b : UInt8) (w : World) : Calls Tryd.prog 25 #[.int .u8 (b.toNat : Int)] w (RB w (ws3 b)) := by
  obtain ⟨q, hq⟩ : ∃ q, (b == 32) = q := ⟨_, rfl⟩
  obtain ⟨r, hr⟩ : ∃ r, (b == 9) = r := ⟨_, rfl⟩
  obtain ⟨t, ht⟩ : ∃ t, (b == 10) = t := ⟨_, rfl⟩
  have hv : ws3 b = (q || r || t) := by unfold ws3; rw [hq, hr, ht]
  rw [hv]
  have hq2 : ((b.toNat : Int) == 32) = q := by rw [show ((b.toNat : Int) == 32) = (b == 32) from beqc b 32]; exact hq
  have hr2 : ((b.toNat : Int) == 9) = r := by rw [show ((b.toNat : Int) == 9) = (b == 9) from beqc b 9]; exact hr
  have ht2 : ((b.toNat : Int) == 10) = t := by rw [show ((b.toNat : Int) == 10) = (b == 10) from beqc b 10]; exact ht
  clear hq hr ht hv
  cases q
  · cases r
    · go_enter Tryd.func25, Tryd.ntmps25
      go_wp2
      go_ret
      exact ⟨rfl, rfl⟩
    · go_enter Tryd.func25, Tryd.ntmps25
      go_wp2
      go_ret
      exact ⟨rfl, rfl⟩
  · go_enter Tryd.func25, Tryd.ntmps25
    go_wp2
    go_ret
    exact ⟨rfl, rfl⟩
def SI2 (w : World) (x : ByteArray) (n : Nat) (e : Ending) (w' : World) : Prop := e = .returned (.tuple #[.string x, .int .i64 (n : Int)]) ∧ w' = w
/-- Has something stood there that is not white? -/
def someAt (l : List UInt8) (k : Nat) : Bool := !((l.drop 1).take (k - 1)).all ws3
theorem some_next (s : ByteArray) (k : Nat) (hk : k < s.size) (h1 : 1 ≤ k) : someAt s.data.toList (k + 1) = (someAt s.data.toList k || !ws3 s[k]) := by
  unfold someAt
  have hl : s.data.toList.length = s.size := Array.length_toList
  have hlt : k - 1 < (s.data.toList.drop 1).length := by rw [List.length_drop]; omega
  have he : (s.data.toList.drop 1)[k - 1] = s[k] := by
    rw [List.getElem_drop]
    show s.data.toList[1 + (k - 1)] = _
    have : s.data.toList[k]'(by omega) = s[k] := rfl
    rw [← this]
    congr 1
    omega
  rw [show k + 1 - 1 = (k - 1) + 1 by omega, List.take_succ_eq_append_getElem hlt, List.all_append, he]
  simp
def RlW (s : ByteArray) (E : Nat × Bool) (w : World) (v6 v7 : Value) (wr : World) : Prop := ∃ k f : Nat, v6 = .bool (someAt s.data.toList k) ∧ v7 = .int .i64 (k : Int) ∧ 1 ≤ k ∧ k ≤ s.size ∧ s.size ≤ k + f ∧ upF s.data.toList 93 noBr f k = E ∧ wr = w
theorem label_of (s : ByteArray) (E : Nat × Bool) (h91 : s.data.toList[0]? = some 91) (hE : upF s.data.toList 93 noBr s.size 1 = E) :
    labelN s.data.toList 0 = if E.2 && someAt s.data.toList E.1 && decide (E.1 - 1 ≤ 999) then some E.1 else none := by
  unfold labelN someAt
  rw [h91, if_pos (by rfl), show s.data.toList.length = s.size from Array.length_toList, show (0 + 1 : Nat) = 1 from rfl, hE]
set_option maxHeartbeats 4000000 in
set_option maxRecDepth 100000 in
theorem reflabel_any (s : ByteArray) (w : World) (hs : s.size ≤ 1099511627776) : Calls Tryd.prog 38 #[.string s, .int .i64 0] w (SI2 w (labelS s 0) (labelE s.data.toList 0)) := by
  have hl : s.data.toList.length = s.size := Array.length_toList
  by_cases h0 : 0 < s.size
  · have hi0 : (0 : Int) < (s.size : Int) := by omega
    have hi1 : ¬ (s.size : Int) ≤ 0 := by omega
    have hz0 : ¬ s.size = 0 := by omega
    have hg0 := get_list s 0 h0
    obtain ⟨c, hc⟩ : ∃ c, s[0] = c := ⟨_, rfl⟩
    rw [hc] at hg0
    by_cases h91 : c = 91
    · have i91 : ((c.toNat : Int) != 91) = false := by rw [show ((c.toNat : Int) != 91) = (c != 91) from bnec c 91, h91]; rfl
      rw [h91] at hg0
      obtain ⟨E, hE⟩ : ∃ E, upF s.data.toList 93 noBr s.size 1 = E := ⟨_, rfl⟩
      have hlab := label_of s E hg0 hE
      have HLab := Lib.hid hlab
      have H0 := Lib.hid (show RlW s E w (.bool false) (.int .i64 1) w from ⟨1, s.size, by unfold someAt; simp, rfl, Nat.le_refl _, by omega, by omega, hE, rfl⟩)
      have HP := Lib.hid fun (k : Nat) (hk : k ≤ s.size) w' => refpair_at s k w' hs (by omega)
      clear hE hlab h91 hg0 hl
      go_enter Tryd.func38, Tryd.ntmps38
      go_wp2_with fail
      (try rw [hc])
      go_wp2_with fail
      go_loopw [6, 7, 8] (fun v6 v7 _ wr => RlW s E w v6 v7 wr) (fun _ v7 _ _ => s.size - (intOf v7).toNat)
      case atStart => exact H0.out
      case round =>
        obtain ⟨k, f, rfl, rfl, hk1, hk, hf, hu, hwr⟩ := hrel
        have hwr2 := hwr.symm
        subst hwr2
        clear hwr H0
        have HU := Lib.hid hu
        have hk1i : (1 : Int) ≤ (k : Int) := by omega
        obtain ⟨sm, hsm⟩ : ∃ sm, someAt s.data.toList k = sm := ⟨_, rfl⟩
        rw [hsm]
        have HSM := Lib.hid hsm
        clear hu hsm
        by_cases hlt : k < s.size
        · have hki : (k : Int) < (s.size : Int) := by omega
          have hki2 : ¬ (s.size : Int) ≤ (k : Int) := by omega
          obtain ⟨f, rfl⟩ : ∃ f', f = f' + 1 := ⟨f - 1, by omega⟩
          have hu := HU.out
          rw [upF, get_list s k hlt] at hu
          simp only at hu
          have hst := stepL_in s.data.toList k
          have hsl := stepL_le s.data.toList k (by simpa using hlt)
          have hsl2 : s.data.toList.length = s.size := Array.length_toList
          have hpd := step_pair s.data.toList k
          rw [get_list s k hlt] at hpd
          have hnx := some_next s k hlt hk1
          have HPk := Lib.hid (HP.out k (by omega))
          obtain ⟨b, hb⟩ : ∃ b, s[k] = b := ⟨_, rfl⟩
          obtain ⟨n, hn⟩ : ∃ n, stepL s.data.toList k = n := ⟨_, rfl⟩
          rw [hb, hn] at hu hpd
          rw [hb, HSM.out] at hnx
          rw [hn] at HPk hst hsl
          have hsl3 : k + n ≤ s.size := by omega
          have HWb := Lib.hid fun w' => white_any b w'
          by_cases h93 : b = 93
          · have i93 : ((b.toNat : Int) != 93) = false := by rw [show ((b.toNat : Int) != 93) = (b != 93) from bnec b 93, h93]; rfl
            have hn1 : n = 1 := by
              have : ¬ n = 2 := fun h => by have := (hpd.1 h).1; rw [h93] at this; cases this
              omega
            rw [hn1, if_pos rfl, if_pos (by rw [h93]; rfl)] at hu
            have hlab := HLab.out
            rw [← hu] at hlab
            simp only [Bool.true_and] at hlab
            rw [HSM.out] at hlab
            have hnf : someAt s.data.toList k = sm := HSM.out
            clear hu hpd hnx HU hnf
            cases sm with
            | false =>
              simp only [Bool.false_and, Bool.false_eq_true, if_false] at hlab
              have HV := Lib.hid (show labelS s 0 = ⟨#[]⟩ ∧ labelE s.data.toList 0 = 0 by unfold labelS labelE; rw [hlab]; exact ⟨rfl, rfl⟩)
              clear hlab h93
              go_wp2_with fail
              (try rw [hb])
              go_wp2
              go_ret2
              rw [HV.out.1, HV.out.2]
              exact ⟨rfl, rfl⟩
            | true =>
              simp only [Bool.true_and] at hlab
              by_cases h999 : k - 1 ≤ 999
              · rw [decide_eq_true h999, if_pos rfl] at hlab
                have HV := Lib.hid (show labelS s 0 = s.extract 1 k ∧ labelE s.data.toList 0 = k + 1 by unfold labelS labelE; rw [hlab]; exact ⟨rfl, rfl⟩)
                have i999 : ¬ (999 : Int) < (k : Int) - 0 - 1 := by omega
                have i999b : ¬ (999 : Int) < (k : Int) - 1 := by omega
                clear hlab h93
                go_wp2_with fail
                (try rw [hb])
                go_wp2
                go_ret2
                rw [HV.out.1, HV.out.2]
                exact ⟨rfl, rfl⟩
              · rw [decide_eq_false h999, if_neg Bool.false_ne_true] at hlab
                have HV := Lib.hid (show labelS s 0 = ⟨#[]⟩ ∧ labelE s.data.toList 0 = 0 by unfold labelS labelE; rw [hlab]; exact ⟨rfl, rfl⟩)
                have i999 : (999 : Int) < (k : Int) - 0 - 1 := by omega
                have i999b : (999 : Int) < (k : Int) - 1 := by omega
                clear hlab h93
                go_wp2_with fail
                (try rw [hb])
                go_wp2
                go_ret2
                rw [HV.out.1, HV.out.2]
                exact ⟨rfl, rfl⟩
          · have i93 : ((b.toNat : Int) != 93) = true := by rw [show ((b.toNat : Int) != 93) = (b != 93) from bnec b 93]; simpa using h93
            have hn12 : n = 1 ∨ n = 2 := by omega
            rcases hn12 with rfl | rfl
            · rw [if_pos rfl, if_neg (by simpa using h93)] at hu
              by_cases h91 : b = 91
              · have i91 : ((b.toNat : Int) == 91) = true := by rw [h91]; rfl
                rw [if_neg (by rw [h91]; decide)] at hu
                have hlab := HLab.out
                rw [← hu] at hlab
                have HV := Lib.hid (show labelS s 0 = ⟨#[]⟩ ∧ labelE s.data.toList 0 = 0 by unfold labelS labelE; rw [hlab]; exact ⟨rfl, rfl⟩)
                clear hu hpd hnx HU hlab h91 h93
                go_wp2_with fail
                (try rw [hb])
                go_wp2_with fail
                refine Calls.mono (HPk.out _) ?_
                rintro e w' ⟨rfl, rfl⟩
                go_wp2_with fail
                (try rw [hb])
                go_wp2
                go_ret2
                rw [HV.out.1, HV.out.2]
                exact ⟨rfl, rfl⟩
              · have i91 : ((b.toNat : Int) == 91) = false := by rw [show ((b.toNat : Int) == 91) = (b == 91) from beqc b 91]; exact beq_no h91
                rw [if_pos (by unfold noBr; rw [bne_iff_ne]; exact h91)] at hu
                obtain ⟨x, hx⟩ : ∃ x, ws3 b = x := ⟨_, rfl⟩
                rw [hx] at HWb hnx
                have HN := Lib.hid hnx
                have HU2 := Lib.hid hu
                clear hu hpd hnx HU h91 h93 hx
                cases sm
                · go_wp2_with fail
                  (try rw [hb])
                  go_wp2_with fail
                  refine Calls.mono (HPk.out _) ?_
                  rintro e w' ⟨rfl, rfl⟩
                  go_wp2_with fail
                  (try rw [hb])
                  go_wp2_with fail
                  (try rw [hb])
                  go_wp2_with fail
                  refine Calls.mono (HWb.out _) ?_
                  rintro e w' ⟨rfl, rfl⟩
                  go_wp2_with fail
                  go_roundw
                  case rel => exact ⟨k + 1, f, by rw [HN.out]; simp, rfl, by omega, by omega, by omega, HU2.out, by first | rfl | trivial⟩
                  case measure => simp [intOf]; omega
                · go_wp2_with fail
                  (try rw [hb])
                  go_wp2_with fail
                  refine Calls.mono (HPk.out _) ?_
                  rintro e w' ⟨rfl, rfl⟩
                  go_wp2_with fail
                  (try rw [hb])
                  go_wp2_with fail
                  go_roundw
                  case rel => exact ⟨k + 1, f, by rw [HN.out]; simp, rfl, by omega, by omega, by omega, HU2.out, by first | rfl | trivial⟩
                  case measure => simp [intOf]; omega
            · rw [if_neg (by omega)] at hu
              obtain ⟨hb92, d, hd, hsd⟩ := hpd.1 rfl
              have hb92' : b = 92 := Option.some.inj hb92
              have i91 : ((b.toNat : Int) == 91) = false := by rw [hb92']; rfl
              have hwb : ws3 b = false := by rw [hb92']; rfl
              rw [hwb] at HWb hnx
              have hk1s : k + 1 < s.size := by omega
              have hnx2 := some_next s (k + 1) hk1s (by omega)
              rw [hnx] at hnx2
              have HN := Lib.hid (show someAt s.data.toList (k + 2) = true by rw [hnx2]; simp)
              have HU2 := Lib.hid hu
              clear hu hpd hnx hnx2 HU h93 hb92 hb92' hd hsd hwb
              cases sm
              · go_wp2_with fail
                (try rw [hb])
                go_wp2_with fail
                refine Calls.mono (HPk.out _) ?_
                rintro e w' ⟨rfl, rfl⟩
                go_wp2_with fail
                (try rw [hb])
                go_wp2_with fail
                (try rw [hb])
                go_wp2_with fail
                refine Calls.mono (HWb.out _) ?_
                rintro e w' ⟨rfl, rfl⟩
                go_wp2_with fail
                go_roundw
                case rel => exact ⟨k + 2, f, by rw [HN.out], rfl, by omega, by omega, by omega, HU2.out, by first | rfl | trivial⟩
                case measure => simp [intOf]; omega
              · go_wp2_with fail
                (try rw [hb])
                go_wp2_with fail
                refine Calls.mono (HPk.out _) ?_
                rintro e w' ⟨rfl, rfl⟩
                go_wp2_with fail
                (try rw [hb])
                go_wp2_with fail
                go_roundw
                case rel => exact ⟨k + 2, f, by rw [HN.out], rfl, by omega, by omega, by omega, HU2.out, by first | rfl | trivial⟩
                case measure => simp [intOf]; omega
        · have hk2 : k = s.size := by omega
          have hu := HU.out
          have hEk : E = (k, false) := by
            rw [← hu, hk2]
            cases f with
            | zero => rfl
            | succ f => rw [upF, get_none s s.size (Nat.lt_irrefl _)]
          have hlab := HLab.out
          rw [hEk] at hlab
          have HV := Lib.hid (show labelS s 0 = ⟨#[]⟩ ∧ labelE s.data.toList 0 = 0 by unfold labelS labelE; rw [hlab]; exact ⟨rfl, rfl⟩)
          have hki2 : (s.size : Int) ≤ (k : Int) := by omega
          clear hu hEk hlab hk2 HU
          go_wp2
          go_ret2
          rw [HV.out.1, HV.out.2]
          exact ⟨rfl, rfl⟩
    · have i91 : ((c.toNat : Int) != 91) = true := by rw [show ((c.toNat : Int) != 91) = (c != 91) from bnec c 91]; simpa using h91
      have hn : labelN s.data.toList 0 = none := by unfold labelN; rw [hg0, if_neg (by simpa using h91)]
      have h1 : labelS s 0 = ⟨#[]⟩ := by unfold labelS; rw [hn]
      have h2 : labelE s.data.toList 0 = 0 := by unfold labelE; rw [hn]
      rw [h1, h2]
      clear h1 h2 hn hg0 h91 hl
      go_enter Tryd.func38, Tryd.ntmps38
      go_wp2_with fail
      (try rw [hc])
      go_wp2
      go_ret2
      exact ⟨rfl, rfl⟩
  · have hi0 : (s.size : Int) ≤ 0 := by omega
    have hz0 : s.size = 0 := by omega
    have hn : labelN s.data.toList 0 = none := by unfold labelN; rw [get_none s 0 h0, if_neg (by decide)]
    have h1 : labelS s 0 = ⟨#[]⟩ := by unfold labelS; rw [hn]
    have h2 : labelE s.data.toList 0 = 0 := by unfold labelE; rw [hn]
    rw [h1, h2]
    clear h1 h2 hn hl hi0
    go_enter Tryd.func38, Tryd.ntmps38
    go_wp2
    go_ret2
    exact ⟨rfl, rfl⟩
end Go.Proofs.YtbcfhpomclkccaaDoor
