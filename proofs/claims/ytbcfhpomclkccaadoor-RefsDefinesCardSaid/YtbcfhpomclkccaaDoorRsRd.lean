/- The reference's Dest. -/
import Derived.Test.YtbcfhpomclkccaaDoorRsRu
import Derived.Test.YtbcfhpomclkccaaDoorRsDstB
namespace Go.Proofs.YtbcfhpomclkccaaDoor
open Go.RowKit

def ScW (s : ByteArray) (i : Nat) (e : UInt8) (may : UInt8 → Bool) (E : Nat × Bool) (w : World) (v : Value) (wr : World) : Prop := ∃ k f : Nat, v = .int .i64 (k : Int) ∧ i + 1 ≤ k ∧ k ≤ s.size ∧ s.size ≤ k + f ∧ upF s.data.toList e may f k = E ∧ wr = w
theorem refunesc_ret (x : ByteArray) (hx : x.size ≤ 1000000000) (X : ByteArray) (hX : unescB x = X) (w : World) : Calls Tryd.prog 12 #[.string x] w fun e w' => e = .returned (.string X) ∧ Below w.heap.size w w' := by
  subst hX
  exact refunesc_any x w hx
set_option maxHeartbeats 4000000 in
set_option maxRecDepth 100000 in
theorem refdest_br (s : ByteArray) (i : Nat) (w : World) (hs : s.size ≤ 1000000000) (hil : i < s.size) (h60 : s[i] = 60) : Calls Tryd.prog 39 #[.string s, .int .i64 (i : Int)] w (SIB w (destV s i)) := by
  have hl : s.data.toList.length = s.size := Array.length_toList
  have hii : ¬ (s.size : Int) ≤ (i : Int) := by omega
  have hij : (i : Int) < (s.size : Int) := by omega
  obtain ⟨c, hc⟩ : ∃ c, s[i] = c := ⟨_, rfl⟩
  have hc60 : c = 60 := by rw [← hc]; exact h60
  have ic : ((c.toNat : Int) == 60) = true := by rw [hc60]; rfl
  obtain ⟨E, hE⟩ : ∃ E, upF s.data.toList 62 noNlLt s.size (i + 1) = E := ⟨_, rfl⟩
  have hn : destN s.data.toList i = if E.2 then some (i + 1, E.1, E.1 + 1) else none := by unfold destN; rw [get_list s i hil, h60, if_pos (by rfl), hl, hE]
  have hv : destV s i = if E.2 then (unescB (s.extract (i + 1) E.1), E.1 + 1, true) else (⟨#[]⟩, i, false) := by
    unfold destV
    rw [hn]
    cases E.2 <;> rfl
  have HV0 := Lib.hid hv
  have H0 := Lib.hid (show ScW s i 62 noNlLt E w (.int .i64 ((i : Int) + 1)) w from ⟨i + 1, s.size, rfl, Nat.le_refl _, by omega, by omega, hE, rfl⟩)
  have HP := Lib.hid fun (k : Nat) (hk : k ≤ s.size) w' => refpair_at s k w' (by omega) (by omega)
  clear hE hn hv h60 hc60 hl
  go_enter Tryd.func39, Tryd.ntmps39
  go_wp2_with fail
  (try rw [hc])
  go_wp2_with fail
  go_loopw [7, 8] (fun v7 _ wr => ScW s i 62 noNlLt E w v7 wr) (fun v7 _ _ => s.size - (intOf v7).toNat)
  case atStart => exact H0.out
  case round =>
    obtain ⟨k, f, rfl, hik, hk, hf, hu, hwr⟩ := hrel
    have hwr2 := hwr.symm
    subst hwr2
    clear hwr H0
    have HU := Lib.hid hu
    have hiki : (i : Int) + 1 ≤ (k : Int) := by omega
    clear hu
    by_cases hlt : k < s.size
    · have hki : (k : Int) < (s.size : Int) := by omega
      have hki2 : ¬ (s.size : Int) ≤ (k : Int) := by omega
      obtain ⟨f, rfl⟩ : ∃ f', f = f' + 1 := ⟨f - 1, by omega⟩
      have hu := HU.out
      rw [upF, get_list s k hlt] at hu
      simp only at hu
      have hst := stepL_in s.data.toList k
      have hsl := stepL_le s.data.toList k (by simpa using hlt)
      have hsl2 : s.data.toList.length = s.size := Array.length_toList
      have hpd := step_pair s.data.toList k
      rw [get_list s k hlt] at hpd
      have HPk := Lib.hid (HP.out k (by omega))
      obtain ⟨b, hb⟩ : ∃ b, s[k] = b := ⟨_, rfl⟩
      obtain ⟨n, hn⟩ : ∃ n, stepL s.data.toList k = n := ⟨_, rfl⟩
      rw [hb, hn] at hu hpd
      rw [hn] at HPk hst hsl
      have hsl3 : k + n ≤ s.size := by omega
      by_cases hbe : b = 62
      · have ien : ((b.toNat : Int) != 62) = false := by rw [show ((b.toNat : Int) != 62) = (b != 62) from bnec b 62, hbe]; rfl
        have hn1 : n = 1 := by
          have : ¬ n = 2 := fun h => by have := Option.some.inj (hpd.1 h).1; rw [hbe] at this; exact absurd this (by decide)
          omega
        rw [hn1, if_pos rfl, if_pos (by rw [hbe]; exact beq_self_eq_true _)] at hu
        have hv0 := HV0.out
        rw [← hu] at hv0
        simp only [if_true] at hv0
        obtain ⟨x, hxe⟩ : ∃ x : ByteArray, s.extract (i + 1) k = x := ⟨_, rfl⟩
        have hxs : x.size = k - (i + 1) := by rw [← hxe, ByteArray.size_extract]; omega
        rw [hxe] at hv0
        obtain ⟨X, hX⟩ : ∃ X, unescB x = X := ⟨_, rfl⟩
        have HUN := Lib.hid fun w' => refunesc_ret x (by omega) X hX w'
        rw [hX] at hv0
        have HV := Lib.hid hv0
        have HXE := Lib.hid hxe
        clear hu hpd HU hv0 hX hxe hxs hbe hst hsl hsl2 hsl3 hn
        go_wp2_with fail
        (try rw [hb])
        go_wp2_with fail
        (try rw [HXE.out])
        refine Calls.mono (HUN.out _) ?_
        rintro e w2 ⟨rfl, b2⟩
        go_wp2
        go_ret3
        rw [HV.out]
        exact ⟨rfl, b2⟩
      · have ien : ((b.toNat : Int) != 62) = true := by rw [show ((b.toNat : Int) != 62) = (b != 62) from bnec b 62]; simpa using hbe
        have hn12 : n = 1 ∨ n = 2 := by omega
        rcases hn12 with rfl | rfl
        · rw [if_pos rfl, if_neg (by simpa using hbe)] at hu
          by_cases hb10 : b = 10
          · rw [if_neg (by rw [hb10]; decide)] at hu
            have i10 : ((b.toNat : Int) == 10) = true := by rw [hb10]; rfl
            clear hb10
            have hv0 := HV0.out
            rw [← hu] at hv0
            simp only [Bool.false_eq_true, if_false] at hv0
            have HV := Lib.hid hv0
            clear hu hpd HU hv0 hbe
            go_wp2_with fail
            (try rw [hb])
            go_wp2_with fail
            refine Calls.mono (HPk.out _) ?_
            rintro e w' ⟨rfl, rfl⟩
            go_wp2_with fail
            (try rw [hb])
            (try rw [hc])
            go_wp2
            go_ret3
            rw [HV.out]
            exact ⟨rfl, Below.refl _ _⟩
          · have i10 : ((b.toNat : Int) == 10) = false := by rw [show ((b.toNat : Int) == 10) = (b == 10) from beqc b 10]; exact beq_no hb10
            by_cases hb60 : b = 60
            · rw [if_neg (by rw [hb60]; decide)] at hu
              have i60 : ((b.toNat : Int) == 60) = true := by rw [hb60]; rfl
              clear hb60 hb10
              have hv0 := HV0.out
              rw [← hu] at hv0
              simp only [Bool.false_eq_true, if_false] at hv0
              have HV := Lib.hid hv0
              clear hu hpd HU hv0 hbe
              go_wp2_with fail
              (try rw [hb])
              go_wp2_with fail
              refine Calls.mono (HPk.out _) ?_
              rintro e w' ⟨rfl, rfl⟩
              go_wp2_with fail
              (try rw [hb])
              (try rw [hc])
              go_wp2
              go_ret3
              rw [HV.out]
              exact ⟨rfl, Below.refl _ _⟩
            · have i60 : ((b.toNat : Int) == 60) = false := by rw [show ((b.toNat : Int) == 60) = (b == 60) from beqc b 60]; exact beq_no hb60
              rw [if_pos (by unfold noNlLt; simp [hb10, hb60])] at hu
              have HU2 := Lib.hid hu
              clear hu hpd HU hbe hb10 hb60
              go_wp2_with fail
              (try rw [hb])
              go_wp2_with fail
              refine Calls.mono (HPk.out _) ?_
              rintro e w' ⟨rfl, rfl⟩
              go_wp2_with fail
              (try rw [hb])
              (try rw [hc])
              go_wp2_with fail
              go_roundw
              case rel => exact ⟨k + 1, f, rfl, by omega, by omega, by omega, HU2.out, by first | rfl | trivial⟩
              case measure => simp [intOf]; omega
        · rw [if_neg (by omega)] at hu
          have hb92 : b = 92 := Option.some.inj (hpd.1 rfl).1
          have i10 : ((b.toNat : Int) == 10) = false := by rw [hb92]; rfl
          have i60 : ((b.toNat : Int) == 60) = false := by rw [hb92]; rfl
          have HU2 := Lib.hid hu
          clear hu hpd HU hbe hb92
          go_wp2_with fail
          (try rw [hb])
          go_wp2_with fail
          refine Calls.mono (HPk.out _) ?_
          rintro e w' ⟨rfl, rfl⟩
          go_wp2_with fail
          (try rw [hb])
          (try rw [hc])
          go_wp2_with fail
          go_roundw
          case rel => exact ⟨k + 2, f, rfl, by omega, by omega, by omega, HU2.out, by first | rfl | trivial⟩
          case measure => simp [intOf]; omega
    · have hk2 : k = s.size := by omega
      have hu := HU.out
      have hEk : E = (k, false) := by
        rw [← hu, hk2]
        cases f with
        | zero => rfl
        | succ f => rw [upF, get_none s s.size (Nat.lt_irrefl _)]
      have hv0 := HV0.out
      rw [hEk] at hv0
      simp only [Bool.false_eq_true, if_false] at hv0
      have HV := Lib.hid hv0
      have hki2 : (s.size : Int) ≤ (k : Int) := by omega
      clear hu hEk hv0 hk2 HU
      go_wp2
      go_ret3
      rw [HV.out]
      exact ⟨rfl, Below.refl _ _⟩
def RdW (s : ByteArray) (i : Nat) (X : Option (Nat × Nat)) (w : World) (v9 v10 : Value) (wr : World) : Prop :=
  ∃ k f o : Nat, v9 = .int .i64 (o : Int) ∧ v10 = .int .i64 (k : Int) ∧ k ≤ s.size ∧ s.size ≤ k + f ∧ i ≤ k ∧ o ≤ 32 ∧ bareF s.data.toList f k o = X ∧ wr = w
set_option maxHeartbeats 8000000 in
set_option maxRecDepth 100000 in
theorem refdest_bare (s : ByteArray) (i : Nat) (w : World) (hs : s.size ≤ 1000000000) (hil : i < s.size) (h60 : ¬ s[i] = 60) : Calls Tryd.prog 39 #[.string s, .int .i64 (i : Int)] w (SIB w (bareV s i (bareF s.data.toList s.size i 0))) := by
  obtain ⟨X, hX⟩ : ∃ X, bareF s.data.toList s.size i 0 = X := ⟨_, rfl⟩
  obtain ⟨V, hV⟩ : ∃ V, bareV s i X = V := ⟨_, rfl⟩
  rw [hX, hV]
  have hii : ¬ (s.size : Int) ≤ (i : Int) := by omega
  have hij : (i : Int) < (s.size : Int) := by omega
  obtain ⟨c, hc⟩ : ∃ c, s[i] = c := ⟨_, rfl⟩
  rw [hc] at h60
  have ic : ((c.toNat : Int) == 60) = false := by rw [show ((c.toNat : Int) == 60) = (c == 60) from beqc c 60]; exact beq_no h60
  have HV := Lib.hid hV
  have H0 := Lib.hid (show RdW s i X w (.int .i64 0) (.int .i64 (i : Int)) w from ⟨i, s.size, 0, rfl, rfl, by omega, by omega, Nat.le_refl _, by omega, hX, rfl⟩)
  have HP := Lib.hid fun (k : Nat) (hk : k ≤ s.size) w' => refpair_at s k w' (by omega) (by omega)
  clear hX hV h60
  go_enter Tryd.func39, Tryd.ntmps39
  go_wp2_with fail
  (try rw [hc])
  go_wp2_with fail
  go_loopw [9, 10, 11] (fun v9 v10 _ wr => RdW s i X w v9 v10 wr) (fun _ v10 _ _ => s.size - (intOf v10).toNat)
  case atStart => exact H0.out
  case round =>
    obtain ⟨k, f, o, rfl, rfl, hk, hf, hik, ho, hu, hwr⟩ := hrel
    have hwr2 := hwr.symm
    subst hwr2
    clear hwr H0
    have HU := Lib.hid hu
    have hik2 : (i : Int) ≤ (k : Int) := by omega
    clear hu
    by_cases hlt : k < s.size
    · have hki : (k : Int) < (s.size : Int) := by omega
      obtain ⟨f, rfl⟩ : ∃ f', f = f' + 1 := ⟨f - 1, by omega⟩
      have hu := HU.out
      rw [bareF, get_list s k hlt] at hu
      simp only at hu
      have hst := stepL_in s.data.toList k
      have hsl := stepL_le s.data.toList k (by simpa using hlt)
      have hsl2 : s.data.toList.length = s.size := Array.length_toList
      have hpd := step_pair s.data.toList k
      rw [get_list s k hlt] at hpd
      have HPk := Lib.hid (HP.out k (by omega))
      obtain ⟨b, hb⟩ : ∃ b, s[k] = b := ⟨_, rfl⟩
      obtain ⟨n, hn⟩ : ∃ n, stepL s.data.toList k = n := ⟨_, rfl⟩
      rw [hb, hn] at hu hpd
      rw [hn] at HPk hst hsl
      have hsl3 : k + n ≤ s.size := by omega
      have hbl := UInt8.toNat_lt b
      have hn12 : n = 1 ∨ n = 2 := by omega
      rcases hn12 with rfl | rfl
      · rw [if_neg (by decide)] at hu
        by_cases hb40 : b = 40
        · have i40 : ((b.toNat : Int) == 40) = true := by rw [hb40]; rfl
          have i32 : (32 : Int) < (b.toNat : Int) := by rw [hb40]; decide
          have i127 : ((b.toNat : Int) != 127) = true := by rw [hb40]; rfl
          by_cases ho32 : o = 32
          · have HE := Lib.hid (show none = X by rw [← hu, hb40, ho32]; rfl)
            have HVV := Lib.hid (show V = (⟨#[]⟩, i, false) by rw [← HV.out, ← HE.out]; rfl)
            have hoi : (32 : Int) < (o : Int) + 1 := by omega
            clear hu hpd HU hb40 ho32
            go_wp2_with fail
            (try rw [hb])
            go_wp2_with fail
            refine Calls.mono (HPk.out _) ?_
            rintro e w' ⟨rfl, rfl⟩
            go_wp2_with fail
            (try rw [hb])
            go_wp2_with fail
            go_wp2
            go_ret3
            rw [HVV.out]
            exact ⟨rfl, Below.refl _ _⟩
          · have HU2 := Lib.hid (show bareF s.data.toList f (k + 1) (o + 1) = X by rw [← hu, hb40]; simp [ho32])
            have hoi : ¬ (32 : Int) < (o : Int) + 1 := by omega
            have i41 : ((b.toNat : Int) == 41) = false := by rw [hb40]; rfl
            clear hu hpd HU hb40
            go_wp2_with fail
            (try rw [hb])
            go_wp2_with fail
            refine Calls.mono (HPk.out _) ?_
            rintro e w' ⟨rfl, rfl⟩
            go_wp2_with fail
            (try rw [hb])
            go_wp2_with fail
            go_roundw
            case rel => exact ⟨k + 1, f, o + 1, by simp; try omega, rfl, by omega, by omega, by omega, by omega, HU2.out, by first | rfl | trivial⟩
            case measure => simp [intOf]; omega
        · have i40 : ((b.toNat : Int) == 40) = false := by rw [show ((b.toNat : Int) == 40) = (b == 40) from beqc b 40]; exact beq_no hb40
          by_cases hb41 : b = 41
          · have i41 : ((b.toNat : Int) == 41) = true := by rw [hb41]; rfl
            have i32 : (32 : Int) < (b.toNat : Int) := by rw [hb41]; decide
            have i127 : ((b.toNat : Int) != 127) = true := by rw [hb41]; rfl
            by_cases ho0 : o = 0
            · have HE := Lib.hid (show some (k, o) = X by rw [← hu, hb41, ho0]; rfl)
              have hoi : ((o : Int) == 0) = true := by rw [ho0]; rfl
              have hnp : ¬ (0 : Int) < (o : Int) := by omega
              clear hu hpd HU hb40 hb41
              subst ho0
              by_cases hki2 : k = i
              · have HVV := Lib.hid (show V = (⟨#[]⟩, i, false) by rw [← HV.out, ← HE.out]; unfold bareV; exact if_pos (.inl hki2))
                have hkb : ((k : Int) == (i : Int)) = true := by rw [hki2]; exact beq_self_eq_true _
                clear hki2
                go_wp2_with fail
                (try rw [hb])
                go_wp2_with fail
                refine Calls.mono (HPk.out _) ?_
                rintro e w' ⟨rfl, rfl⟩
                go_wp2_with fail
                (try rw [hb])
                go_wp2_with fail
                go_wp2
                go_ret3
                rw [HVV.out]
                exact ⟨rfl, Below.refl _ _⟩
              · have hv : V = (unescB (s.extract i k), k, true) := by rw [← HV.out, ← HE.out]; unfold bareV; exact if_neg (fun h => h.elim hki2 (fun h => absurd h (Nat.lt_irrefl _)))
                have hkb : ((k : Int) == (i : Int)) = false := by rw [beq_eq_false_iff_ne]; omega
                obtain ⟨x, hxe⟩ : ∃ x : ByteArray, s.extract i k = x := ⟨_, rfl⟩
                have hxs : x.size = k - i := by rw [← hxe, ByteArray.size_extract]; omega
                rw [hxe] at hv
                obtain ⟨Y, hY⟩ : ∃ Y, unescB x = Y := ⟨_, rfl⟩
                have HUN := Lib.hid fun w' => refunesc_ret x (by omega) Y hY w'
                rw [hY] at hv
                have HVV := Lib.hid hv
                have HXE := Lib.hid hxe
                have hkz : (k : Int) ≤ (s.size : Int) := by omega
                clear hv hY hxs hxe
                go_wp2_with fail
                (try rw [hb])
                go_wp2_with fail
                refine Calls.mono (HPk.out _) ?_
                rintro e w' ⟨rfl, rfl⟩
                go_wp2_with fail
                (try rw [hb])
                go_wp2_with fail
                go_wp2_with fail
                (try rw [HXE.out])
                refine Calls.mono (HUN.out _) ?_
                rintro e w3 ⟨rfl, b3⟩
                go_wp2
                go_ret3
                rw [HVV.out]
                exact ⟨rfl, b3⟩
            · have HU2 := Lib.hid (show bareF s.data.toList f (k + 1) (o - 1) = X by rw [← hu, hb41]; simp [show 0 < o by omega])
              have hoi : ((o : Int) == 0) = false := by rw [beq_eq_false_iff_ne]; omega
              have ho1 : ((o - 1 : Nat) : Int) = (o : Int) - 1 := by omega
              have HO1 := Lib.hid ho1
              have ho0i : (0 : Int) < (o : Int) := by omega
              clear hu hpd HU hb40 hb41 ho1
              go_wp2_with fail
              (try rw [hb])
              go_wp2_with fail
              refine Calls.mono (HPk.out _) ?_
              rintro e w' ⟨rfl, rfl⟩
              go_wp2_with fail
              (try rw [hb])
              go_wp2_with fail
              go_roundw
              case rel => exact ⟨k + 1, f, o - 1, by rw [HO1.out], rfl, by omega, by omega, by omega, by omega, HU2.out, by first | rfl | trivial⟩
              case measure => simp [intOf]; omega
          · have i41 : ((b.toNat : Int) == 41) = false := by rw [show ((b.toNat : Int) == 41) = (b == 41) from beqc b 41]; exact beq_no hb41
            by_cases h32 : b.toNat ≤ 32
            · have HE := Lib.hid (show some (k, o) = X by rw [← hu]; simp [hb40, hb41, h32])
              have i32 : ¬ (32 : Int) < (b.toNat : Int) := by omega
              clear hu hpd HU hb40 hb41 h32
              by_cases hX0 : k = i ∨ 0 < o
              · have HVV := Lib.hid (show V = (⟨#[]⟩, i, false) by rw [← HV.out, ← HE.out]; unfold bareV; exact if_pos hX0)
                by_cases hki2 : k = i
                · have hkb : ((k : Int) == (i : Int)) = true := by rw [hki2]; exact beq_self_eq_true _
                  clear hX0 hki2
                  go_wp2_with fail
                  (try rw [hb])
                  go_wp2_with fail
                  go_wp2
                  go_ret3
                  rw [HVV.out]
                  exact ⟨rfl, Below.refl _ _⟩
                · have ho2 : (0 : Int) < (o : Int) := by omega
                  have hkb : ((k : Int) == (i : Int)) = false := by rw [beq_eq_false_iff_ne]; omega
                  clear hX0
                  go_wp2_with fail
                  (try rw [hb])
                  go_wp2_with fail
                  go_wp2
                  go_ret3
                  rw [HVV.out]
                  exact ⟨rfl, Below.refl _ _⟩
              · have hv : V = (unescB (s.extract i k), k, true) := by rw [← HV.out, ← HE.out]; unfold bareV; exact if_neg hX0
                have hkb : ((k : Int) == (i : Int)) = false := by rw [beq_eq_false_iff_ne]; omega
                obtain rfl : o = 0 := by omega
                obtain ⟨x, hxe⟩ : ∃ x : ByteArray, s.extract i k = x := ⟨_, rfl⟩
                have hxs : x.size = k - i := by rw [← hxe, ByteArray.size_extract]; omega
                rw [hxe] at hv
                obtain ⟨Y, hY⟩ : ∃ Y, unescB x = Y := ⟨_, rfl⟩
                have HUN := Lib.hid fun w' => refunesc_ret x (by omega) Y hY w'
                rw [hY] at hv
                have HVV := Lib.hid hv
                have HXE := Lib.hid hxe
                have hkz : (k : Int) ≤ (s.size : Int) := by omega
                clear hv hY hxs hxe hX0
                go_wp2_with fail
                (try rw [hb])
                go_wp2_with fail
                go_wp2_with fail
                (try rw [HXE.out])
                refine Calls.mono (HUN.out _) ?_
                rintro e w3 ⟨rfl, b3⟩
                go_wp2
                go_ret3
                rw [HVV.out]
                exact ⟨rfl, b3⟩
            · have i32 : (32 : Int) < (b.toNat : Int) := by omega
              by_cases h127 : b = 127
              · have HE := Lib.hid (show some (k, o) = X by rw [← hu]; simp [h127])
                have i127 : ((b.toNat : Int) != 127) = false := by rw [h127]; rfl
                clear hu hpd HU hb40 hb41 h32 h127
                by_cases hX0 : k = i ∨ 0 < o
                · have HVV := Lib.hid (show V = (⟨#[]⟩, i, false) by rw [← HV.out, ← HE.out]; unfold bareV; exact if_pos hX0)
                  by_cases hki2 : k = i
                  · have hkb : ((k : Int) == (i : Int)) = true := by rw [hki2]; exact beq_self_eq_true _
                    clear hX0 hki2
                    go_wp2_with fail
                    (try rw [hb])
                    go_wp2_with fail
                    go_wp2
                    go_ret3
                    rw [HVV.out]
                    exact ⟨rfl, Below.refl _ _⟩
                  · have ho2 : (0 : Int) < (o : Int) := by omega
                    have hkb : ((k : Int) == (i : Int)) = false := by rw [beq_eq_false_iff_ne]; omega
                    clear hX0
                    go_wp2_with fail
                    (try rw [hb])
                    go_wp2_with fail
                    go_wp2
                    go_ret3
                    rw [HVV.out]
                    exact ⟨rfl, Below.refl _ _⟩
                · have hv : V = (unescB (s.extract i k), k, true) := by rw [← HV.out, ← HE.out]; unfold bareV; exact if_neg hX0
                  have hkb : ((k : Int) == (i : Int)) = false := by rw [beq_eq_false_iff_ne]; omega
                  obtain rfl : o = 0 := by omega
                  obtain ⟨x, hxe⟩ : ∃ x : ByteArray, s.extract i k = x := ⟨_, rfl⟩
                  have hxs : x.size = k - i := by rw [← hxe, ByteArray.size_extract]; omega
                  rw [hxe] at hv
                  obtain ⟨Y, hY⟩ : ∃ Y, unescB x = Y := ⟨_, rfl⟩
                  have HUN := Lib.hid fun w' => refunesc_ret x (by omega) Y hY w'
                  rw [hY] at hv
                  have HVV := Lib.hid hv
                  have HXE := Lib.hid hxe
                  have hkz : (k : Int) ≤ (s.size : Int) := by omega
                  clear hv hY hxs hxe hX0
                  go_wp2_with fail
                  (try rw [hb])
                  go_wp2_with fail
                  go_wp2_with fail
                  (try rw [HXE.out])
                  refine Calls.mono (HUN.out _) ?_
                  rintro e w3 ⟨rfl, b3⟩
                  go_wp2
                  go_ret3
                  rw [HVV.out]
                  exact ⟨rfl, b3⟩
              · have HU2 := Lib.hid (show bareF s.data.toList f (k + 1) o = X by rw [← hu]; simp [hb40, hb41, h32, h127])
                have i127 : ((b.toNat : Int) != 127) = true := by rw [show ((b.toNat : Int) != 127) = (b != 127) from bnec b 127]; simpa using h127
                clear hu hpd HU hb40 hb41 h32 h127
                go_wp2_with fail
                (try rw [hb])
                go_wp2_with fail
                refine Calls.mono (HPk.out _) ?_
                rintro e w' ⟨rfl, rfl⟩
                go_wp2_with fail
                (try rw [hb])
                go_wp2_with fail
                go_roundw
                case rel => exact ⟨k + 1, f, o, by simp; try omega, rfl, by omega, by omega, by omega, by omega, HU2.out, by first | rfl | trivial⟩
                case measure => simp [intOf]; omega
      · rw [if_pos rfl] at hu
        have hb92 : b = 92 := Option.some.inj (hpd.1 rfl).1
        have i32 : (32 : Int) < (b.toNat : Int) := by rw [hb92]; decide
        have i127 : ((b.toNat : Int) != 127) = true := by rw [hb92]; rfl
        have HU2 := Lib.hid hu
        clear hu hpd HU hb92
        go_wp2_with fail
        (try rw [hb])
        go_wp2_with fail
        refine Calls.mono (HPk.out _) ?_
        rintro e w' ⟨rfl, rfl⟩
        go_wp2_with fail
        (try rw [hb])
        go_wp2_with fail
        go_roundw
        case rel => exact ⟨k + 2, f, o, by simp; try omega, rfl, by omega, by omega, by omega, by omega, HU2.out, by first | rfl | trivial⟩
        case measure => simp [intOf]; omega
    · have hk2 : k = s.size := by omega
      have hu := HU.out
      have HE := Lib.hid (show some (k, o) = X by
        rw [← hu, hk2]
        cases f with
        | zero => rfl
        | succ f => rw [bareF, get_none s s.size (Nat.lt_irrefl _)])
      clear hk2 hu HU
      by_cases hX0 : k = i ∨ 0 < o
      · have HVV := Lib.hid (show V = (⟨#[]⟩, i, false) by rw [← HV.out, ← HE.out]; unfold bareV; exact if_pos hX0)
        by_cases hki2 : k = i
        · have hkb : ((k : Int) == (i : Int)) = true := by rw [hki2]; exact beq_self_eq_true _
          clear hX0 hki2
          go_wp2
          go_ret3
          rw [HVV.out]
          exact ⟨rfl, Below.refl _ _⟩
        · have ho2 : (0 : Int) < (o : Int) := by omega
          have hkb : ((k : Int) == (i : Int)) = false := by rw [beq_eq_false_iff_ne]; omega
          clear hX0
          go_wp2
          go_ret3
          rw [HVV.out]
          exact ⟨rfl, Below.refl _ _⟩
      · have hv : V = (unescB (s.extract i k), k, true) := by rw [← HV.out, ← HE.out]; unfold bareV; exact if_neg hX0
        have hkb : ((k : Int) == (i : Int)) = false := by rw [beq_eq_false_iff_ne]; omega
        obtain rfl : o = 0 := by omega
        obtain ⟨x, hxe⟩ : ∃ x : ByteArray, s.extract i k = x := ⟨_, rfl⟩
        have hxs : x.size = k - i := by rw [← hxe, ByteArray.size_extract]; omega
        rw [hxe] at hv
        obtain ⟨Y, hY⟩ : ∃ Y, unescB x = Y := ⟨_, rfl⟩
        have HUN := Lib.hid fun w' => refunesc_ret x (by omega) Y hY w'
        rw [hY] at hv
        have HVV := Lib.hid hv
        have HXE := Lib.hid hxe
        have hkz : (k : Int) ≤ (s.size : Int) := by omega
        clear hv hY hxs hxe hX0
        go_wp2_with fail
        (try rw [HXE.out])
        refine Calls.mono (HUN.out _) ?_
        rintro e w3 ⟨rfl, b3⟩
        go_wp2
        go_ret3
        rw [HVV.out]
        exact ⟨rfl, b3⟩
theorem refdest_any (s : ByteArray) (i : Nat) (w : World) (hs : s.size ≤ 1000000000) (hi : i ≤ s.size) : Calls Tryd.prog 39 #[.string s, .int .i64 (i : Int)] w (SIB w (destV s i)) := by
  by_cases h : i < s.size
  · by_cases h60 : s[i] = 60
    · exact refdest_br s i w hs h h60
    · rw [bareV_eq s i (by rw [get_list s i h]; simpa using h60)]
      exact refdest_bare s i w hs h h60
  · have hg : s.data.toList[i]? = none := get_none s i h
    have hv : destV s i = (⟨#[]⟩, i, false) := by
      unfold destV destN
      rw [hg, if_neg (by decide)]
      have : bareF s.data.toList s.data.toList.length i 0 = some (i, 0) := by
        cases s.data.toList.length with
        | zero => rfl
        | succ f => rw [bareF, hg]
      rw [this]
      simp
    rw [hv]
    have hii : (s.size : Int) ≤ (i : Int) := by omega
    clear hv hg
    go_enter Tryd.func39, Tryd.ntmps39
    go_wp2
    go_ret3
    exact ⟨rfl, Below.refl _ _⟩
end Go.Proofs.YtbcfhpomclkccaaDoor
