/- The reference's Title. -/
import Derived.Test.YtbcfhpomclkccaaDoorRsRd
import Derived.Test.YtbcfhpomclkccaaDoorRsTi
namespace Go.Proofs.YtbcfhpomclkccaaDoor
open Go.RowKit

set_option maxHeartbeats 4000000 in
set_option maxRecDepth 100000 in
theorem reftitle_34 (s : ByteArray) (i : Nat) (w : World) (hs : s.size ≤ 1000000000) (hil : i < s.size) (c : UInt8) (hc : s[i] = c) (hcc : c = 34) : Calls Tryd.prog 41 #[.string s, .int .i64 (i : Int)] w (SIB w (titleV s i)) := by
  have hl : s.data.toList.length = s.size := Array.length_toList
  have hii : ¬ (s.size : Int) ≤ (i : Int) := by omega
  have hij : (i : Int) < (s.size : Int) := by omega
  have j34 : ((c.toNat : Int) != 34) = false := by rw [show ((c.toNat : Int) != 34) = (c != 34) from bnec c 34, hcc]; rfl
  have j39 : ((c.toNat : Int) != 39) = true := by rw [show ((c.toNat : Int) != 39) = (c != 39) from bnec c 39]; simpa using (show ¬ c = 39 by rw [hcc]; decide)
  have j40 : ((c.toNat : Int) != 40) = true := by rw [show ((c.toNat : Int) != 40) = (c != 40) from bnec c 40]; simpa using (show ¬ c = 40 by rw [hcc]; decide)
  have k40 : ((c.toNat : Int) == 40) = false := by rw [hcc]; rfl
  have hen92 : ¬ (c : UInt8) = 92 := by rw [hcc]; decide
  obtain ⟨E, hE⟩ : ∃ E, upF s.data.toList c (mayT c) s.size (i + 1) = E := ⟨_, rfl⟩
  have hn : titleN s.data.toList i = if E.2 then some (i + 1, E.1, E.1 + 1) else none := by
    unfold titleN
    rw [get_list s i hil, hc]
    simp only
    rw [if_neg (by rw [hcc]; decide), show endU c = c by rw [hcc]; rfl, hl, hE]
  have hv : titleV s i = if E.2 then (unescB (s.extract (i + 1) E.1), E.1 + 1, true) else (⟨#[]⟩, i, false) := by
    unfold titleV
    rw [hn]
    cases E.2 <;> rfl
  have HV0 := Lib.hid hv
  have H0 := Lib.hid (show ScW s i c (mayT c) E w (.int .i64 ((i : Int) + 1)) w from ⟨i + 1, s.size, rfl, Nat.le_refl _, by omega, by omega, hE, rfl⟩)
  have HP := Lib.hid fun (k : Nat) (hk : k ≤ s.size) w' => refpair_at s k w' (by omega) (by omega)
  have HCC := Lib.hid hcc
  clear hE hn hv hl hcc
  go_enter Tryd.func41, Tryd.ntmps41
  go_wp2_with fail
  (try rw [hc])
  go_wp2_with fail
  (try rw [hc])
  go_wp2_with fail
  go_loopw [8, 9] (fun v8 _ wr => ScW s i c (mayT c) E w v8 wr) (fun v8 _ _ => s.size - (intOf v8).toNat)
  case atStart => exact H0.out
  case round =>
    obtain ⟨k, f, rfl, hik, hk, hf, hu, hwr⟩ := hrel
    have hwr2 := hwr.symm
    subst hwr2
    clear hwr H0
    have HU := Lib.hid hu
    have hiki : (i : Int) + 1 ≤ (k : Int) := by omega
    clear hu
    by_cases hlt : k < s.size
    · have hki : (k : Int) < (s.size : Int) := by omega
      have hki2 : ¬ (s.size : Int) ≤ (k : Int) := by omega
      obtain ⟨f, rfl⟩ : ∃ f', f = f' + 1 := ⟨f - 1, by omega⟩
      have hu := HU.out
      rw [upF, get_list s k hlt] at hu
      simp only at hu
      have hst := stepL_in s.data.toList k
      have hsl := stepL_le s.data.toList k (by simpa using hlt)
      have hsl2 : s.data.toList.length = s.size := Array.length_toList
      have hpd := step_pair s.data.toList k
      rw [get_list s k hlt] at hpd
      have HPk := Lib.hid (HP.out k (by omega))
      obtain ⟨b, hb⟩ : ∃ b, s[k] = b := ⟨_, rfl⟩
      obtain ⟨n, hn⟩ : ∃ n, stepL s.data.toList k = n := ⟨_, rfl⟩
      rw [hb, hn] at hu hpd
      rw [hn] at HPk hst hsl
      have hsl3 : k + n ≤ s.size := by omega
      by_cases hbe : b = c
      · have ien : ((b.toNat : Int) != (c.toNat : Int)) = false := by rw [bnec b c, hbe]; simp
        have hn1 : n = 1 := by
          have : ¬ n = 2 := fun h => by have := Option.some.inj (hpd.1 h).1; rw [hbe] at this; exact absurd this hen92
          omega
        rw [hn1, if_pos rfl, if_pos (by rw [hbe]; exact beq_self_eq_true _)] at hu
        have hv0 := HV0.out
        rw [← hu] at hv0
        simp only [if_true] at hv0
        obtain ⟨x, hxe⟩ : ∃ x : ByteArray, s.extract (i + 1) k = x := ⟨_, rfl⟩
        have hxs : x.size = k - (i + 1) := by rw [← hxe, ByteArray.size_extract]; omega
        rw [hxe] at hv0
        obtain ⟨X, hX⟩ : ∃ X, unescB x = X := ⟨_, rfl⟩
        have HUN := Lib.hid fun w' => refunesc_ret x (by omega) X hX w'
        rw [hX] at hv0
        have HV := Lib.hid hv0
        have HXE := Lib.hid hxe
        clear hu hpd HU hv0 hX hxe hxs hbe hst hsl hsl2 hsl3 hn
        go_wp2_with fail
        (try rw [hb])
        go_wp2_with fail
        (try rw [HXE.out])
        refine Calls.mono (HUN.out _) ?_
        rintro e w2 ⟨rfl, b2⟩
        go_wp2
        go_ret3
        rw [HV.out]
        exact ⟨rfl, b2⟩
      · have ien : ((b.toNat : Int) != (c.toNat : Int)) = true := by rw [bnec b c]; simpa using hbe
        have hn12 : n = 1 ∨ n = 2 := by omega
        rcases hn12 with rfl | rfl
        · rw [if_pos rfl, if_neg (by simpa using hbe)] at hu
          rw [if_pos (by unfold mayT; rw [HCC.out]; rfl)] at hu
          have HU2 := Lib.hid hu
          clear hu hpd HU hbe
          go_wp2_with fail
          (try rw [hb])
          go_wp2_with fail
          refine Calls.mono (HPk.out _) ?_
          rintro e w' ⟨rfl, rfl⟩
          go_wp2_with fail
          (try rw [hb])
          (try rw [hc])
          go_wp2_with fail
          go_roundw
          case rel => exact ⟨k + 1, f, rfl, by omega, by omega, by omega, HU2.out, by first | rfl | trivial⟩
          case measure => simp [intOf]; omega
        · rw [if_neg (by omega)] at hu
          have hb92 : b = 92 := Option.some.inj (hpd.1 rfl).1
          have HU2 := Lib.hid hu
          clear hu hpd HU hbe hb92
          go_wp2_with fail
          (try rw [hb])
          go_wp2_with fail
          refine Calls.mono (HPk.out _) ?_
          rintro e w' ⟨rfl, rfl⟩
          go_wp2_with fail
          (try rw [hb])
          (try rw [hc])
          go_wp2_with fail
          go_roundw
          case rel => exact ⟨k + 2, f, rfl, by omega, by omega, by omega, HU2.out, by first | rfl | trivial⟩
          case measure => simp [intOf]; omega
    · have hk2 : k = s.size := by omega
      have hu := HU.out
      have hEk : E = (k, false) := by
        rw [← hu, hk2]
        cases f with
        | zero => rfl
        | succ f => rw [upF, get_none s s.size (Nat.lt_irrefl _)]
      have hv0 := HV0.out
      rw [hEk] at hv0
      simp only [Bool.false_eq_true, if_false] at hv0
      have HV := Lib.hid hv0
      have hki2 : (s.size : Int) ≤ (k : Int) := by omega
      clear hu hEk hv0 hk2 HU
      go_wp2
      go_ret3
      rw [HV.out]
      exact ⟨rfl, Below.refl _ _⟩
set_option maxHeartbeats 4000000 in
set_option maxRecDepth 100000 in
theorem reftitle_39 (s : ByteArray) (i : Nat) (w : World) (hs : s.size ≤ 1000000000) (hil : i < s.size) (c : UInt8) (hc : s[i] = c) (hcc : c = 39) : Calls Tryd.prog 41 #[.string s, .int .i64 (i : Int)] w (SIB w (titleV s i)) := by
  have hl : s.data.toList.length = s.size := Array.length_toList
  have hii : ¬ (s.size : Int) ≤ (i : Int) := by omega
  have hij : (i : Int) < (s.size : Int) := by omega
  have j34 : ((c.toNat : Int) != 34) = true := by rw [show ((c.toNat : Int) != 34) = (c != 34) from bnec c 34]; simpa using (show ¬ c = 34 by rw [hcc]; decide)
  have j39 : ((c.toNat : Int) != 39) = false := by rw [show ((c.toNat : Int) != 39) = (c != 39) from bnec c 39, hcc]; rfl
  have j40 : ((c.toNat : Int) != 40) = true := by rw [show ((c.toNat : Int) != 40) = (c != 40) from bnec c 40]; simpa using (show ¬ c = 40 by rw [hcc]; decide)
  have k40 : ((c.toNat : Int) == 40) = false := by rw [hcc]; rfl
  have hen92 : ¬ (c : UInt8) = 92 := by rw [hcc]; decide
  obtain ⟨E, hE⟩ : ∃ E, upF s.data.toList c (mayT c) s.size (i + 1) = E := ⟨_, rfl⟩
  have hn : titleN s.data.toList i = if E.2 then some (i + 1, E.1, E.1 + 1) else none := by
    unfold titleN
    rw [get_list s i hil, hc]
    simp only
    rw [if_neg (by rw [hcc]; decide), show endU c = c by rw [hcc]; rfl, hl, hE]
  have hv : titleV s i = if E.2 then (unescB (s.extract (i + 1) E.1), E.1 + 1, true) else (⟨#[]⟩, i, false) := by
    unfold titleV
    rw [hn]
    cases E.2 <;> rfl
  have HV0 := Lib.hid hv
  have H0 := Lib.hid (show ScW s i c (mayT c) E w (.int .i64 ((i : Int) + 1)) w from ⟨i + 1, s.size, rfl, Nat.le_refl _, by omega, by omega, hE, rfl⟩)
  have HP := Lib.hid fun (k : Nat) (hk : k ≤ s.size) w' => refpair_at s k w' (by omega) (by omega)
  have HCC := Lib.hid hcc
  clear hE hn hv hl hcc
  go_enter Tryd.func41, Tryd.ntmps41
  go_wp2_with fail
  (try rw [hc])
  go_wp2_with fail
  (try rw [hc])
  go_wp2_with fail
  go_loopw [8, 9] (fun v8 _ wr => ScW s i c (mayT c) E w v8 wr) (fun v8 _ _ => s.size - (intOf v8).toNat)
  case atStart => exact H0.out
  case round =>
    obtain ⟨k, f, rfl, hik, hk, hf, hu, hwr⟩ := hrel
    have hwr2 := hwr.symm
    subst hwr2
    clear hwr H0
    have HU := Lib.hid hu
    have hiki : (i : Int) + 1 ≤ (k : Int) := by omega
    clear hu
    by_cases hlt : k < s.size
    · have hki : (k : Int) < (s.size : Int) := by omega
      have hki2 : ¬ (s.size : Int) ≤ (k : Int) := by omega
      obtain ⟨f, rfl⟩ : ∃ f', f = f' + 1 := ⟨f - 1, by omega⟩
      have hu := HU.out
      rw [upF, get_list s k hlt] at hu
      simp only at hu
      have hst := stepL_in s.data.toList k
      have hsl := stepL_le s.data.toList k (by simpa using hlt)
      have hsl2 : s.data.toList.length = s.size := Array.length_toList
      have hpd := step_pair s.data.toList k
      rw [get_list s k hlt] at hpd
      have HPk := Lib.hid (HP.out k (by omega))
      obtain ⟨b, hb⟩ : ∃ b, s[k] = b := ⟨_, rfl⟩
      obtain ⟨n, hn⟩ : ∃ n, stepL s.data.toList k = n := ⟨_, rfl⟩
      rw [hb, hn] at hu hpd
      rw [hn] at HPk hst hsl
      have hsl3 : k + n ≤ s.size := by omega
      by_cases hbe : b = c
      · have ien : ((b.toNat : Int) != (c.toNat : Int)) = false := by rw [bnec b c, hbe]; simp
        have hn1 : n = 1 := by
          have : ¬ n = 2 := fun h => by have := Option.some.inj (hpd.1 h).1; rw [hbe] at this; exact absurd this hen92
          omega
        rw [hn1, if_pos rfl, if_pos (by rw [hbe]; exact beq_self_eq_true _)] at hu
        have hv0 := HV0.out
        rw [← hu] at hv0
        simp only [if_true] at hv0
        obtain ⟨x, hxe⟩ : ∃ x : ByteArray, s.extract (i + 1) k = x := ⟨_, rfl⟩
        have hxs : x.size = k - (i + 1) := by rw [← hxe, ByteArray.size_extract]; omega
        rw [hxe] at hv0
        obtain ⟨X, hX⟩ : ∃ X, unescB x = X := ⟨_, rfl⟩
        have HUN := Lib.hid fun w' => refunesc_ret x (by omega) X hX w'
        rw [hX] at hv0
        have HV := Lib.hid hv0
        have HXE := Lib.hid hxe
        clear hu hpd HU hv0 hX hxe hxs hbe hst hsl hsl2 hsl3 hn
        go_wp2_with fail
        (try rw [hb])
        go_wp2_with fail
        (try rw [HXE.out])
        refine Calls.mono (HUN.out _) ?_
        rintro e w2 ⟨rfl, b2⟩
        go_wp2
        go_ret3
        rw [HV.out]
        exact ⟨rfl, b2⟩
      · have ien : ((b.toNat : Int) != (c.toNat : Int)) = true := by rw [bnec b c]; simpa using hbe
        have hn12 : n = 1 ∨ n = 2 := by omega
        rcases hn12 with rfl | rfl
        · rw [if_pos rfl, if_neg (by simpa using hbe)] at hu
          rw [if_pos (by unfold mayT; rw [HCC.out]; rfl)] at hu
          have HU2 := Lib.hid hu
          clear hu hpd HU hbe
          go_wp2_with fail
          (try rw [hb])
          go_wp2_with fail
          refine Calls.mono (HPk.out _) ?_
          rintro e w' ⟨rfl, rfl⟩
          go_wp2_with fail
          (try rw [hb])
          (try rw [hc])
          go_wp2_with fail
          go_roundw
          case rel => exact ⟨k + 1, f, rfl, by omega, by omega, by omega, HU2.out, by first | rfl | trivial⟩
          case measure => simp [intOf]; omega
        · rw [if_neg (by omega)] at hu
          have hb92 : b = 92 := Option.some.inj (hpd.1 rfl).1
          have HU2 := Lib.hid hu
          clear hu hpd HU hbe hb92
          go_wp2_with fail
          (try rw [hb])
          go_wp2_with fail
          refine Calls.mono (HPk.out _) ?_
          rintro e w' ⟨rfl, rfl⟩
          go_wp2_with fail
          (try rw [hb])
          (try rw [hc])
          go_wp2_with fail
          go_roundw
          case rel => exact ⟨k + 2, f, rfl, by omega, by omega, by omega, HU2.out, by first | rfl | trivial⟩
          case measure => simp [intOf]; omega
    · have hk2 : k = s.size := by omega
      have hu := HU.out
      have hEk : E = (k, false) := by
        rw [← hu, hk2]
        cases f with
        | zero => rfl
        | succ f => rw [upF, get_none s s.size (Nat.lt_irrefl _)]
      have hv0 := HV0.out
      rw [hEk] at hv0
      simp only [Bool.false_eq_true, if_false] at hv0
      have HV := Lib.hid hv0
      have hki2 : (s.size : Int) ≤ (k : Int) := by omega
      clear hu hEk hv0 hk2 HU
      go_wp2
      go_ret3
      rw [HV.out]
      exact ⟨rfl, Below.refl _ _⟩
set_option maxHeartbeats 4000000 in
set_option maxRecDepth 100000 in
theorem reftitle_40 (s : ByteArray) (i : Nat) (w : World) (hs : s.size ≤ 1000000000) (hil : i < s.size) (c : UInt8) (hc : s[i] = c) (hcc : c = 40) : Calls Tryd.prog 41 #[.string s, .int .i64 (i : Int)] w (SIB w (titleV s i)) := by
  have hl : s.data.toList.length = s.size := Array.length_toList
  have hii : ¬ (s.size : Int) ≤ (i : Int) := by omega
  have hij : (i : Int) < (s.size : Int) := by omega
  have j34 : ((c.toNat : Int) != 34) = true := by rw [show ((c.toNat : Int) != 34) = (c != 34) from bnec c 34]; simpa using (show ¬ c = 34 by rw [hcc]; decide)
  have j39 : ((c.toNat : Int) != 39) = true := by rw [show ((c.toNat : Int) != 39) = (c != 39) from bnec c 39]; simpa using (show ¬ c = 39 by rw [hcc]; decide)
  have j40 : ((c.toNat : Int) != 40) = false := by rw [show ((c.toNat : Int) != 40) = (c != 40) from bnec c 40, hcc]; rfl
  have k40 : ((c.toNat : Int) == 40) = true := by rw [hcc]; rfl
  have hen92 : ¬ (41 : UInt8) = 92 := by decide
  obtain ⟨E, hE⟩ : ∃ E, upF s.data.toList 41 (mayT c) s.size (i + 1) = E := ⟨_, rfl⟩
  have hn : titleN s.data.toList i = if E.2 then some (i + 1, E.1, E.1 + 1) else none := by
    unfold titleN
    rw [get_list s i hil, hc]
    simp only
    rw [if_neg (by rw [hcc]; decide), show endU c = 41 by rw [hcc]; rfl, hl, hE]
  have hv : titleV s i = if E.2 then (unescB (s.extract (i + 1) E.1), E.1 + 1, true) else (⟨#[]⟩, i, false) := by
    unfold titleV
    rw [hn]
    cases E.2 <;> rfl
  have HV0 := Lib.hid hv
  have H0 := Lib.hid (show ScW s i 41 (mayT c) E w (.int .i64 ((i : Int) + 1)) w from ⟨i + 1, s.size, rfl, Nat.le_refl _, by omega, by omega, hE, rfl⟩)
  have HP := Lib.hid fun (k : Nat) (hk : k ≤ s.size) w' => refpair_at s k w' (by omega) (by omega)
  have HCC := Lib.hid hcc
  clear hE hn hv hl hcc
  go_enter Tryd.func41, Tryd.ntmps41
  go_wp2_with fail
  (try rw [hc])
  go_wp2_with fail
  (try rw [hc])
  go_wp2_with fail
  go_loopw [8, 9] (fun v8 _ wr => ScW s i 41 (mayT c) E w v8 wr) (fun v8 _ _ => s.size - (intOf v8).toNat)
  case atStart => exact H0.out
  case round =>
    obtain ⟨k, f, rfl, hik, hk, hf, hu, hwr⟩ := hrel
    have hwr2 := hwr.symm
    subst hwr2
    clear hwr H0
    have HU := Lib.hid hu
    have hiki : (i : Int) + 1 ≤ (k : Int) := by omega
    clear hu
    by_cases hlt : k < s.size
    · have hki : (k : Int) < (s.size : Int) := by omega
      have hki2 : ¬ (s.size : Int) ≤ (k : Int) := by omega
      obtain ⟨f, rfl⟩ : ∃ f', f = f' + 1 := ⟨f - 1, by omega⟩
      have hu := HU.out
      rw [upF, get_list s k hlt] at hu
      simp only at hu
      have hst := stepL_in s.data.toList k
      have hsl := stepL_le s.data.toList k (by simpa using hlt)
      have hsl2 : s.data.toList.length = s.size := Array.length_toList
      have hpd := step_pair s.data.toList k
      rw [get_list s k hlt] at hpd
      have HPk := Lib.hid (HP.out k (by omega))
      obtain ⟨b, hb⟩ : ∃ b, s[k] = b := ⟨_, rfl⟩
      obtain ⟨n, hn⟩ : ∃ n, stepL s.data.toList k = n := ⟨_, rfl⟩
      rw [hb, hn] at hu hpd
      rw [hn] at HPk hst hsl
      have hsl3 : k + n ≤ s.size := by omega
      by_cases hbe : b = 41
      · have ien : ((b.toNat : Int) != 41) = false := by rw [show ((b.toNat : Int) != 41) = (b != 41) from bnec b 41, hbe]; rfl
        have hn1 : n = 1 := by
          have : ¬ n = 2 := fun h => by have := Option.some.inj (hpd.1 h).1; rw [hbe] at this; exact absurd this hen92
          omega
        rw [hn1, if_pos rfl, if_pos (by rw [hbe]; exact beq_self_eq_true _)] at hu
        have hv0 := HV0.out
        rw [← hu] at hv0
        simp only [if_true] at hv0
        obtain ⟨x, hxe⟩ : ∃ x : ByteArray, s.extract (i + 1) k = x := ⟨_, rfl⟩
        have hxs : x.size = k - (i + 1) := by rw [← hxe, ByteArray.size_extract]; omega
        rw [hxe] at hv0
        obtain ⟨X, hX⟩ : ∃ X, unescB x = X := ⟨_, rfl⟩
        have HUN := Lib.hid fun w' => refunesc_ret x (by omega) X hX w'
        rw [hX] at hv0
        have HV := Lib.hid hv0
        have HXE := Lib.hid hxe
        clear hu hpd HU hv0 hX hxe hxs hbe hst hsl hsl2 hsl3 hn
        go_wp2_with fail
        (try rw [hb])
        go_wp2_with fail
        (try rw [HXE.out])
        refine Calls.mono (HUN.out _) ?_
        rintro e w2 ⟨rfl, b2⟩
        go_wp2
        go_ret3
        rw [HV.out]
        exact ⟨rfl, b2⟩
      · have ien : ((b.toNat : Int) != 41) = true := by rw [show ((b.toNat : Int) != 41) = (b != 41) from bnec b 41]; simpa using hbe
        have hn12 : n = 1 ∨ n = 2 := by omega
        rcases hn12 with rfl | rfl
        · rw [if_pos rfl, if_neg (by simpa using hbe)] at hu
          by_cases hb40 : b = 40
          · rw [if_neg (by rw [hb40, HCC.out]; decide)] at hu
            have i40 : ((b.toNat : Int) == 40) = true := by rw [hb40]; rfl
            clear hb40
            have hv0 := HV0.out
            rw [← hu] at hv0
            simp only [Bool.false_eq_true, if_false] at hv0
            have HV := Lib.hid hv0
            clear hu hpd HU hv0 hbe
            go_wp2_with fail
            (try rw [hb])
            (try rw [hc])
            go_wp2_with fail
            refine Calls.mono (HPk.out _) ?_
            rintro e w' ⟨rfl, rfl⟩
            go_wp2_with fail
            (try rw [hb])
            (try rw [hc])
            (try rw [hc])
            go_wp2
            go_ret3
            rw [HV.out]
            exact ⟨rfl, Below.refl _ _⟩
          · have i40 : ((b.toNat : Int) == 40) = false := by rw [show ((b.toNat : Int) == 40) = (b == 40) from beqc b 40]; exact beq_no hb40
            rw [if_pos (by unfold mayT; simp [hb40])] at hu
            have HU2 := Lib.hid hu
            clear hu hpd HU hbe hb40
            go_wp2_with fail
            (try rw [hb])
            go_wp2_with fail
            refine Calls.mono (HPk.out _) ?_
            rintro e w' ⟨rfl, rfl⟩
            go_wp2_with fail
            (try rw [hb])
            (try rw [hc])
            go_wp2_with fail
            go_roundw
            case rel => exact ⟨k + 1, f, rfl, by omega, by omega, by omega, HU2.out, by first | rfl | trivial⟩
            case measure => simp [intOf]; omega
        · rw [if_neg (by omega)] at hu
          have hb92 : b = 92 := Option.some.inj (hpd.1 rfl).1
          have i40 : ((b.toNat : Int) == 40) = false := by rw [hb92]; rfl
          have HU2 := Lib.hid hu
          clear hu hpd HU hbe hb92
          go_wp2_with fail
          (try rw [hb])
          go_wp2_with fail
          refine Calls.mono (HPk.out _) ?_
          rintro e w' ⟨rfl, rfl⟩
          go_wp2_with fail
          (try rw [hb])
          (try rw [hc])
          go_wp2_with fail
          go_roundw
          case rel => exact ⟨k + 2, f, rfl, by omega, by omega, by omega, HU2.out, by first | rfl | trivial⟩
          case measure => simp [intOf]; omega
    · have hk2 : k = s.size := by omega
      have hu := HU.out
      have hEk : E = (k, false) := by
        rw [← hu, hk2]
        cases f with
        | zero => rfl
        | succ f => rw [upF, get_none s s.size (Nat.lt_irrefl _)]
      have hv0 := HV0.out
      rw [hEk] at hv0
      simp only [Bool.false_eq_true, if_false] at hv0
      have HV := Lib.hid hv0
      have hki2 : (s.size : Int) ≤ (k : Int) := by omega
      clear hu hEk hv0 hk2 HU
      go_wp2
      go_ret3
      rw [HV.out]
      exact ⟨rfl, Below.refl _ _⟩
theorem reftitle_none (s : ByteArray) (i : Nat) (w : World) (h : ∀ c, s.data.toList[i]? = some c → endU c = 0) : Calls Tryd.prog 41 #[.string s, .int .i64 (i : Int)] w (SIB w (⟨#[]⟩, i, false)) := by
  by_cases hil : i < s.size
  · have hii : ¬ (s.size : Int) ≤ (i : Int) := by omega
    have hij : (i : Int) < (s.size : Int) := by omega
    obtain ⟨c, hc⟩ : ∃ c, s[i] = c := ⟨_, rfl⟩
    have h0 := h c (by rw [get_list s i hil, hc])
    have n34 : ¬ c = 34 := fun e => by rw [e] at h0; exact absurd h0 (by decide)
    have n39 : ¬ c = 39 := fun e => by rw [e] at h0; exact absurd h0 (by decide)
    have n40 : ¬ c = 40 := fun e => by rw [e] at h0; exact absurd h0 (by decide)
    have j34 : ((c.toNat : Int) != 34) = true := by rw [show ((c.toNat : Int) != 34) = (c != 34) from bnec c 34]; simpa using n34
    have j39 : ((c.toNat : Int) != 39) = true := by rw [show ((c.toNat : Int) != 39) = (c != 39) from bnec c 39]; simpa using n39
    have j40 : ((c.toNat : Int) != 40) = true := by rw [show ((c.toNat : Int) != 40) = (c != 40) from bnec c 40]; simpa using n40
    clear h h0 n34 n39 n40
    go_enter Tryd.func41, Tryd.ntmps41
    go_wp2_with fail
    (try rw [hc])
    go_wp2
    go_ret3
    exact ⟨rfl, Below.refl _ _⟩
  · have hii : (s.size : Int) ≤ (i : Int) := by omega
    clear h
    go_enter Tryd.func41, Tryd.ntmps41
    go_wp2
    go_ret3
    exact ⟨rfl, Below.refl _ _⟩
theorem reftitle_any (s : ByteArray) (i : Nat) (w : World) (hs : s.size ≤ 1000000000) : Calls Tryd.prog 41 #[.string s, .int .i64 (i : Int)] w (SIB w (titleV s i)) := by
  by_cases h : ∀ c, s.data.toList[i]? = some c → endU c = 0
  · have hv : titleV s i = (⟨#[]⟩, i, false) := by
      unfold titleV titleN
      cases hg : s.data.toList[i]? with
      | none => rfl
      | some c => simp only; rw [if_pos (h c hg)]
    rw [hv]
    exact reftitle_none s i w h
  · rw [Classical.not_forall] at h
    obtain ⟨c, h⟩ := h
    rw [Classical.not_imp] at h
    have hil : i < s.size := by have := (List.getElem?_eq_some_iff.1 h.1).1; simpa using this
    have hc : s[i] = c := by have := h.1; rw [get_list s i hil] at this; exact Option.some.inj this
    have he := h.2
    unfold endU at he
    by_cases h34 : c = 34
    · exact reftitle_34 s i w hs hil c hc h34
    · by_cases h39 : c = 39
      · exact reftitle_39 s i w hs hil c hc h39
      · by_cases h40 : c = 40
        · exact reftitle_40 s i w hs hil c hc h40
        · rw [if_neg h34, if_neg h39, if_neg h40] at he
          exact absurd rfl he
end Go.Proofs.YtbcfhpomclkccaaDoor
