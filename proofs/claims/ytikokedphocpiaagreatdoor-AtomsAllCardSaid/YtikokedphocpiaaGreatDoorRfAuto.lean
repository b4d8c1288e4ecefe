/- The reference's Auto: an address in brackets. -/
import Derived.Test.YtikokedphocpiaaGreatDoorAutoP
namespace Go.Proofs.YtikokedphocpiaaGreatDoor
open Go.RowKit

set_option maxHeartbeats 1000000 in
set_option maxRecDepth 100000 in
theorem refauto_no (s : ByteArray) (i : Int) (w : World) (_ : s.size ≤ 1099511627) (_ : -9223372036854775808 ≤ i ∧ i ≤ 9223372036854775807) (h : i < 0 ∨ (s.size : Int) ≤ i ∨ ∃ (k : Nat) (hk : k < s.size), i = k ∧ s[k] ≠ 60) :
    Calls Tryz.prog 11 #[.string s, .int .i64 i] w (AutoR w ([], [], 0)) := by
  by_cases h0 : i < 0
  · have z0 : decide (i < 0) = true := by simpa using h0
    clear h h0
    go_enter Tryz.func11, Tryz.ntmps11
    go_wp2
    go_ret3
    exact ⟨rfl, Below.refl _ _⟩
  · have z0 : decide (i < 0) = false := by simpa using h0
    by_cases h1 : (s.size : Int) ≤ i
    · have z1 : decide ((s.size : Int) ≤ i) = true := by simpa using h1
      clear h h0 h1
      go_enter Tryz.func11, Tryz.ntmps11
      go_wp2
      go_ret3
      exact ⟨rfl, Below.refl _ _⟩
    · rcases h with h | h | ⟨k, hk, rfl, h96⟩
      · exact absurd h h0
      · exact absurd h h1
      have z1 : decide ((s.size : Int) ≤ (k : Int)) = false := by simpa using h1
      have hki : (k : Int) < (s.size : Int) := by omega
      have z96 : ((s[k].toNat : Int) != 60) = true := (bnec s[k] 60).trans (by unfold bne; rw [beq_no h96]; rfl)
      clear h0 h1 h96
      go_enter Tryz.func11, Tryz.ntmps11
      go_wp2
      go_ret3
      exact ⟨rfl, Below.refl _ _⟩
theorem mailto_app (T : ByteArray) : (⟨((⟨#[109, 97, 105, 108, 116, 111, 58]⟩ : ByteArray).data.toList ++ T.data.toList).toArray⟩ : ByteArray) = ⟨#[109, 97, 105, 108, 116, 111, 58]⟩ ++ T := (str_mk _ _ (app_list _ _)).symm
def AutoW (w : World) (l : List UInt8) (i : Nat) (v7 v8 : Value) (wr : World) : Prop := ∃ k : Nat, v7 = .int .i64 k ∧ v8 = .bool (allB restB ((l.drop (i + 1)).take (k - (i + 1)))) ∧ i + 1 ≤ k ∧ k ≤ l.length ∧ run (· != 62) l (i + 1) = run (· != 62) l k ∧ wr = w
theorem fine_step (l : List UInt8) (i k : Nat) (x : UInt8) (hk : i + 1 ≤ k) (h : l[k]? = some x) : allB restB ((l.drop (i + 1)).take (k + 1 - (i + 1))) = (allB restB ((l.drop (i + 1)).take (k - (i + 1))) && restB x) := by
  have hlt := (List.getElem?_eq_some_iff.1 h).1
  have hlt2 : k - (i + 1) < (l.drop (i + 1)).length := by rw [List.length_drop]; omega
  rw [show k + 1 - (i + 1) = k - (i + 1) + 1 by omega, List.take_succ_eq_append_getElem hlt2, allB_append]
  congr 1
  show (restB _ && true) = _
  rw [Bool.and_true]
  congr 1
  have : (l.drop (i + 1))[k - (i + 1)]? = some x := by rw [List.getElem?_drop, show i + 1 + (k - (i + 1)) = k by omega, h]
  exact (List.getElem?_eq_some_iff.1 this).2
set_option maxHeartbeats 8000000 in
set_option maxRecDepth 100000 in
theorem refauto_yes (s : ByteArray) (i : Nat) (w : World) (hs : s.size ≤ 1099511627) (hi : i < s.size) (h60 : s[i] = 60) :
    Calls Tryz.prog 11 #[.string s, .int .i64 (i : Int)] w (AutoR w (refAutoC s.data.toList i (run (· != 62) s.data.toList (i + 1)))) := by
  have hki : (i : Int) < (s.size : Int) := by omega
  have z0 : decide ((i : Int) < 0) = false := by simp
  have z1 : decide (s.size ≤ i) = false := by simp; omega
  have z60 : ((s[i].toNat : Int) != 60) = false := by rw [h60]; rfl
  have hi1 : (i : Int) + 1 ≤ (s.size : Int) := by omega
  have hsl : s.data.toList.length = s.size := Array.length_toList
  obtain ⟨l, hl⟩ : ∃ l, s.data.toList = l := ⟨_, rfl⟩
  rw [hl] at hsl ⊢
  have hget : ∀ (k : Nat) (h : k < s.size), l[k]? = some s[k] := fun k h => by rw [← hl]; exact get_list s k h
  obtain ⟨R, hR⟩ : ∃ R, refAutoC l i (run (· != 62) l (i + 1)) = R := ⟨_, rfl⟩
  rw [hR]
  have HSL := Lib.hid hsl
  have HGET := Lib.hid hget
  have HR := Lib.hid hR
  have HL := Lib.hid hl
  have HI := Lib.hid (show i + 1 ≤ l.length by omega)
  clear hsl hget hR hl h60
  go_enter Tryz.func11, Tryz.ntmps11
  go_wp2_with fail
  go_loopw [7, 8] (fun v7 v8 wx => AutoW w l i v7 v8 wx) (fun v7 _ _ => s.size - (intOf v7).toNat)
  case atStart => exact ⟨i + 1, by go_num, by rw [Nat.sub_self]; rfl, Nat.le_refl _, HI.out, rfl, rfl⟩
  case round =>
    obtain ⟨k, rfl, rfl, hik, hk, hrr, rfl⟩ := hrel
    have hks : k ≤ s.size := by have := HSL.out; omega
    have HRR := Lib.hid hrr
    obtain ⟨f, hf⟩ : ∃ f, allB restB ((l.drop (i + 1)).take (k - (i + 1))) = f := ⟨_, rfl⟩
    rw [hf]
    have HF := Lib.hid hf
    clear hrr hk hf
    by_cases h2 : k < s.size
    · have z2 : decide (k < s.size) = true := by simp; omega
      have z3 : (k : Int) < (s.size : Int) := by omega
      have hg := HGET.out k h2
      obtain ⟨x, hx⟩ : ∃ x, s[k] = x := ⟨_, rfl⟩
      rw [hx] at hg
      have y62 : ((s[k].toNat : Int) != 62) = (x != 62) := by rw [hx]; exact bnec x 62
      have HX := Lib.hid hx
      have hkb : (k : Int) + 1 ≤ (s.size : Int) := by omega
      cases h62 : (x != 62) with
      | true =>
        rw [h62] at y62
        have hstep := fine_step l i k x hik hg
        rw [HF.out] at hstep
        have hrun := run_cond_yes ((condR_some (p := fun b => b != 62) hg).trans h62)
        have hrest : restB x = (decide ((32 : Int) < (x.toNat : Int)) && (x != 60)) := by
          unfold restB
          congr 1
          exact decide_eq_decide.2 (by omega)
        rw [hrest] at hstep
        have HRUN := Lib.hid hrun
        have y60 : ((s[k].toNat : Int) != 60) = (x != 60) := by rw [hx]; exact bnec x 60
        have y32 : decide ((32 : Int) < (s[k].toNat : Int)) = decide ((32 : Int) < (x.toNat : Int)) := by rw [hx]
        cases f with
        | false =>
          have HST := Lib.hid (hstep.trans (Bool.false_and _))
          clear hx hg h62 hstep hrun hrest y60 y32
          go_wp2
          exact ⟨⟨k + 1, by go_num, by rw [HST.out], by omega, HRUN.out.1, by rw [HRR.out]; exact HRUN.out.2, rfl⟩, by simp [intOf]; omega⟩
        | true =>
          cases h32 : decide ((32 : Int) < (x.toNat : Int)) with
          | false =>
            rw [h32] at y32 hstep
            have HST := Lib.hid (hstep.trans rfl)
            clear hx hg h62 hstep hrun hrest y60 h32
            go_wp2
            exact ⟨⟨k + 1, by go_num, by rw [HST.out]; rfl, by omega, HRUN.out.1, by rw [HRR.out]; exact HRUN.out.2, rfl⟩, by simp [intOf]; omega⟩
          | true =>
            rw [h32] at y32 hstep
            have y32i : (32 : Int) < (s[k].toNat : Int) := by simpa using y32
            cases h60 : (x != 60) with
            | true =>
              rw [h60] at y60 hstep
              have HST := Lib.hid (hstep.trans rfl)
              clear hx hg h62 hstep hrun hrest h32 h60
              go_wp2
              exact ⟨⟨k + 1, by go_num, by rw [HST.out]; rfl, by omega, HRUN.out.1, by rw [HRR.out]; exact HRUN.out.2, rfl⟩, by simp [intOf]; omega⟩
            | false =>
              rw [h60] at y60 hstep
              have HST := Lib.hid (hstep.trans rfl)
              clear hx hg h62 hstep hrun hrest h32 h60
              go_wp2
              exact ⟨⟨k + 1, by go_num, by rw [HST.out]; rfl, by omega, HRUN.out.1, by rw [HRR.out]; exact HRUN.out.2, rfl⟩, by simp [intOf]; omega⟩
      | false =>
        rw [h62] at y62
        have hrun := run_cond_no ((condR_some (p := fun b => b != 62) hg).trans h62)
        have hRe : R = refAutoC l i k := by rw [← HR.out, HRR.out]; congr 1
        obtain ⟨T, hT⟩ : ∃ T, s.extract (i + 1) k = T := ⟨_, rfl⟩
        have hTl : T.data.toList = (l.drop (i + 1)).take (k - (i + 1)) := by rw [← hT, Lib.extract_data, HL.out]
        have hTs : T.size ≤ s.size := by rw [← hT, ByteArray.size_extract]; omega
        unfold refAutoC at hRe
        rw [if_pos (by rw [HSL.out]; exact h2), ← hTl] at hRe
        have hA := fun w' => refaddr_any T w' (by omega)
        have hM := fun w' => refmail_any T w' (by omega)
        have hfT : allB restB T.data.toList = f := by rw [hTl]; exact HF.out
        rw [hfT] at hRe
        obtain ⟨A, hAe⟩ : ∃ A, refAddrB T.data.toList = A := ⟨_, rfl⟩
        obtain ⟨M, hMe⟩ : ∃ M, refMailB T.data.toList = M := ⟨_, rfl⟩
        rw [hAe] at hA hRe
        rw [hMe] at hM hRe
        have HA := Lib.hid hA
        have HM := Lib.hid hM
        have HT := Lib.hid hT
        have HRE := Lib.hid hRe
        have z4 : decide (s.size ≤ k) = false := by simp; omega
        have hikI : (i : Int) + 1 ≤ (k : Int) := by omega
        have hs1 : ¬ (9223372036854775807 < (⟨#[109, 97, 105, 108, 116, 111, 58]⟩ : ByteArray).size + T.size) := by show ¬ (_ < 7 + T.size); omega
        clear hx hg h62 hrun hRe hT hTl hTs hA hM hfT hAe hMe HR HRR
        cases A with
        | true =>
          cases f with
          | true =>
            have hv : R = (T.data.toList, T.data.toList, k + 1) := by rw [HRE.out]; rfl
            subst hv
            clear HRE
            go_wp2_with fail
            rw [HT.out]
            refine Calls.mono (HA.out _) ?_
            rintro e w1 ⟨rfl, rfl⟩
            go_wp2
            go_ret3
            exact ⟨by go_num, Below.refl _ _⟩
          | false =>
            cases M with
            | true =>
              have hv : R = (T.data.toList, (⟨#[109, 97, 105, 108, 116, 111, 58]⟩ : ByteArray).data.toList ++ T.data.toList, k + 1) := by rw [HRE.out]; rfl
              subst hv
              clear HRE
              go_wp2_with fail
              rw [HT.out]
              refine Calls.mono (HA.out _) ?_
              rintro e w1 ⟨rfl, rfl⟩
              go_wp2_with fail
              refine Calls.mono (HM.out _) ?_
              rintro e w1 ⟨rfl, rfl⟩
              go_wp2
              go_ret3
              exact ⟨by rw [mailto_app]; go_num, Below.refl _ _⟩
            | false =>
              have hv : R = ([], [], 0) := by rw [HRE.out]; rfl
              subst hv
              clear HRE
              go_wp2_with fail
              rw [HT.out]
              refine Calls.mono (HA.out _) ?_
              rintro e w1 ⟨rfl, rfl⟩
              go_wp2_with fail
              refine Calls.mono (HM.out _) ?_
              rintro e w1 ⟨rfl, rfl⟩
              go_wp2
              go_ret3
              exact ⟨rfl, Below.refl _ _⟩
        | false =>
          cases M with
          | true =>
            have hv : R = (T.data.toList, (⟨#[109, 97, 105, 108, 116, 111, 58]⟩ : ByteArray).data.toList ++ T.data.toList, k + 1) := by rw [HRE.out]; rfl
            subst hv
            clear HRE
            go_wp2_with fail
            rw [HT.out]
            refine Calls.mono (HA.out _) ?_
            rintro e w1 ⟨rfl, rfl⟩
            go_wp2_with fail
            refine Calls.mono (HM.out _) ?_
            rintro e w1 ⟨rfl, rfl⟩
            go_wp2
            go_ret3
            exact ⟨by rw [mailto_app]; go_num, Below.refl _ _⟩
          | false =>
            have hv : R = ([], [], 0) := by rw [HRE.out]; rfl
            subst hv
            clear HRE
            go_wp2_with fail
            rw [HT.out]
            refine Calls.mono (HA.out _) ?_
            rintro e w1 ⟨rfl, rfl⟩
            go_wp2_with fail
            refine Calls.mono (HM.out _) ?_
            rintro e w1 ⟨rfl, rfl⟩
            go_wp2
            go_ret3
            exact ⟨rfl, Below.refl _ _⟩
    · have z2 : decide (k < s.size) = false := by simp; omega
      have z3 : ¬ (k : Int) < (s.size : Int) := by omega
      have z4 : decide (s.size ≤ k) = true := by simp; omega
      have hrun := run_cond_no (condR_none (p := fun b => b != 62) (l := l) (k := k) (by rw [HSL.out]; omega))
      have hv : R = ([], [], 0) := by
        rw [← HR.out, HRR.out, show run (fun b => b != 62) l k = k from hrun]
        unfold refAutoC
        rw [if_neg (by rw [HSL.out]; exact h2)]
      subst hv
      clear hrun h2 HR HRR
      go_wp2
      go_ret3
      exact ⟨rfl, Below.refl _ _⟩
theorem refauto_any (s : ByteArray) (i : Int) (w : World) (hs : s.size ≤ 1099511627) (hi : -9223372036854775808 ≤ i ∧ i ≤ 9223372036854775807) :
    Calls Tryz.prog 11 #[.string s, .int .i64 i] w (AutoR w (autoAt s.data.toList i)) := by
  have hno : ∀ (h : ¬ (0 ≤ i ∧ s.data.toList[i.toNat]? = some 60)), (autoAt s.data.toList i) = ([], [], 0) := fun h => by unfold autoAt; rw [if_neg h]
  by_cases h1 : i < 0
  · rw [hno (by omega)]
    exact refauto_no s i w hs hi (Or.inl h1)
  · by_cases h2 : (s.size : Int) ≤ i
    · rw [hno (by rintro ⟨_, h⟩; rw [List.getElem?_eq_none (by rw [Array.length_toList]; show s.size ≤ i.toNat; omega)] at h; cases h)]
      exact refauto_no s i w hs hi (Or.inr (Or.inl h2))
    · obtain ⟨k, rfl⟩ : ∃ k : Nat, i = k := ⟨i.toNat, by omega⟩
      have hk : k < s.size := by omega
      have hg : s.data.toList[k]? = some s[k] := get_list s k hk
      by_cases h3 : s[k] = 60
      · rw [auto_eq _ _ (by rw [hg, h3])]
        exact refauto_yes s k w hs hk h3
      · rw [hno (by rintro ⟨_, h⟩; rw [Int.toNat_natCast, hg] at h; exact h3 (Option.some.inj h))]
        exact refauto_no s k w hs hi (Or.inr (Or.inr ⟨k, hk, rfl, h3⟩))
end Go.Proofs.YtikokedphocpiaaGreatDoor
