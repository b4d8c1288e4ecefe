/- atoms.Auto: an address between angle brackets, at any place of any text. -/
import Derived.Test.YtikokedphocpiaaGreatDoorAtMail
namespace Go.Proofs.YtikokedphocpiaaGreatDoor
open Go.RowKit

def AutoR (w : World) (x : List UInt8 × List UInt8 × Nat) (e : Ending) (w' : World) : Prop := e = .returned (.tuple #[.string ⟨x.1.toArray⟩, .string ⟨x.2.1.toArray⟩, .int .i64 (x.2.2 : Int)]) ∧ Below w.heap.size w w'
def autoC (i : Nat) (c : List UInt8 × List UInt8 × Bool) : List UInt8 × List UInt8 × Nat :=
  if c.2.2 = false then ([], [], 0)
  else if addrB c.1 = true then (c.1, c.1, i + c.1.length + 2)
  else if mailB c.1 = true then (c.1, (⟨#[109, 97, 105, 108, 116, 111, 58]⟩ : ByteArray).data.toList ++ c.1, i + c.1.length + 2)
  else ([], [], 0)
def autoAt (l : List UInt8) (i : Int) : List UInt8 × List UInt8 × Nat :=
  if 0 ≤ i ∧ l[i.toNat]? = some 60 then autoC i.toNat (Lib.cut (l.drop (i.toNat + 1)) [62]) else ([], [], 0)

set_option maxHeartbeats 1000000 in
set_option maxRecDepth 100000 in
theorem auto_no (s : ByteArray) (i : Int) (w : World) (_ : s.size ≤ 1099511627) (hi : -9223372036854775808 ≤ i ∧ i ≤ 9223372036854775807) (h : i < 0 ∨ (s.size : Int) ≤ i ∨ ∃ (k : Nat) (hk : k < s.size), i = k ∧ s[k] ≠ 60) :
    Calls Tryz.prog 10 #[.string s, .int .i64 i] w (AutoR w ([], [], 0)) := by
  by_cases h0 : i < 0
  · have z0 : decide (i < 0) = true := by simpa using h0
    clear h h0
    go_enter Tryz.func10, Tryz.ntmps10
    go_wp2
    go_ret3
    exact ⟨rfl, Below.refl _ _⟩
  · have z0 : decide (i < 0) = false := by simpa using h0
    by_cases h1 : (s.size : Int) ≤ i
    · have z1 : decide ((s.size : Int) ≤ i) = true := by simpa using h1
      clear h h0 h1
      go_enter Tryz.func10, Tryz.ntmps10
      go_wp2
      go_ret3
      exact ⟨rfl, Below.refl _ _⟩
    · rcases h with h | h | ⟨k, hk, rfl, h96⟩
      · exact absurd h h0
      · exact absurd h h1
      have z1 : decide ((s.size : Int) ≤ (k : Int)) = false := by simpa using h1
      have hki : (k : Int) < (s.size : Int) := by omega
      have z96 : ((s[k].toNat : Int) != 60) = true := by simp; intro e; exact h96 (UInt8.toNat_inj.1 (by show s[k].toNat = 60; omega))
      clear h0 h1 h96
      go_enter Tryz.func10, Tryz.ntmps10
      go_wp2
      go_ret3
      exact ⟨rfl, Below.refl _ _⟩

set_option maxHeartbeats 4000000 in
set_option maxRecDepth 100000 in
theorem auto_yes (s : ByteArray) (k : Nat) (w : World) (hs : s.size ≤ 1099511627) (hm : MaxB w) (hk : k < s.size) (h60 : s[k] = 60) :
    Calls Tryz.prog 10 #[.string s, .int .i64 (k : Int)] w (AutoR w (autoC k (Lib.cut (s.data.toList.drop (k + 1)) [62]))) := by
  obtain ⟨m, hm1⟩ := hm
  have hsl : s.data.toList.length = s.size := Array.length_toList
  have hki : (k : Int) < (s.size : Int) := by omega
  have z0 : decide ((k : Int) < 0) = false := by simp
  have z1 : decide ((s.size : Int) ≤ (k : Int)) = false := by simp; omega
  have z60 : ((s[k].toNat : Int) != 60) = false := by rw [h60]; rfl
  obtain ⟨X, hX⟩ : ∃ X : ByteArray, s.extract (k + 1) s.size = X := ⟨_, rfl⟩
  have hXl : X.data.toList = s.data.toList.drop (k + 1) := by
    rw [← hX, Lib.extract_data, ← hsl]
    exact List.take_of_length_le (by rw [List.length_drop]; omega)
  have hXs : X.size ≤ 1099511627 := by rw [← hX, ByteArray.size_extract]; omega
  have hc := Tryz.strings_Cut X ⟨#[62]⟩ m w (by omega) hm1
  rw [show (⟨#[62]⟩ : ByteArray).data.toList = [62] from rfl, hXl] at hc
  have hle := cut_le (s.data.toList.drop (k + 1)) [62]
  rw [← hXl] at hle
  rw [← hXl] at hc ⊢
  obtain ⟨c, hcc⟩ : ∃ c, Lib.cut X.data.toList [62] = c := ⟨_, rfl⟩
  rw [hcc] at hc hle ⊢
  obtain ⟨sc, rc, ib⟩ := c
  obtain ⟨S, hS⟩ : ∃ S : ByteArray, (⟨sc.toArray⟩ : ByteArray) = S := ⟨_, rfl⟩
  obtain ⟨R, hR⟩ : ∃ R : ByteArray, (⟨rc.toArray⟩ : ByteArray) = R := ⟨_, rfl⟩
  obtain rfl : S.data.toList = sc := by rw [← hS]
  obtain rfl : R.data.toList = rc := by rw [← hR]
  clear hS hR
  have hSl : S.data.toList.length = S.size := Array.length_toList
  have hSs : S.size ≤ 1099511627 := by have := hle.1; have e2 : X.data.toList.length = X.size := Array.length_toList; simp only at this; omega
  have hc2 : Calls Tryz.prog 26 #[.string X, .string ⟨#[62]⟩] w fun e w' => e = .returned (.tuple #[.string S, .string R, .bool ib]) ∧ ∃ n, w' = w.drewN n := hc
  have HC := Lib.hid hc2
  have HSL := Lib.hid hSl
  have HM := Lib.hid hm1
  have HX := Lib.hid hX
  have hkb : k ≤ 1099511627 := by omega
  clear hc hc2 hle hcc hSl hm1 hX hXl hsl h60
  have hAT : ∀ d : Nat, Calls Tryz.prog 27 #[.string S] (w.drewN d) (RBd (w.drewN d) (addrB S.data.toList)) := fun d => address_any S m (w.drewN d) (by omega) HM.out
  have hML : ∀ d : Nat, Calls Tryz.prog 28 #[.string S] (w.drewN d) (RBb (w.drewN d) (mailB S.data.toList)) := fun d => mail_any S (w.drewN d) (by omega) ⟨m, HM.out⟩
  cases ib with
  | false =>
    have hv : autoC k (S.data.toList, R.data.toList, false) = ([], [], 0) := rfl
    rw [hv]
    clear hv hAT hML
    go_enter Tryz.func10, Tryz.ntmps10
    go_wp2_with fail
    rw [HX.out]
    refine Calls.mono HC.out ?_
    rintro e w1 ⟨rfl, d, rfl⟩
    go_wp2
    go_ret3
    exact ⟨rfl, row_drewN (Below.refl _ _) _⟩
  | true =>
    cases ha : addrB S.data.toList with
    | true =>
      have hv : autoC k (S.data.toList, R.data.toList, true) = (S.data.toList, S.data.toList, k + S.size + 2) := by unfold autoC; rw [if_neg (by simp), if_pos ha, HSL.out]
      rw [hv]
      rw [ha] at hAT
      have HAT := Lib.hid hAT
      clear hv hAT hML ha
      go_enter Tryz.func10, Tryz.ntmps10
      go_wp2_with fail
      rw [HX.out]
      refine Calls.mono HC.out ?_
      rintro e w1 ⟨rfl, d, rfl⟩
      go_wp2_with fail
      refine Calls.mono (HAT.out _) ?_
      rintro e w2 ⟨rfl, d2, rfl⟩
      go_wp2
      go_ret3
      exact ⟨rfl, row_drewN (Below.refl _ _) _⟩
    | false =>
      rw [ha] at hAT
      cases hb : mailB S.data.toList with
      | true =>
        have hv : autoC k (S.data.toList, R.data.toList, true) = (S.data.toList, (⟨#[109, 97, 105, 108, 116, 111, 58]⟩ : ByteArray).data.toList ++ S.data.toList, k + S.size + 2) := by unfold autoC; rw [if_neg (by simp), if_neg (by rw [ha]; simp), if_pos hb, HSL.out]
        rw [hv]
        rw [hb] at hML
        have HAT := Lib.hid hAT
        have HML := Lib.hid hML
        clear hv hAT hML ha hb
        go_enter Tryz.func10, Tryz.ntmps10
        go_wp2_with fail
        rw [HX.out]
        refine Calls.mono HC.out ?_
        rintro e w1 ⟨rfl, d, rfl⟩
        go_wp2_with fail
        refine Calls.mono (HAT.out _) ?_
        rintro e w2 ⟨rfl, d2, rfl⟩
        go_wp2_with fail
        refine Calls.mono (HML.out _) ?_
        rintro e w3 ⟨rfl, b3⟩
        go_wp2
        go_ret3
        exact ⟨rfl, (row_drewN (Below.refl w.heap.size w) _).trans b3⟩
      | false =>
        have hv : autoC k (S.data.toList, R.data.toList, true) = ([], [], 0) := by unfold autoC; rw [if_neg (by simp), if_neg (by rw [ha]; simp), if_neg (by rw [hb]; simp)]
        rw [hv]
        rw [hb] at hML
        have HAT := Lib.hid hAT
        have HML := Lib.hid hML
        clear hv hAT hML ha hb
        go_enter Tryz.func10, Tryz.ntmps10
        go_wp2_with fail
        rw [HX.out]
        refine Calls.mono HC.out ?_
        rintro e w1 ⟨rfl, d, rfl⟩
        go_wp2_with fail
        refine Calls.mono (HAT.out _) ?_
        rintro e w2 ⟨rfl, d2, rfl⟩
        go_wp2_with fail
        refine Calls.mono (HML.out _) ?_
        rintro e w3 ⟨rfl, b3⟩
        go_wp2
        go_ret3
        exact ⟨rfl, (row_drewN (Below.refl w.heap.size w) _).trans b3⟩

theorem auto_any (s : ByteArray) (i : Int) (w : World) (hs : s.size ≤ 1099511627) (hi : -9223372036854775808 ≤ i ∧ i ≤ 9223372036854775807) (hm : MaxB w) :
    Calls Tryz.prog 10 #[.string s, .int .i64 i] w (AutoR w (autoAt s.data.toList i)) := by
  have hno : ∀ (h : ¬ (0 ≤ i ∧ s.data.toList[i.toNat]? = some 60)), (autoAt s.data.toList i) = ([], [], 0) := fun h => by unfold autoAt; rw [if_neg h]
  by_cases h1 : i < 0
  · rw [hno (by omega)]
    exact auto_no s i w hs hi (Or.inl h1)
  · by_cases h2 : (s.size : Int) ≤ i
    · rw [hno (by rintro ⟨_, h⟩; rw [List.getElem?_eq_none (by rw [Array.length_toList]; show s.size ≤ i.toNat; omega)] at h; cases h)]
      exact auto_no s i w hs hi (Or.inr (Or.inl h2))
    · have hk : i.toNat < s.size := by omega
      have hi2 : i = (i.toNat : Int) := by omega
      have hg : s.data.toList[i.toNat]? = some s[i.toNat] := List.getElem?_eq_getElem (by rw [Array.length_toList]; exact hk)
      by_cases h3 : s[i.toNat] = 60
      · have e : autoAt s.data.toList i = autoC i.toNat (Lib.cut (s.data.toList.drop (i.toNat + 1)) [62]) := by unfold autoAt; rw [if_pos ⟨by omega, by rw [hg, h3]⟩]
        rw [e]
        have h := auto_yes s i.toNat w hs hm hk h3
        rwa [← hi2] at h
      · rw [hno (by rintro ⟨_, h⟩; rw [hg] at h; exact h3 (Option.some.inj h))]
        exact auto_no s i w hs hi (Or.inr (Or.inr ⟨i.toNat, hk, hi2, h3⟩))
end Go.Proofs.YtikokedphocpiaaGreatDoor
