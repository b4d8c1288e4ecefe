/- leaf.value: an attribute's value. -/
import Derived.Test.YtjhfmdfihbkcaaaGreatDoorAtLeaf
import Derived.Test.YtjhfmdfihbkcaaaGreatDoorAtCodeP
namespace Go.Proofs.YtjhfmdfihbkcaaaGreatDoor
open Go.RowKit

def valP (b : UInt8) : Bool := decide (32 < b.toNat) && decide (Lib.indexByte [34, 39, 61, 60, 62, 96] b < 0)
def quoteN (l : List UInt8) (b : UInt8) (i : Nat) : Option Nat := if Lib.indexByte (l.drop (i + 1)) b < 0 then none else some (i + (Lib.indexByte (l.drop (i + 1)) b).toNat + 2)
def bareN (l : List UInt8) (i : Nat) : Option Nat := if run valP l i = i then none else some (run valP l i)
def valN (l : List UInt8) (i : Nat) : Option Nat := if h : i < l.length then (if l[i] = 34 ∨ l[i] = 39 then quoteN l l[i] i else bareN l i) else none
set_option maxHeartbeats 4000000 in
set_option maxRecDepth 100000 in
theorem val_q34 (s : ByteArray) (i : Nat) (w : World) (hs : s.size ≤ 1099511627) (hi : i < s.size) (h : s[i] = 34) : Calls Tryz.prog 44 #[.string s, .int .i64 (i : Int)] w (RI w (optI (quoteN s.data.toList 34 i))) := by
  have z1 : decide (s.size ≤ i) = false := by simp; omega
  have hki : (i : Int) < (s.size : Int) := by omega
  have hki1 : (i : Int) + 1 ≤ (s.size : Int) := by omega
  obtain ⟨X, hX⟩ : ∃ X, s.extract (i + 1) s.size = X := ⟨_, rfl⟩
  have hex := ext_drop s (i + 1)
  rw [hX] at hex
  have hXl : X.data.toList.length = X.size := Array.length_toList
  have hXs : X.size ≤ s.size := by rw [← hX, ByteArray.size_extract]; omega
  have zc : (s[i].toNat : Int) = 34 := by rw [h]; rfl
  rcases indexByte_spec X.data.toList 34 with ⟨hq, _⟩ | ⟨a, hq, h2, _⟩
  · have hv : quoteN s.data.toList 34 i = none := by unfold quoteN; rw [← hex, hq]; rfl
    rw [hv]
    have HQ := Lib.hid hq
    have HX := Lib.hid hX
    clear hq hv hX hex hXl h
    go_enter Tryz.func44, Tryz.ntmps44
    go_wp2_with fail
    rw [HX.out]
    refine Calls.mono (indexByte_any X 34 _) ?_
    rintro e w' ⟨rfl, rfl⟩
    rw [HQ.out]
    go_wp2
    go_ret
    exact ⟨rfl, rfl⟩
  · have ha : a < X.size := by rw [← hXl]; exact (List.getElem?_eq_some_iff.1 h2).1
    have hv : quoteN s.data.toList 34 i = some (i + a + 2) := by unfold quoteN; rw [← hex, hq, if_neg (by omega)]; rfl
    have hb1 : (i : Int) + (a : Int) ≤ 2199023254 := by omega
    have hv2 : optI (some (i + a + 2)) = (i : Int) + (a : Int) + 2 := by show ((i + a + 2 : Nat) : Int) = _; omega
    rw [hv]
    have HV := Lib.hid hv2
    have HQ := Lib.hid hq
    have HX := Lib.hid hX
    clear hq hv hX hex hXl h h2 hv2
    go_enter Tryz.func44, Tryz.ntmps44
    go_wp2_with fail
    rw [HX.out]
    refine Calls.mono (indexByte_any X 34 _) ?_
    rintro e w' ⟨rfl, rfl⟩
    rw [HQ.out]
    go_wp2
    go_ret
    rw [HV.out]
    exact ⟨rfl, rfl⟩
set_option maxHeartbeats 4000000 in
set_option maxRecDepth 100000 in
theorem val_q39 (s : ByteArray) (i : Nat) (w : World) (hs : s.size ≤ 1099511627) (hi : i < s.size) (h : s[i] = 39) : Calls Tryz.prog 44 #[.string s, .int .i64 (i : Int)] w (RI w (optI (quoteN s.data.toList 39 i))) := by
  have z1 : decide (s.size ≤ i) = false := by simp; omega
  have hki : (i : Int) < (s.size : Int) := by omega
  have hki1 : (i : Int) + 1 ≤ (s.size : Int) := by omega
  obtain ⟨X, hX⟩ : ∃ X, s.extract (i + 1) s.size = X := ⟨_, rfl⟩
  have hex := ext_drop s (i + 1)
  rw [hX] at hex
  have hXl : X.data.toList.length = X.size := Array.length_toList
  have hXs : X.size ≤ s.size := by rw [← hX, ByteArray.size_extract]; omega
  have zc : (s[i].toNat : Int) = 39 := by rw [h]; rfl
  rcases indexByte_spec X.data.toList 39 with ⟨hq, _⟩ | ⟨a, hq, h2, _⟩
  · have hv : quoteN s.data.toList 39 i = none := by unfold quoteN; rw [← hex, hq]; rfl
    rw [hv]
    have HQ := Lib.hid hq
    have HX := Lib.hid hX
    clear hq hv hX hex hXl h
    go_enter Tryz.func44, Tryz.ntmps44
    go_wp2_with fail
    rw [HX.out]
    refine Calls.mono (indexByte_any X 39 _) ?_
    rintro e w' ⟨rfl, rfl⟩
    rw [HQ.out]
    go_wp2
    go_ret
    exact ⟨rfl, rfl⟩
  · have ha : a < X.size := by rw [← hXl]; exact (List.getElem?_eq_some_iff.1 h2).1
    have hv : quoteN s.data.toList 39 i = some (i + a + 2) := by unfold quoteN; rw [← hex, hq, if_neg (by omega)]; rfl
    have hb1 : (i : Int) + (a : Int) ≤ 2199023254 := by omega
    have hv2 : optI (some (i + a + 2)) = (i : Int) + (a : Int) + 2 := by show ((i + a + 2 : Nat) : Int) = _; omega
    rw [hv]
    have HV := Lib.hid hv2
    have HQ := Lib.hid hq
    have HX := Lib.hid hX
    clear hq hv hX hex hXl h h2 hv2
    go_enter Tryz.func44, Tryz.ntmps44
    go_wp2_with fail
    rw [HX.out]
    refine Calls.mono (indexByte_any X 39 _) ?_
    rintro e w' ⟨rfl, rfl⟩
    rw [HQ.out]
    go_wp2
    go_ret
    rw [HV.out]
    exact ⟨rfl, rfl⟩
set_option maxHeartbeats 4000000 in
set_option maxRecDepth 100000 in
theorem val_bare (s : ByteArray) (i : Nat) (w : World) (hs : s.size ≤ 1099511627) (hi : i < s.size) (h1 : s[i] ≠ 34) (h2 : s[i] ≠ 39) : Calls Tryz.prog 44 #[.string s, .int .i64 (i : Int)] w (RI w (optI (bareN s.data.toList i))) := by
  have hsl : s.data.toList.length = s.size := Array.length_toList
  have z1 : decide (s.size ≤ i) = false := by simp; omega
  have hki : (i : Int) < (s.size : Int) := by omega
  have y1 : ((s[i].toNat : Int) == 34) = false := by simp; intro e; exact h1 (UInt8.toNat_inj.1 (by show s[i].toNat = 34; omega))
  have y2 : ((s[i].toNat : Int) == 39) = false := by simp; intro e; exact h2 (UInt8.toNat_inj.1 (by show s[i].toNat = 39; omega))
  have HSL := Lib.hid hsl
  clear h1 h2 hsl
  go_enter Tryz.func44, Tryz.ntmps44
  go_wp2_with fail
  go_loopw [7] (fun v wr => RunW w valP s.data.toList i v wr) (fun v _ => s.size - (intOf v).toNat)
  case atStart => exact ⟨i, rfl, by rw [HSL.out]; omega, rfl, rfl⟩
  case round =>
    obtain ⟨k, rfl, hk, hrr, rfl⟩ := hrel
    rw [HSL.out] at hk
    have HR := Lib.hid hrr
    clear hrr
    by_cases hlt2 : k < s.size
    · have hki2 : (k : Int) < (s.size : Int) := by omega
      have hge : s.data.toList[k]'(by rw [HSL.out]; exact hlt2) = s[k] := rfl
      by_cases h32 : 32 < s[k].toNat
      · have z32 : decide ((32 : Int) < (s[k].toNat : Int)) = true := by simp; omega
        obtain ⟨q, hq⟩ : ∃ q, Lib.indexByte [34, 39, 61, 60, 62, 96] s[k] = q := ⟨_, rfl⟩
        have HQ := Lib.hid hq
        by_cases hq0 : q < 0
        · have zq : decide (q < 0) = true := by simpa using hq0
          have hp : valP (s.data.toList[k]'(by rw [HSL.out]; exact hlt2)) = true := by unfold valP; rw [hge, hq, zq, decide_eq_true h32]; rfl
          have HR2 := Lib.hid (run_yes (by rw [HSL.out]; exact hlt2) hp)
          clear hge hp hq hq0 h32
          go_wp2_with fail
          refine Calls.mono (indexByte_any ⟨#[34, 39, 61, 60, 62, 96]⟩ s[k] _) ?_
          rintro e w' ⟨rfl, rfl⟩
          rw [show (⟨#[34, 39, 61, 60, 62, 96]⟩ : ByteArray).data.toList = [34, 39, 61, 60, 62, 96] from rfl, HQ.out]
          go_wp2
          go_roundw
          case rel => exact ⟨k + 1, by go_num, by rw [HSL.out]; exact hlt2, by rw [HR.out, HR2.out], rfl⟩
          case measure => simp [intOf]; omega
        · have zq : decide (q < 0) = false := by simpa using hq0
          have hp : valP (s.data.toList[k]'(by rw [HSL.out]; exact hlt2)) = false := by unfold valP; rw [hge, hq, zq, Bool.and_false]
          have hst := run_not (by rw [HSL.out]; exact hlt2) hp
          have hv : optI (bareN s.data.toList i) = if k = i then -1 else (k : Int) := by
            unfold bareN
            rw [HR.out, hst]
            by_cases hij : k = i
            · rw [if_pos hij, if_pos hij]; rfl
            · rw [if_neg hij, if_neg hij]; rfl
          have HV := Lib.hid hv
          clear hge hp hq hq0 h32 hst hv HR
          by_cases hij : k = i
          · subst hij
            go_wp2_with fail
            refine Calls.mono (indexByte_any ⟨#[34, 39, 61, 60, 62, 96]⟩ s[k] _) ?_
            rintro e w' ⟨rfl, rfl⟩
            rw [show (⟨#[34, 39, 61, 60, 62, 96]⟩ : ByteArray).data.toList = [34, 39, 61, 60, 62, 96] from rfl, HQ.out]
            go_wp2
            go_ret
            rw [HV.out, if_pos trivial]
            exact ⟨rfl, rfl⟩
          · have zki : ((k : Int) == (i : Int)) = false := by simp; omega
            go_wp2_with fail
            refine Calls.mono (indexByte_any ⟨#[34, 39, 61, 60, 62, 96]⟩ s[k] _) ?_
            rintro e w' ⟨rfl, rfl⟩
            rw [show (⟨#[34, 39, 61, 60, 62, 96]⟩ : ByteArray).data.toList = [34, 39, 61, 60, 62, 96] from rfl, HQ.out]
            go_wp2
            go_ret
            rw [HV.out, if_neg hij]
            exact ⟨rfl, rfl⟩
      · have z32 : decide ((32 : Int) < (s[k].toNat : Int)) = false := by simp; omega
        have hp : valP (s.data.toList[k]'(by rw [HSL.out]; exact hlt2)) = false := by unfold valP; rw [decide_eq_false (by rw [hge]; exact h32)]; rfl
        have hst := run_not (by rw [HSL.out]; exact hlt2) hp
        have hv : optI (bareN s.data.toList i) = if k = i then -1 else (k : Int) := by
          unfold bareN
          rw [HR.out, hst]
          by_cases hij : k = i
          · rw [if_pos hij, if_pos hij]; rfl
          · rw [if_neg hij, if_neg hij]; rfl
        have HV := Lib.hid hv
        clear hge hp h32 hst hv HR
        by_cases hij : k = i
        · subst hij
          go_wp2
          go_ret
          rw [HV.out, if_pos trivial]
          exact ⟨rfl, rfl⟩
        · have zki : ((k : Int) == (i : Int)) = false := by simp; omega
          go_wp2
          go_ret
          rw [HV.out, if_neg hij]
          exact ⟨rfl, rfl⟩
    · obtain rfl : k = s.size := by omega
      have hst : run valP s.data.toList s.size = s.size := run_end (by rw [HSL.out]; exact Nat.le_refl _)
      have hv : optI (bareN s.data.toList i) = (s.size : Int) := by
        unfold bareN
        rw [HR.out, hst, if_neg (by omega)]
        rfl
      have HV := Lib.hid hv
      have zsi : ((s.size : Int) == (i : Int)) = false := by simp; omega
      clear hv hst HR
      go_wp2
      go_ret
      rw [HV.out]
      exact ⟨rfl, rfl⟩
theorem value_any (s : ByteArray) (i : Nat) (w : World) (hs : s.size ≤ 1099511627) (hi : i ≤ s.size) : Calls Tryz.prog 44 #[.string s, .int .i64 (i : Int)] w (RI w (optI (valN s.data.toList i))) := by
  have hsl : s.data.toList.length = s.size := Array.length_toList
  by_cases hlt : i < s.size
  · have hv : valN s.data.toList i = if s[i] = 34 ∨ s[i] = 39 then quoteN s.data.toList s[i] i else bareN s.data.toList i := by unfold valN; rw [dif_pos (by rw [hsl]; exact hlt)]; rfl
    rw [hv]
    by_cases h1 : s[i] = 34
    · rw [if_pos (.inl h1), h1]
      exact val_q34 s i w hs hlt h1
    · by_cases h2 : s[i] = 39
      · rw [if_pos (.inr h2), h2]
        exact val_q39 s i w hs hlt h2
      · rw [if_neg (by rintro (h | h); exact h1 h; exact h2 h)]
        exact val_bare s i w hs hlt h1 h2
  · obtain rfl : i = s.size := by omega
    have hv : valN s.data.toList s.size = none := by unfold valN; rw [dif_neg (by rw [hsl]; omega)]
    rw [hv]
    clear hv hsl
    go_enter Tryz.func44, Tryz.ntmps44
    go_wp2
    go_ret
    exact ⟨rfl, rfl⟩
end Go.Proofs.YtjhfmdfihbkcaaaGreatDoor
