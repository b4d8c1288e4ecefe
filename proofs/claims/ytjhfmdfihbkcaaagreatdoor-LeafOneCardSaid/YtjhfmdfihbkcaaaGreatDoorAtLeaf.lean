/- leaf: a byte of a name, a gap, a name. -/
import Derived.Test.YtjhfmdfihbkcaaaGreatDoorAtAll
import Derived.Test.YtjhfmdfihbkcaaaGreatDoorShelf
import Derived.Shelf.Strings.SlTrimAscii
namespace Go.Proofs.YtjhfmdfihbkcaaaGreatDoor
open Go.RowKit

def oneB (x : ByteArray) (b : UInt8) : Bool := letter b || decide (0 ≤ Lib.indexByte x.data.toList b)
theorem one_any (b : UInt8) (x : ByteArray) (w : World) : Calls Tryz.prog 42 #[.int .u8 (b.toNat : Int), .string x] w (RB w (oneB x b)) := by
  cases hw : letter b with
  | true =>
    have hs : oneB x b = true := by unfold oneB; rw [hw]; rfl
    rw [hs]
    have HW := Lib.hid hw
    clear hs hw
    go_enter Tryz.func42, Tryz.ntmps42
    go_wp2_with fail
    refine Calls.mono (letter_any b _) ?_
    rintro e w' ⟨rfl, rfl⟩
    rw [HW.out]
    go_wp2
    go_ret
    exact ⟨rfl, rfl⟩
  | false =>
    obtain ⟨q, hq⟩ : ∃ q, Lib.indexByte x.data.toList b = q := ⟨_, rfl⟩
    have hs : oneB x b = decide (0 ≤ q) := by unfold oneB; rw [hw, hq]; rfl
    rw [hs]
    have HW := Lib.hid hw
    have HQ := Lib.hid hq
    clear hs hw hq
    go_enter Tryz.func42, Tryz.ntmps42
    go_wp2_with fail
    refine Calls.mono (letter_any b _) ?_
    rintro e w' ⟨rfl, rfl⟩
    rw [HW.out]
    go_wp2_with fail
    refine Calls.mono (indexByte_any x b _) ?_
    rintro e w' ⟨rfl, rfl⟩
    rw [HQ.out]
    go_wp2
    go_ret
    exact ⟨rfl, rfl⟩

/-- Where the run of bytes with p, from j on, ends. -/
def run (p : UInt8 → Bool) (l : List UInt8) (j : Nat) : Nat := j + ((l.drop j).takeWhile p).length
theorem run_yes {p : UInt8 → Bool} {l : List UInt8} {j : Nat} (hj : j < l.length) (h : p l[j] = true) : run p l j = run p l (j + 1) := by
  unfold run
  rw [List.drop_eq_getElem_cons hj, List.takeWhile_cons_of_pos h, List.length_cons]
  omega
theorem run_not {p : UInt8 → Bool} {l : List UInt8} {j : Nat} (hj : j < l.length) (h : p l[j] = false) : run p l j = j := by
  unfold run
  rw [List.drop_eq_getElem_cons hj, List.takeWhile_cons_of_neg (by rw [h]; simp)]
  rfl
theorem run_end {p : UInt8 → Bool} {l : List UInt8} {j : Nat} (hj : l.length ≤ j) : run p l j = j := by
  unfold run
  rw [List.drop_eq_nil_of_le hj]
  rfl
theorem run_le (p : UInt8 → Bool) (l : List UInt8) (j : Nat) (hj : j ≤ l.length) : run p l j ≤ l.length := by
  unfold run
  have := (List.takeWhile_sublist (l := l.drop j) p).length_le
  rw [List.length_drop] at this
  omega
theorem run_drop (p : UInt8 → Bool) (l : List UInt8) (j : Nat) (hj : j ≤ l.length) : l.length - ((l.drop j).dropWhile p).length = run p l j := by
  unfold run
  have h : ((l.drop j).takeWhile p).length + ((l.drop j).dropWhile p).length = (l.drop j).length := by rw [← List.length_append, List.takeWhile_append_dropWhile]
  rw [List.length_drop] at h
  omega

def RIb (w : World) (v : Int) (e : Ending) (w' : World) : Prop := e = .returned (.int .i64 v) ∧ Below w.heap.size w w'
def gapN (l : List UInt8) (i : Nat) : Nat := run (fun b => ([32, 9, 10] : List UInt8).contains b) l i
set_option maxRecDepth 100000 in
theorem gap_any (s : ByteArray) (i : Nat) (w : World) (hs : s.size ≤ 1099511627) (hi : i ≤ s.size) : Calls Tryz.prog 24 #[.string s, .int .i64 (i : Int)] w (RIb w (gapN s.data.toList i : Nat)) := by
  have hsl : s.data.toList.length = s.size := Array.length_toList
  have hii : (i : Int) ≤ (s.size : Int) := by omega
  obtain ⟨X, hX⟩ : ∃ X : ByteArray, s.extract i s.size = X := ⟨_, rfl⟩
  have hXl : X.data.toList = s.data.toList.drop i := by
    rw [← hX, Lib.extract_data, ← hsl]
    exact List.take_of_length_le (by rw [List.length_drop]; omega)
  have hT := Any.strings_TrimLeft_laid Tryz.lays161 (by kernel_rfl) X ⟨#[32, 9, 10]⟩ w (by decide) (by
    intro j b h
    have h2 : b ∈ ([32, 9, 10] : List UInt8) := List.mem_of_getElem? h
    have h3 : ∀ c ∈ ([32, 9, 10] : List UInt8), c.toNat < 128 := by decide
    exact h3 b h2)
  rw [hXl, show (⟨#[32, 9, 10]⟩ : ByteArray).data.toList = [32, 9, 10] from rfl] at hT
  have hr := run_drop (fun b => ([32, 9, 10] : List UInt8).contains b) s.data.toList i (by omega)
  obtain ⟨Y, hY⟩ : ∃ Y : ByteArray, (⟨(Lib.trimLeftS (s.data.toList.drop i) [32, 9, 10]).toArray⟩ : ByteArray) = Y := ⟨_, rfl⟩
  have hYs : Y.size = ((s.data.toList.drop i).dropWhile (fun b => ([32, 9, 10] : List UInt8).contains b)).length := by rw [← hY]; rfl
  rw [← hYs, hsl] at hr
  have hle := run_le (fun b => ([32, 9, 10] : List UInt8).contains b) s.data.toList i (by omega)
  have hYle : Y.size ≤ s.size := by
    have := (List.dropWhile_sublist (l := s.data.toList.drop i) (fun b => ([32, 9, 10] : List UInt8).contains b)).length_le
    rw [List.length_drop] at this
    omega
  have hv : ((gapN s.data.toList i : Nat) : Int) = (s.size : Int) - (Y.size : Int) := by unfold gapN; omega
  rw [hY] at hT
  rw [hv]
  have HT := Lib.hid hT
  have HX := Lib.hid hX
  clear hT hX hXl hr hY hYs hle hv hsl
  go_enter Tryz.func24, Tryz.ntmps24
  go_wp2_with fail
  rw [HX.out]
  refine Calls.mono HT.out ?_
  rintro e w1 ⟨rfl, b1⟩
  go_wp2
  go_ret
  exact ⟨rfl, b1⟩

def wordP (r : ByteArray) (b : UInt8) : Bool := oneB r b || digit b
def optI : Option Nat → Int
  | none => -1
  | some n => n
def wordN (l : List UInt8) (f r : ByteArray) (i : Nat) : Option Nat := if h : i < l.length then (if oneB f l[i] = true then some (run (wordP r) l (i + 1)) else none) else none
def RunW (w : World) (p : UInt8 → Bool) (l : List UInt8) (i : Nat) (v : Value) (wr : World) : Prop := ∃ k : Nat, v = .int .i64 k ∧ k ≤ l.length ∧ run p l i = run p l k ∧ wr = w
def RI (w : World) (v : Int) (e : Ending) (w' : World) : Prop := e = .returned (.int .i64 v) ∧ w = w'
set_option maxHeartbeats 4000000 in
set_option maxRecDepth 100000 in
theorem name_any (s : ByteArray) (i : Nat) (f r : ByteArray) (w : World) (hs : s.size ≤ 1099511627) (hi : i ≤ s.size) : Calls Tryz.prog 22 #[.string s, .int .i64 (i : Int), .string f, .string r] w (RI w (optI (wordN s.data.toList f r i))) := by
  have hsl : s.data.toList.length = s.size := Array.length_toList
  by_cases hlt : i < s.size
  · have z1 : decide (s.size ≤ i) = false := by simp; omega
    have hki : (i : Int) < (s.size : Int) := by omega
    have hb : (i : Int) + 1 ≤ (s.size : Int) := by omega
    cases ho : oneB f s[i] with
    | false =>
      have hv : wordN s.data.toList f r i = none := by unfold wordN; rw [dif_pos (by rw [hsl]; exact hlt), if_neg (by rw [show s.data.toList[i]'(by rw [hsl]; exact hlt) = s[i] from rfl, ho]; simp)]
      rw [hv]
      have HO := Lib.hid ho
      clear hv ho hsl
      go_enter Tryz.func22, Tryz.ntmps22
      go_wp2_with fail
      refine Calls.mono (one_any s[i] f _) ?_
      rintro e w' ⟨rfl, rfl⟩
      rw [HO.out]
      go_wp2
      go_ret
      exact ⟨rfl, rfl⟩
    | true =>
      have hv : wordN s.data.toList f r i = some (run (wordP r) s.data.toList (i + 1)) := by unfold wordN; rw [dif_pos (by rw [hsl]; exact hlt), if_pos (by rw [show s.data.toList[i]'(by rw [hsl]; exact hlt) = s[i] from rfl, ho])]
      rw [hv]
      have HO := Lib.hid ho
      have HSL := Lib.hid hsl
      clear hv ho hsl
      go_enter Tryz.func22, Tryz.ntmps22
      go_wp2_with fail
      refine Calls.mono (one_any s[i] f _) ?_
      rintro e w' ⟨rfl, rfl⟩
      rw [HO.out]
      go_wp2_with fail
      go_loopw [1] (fun v wr => RunW w (wordP r) s.data.toList (i + 1) v wr) (fun v _ => s.size - (intOf v).toNat)
      case atStart => exact ⟨i + 1, by go_num, by rw [HSL.out]; exact hlt, rfl, rfl⟩
      case round =>
        obtain ⟨k, rfl, hk, hrr, rfl⟩ := hrel
        rw [HSL.out] at hk
        have HR := Lib.hid hrr
        clear hrr
        by_cases hlt2 : k < s.size
        · have hki2 : (k : Int) < (s.size : Int) := by omega
          have hki3 : decide ((k : Int) < (s.size : Int)) = true := by simp; omega
          have hge : s.data.toList[k]'(by rw [HSL.out]; exact hlt2) = s[k] := rfl
          cases ho : oneB r s[k] with
          | true =>
            have hp : wordP r (s.data.toList[k]'(by rw [HSL.out]; exact hlt2)) = true := by unfold wordP; rw [hge, ho]; rfl
            have hr2 := run_yes (by rw [HSL.out]; exact hlt2) hp
            have HR2 := Lib.hid hr2
            have HO2 := Lib.hid ho
            clear hge hp hr2 ho
            go_wp2_with fail
            refine Calls.mono (one_any s[k] r _) ?_
            rintro e w' ⟨rfl, rfl⟩
            rw [HO2.out]
            go_wp2
            go_roundw
            case rel => exact ⟨k + 1, by go_num, by rw [HSL.out]; exact hlt2, by rw [HR.out, HR2.out], rfl⟩
            case measure => simp [intOf]; omega
          | false =>
            cases hd : digit s[k] with
            | true =>
              have hp : wordP r (s.data.toList[k]'(by rw [HSL.out]; exact hlt2)) = true := by unfold wordP; rw [hge, ho, hd]; rfl
              have hr2 := run_yes (by rw [HSL.out]; exact hlt2) hp
              have HR2 := Lib.hid hr2
              have HO2 := Lib.hid ho
              have HD := Lib.hid hd
              clear hge hp hr2 ho hd
              go_wp2_with fail
              refine Calls.mono (one_any s[k] r _) ?_
              rintro e w' ⟨rfl, rfl⟩
              rw [HO2.out]
              go_wp2_with fail
              refine Calls.mono (digit_any s[k] _) ?_
              rintro e w' ⟨rfl, rfl⟩
              rw [HD.out]
              go_wp2
              go_roundw
              case rel => exact ⟨k + 1, by go_num, by rw [HSL.out]; exact hlt2, by rw [HR.out, HR2.out], rfl⟩
              case measure => simp [intOf]; omega
            | false =>
              have hp : wordP r (s.data.toList[k]'(by rw [HSL.out]; exact hlt2)) = false := by unfold wordP; rw [hge, ho, hd]; rfl
              have hr2 := run_not (by rw [HSL.out]; exact hlt2) hp
              have hv : optI (some (run (wordP r) s.data.toList (i + 1))) = (k : Int) := by rw [HR.out, hr2]; rfl
              have HV := Lib.hid hv
              have HO2 := Lib.hid ho
              have HD := Lib.hid hd
              clear hge hp hr2 ho hd hv
              go_wp2_with fail
              refine Calls.mono (one_any s[k] r _) ?_
              rintro e w' ⟨rfl, rfl⟩
              rw [HO2.out]
              go_wp2_with fail
              refine Calls.mono (digit_any s[k] _) ?_
              rintro e w' ⟨rfl, rfl⟩
              rw [HD.out]
              go_wp2
              go_ret
              rw [HV.out]
              exact ⟨rfl, rfl⟩
        · obtain rfl : k = s.size := by omega
          have he : run (wordP r) s.data.toList s.size = s.size := run_end (by rw [HSL.out]; exact Nat.le_refl _)
          have hv : optI (some (run (wordP r) s.data.toList (i + 1))) = (s.size : Int) := by rw [HR.out, he]; rfl
          have HV := Lib.hid hv
          clear he hv HR
          go_wp2
          go_ret
          rw [HV.out]
          exact ⟨rfl, rfl⟩
  · obtain rfl : i = s.size := by omega
    have z1 : decide ((s.size : Int) ≤ (s.size : Int)) = true := by simp
    have hv : wordN s.data.toList f r s.size = none := by unfold wordN; rw [dif_neg (by rw [hsl]; omega)]
    rw [hv]
    clear hv hsl
    go_enter Tryz.func22, Tryz.ntmps22
    go_wp2
    go_ret
    exact ⟨rfl, rfl⟩
end Go.Proofs.YtjhfmdfihbkcaaaGreatDoor
