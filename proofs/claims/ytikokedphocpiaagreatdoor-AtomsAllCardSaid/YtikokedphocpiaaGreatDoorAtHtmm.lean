/- atoms.HTML: the six signs. -/
import Derived.Test.YtikokedphocpiaaGreatDoorAtHtml
namespace Go.Proofs.YtikokedphocpiaaGreatDoor
open Go.RowKit

theorem html_x0 (w : World) : (Instr.index 46 (.agg #[.string ⟨#[60, 33, 45, 45, 62]⟩, .string ⟨#[]⟩, .string ⟨#[60, 33, 45, 45, 45, 62]⟩, .string ⟨#[]⟩, .string ⟨#[60, 33, 45, 45]⟩, .string ⟨#[45, 45, 62]⟩, .string ⟨#[60, 63]⟩, .string ⟨#[63, 62]⟩, .string ⟨#[60, 33, 91, 67, 68, 65, 84, 65, 91]⟩, .string ⟨#[93, 93, 62]⟩, .string ⟨#[60, 33]⟩, .string ⟨#[62]⟩]) (.int .i64 0)).run Tryz.prog w = .ok (.agg #[.string ⟨#[60, 33, 45, 45, 62]⟩, .string ⟨#[]⟩]) w := by kernel_rfl
theorem html_x1 (w : World) : (Instr.index 46 (.agg #[.string ⟨#[60, 33, 45, 45, 62]⟩, .string ⟨#[]⟩, .string ⟨#[60, 33, 45, 45, 45, 62]⟩, .string ⟨#[]⟩, .string ⟨#[60, 33, 45, 45]⟩, .string ⟨#[45, 45, 62]⟩, .string ⟨#[60, 63]⟩, .string ⟨#[63, 62]⟩, .string ⟨#[60, 33, 91, 67, 68, 65, 84, 65, 91]⟩, .string ⟨#[93, 93, 62]⟩, .string ⟨#[60, 33]⟩, .string ⟨#[62]⟩]) (.int .i64 1)).run Tryz.prog w = .ok (.agg #[.string ⟨#[60, 33, 45, 45, 45, 62]⟩, .string ⟨#[]⟩]) w := by kernel_rfl
theorem html_x2 (w : World) : (Instr.index 46 (.agg #[.string ⟨#[60, 33, 45, 45, 62]⟩, .string ⟨#[]⟩, .string ⟨#[60, 33, 45, 45, 45, 62]⟩, .string ⟨#[]⟩, .string ⟨#[60, 33, 45, 45]⟩, .string ⟨#[45, 45, 62]⟩, .string ⟨#[60, 63]⟩, .string ⟨#[63, 62]⟩, .string ⟨#[60, 33, 91, 67, 68, 65, 84, 65, 91]⟩, .string ⟨#[93, 93, 62]⟩, .string ⟨#[60, 33]⟩, .string ⟨#[62]⟩]) (.int .i64 2)).run Tryz.prog w = .ok (.agg #[.string ⟨#[60, 33, 45, 45]⟩, .string ⟨#[45, 45, 62]⟩]) w := by kernel_rfl
theorem html_x3 (w : World) : (Instr.index 46 (.agg #[.string ⟨#[60, 33, 45, 45, 62]⟩, .string ⟨#[]⟩, .string ⟨#[60, 33, 45, 45, 45, 62]⟩, .string ⟨#[]⟩, .string ⟨#[60, 33, 45, 45]⟩, .string ⟨#[45, 45, 62]⟩, .string ⟨#[60, 63]⟩, .string ⟨#[63, 62]⟩, .string ⟨#[60, 33, 91, 67, 68, 65, 84, 65, 91]⟩, .string ⟨#[93, 93, 62]⟩, .string ⟨#[60, 33]⟩, .string ⟨#[62]⟩]) (.int .i64 3)).run Tryz.prog w = .ok (.agg #[.string ⟨#[60, 63]⟩, .string ⟨#[63, 62]⟩]) w := by kernel_rfl
theorem html_x4 (w : World) : (Instr.index 46 (.agg #[.string ⟨#[60, 33, 45, 45, 62]⟩, .string ⟨#[]⟩, .string ⟨#[60, 33, 45, 45, 45, 62]⟩, .string ⟨#[]⟩, .string ⟨#[60, 33, 45, 45]⟩, .string ⟨#[45, 45, 62]⟩, .string ⟨#[60, 63]⟩, .string ⟨#[63, 62]⟩, .string ⟨#[60, 33, 91, 67, 68, 65, 84, 65, 91]⟩, .string ⟨#[93, 93, 62]⟩, .string ⟨#[60, 33]⟩, .string ⟨#[62]⟩]) (.int .i64 4)).run Tryz.prog w = .ok (.agg #[.string ⟨#[60, 33, 91, 67, 68, 65, 84, 65, 91]⟩, .string ⟨#[93, 93, 62]⟩]) w := by kernel_rfl
theorem html_x5 (w : World) : (Instr.index 46 (.agg #[.string ⟨#[60, 33, 45, 45, 62]⟩, .string ⟨#[]⟩, .string ⟨#[60, 33, 45, 45, 45, 62]⟩, .string ⟨#[]⟩, .string ⟨#[60, 33, 45, 45]⟩, .string ⟨#[45, 45, 62]⟩, .string ⟨#[60, 63]⟩, .string ⟨#[63, 62]⟩, .string ⟨#[60, 33, 91, 67, 68, 65, 84, 65, 91]⟩, .string ⟨#[93, 93, 62]⟩, .string ⟨#[60, 33]⟩, .string ⟨#[62]⟩]) (.int .i64 5)).run Tryz.prog w = .ok (.agg #[.string ⟨#[60, 33]⟩, .string ⟨#[62]⟩]) w := by kernel_rfl
theorem trimPrefix_size (X a : ByteArray) : (⟨(Lib.trimPrefix X.data.toList a.data.toList).toArray⟩ : ByteArray).size ≤ X.size := by
  have e : X.data.toList.length = X.size := Array.length_toList
  show (Lib.trimPrefix X.data.toList a.data.toList).length ≤ X.size
  unfold Lib.trimPrefix
  split
  · rw [List.length_drop]; omega
  · omega
theorem index_max (Y b : ByteArray) (w : World) (hs : Y.size < 4294967281) (hm : MaxB w) : Calls Tryz.prog 34 #[.string Y, .string b] w fun e w' => e = .returned (.int .i64 (Lib.index Y.data.toList b.data.toList)) ∧ w' = w := by
  obtain ⟨m, hm⟩ := hm
  exact Tryz.strings_Index Y b m w hs hm
theorem index_room (Y b : ByteArray) : Lib.index Y.data.toList b.data.toList = -1 ∨ ∃ n : Nat, Lib.index Y.data.toList b.data.toList = n ∧ n + b.size ≤ Y.size := Lib.indexB_cases Y b
def HtmlW (w : World) (l : List UInt8) (i E : Nat) (v : Value) (wr : World) : Prop := ∃ k : Nat, v = .int .i64 (k : Int) ∧ k ≤ 6 ∧ htmlS l i (htmlPs.drop k) = E ∧ Below w.heap.size w wr
set_option maxHeartbeats 16000000 in
set_option maxRecDepth 100000 in
theorem html_short (s : ByteArray) (i : Nat) (w : World) (hs : s.size ≤ 1099511627) (hm : MaxB w) (hi : i < s.size) (h : tagN (s.data.toList.drop i) = 0) (h2 : s.size - i ≤ 2) :
    Calls Tryz.prog 13 #[.string s, .int .i64 (i : Int)] w (RIb w (htmlC (s.data.toList.drop i) i : Nat)) := by
  have z1 : decide (s.size ≤ i) = false := by simp; omega
  have hki : (i : Int) < (s.size : Int) := by omega
  have hki1 : (i : Int) ≤ (s.size : Int) := by omega
  obtain ⟨X, hX⟩ : ∃ X, s.extract i s.size = X := ⟨_, rfl⟩
  have hex := ext_drop s i
  rw [hX] at hex
  have hXz : X.size = s.size - i := by rw [← hX, ByteArray.size_extract]; omega
  have hXs : X.size ≤ 2 := by omega
  have hT := fun w' => tag_any X w' (by omega)
  rw [← hex] at h ⊢
  have hv : htmlC X.data.toList i = htmlS X.data.toList i htmlPs := by unfold htmlC; rw [if_neg (by omega)]
  rw [hv]
  rw [h] at hT
  have hd : declB X.data.toList = false := by
    have e : X.data.toList.length ≤ 2 := by rw [show X.data.toList.length = X.size from Array.length_toList]; exact hXs
    revert e
    cases X.data.toList with
    | nil => intro _; rfl
    | cons a r => cases r with
      | nil => intro _; rfl
      | cons b r => cases r with
        | nil => intro _; rfl
        | cons c r => intro e; simp at e
  have z2 : decide ((2 : Int) < (X.size : Int)) = false := by simp; omega
  obtain ⟨E, hE⟩ : ∃ E, htmlS X.data.toList i htmlPs = E := ⟨_, rfl⟩
  rw [hE]
  have HE := Lib.hid hE
  have HT := Lib.hid hT
  have HX := Lib.hid hX
  have HD := Lib.hid hd
  clear hT hX hex hv hE hd h
  go_enter Tryz.func13, Tryz.ntmps13
  go_wp2_with fail
  rw [HX.out]
  refine Calls.mono (HT.out _) ?_
  rintro e w1 ⟨rfl, b1⟩
  have HB1 := Lib.hid b1
  clear b1
  go_wp2_with fail
  go_loopw [51] (fun v wr => HtmlW w X.data.toList i E v wr) (fun v _ => 6 - (intOf v).toNat)
  case atStart => exact ⟨0, rfl, by omega, HE.out, HB1.out⟩
  case round =>
    obtain ⟨k, rfl, hk, hE, hb⟩ := hrel
    have HB := Lib.hid hb
    have hz := hb.size
    clear hb HE
    rcases (show k = 0 ∨ k = 1 ∨ k = 2 ∨ k = 3 ∨ k = 4 ∨ k = 5 ∨ k = 6 by omega) with rfl | rfl | rfl | rfl | rfl | rfl | rfl
    · have x0 := html_x0
      rw [show htmlS X.data.toList i (htmlPs.drop 0) = (if (Lib.hasPrefix X.data.toList (⟨#[60, 33, 45, 45, 62]⟩ : ByteArray).data.toList && (!((⟨#[60, 33, 45, 45, 62]⟩ : ByteArray).data.toList == [60, 33]) || declB X.data.toList)) = true then (if Lib.index (Lib.trimPrefix X.data.toList (⟨#[60, 33, 45, 45, 62]⟩ : ByteArray).data.toList) (⟨#[]⟩ : ByteArray).data.toList < 0 then 0 else i + (⟨#[60, 33, 45, 45, 62]⟩ : ByteArray).size + (Lib.index (Lib.trimPrefix X.data.toList (⟨#[60, 33, 45, 45, 62]⟩ : ByteArray).data.toList) (⟨#[]⟩ : ByteArray).data.toList).toNat + (⟨#[]⟩ : ByteArray).size) else htmlS X.data.toList i (htmlPs.drop 1)) from rfl] at hE
      cases hp : Lib.hasPrefix X.data.toList (⟨#[60, 33, 45, 45, 62]⟩ : ByteArray).data.toList with
      | false =>
        rw [hp, Bool.false_and, if_neg (by simp)] at hE
        have HE2 := Lib.hid hE
        have HP := Lib.hid hp
        clear hp hE
        go_wp2_with fail
        refine Calls.mono (Tryz.strings_CutPrefix X ⟨#[60, 33, 45, 45, 62]⟩ _) ?_
        rintro e w5 ⟨rfl, rfl⟩
        rw [HP.out]
        go_wp2
        go_roundw
        case rel => exact ⟨1, rfl, by omega, HE2.out, HB.out.alloc hz _⟩
        case measure => simp [intOf]
      | true =>
        rw [hp, show (!((⟨#[60, 33, 45, 45, 62]⟩ : ByteArray).data.toList == [60, 33]) || declB X.data.toList) = true from rfl, Bool.and_true, if_pos rfl] at hE
        have HP := Lib.hid hp
        clear hp
        obtain ⟨Y, hY⟩ : ∃ Y : ByteArray, (⟨(Lib.trimPrefix X.data.toList (⟨#[60, 33, 45, 45, 62]⟩ : ByteArray).data.toList).toArray⟩ : ByteArray) = Y := ⟨_, rfl⟩
        have hYl : Lib.trimPrefix X.data.toList (⟨#[60, 33, 45, 45, 62]⟩ : ByteArray).data.toList = Y.data.toList := by rw [← hY]
        have hYs : Y.size ≤ X.size := by rw [← hY]; exact trimPrefix_size X _
        have hC := fun w' => Tryz.strings_CutPrefix X ⟨#[60, 33, 45, 45, 62]⟩ w'
        rw [hY] at hC
        rw [hYl] at hE
        have HC := Lib.hid hC
        have HI := Lib.hid fun w' => index_max Y ⟨#[]⟩ w' (by omega)
        have hI := index_room Y ⟨#[]⟩
        have hmw : MaxB (wr.alloc (.cells #[.string ⟨#[60, 33, 45, 45, 62]⟩, .string ⟨#[]⟩] 45)) := hm.later (HB.out.alloc hz _)
        have HM := Lib.hid hmw
        clear hY hYl hC hmw
        obtain ⟨q, hq⟩ : ∃ q, Lib.index Y.data.toList (⟨#[]⟩ : ByteArray).data.toList = q := ⟨_, rfl⟩
        rw [hq] at hE hI
        have HQ := Lib.hid hq
        clear hq
        rcases hI with rfl | ⟨n, rfl, hn⟩
        · rw [if_pos (by decide)] at hE
          subst hE
          go_wp2_with fail
          refine Calls.mono (HC.out _) ?_
          rintro e w5 ⟨rfl, rfl⟩
          rw [HP.out]
          go_wp2_with fail
          refine Calls.mono (HI.out _ HM.out) ?_
          rintro e w6 ⟨rfl, rfl⟩
          rw [HQ.out]
          go_wp2
          go_ret
          exact ⟨rfl, HB.out.alloc hz _⟩
        · rw [if_neg (by omega)] at hE
          have hv : (E : Int) = (i : Int) + 5 + (n : Int) + 0 := by
            rw [← hE, show (⟨#[60, 33, 45, 45, 62]⟩ : ByteArray).size = 5 from rfl, show (⟨#[]⟩ : ByteArray).size = 0 from rfl]
            omega
          have hb1 : (i : Int) + (n : Int) ≤ 2199023254 := by omega
          have HV := Lib.hid hv
          clear hE hv
          go_wp2_with fail
          refine Calls.mono (HC.out _) ?_
          rintro e w5 ⟨rfl, rfl⟩
          rw [HP.out]
          go_wp2_with fail
          refine Calls.mono (HI.out _ HM.out) ?_
          rintro e w6 ⟨rfl, rfl⟩
          rw [HQ.out]
          go_wp2
          go_ret
          rw [HV.out]
          exact ⟨by go_num, HB.out.alloc hz _⟩
    · have x0 := html_x1
      rw [show htmlS X.data.toList i (htmlPs.drop 1) = (if (Lib.hasPrefix X.data.toList (⟨#[60, 33, 45, 45, 45, 62]⟩ : ByteArray).data.toList && (!((⟨#[60, 33, 45, 45, 45, 62]⟩ : ByteArray).data.toList == [60, 33]) || declB X.data.toList)) = true then (if Lib.index (Lib.trimPrefix X.data.toList (⟨#[60, 33, 45, 45, 45, 62]⟩ : ByteArray).data.toList) (⟨#[]⟩ : ByteArray).data.toList < 0 then 0 else i + (⟨#[60, 33, 45, 45, 45, 62]⟩ : ByteArray).size + (Lib.index (Lib.trimPrefix X.data.toList (⟨#[60, 33, 45, 45, 45, 62]⟩ : ByteArray).data.toList) (⟨#[]⟩ : ByteArray).data.toList).toNat + (⟨#[]⟩ : ByteArray).size) else htmlS X.data.toList i (htmlPs.drop 2)) from rfl] at hE
      cases hp : Lib.hasPrefix X.data.toList (⟨#[60, 33, 45, 45, 45, 62]⟩ : ByteArray).data.toList with
      | false =>
        rw [hp, Bool.false_and, if_neg (by simp)] at hE
        have HE2 := Lib.hid hE
        have HP := Lib.hid hp
        clear hp hE
        go_wp2_with fail
        refine Calls.mono (Tryz.strings_CutPrefix X ⟨#[60, 33, 45, 45, 45, 62]⟩ _) ?_
        rintro e w5 ⟨rfl, rfl⟩
        rw [HP.out]
        go_wp2
        go_roundw
        case rel => exact ⟨2, rfl, by omega, HE2.out, HB.out.alloc hz _⟩
        case measure => simp [intOf]
      | true =>
        rw [hp, show (!((⟨#[60, 33, 45, 45, 45, 62]⟩ : ByteArray).data.toList == [60, 33]) || declB X.data.toList) = true from rfl, Bool.and_true, if_pos rfl] at hE
        have HP := Lib.hid hp
        clear hp
        obtain ⟨Y, hY⟩ : ∃ Y : ByteArray, (⟨(Lib.trimPrefix X.data.toList (⟨#[60, 33, 45, 45, 45, 62]⟩ : ByteArray).data.toList).toArray⟩ : ByteArray) = Y := ⟨_, rfl⟩
        have hYl : Lib.trimPrefix X.data.toList (⟨#[60, 33, 45, 45, 45, 62]⟩ : ByteArray).data.toList = Y.data.toList := by rw [← hY]
        have hYs : Y.size ≤ X.size := by rw [← hY]; exact trimPrefix_size X _
        have hC := fun w' => Tryz.strings_CutPrefix X ⟨#[60, 33, 45, 45, 45, 62]⟩ w'
        rw [hY] at hC
        rw [hYl] at hE
        have HC := Lib.hid hC
        have HI := Lib.hid fun w' => index_max Y ⟨#[]⟩ w' (by omega)
        have hI := index_room Y ⟨#[]⟩
        have hmw : MaxB (wr.alloc (.cells #[.string ⟨#[60, 33, 45, 45, 45, 62]⟩, .string ⟨#[]⟩] 45)) := hm.later (HB.out.alloc hz _)
        have HM := Lib.hid hmw
        clear hY hYl hC hmw
        obtain ⟨q, hq⟩ : ∃ q, Lib.index Y.data.toList (⟨#[]⟩ : ByteArray).data.toList = q := ⟨_, rfl⟩
        rw [hq] at hE hI
        have HQ := Lib.hid hq
        clear hq
        rcases hI with rfl | ⟨n, rfl, hn⟩
        · rw [if_pos (by decide)] at hE
          subst hE
          go_wp2_with fail
          refine Calls.mono (HC.out _) ?_
          rintro e w5 ⟨rfl, rfl⟩
          rw [HP.out]
          go_wp2_with fail
          refine Calls.mono (HI.out _ HM.out) ?_
          rintro e w6 ⟨rfl, rfl⟩
          rw [HQ.out]
          go_wp2
          go_ret
          exact ⟨rfl, HB.out.alloc hz _⟩
        · rw [if_neg (by omega)] at hE
          have hv : (E : Int) = (i : Int) + 6 + (n : Int) + 0 := by
            rw [← hE, show (⟨#[60, 33, 45, 45, 45, 62]⟩ : ByteArray).size = 6 from rfl, show (⟨#[]⟩ : ByteArray).size = 0 from rfl]
            omega
          have hb1 : (i : Int) + (n : Int) ≤ 2199023254 := by omega
          have HV := Lib.hid hv
          clear hE hv
          go_wp2_with fail
          refine Calls.mono (HC.out _) ?_
          rintro e w5 ⟨rfl, rfl⟩
          rw [HP.out]
          go_wp2_with fail
          refine Calls.mono (HI.out _ HM.out) ?_
          rintro e w6 ⟨rfl, rfl⟩
          rw [HQ.out]
          go_wp2
          go_ret
          rw [HV.out]
          exact ⟨by go_num, HB.out.alloc hz _⟩
    · have x0 := html_x2
      rw [show htmlS X.data.toList i (htmlPs.drop 2) = (if (Lib.hasPrefix X.data.toList (⟨#[60, 33, 45, 45]⟩ : ByteArray).data.toList && (!((⟨#[60, 33, 45, 45]⟩ : ByteArray).data.toList == [60, 33]) || declB X.data.toList)) = true then (if Lib.index (Lib.trimPrefix X.data.toList (⟨#[60, 33, 45, 45]⟩ : ByteArray).data.toList) (⟨#[45, 45, 62]⟩ : ByteArray).data.toList < 0 then 0 else i + (⟨#[60, 33, 45, 45]⟩ : ByteArray).size + (Lib.index (Lib.trimPrefix X.data.toList (⟨#[60, 33, 45, 45]⟩ : ByteArray).data.toList) (⟨#[45, 45, 62]⟩ : ByteArray).data.toList).toNat + (⟨#[45, 45, 62]⟩ : ByteArray).size) else htmlS X.data.toList i (htmlPs.drop 3)) from rfl] at hE
      cases hp : Lib.hasPrefix X.data.toList (⟨#[60, 33, 45, 45]⟩ : ByteArray).data.toList with
      | false =>
        rw [hp, Bool.false_and, if_neg (by simp)] at hE
        have HE2 := Lib.hid hE
        have HP := Lib.hid hp
        clear hp hE
        go_wp2_with fail
        refine Calls.mono (Tryz.strings_CutPrefix X ⟨#[60, 33, 45, 45]⟩ _) ?_
        rintro e w5 ⟨rfl, rfl⟩
        rw [HP.out]
        go_wp2
        go_roundw
        case rel => exact ⟨3, rfl, by omega, HE2.out, HB.out.alloc hz _⟩
        case measure => simp [intOf]
      | true =>
        rw [hp, show (!((⟨#[60, 33, 45, 45]⟩ : ByteArray).data.toList == [60, 33]) || declB X.data.toList) = true from rfl, Bool.and_true, if_pos rfl] at hE
        have HP := Lib.hid hp
        clear hp
        obtain ⟨Y, hY⟩ : ∃ Y : ByteArray, (⟨(Lib.trimPrefix X.data.toList (⟨#[60, 33, 45, 45]⟩ : ByteArray).data.toList).toArray⟩ : ByteArray) = Y := ⟨_, rfl⟩
        have hYl : Lib.trimPrefix X.data.toList (⟨#[60, 33, 45, 45]⟩ : ByteArray).data.toList = Y.data.toList := by rw [← hY]
        have hYs : Y.size ≤ X.size := by rw [← hY]; exact trimPrefix_size X _
        have hC := fun w' => Tryz.strings_CutPrefix X ⟨#[60, 33, 45, 45]⟩ w'
        rw [hY] at hC
        rw [hYl] at hE
        have HC := Lib.hid hC
        have HI := Lib.hid fun w' => index_max Y ⟨#[45, 45, 62]⟩ w' (by omega)
        have hI := index_room Y ⟨#[45, 45, 62]⟩
        have hmw : MaxB (wr.alloc (.cells #[.string ⟨#[60, 33, 45, 45]⟩, .string ⟨#[45, 45, 62]⟩] 45)) := hm.later (HB.out.alloc hz _)
        have HM := Lib.hid hmw
        clear hY hYl hC hmw
        obtain ⟨q, hq⟩ : ∃ q, Lib.index Y.data.toList (⟨#[45, 45, 62]⟩ : ByteArray).data.toList = q := ⟨_, rfl⟩
        rw [hq] at hE hI
        have HQ := Lib.hid hq
        clear hq
        rcases hI with rfl | ⟨n, rfl, hn⟩
        · rw [if_pos (by decide)] at hE
          subst hE
          go_wp2_with fail
          refine Calls.mono (HC.out _) ?_
          rintro e w5 ⟨rfl, rfl⟩
          rw [HP.out]
          go_wp2_with fail
          refine Calls.mono (HI.out _ HM.out) ?_
          rintro e w6 ⟨rfl, rfl⟩
          rw [HQ.out]
          go_wp2
          go_ret
          exact ⟨rfl, HB.out.alloc hz _⟩
        · rw [if_neg (by omega)] at hE
          have hv : (E : Int) = (i : Int) + 4 + (n : Int) + 3 := by
            rw [← hE, show (⟨#[60, 33, 45, 45]⟩ : ByteArray).size = 4 from rfl, show (⟨#[45, 45, 62]⟩ : ByteArray).size = 3 from rfl]
            omega
          have hb1 : (i : Int) + (n : Int) ≤ 2199023254 := by omega
          have HV := Lib.hid hv
          clear hE hv
          go_wp2_with fail
          refine Calls.mono (HC.out _) ?_
          rintro e w5 ⟨rfl, rfl⟩
          rw [HP.out]
          go_wp2_with fail
          refine Calls.mono (HI.out _ HM.out) ?_
          rintro e w6 ⟨rfl, rfl⟩
          rw [HQ.out]
          go_wp2
          go_ret
          rw [HV.out]
          exact ⟨by go_num, HB.out.alloc hz _⟩
    · have x0 := html_x3
      rw [show htmlS X.data.toList i (htmlPs.drop 3) = (if (Lib.hasPrefix X.data.toList (⟨#[60, 63]⟩ : ByteArray).data.toList && (!((⟨#[60, 63]⟩ : ByteArray).data.toList == [60, 33]) || declB X.data.toList)) = true then (if Lib.index (Lib.trimPrefix X.data.toList (⟨#[60, 63]⟩ : ByteArray).data.toList) (⟨#[63, 62]⟩ : ByteArray).data.toList < 0 then 0 else i + (⟨#[60, 63]⟩ : ByteArray).size + (Lib.index (Lib.trimPrefix X.data.toList (⟨#[60, 63]⟩ : ByteArray).data.toList) (⟨#[63, 62]⟩ : ByteArray).data.toList).toNat + (⟨#[63, 62]⟩ : ByteArray).size) else htmlS X.data.toList i (htmlPs.drop 4)) from rfl] at hE
      cases hp : Lib.hasPrefix X.data.toList (⟨#[60, 63]⟩ : ByteArray).data.toList with
      | false =>
        rw [hp, Bool.false_and, if_neg (by simp)] at hE
        have HE2 := Lib.hid hE
        have HP := Lib.hid hp
        clear hp hE
        go_wp2_with fail
        refine Calls.mono (Tryz.strings_CutPrefix X ⟨#[60, 63]⟩ _) ?_
        rintro e w5 ⟨rfl, rfl⟩
        rw [HP.out]
        go_wp2
        go_roundw
        case rel => exact ⟨4, rfl, by omega, HE2.out, HB.out.alloc hz _⟩
        case measure => simp [intOf]
      | true =>
        rw [hp, show (!((⟨#[60, 63]⟩ : ByteArray).data.toList == [60, 33]) || declB X.data.toList) = true from rfl, Bool.and_true, if_pos rfl] at hE
        have HP := Lib.hid hp
        clear hp
        obtain ⟨Y, hY⟩ : ∃ Y : ByteArray, (⟨(Lib.trimPrefix X.data.toList (⟨#[60, 63]⟩ : ByteArray).data.toList).toArray⟩ : ByteArray) = Y := ⟨_, rfl⟩
        have hYl : Lib.trimPrefix X.data.toList (⟨#[60, 63]⟩ : ByteArray).data.toList = Y.data.toList := by rw [← hY]
        have hYs : Y.size ≤ X.size := by rw [← hY]; exact trimPrefix_size X _
        have hC := fun w' => Tryz.strings_CutPrefix X ⟨#[60, 63]⟩ w'
        rw [hY] at hC
        rw [hYl] at hE
        have HC := Lib.hid hC
        have HI := Lib.hid fun w' => index_max Y ⟨#[63, 62]⟩ w' (by omega)
        have hI := index_room Y ⟨#[63, 62]⟩
        have hmw : MaxB (wr.alloc (.cells #[.string ⟨#[60, 63]⟩, .string ⟨#[63, 62]⟩] 45)) := hm.later (HB.out.alloc hz _)
        have HM := Lib.hid hmw
        clear hY hYl hC hmw
        obtain ⟨q, hq⟩ : ∃ q, Lib.index Y.data.toList (⟨#[63, 62]⟩ : ByteArray).data.toList = q := ⟨_, rfl⟩
        rw [hq] at hE hI
        have HQ := Lib.hid hq
        clear hq
        rcases hI with rfl | ⟨n, rfl, hn⟩
        · rw [if_pos (by decide)] at hE
          subst hE
          go_wp2_with fail
          refine Calls.mono (HC.out _) ?_
          rintro e w5 ⟨rfl, rfl⟩
          rw [HP.out]
          go_wp2_with fail
          refine Calls.mono (HI.out _ HM.out) ?_
          rintro e w6 ⟨rfl, rfl⟩
          rw [HQ.out]
          go_wp2
          go_ret
          exact ⟨rfl, HB.out.alloc hz _⟩
        · rw [if_neg (by omega)] at hE
          have hv : (E : Int) = (i : Int) + 2 + (n : Int) + 2 := by
            rw [← hE, show (⟨#[60, 63]⟩ : ByteArray).size = 2 from rfl, show (⟨#[63, 62]⟩ : ByteArray).size = 2 from rfl]
            omega
          have hb1 : (i : Int) + (n : Int) ≤ 2199023254 := by omega
          have HV := Lib.hid hv
          clear hE hv
          go_wp2_with fail
          refine Calls.mono (HC.out _) ?_
          rintro e w5 ⟨rfl, rfl⟩
          rw [HP.out]
          go_wp2_with fail
          refine Calls.mono (HI.out _ HM.out) ?_
          rintro e w6 ⟨rfl, rfl⟩
          rw [HQ.out]
          go_wp2
          go_ret
          rw [HV.out]
          exact ⟨by go_num, HB.out.alloc hz _⟩
    · have x0 := html_x4
      rw [show htmlS X.data.toList i (htmlPs.drop 4) = (if (Lib.hasPrefix X.data.toList (⟨#[60, 33, 91, 67, 68, 65, 84, 65, 91]⟩ : ByteArray).data.toList && (!((⟨#[60, 33, 91, 67, 68, 65, 84, 65, 91]⟩ : ByteArray).data.toList == [60, 33]) || declB X.data.toList)) = true then (if Lib.index (Lib.trimPrefix X.data.toList (⟨#[60, 33, 91, 67, 68, 65, 84, 65, 91]⟩ : ByteArray).data.toList) (⟨#[93, 93, 62]⟩ : ByteArray).data.toList < 0 then 0 else i + (⟨#[60, 33, 91, 67, 68, 65, 84, 65, 91]⟩ : ByteArray).size + (Lib.index (Lib.trimPrefix X.data.toList (⟨#[60, 33, 91, 67, 68, 65, 84, 65, 91]⟩ : ByteArray).data.toList) (⟨#[93, 93, 62]⟩ : ByteArray).data.toList).toNat + (⟨#[93, 93, 62]⟩ : ByteArray).size) else htmlS X.data.toList i (htmlPs.drop 5)) from rfl] at hE
      cases hp : Lib.hasPrefix X.data.toList (⟨#[60, 33, 91, 67, 68, 65, 84, 65, 91]⟩ : ByteArray).data.toList with
      | false =>
        rw [hp, Bool.false_and, if_neg (by simp)] at hE
        have HE2 := Lib.hid hE
        have HP := Lib.hid hp
        clear hp hE
        go_wp2_with fail
        refine Calls.mono (Tryz.strings_CutPrefix X ⟨#[60, 33, 91, 67, 68, 65, 84, 65, 91]⟩ _) ?_
        rintro e w5 ⟨rfl, rfl⟩
        rw [HP.out]
        go_wp2
        go_roundw
        case rel => exact ⟨5, rfl, by omega, HE2.out, HB.out.alloc hz _⟩
        case measure => simp [intOf]
      | true =>
        rw [hp, show (!((⟨#[60, 33, 91, 67, 68, 65, 84, 65, 91]⟩ : ByteArray).data.toList == [60, 33]) || declB X.data.toList) = true from rfl, Bool.and_true, if_pos rfl] at hE
        have HP := Lib.hid hp
        clear hp
        obtain ⟨Y, hY⟩ : ∃ Y : ByteArray, (⟨(Lib.trimPrefix X.data.toList (⟨#[60, 33, 91, 67, 68, 65, 84, 65, 91]⟩ : ByteArray).data.toList).toArray⟩ : ByteArray) = Y := ⟨_, rfl⟩
        have hYl : Lib.trimPrefix X.data.toList (⟨#[60, 33, 91, 67, 68, 65, 84, 65, 91]⟩ : ByteArray).data.toList = Y.data.toList := by rw [← hY]
        have hYs : Y.size ≤ X.size := by rw [← hY]; exact trimPrefix_size X _
        have hC := fun w' => Tryz.strings_CutPrefix X ⟨#[60, 33, 91, 67, 68, 65, 84, 65, 91]⟩ w'
        rw [hY] at hC
        rw [hYl] at hE
        have HC := Lib.hid hC
        have HI := Lib.hid fun w' => index_max Y ⟨#[93, 93, 62]⟩ w' (by omega)
        have hI := index_room Y ⟨#[93, 93, 62]⟩
        have hmw : MaxB (wr.alloc (.cells #[.string ⟨#[60, 33, 91, 67, 68, 65, 84, 65, 91]⟩, .string ⟨#[93, 93, 62]⟩] 45)) := hm.later (HB.out.alloc hz _)
        have HM := Lib.hid hmw
        clear hY hYl hC hmw
        obtain ⟨q, hq⟩ : ∃ q, Lib.index Y.data.toList (⟨#[93, 93, 62]⟩ : ByteArray).data.toList = q := ⟨_, rfl⟩
        rw [hq] at hE hI
        have HQ := Lib.hid hq
        clear hq
        rcases hI with rfl | ⟨n, rfl, hn⟩
        · rw [if_pos (by decide)] at hE
          subst hE
          go_wp2_with fail
          refine Calls.mono (HC.out _) ?_
          rintro e w5 ⟨rfl, rfl⟩
          rw [HP.out]
          go_wp2_with fail
          refine Calls.mono (HI.out _ HM.out) ?_
          rintro e w6 ⟨rfl, rfl⟩
          rw [HQ.out]
          go_wp2
          go_ret
          exact ⟨rfl, HB.out.alloc hz _⟩
        · rw [if_neg (by omega)] at hE
          have hv : (E : Int) = (i : Int) + 9 + (n : Int) + 3 := by
            rw [← hE, show (⟨#[60, 33, 91, 67, 68, 65, 84, 65, 91]⟩ : ByteArray).size = 9 from rfl, show (⟨#[93, 93, 62]⟩ : ByteArray).size = 3 from rfl]
            omega
          have hb1 : (i : Int) + (n : Int) ≤ 2199023254 := by omega
          have HV := Lib.hid hv
          clear hE hv
          go_wp2_with fail
          refine Calls.mono (HC.out _) ?_
          rintro e w5 ⟨rfl, rfl⟩
          rw [HP.out]
          go_wp2_with fail
          refine Calls.mono (HI.out _ HM.out) ?_
          rintro e w6 ⟨rfl, rfl⟩
          rw [HQ.out]
          go_wp2
          go_ret
          rw [HV.out]
          exact ⟨by go_num, HB.out.alloc hz _⟩
    · have x0 := html_x5
      rw [show htmlS X.data.toList i (htmlPs.drop 5) = (if (Lib.hasPrefix X.data.toList (⟨#[60, 33]⟩ : ByteArray).data.toList && (!((⟨#[60, 33]⟩ : ByteArray).data.toList == [60, 33]) || declB X.data.toList)) = true then (if Lib.index (Lib.trimPrefix X.data.toList (⟨#[60, 33]⟩ : ByteArray).data.toList) (⟨#[62]⟩ : ByteArray).data.toList < 0 then 0 else i + (⟨#[60, 33]⟩ : ByteArray).size + (Lib.index (Lib.trimPrefix X.data.toList (⟨#[60, 33]⟩ : ByteArray).data.toList) (⟨#[62]⟩ : ByteArray).data.toList).toNat + (⟨#[62]⟩ : ByteArray).size) else htmlS X.data.toList i (htmlPs.drop 6)) from rfl] at hE
      cases hp : Lib.hasPrefix X.data.toList (⟨#[60, 33]⟩ : ByteArray).data.toList with
      | false =>
        rw [hp, Bool.false_and, if_neg (by simp)] at hE
        have HE2 := Lib.hid hE
        have HP := Lib.hid hp
        clear hp hE
        go_wp2_with fail
        refine Calls.mono (Tryz.strings_CutPrefix X ⟨#[60, 33]⟩ _) ?_
        rintro e w5 ⟨rfl, rfl⟩
        rw [HP.out]
        go_wp2
        go_roundw
        case rel => exact ⟨6, rfl, by omega, HE2.out, HB.out.alloc hz _⟩
        case measure => simp [intOf]
      | true =>
        rw [HD.out, show (!((⟨#[60, 33]⟩ : ByteArray).data.toList == [60, 33]) || false) = false from rfl, Bool.and_false, if_neg (by simp)] at hE
        have HE2 := Lib.hid hE
        have HP := Lib.hid hp
        clear hp hE
        go_wp2_with fail
        refine Calls.mono (Tryz.strings_CutPrefix X ⟨#[60, 33]⟩ _) ?_
        rintro e w5 ⟨rfl, rfl⟩
        rw [HP.out]
        go_wp2
        go_roundw
        case rel => exact ⟨6, rfl, by omega, HE2.out, HB.out.alloc hz _⟩
        case measure => simp [intOf]
    · have e0 : E = 0 := by rw [← hE]; rfl
      subst e0
      go_wp2
      go_ret
      exact ⟨rfl, HB.out⟩
end Go.Proofs.YtikokedphocpiaaGreatDoor
