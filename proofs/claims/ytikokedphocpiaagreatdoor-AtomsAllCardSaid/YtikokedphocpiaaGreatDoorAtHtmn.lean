/- atoms.HTML: the six signs, with more than two bytes ahead; and all of it. -/
import Derived.Test.YtikokedphocpiaaGreatDoorAtHtmm
import Derived.Test.YtikokedphocpiaaGreatDoorAtEnds
namespace Go.Proofs.YtikokedphocpiaaGreatDoor
open Go.RowKit

def pre2 (l : List UInt8) : Bool := l.take 2 == [60, 33]
def thirdB (l : List UInt8) : Bool := match l with
  | _ :: _ :: c :: _ => letter c
  | _ => false
theorem declB_eq (l : List UInt8) : declB l = (pre2 l && thirdB l) := by
  unfold declB pre2 thirdB
  match l with
  | [] => rfl
  | [a] => simp
  | [a, b] => simp
  | a :: b :: c :: r => simp
theorem pre2_ext (X : ByteArray) : ((X.extract 0 2).toList = [60, 33]) ↔ pre2 X.data.toList = true := by
  rw [ByteArray.toList_eq, Lib.extract_data]
  unfold pre2
  simp
theorem third_list : ∀ (l : List UInt8) (h : 2 < l.length), thirdB l = letter l[2]
  | _ :: _ :: _ :: _, _ => rfl
  | [], h => by simp at h
  | [_], h => by simp at h
  | [_, _], h => by simp at h
theorem third_get (X : ByteArray) (h : 2 < X.size) : thirdB X.data.toList = letter X[2] := third_list X.data.toList (by rw [Array.length_toList]; exact h)
set_option maxHeartbeats 16000000 in
set_option maxRecDepth 100000 in
theorem html_nod (s : ByteArray) (i : Nat) (w : World) (hs : s.size ≤ 1099511627) (hm : MaxB w) (hi : i < s.size) (h : tagN (s.data.toList.drop i) = 0) (h2 : 2 < s.size - i) (hq : pre2 (s.data.toList.drop i) = false) :
    Calls Tryz.prog 13 #[.string s, .int .i64 (i : Int)] w (RIb w (htmlC (s.data.toList.drop i) i : Nat)) := by
  have z1 : decide (s.size ≤ i) = false := by simp; omega
  have hki : (i : Int) < (s.size : Int) := by omega
  have hki1 : (i : Int) ≤ (s.size : Int) := by omega
  obtain ⟨X, hX⟩ : ∃ X, s.extract i s.size = X := ⟨_, rfl⟩
  have hex := ext_drop s i
  rw [hX] at hex
  have hXz : X.size = s.size - i := by rw [← hX, ByteArray.size_extract]; omega
  have hXs : 2 < X.size := by omega
  have hT := fun w' => tag_any X w' (by omega)
  rw [← hex] at h hq ⊢
  have hv : htmlC X.data.toList i = htmlS X.data.toList i htmlPs := by unfold htmlC; rw [if_neg (by omega)]
  rw [hv]
  rw [h] at hT
  have hd : declB X.data.toList = false := by rw [declB_eq, hq]; rfl
  have z2 : decide ((2 : Int) < (X.size : Int)) = true := by simp; omega
  have z3 : ¬ (X.extract 0 2).toList = [60, 33] := by rw [pre2_ext, hq]; simp
  obtain ⟨E, hE⟩ : ∃ E, htmlS X.data.toList i htmlPs = E := ⟨_, rfl⟩
  rw [hE]
  have HE := Lib.hid hE
  have HT := Lib.hid hT
  have HX := Lib.hid hX
  have HD := Lib.hid hd
  clear hT hX hex hv hE hd h hq
  go_enter Tryz.func13, Tryz.ntmps13
  go_wp2_with fail
  rw [HX.out]
  refine Calls.mono (HT.out _) ?_
  rintro e w1 ⟨rfl, b1⟩
  have HB1 := Lib.hid b1
  clear b1
  go_wp2_with fail

  go_loopw [51] (fun v wr => HtmlW w X.data.toList i E v wr) (fun v _ => 6 - (intOf v).toNat)
  case atStart => exact ⟨0, rfl, by omega, HE.out, HB1.out⟩
  case round =>
    obtain ⟨k, rfl, hk, hE, hb⟩ := hrel
    have HB := Lib.hid hb
    have hz := hb.size
    clear hb HE
    rcases (show k = 0 ∨ k = 1 ∨ k = 2 ∨ k = 3 ∨ k = 4 ∨ k = 5 ∨ k = 6 by omega) with rfl | rfl | rfl | rfl | rfl | rfl | rfl
    · have x0 := html_x0
      rw [show htmlS X.data.toList i (htmlPs.drop 0) = (if (Lib.hasPrefix X.data.toList (⟨#[60, 33, 45, 45, 62]⟩ : ByteArray).data.toList && (!((⟨#[60, 33, 45, 45, 62]⟩ : ByteArray).data.toList == [60, 33]) || declB X.data.toList)) = true then (if Lib.index (Lib.trimPrefix X.data.toList (⟨#[60, 33, 45, 45, 62]⟩ : ByteArray).data.toList) (⟨#[]⟩ : ByteArray).data.toList < 0 then 0 else i + (⟨#[60, 33, 45, 45, 62]⟩ : ByteArray).size + (Lib.index (Lib.trimPrefix X.data.toList (⟨#[60, 33, 45, 45, 62]⟩ : ByteArray).data.toList) (⟨#[]⟩ : ByteArray).data.toList).toNat + (⟨#[]⟩ : ByteArray).size) else htmlS X.data.toList i (htmlPs.drop 1)) from rfl] at hE
      cases hp : Lib.hasPrefix X.data.toList (⟨#[60, 33, 45, 45, 62]⟩ : ByteArray).data.toList with
      | false =>
        rw [hp, Bool.false_and, if_neg (by simp)] at hE
        have HE2 := Lib.hid hE
        have HP := Lib.hid hp
        clear hp hE
        go_wp2_with fail
        refine Calls.mono (Tryz.strings_CutPrefix X ⟨#[60, 33, 45, 45, 62]⟩ _) ?_
        rintro e w5 ⟨rfl, rfl⟩
        rw [HP.out]
        go_wp2
        go_roundw
        case rel => exact ⟨1, rfl, by omega, HE2.out, HB.out.alloc hz _⟩
        case measure => simp [intOf]
      | true =>
        rw [hp, show (!((⟨#[60, 33, 45, 45, 62]⟩ : ByteArray).data.toList == [60, 33]) || declB X.data.toList) = true from rfl, Bool.and_true, if_pos rfl] at hE
        have HP := Lib.hid hp
        clear hp
        obtain ⟨Y, hY⟩ : ∃ Y : ByteArray, (⟨(Lib.trimPrefix X.data.toList (⟨#[60, 33, 45, 45, 62]⟩ : ByteArray).data.toList).toArray⟩ : ByteArray) = Y := ⟨_, rfl⟩
        have hYl : Lib.trimPrefix X.data.toList (⟨#[60, 33, 45, 45, 62]⟩ : ByteArray).data.toList = Y.data.toList := by rw [← hY]
        have hYs : Y.size ≤ X.size := by rw [← hY]; exact trimPrefix_size X _
        have hC := fun w' => Tryz.strings_CutPrefix X ⟨#[60, 33, 45, 45, 62]⟩ w'
        rw [hY] at hC
        rw [hYl] at hE
        have HC := Lib.hid hC
        have HI := Lib.hid fun w' => index_max Y ⟨#[]⟩ w' (by omega)
        have hI := index_room Y ⟨#[]⟩
        have hmw : MaxB (wr.alloc (.cells #[.string ⟨#[60, 33, 45, 45, 62]⟩, .string ⟨#[]⟩] 45)) := hm.later (HB.out.alloc hz _)
        have HM := Lib.hid hmw
        clear hY hYl hC hmw
        obtain ⟨q, hq⟩ : ∃ q, Lib.index Y.data.toList (⟨#[]⟩ : ByteArray).data.toList = q := ⟨_, rfl⟩
        rw [hq] at hE hI
        have HQ := Lib.hid hq
        clear hq
        rcases hI with rfl | ⟨n, rfl, hn⟩
        · rw [if_pos (by decide)] at hE
          subst hE
          go_wp2_with fail
          refine Calls.mono (HC.out _) ?_
          rintro e w5 ⟨rfl, rfl⟩
          rw [HP.out]
          go_wp2_with fail
          refine Calls.mono (HI.out _ HM.out) ?_
          rintro e w6 ⟨rfl, rfl⟩
          rw [HQ.out]
          go_wp2
          go_ret
          exact ⟨rfl, HB.out.alloc hz _⟩
        · rw [if_neg (by omega)] at hE
          have hv : (E : Int) = (i : Int) + 5 + (n : Int) + 0 := by
            rw [← hE, show (⟨#[60, 33, 45, 45, 62]⟩ : ByteArray).size = 5 from rfl, show (⟨#[]⟩ : ByteArray).size = 0 from rfl]
            omega
          have hb1 : (i : Int) + (n : Int) ≤ 2199023254 := by omega
          have HV := Lib.hid hv
          clear hE hv
          go_wp2_with fail
          refine Calls.mono (HC.out _) ?_
          rintro e w5 ⟨rfl, rfl⟩
          rw [HP.out]
          go_wp2_with fail
          refine Calls.mono (HI.out _ HM.out) ?_
          rintro e w6 ⟨rfl, rfl⟩
          rw [HQ.out]
          go_wp2
          go_ret
          rw [HV.out]
          exact ⟨by go_num, HB.out.alloc hz _⟩
    · have x0 := html_x1
      rw [show htmlS X.data.toList i (htmlPs.drop 1) = (if (Lib.hasPrefix X.data.toList (⟨#[60, 33, 45, 45, 45, 62]⟩ : ByteArray).data.toList && (!((⟨#[60, 33, 45, 45, 45, 62]⟩ : ByteArray).data.toList == [60, 33]) || declB X.data.toList)) = true then (if Lib.index (Lib.trimPrefix X.data.toList (⟨#[60, 33, 45, 45, 45, 62]⟩ : ByteArray).data.toList) (⟨#[]⟩ : ByteArray).data.toList < 0 then 0 else i + (⟨#[60, 33, 45, 45, 45, 62]⟩ : ByteArray).size + (Lib.index (Lib.trimPrefix X.data.toList (⟨#[60, 33, 45, 45, 45, 62]⟩ : ByteArray).data.toList) (⟨#[]⟩ : ByteArray).data.toList).toNat + (⟨#[]⟩ : ByteArray).size) else htmlS X.data.toList i (htmlPs.drop 2)) from rfl] at hE
      cases hp : Lib.hasPrefix X.data.toList (⟨#[60, 33, 45, 45, 45, 62]⟩ : ByteArray).data.toList with
      | false =>
        rw [hp, Bool.false_and, if_neg (by simp)] at hE
        have HE2 := Lib.hid hE
        have HP := Lib.hid hp
        clear hp hE
        go_wp2_with fail
        refine Calls.mono (Tryz.strings_CutPrefix X ⟨#[60, 33, 45, 45, 45, 62]⟩ _) ?_
        rintro e w5 ⟨rfl, rfl⟩
        rw [HP.out]
        go_wp2
        go_roundw
        case rel => exact ⟨2, rfl, by omega, HE2.out, HB.out.alloc hz _⟩
        case measure => simp [intOf]
      | true =>
        rw [hp, show (!((⟨#[60, 33, 45, 45, 45, 62]⟩ : ByteArray).data.toList == [60, 33]) || declB X.data.toList) = true from rfl, Bool.and_true, if_pos rfl] at hE
        have HP := Lib.hid hp
        clear hp
        obtain ⟨Y, hY⟩ : ∃ Y : ByteArray, (⟨(Lib.trimPrefix X.data.toList (⟨#[60, 33, 45, 45, 45, 62]⟩ : ByteArray).data.toList).toArray⟩ : ByteArray) = Y := ⟨_, rfl⟩
        have hYl : Lib.trimPrefix X.data.toList (⟨#[60, 33, 45, 45, 45, 62]⟩ : ByteArray).data.toList = Y.data.toList := by rw [← hY]
        have hYs : Y.size ≤ X.size := by rw [← hY]; exact trimPrefix_size X _
        have hC := fun w' => Tryz.strings_CutPrefix X ⟨#[60, 33, 45, 45, 45, 62]⟩ w'
        rw [hY] at hC
        rw [hYl] at hE
        have HC := Lib.hid hC
        have HI := Lib.hid fun w' => index_max Y ⟨#[]⟩ w' (by omega)
        have hI := index_room Y ⟨#[]⟩
        have hmw : MaxB (wr.alloc (.cells #[.string ⟨#[60, 33, 45, 45, 45, 62]⟩, .string ⟨#[]⟩] 45)) := hm.later (HB.out.alloc hz _)
        have HM := Lib.hid hmw
        clear hY hYl hC hmw
        obtain ⟨q, hq⟩ : ∃ q, Lib.index Y.data.toList (⟨#[]⟩ : ByteArray).data.toList = q := ⟨_, rfl⟩
        rw [hq] at hE hI
        have HQ := Lib.hid hq
        clear hq
        rcases hI with rfl | ⟨n, rfl, hn⟩
        · rw [if_pos (by decide)] at hE
          subst hE
          go_wp2_with fail
          refine Calls.mono (HC.out _) ?_
          rintro e w5 ⟨rfl, rfl⟩
          rw [HP.out]
          go_wp2_with fail
          refine Calls.mono (HI.out _ HM.out) ?_
          rintro e w6 ⟨rfl, rfl⟩
          rw [HQ.out]
          go_wp2
          go_ret
          exact ⟨rfl, HB.out.alloc hz _⟩
        · rw [if_neg (by omega)] at hE
          have hv : (E : Int) = (i : Int) + 6 + (n : Int) + 0 := by
            rw [← hE, show (⟨#[60, 33, 45, 45, 45, 62]⟩ : ByteArray).size = 6 from rfl, show (⟨#[]⟩ : ByteArray).size = 0 from rfl]
            omega
          have hb1 : (i : Int) + (n : Int) ≤ 2199023254 := by omega
          have HV := Lib.hid hv
          clear hE hv
          go_wp2_with fail
          refine Calls.mono (HC.out _) ?_
          rintro e w5 ⟨rfl, rfl⟩
          rw [HP.out]
          go_wp2_with fail
          refine Calls.mono (HI.out _ HM.out) ?_
          rintro e w6 ⟨rfl, rfl⟩
          rw [HQ.out]
          go_wp2
          go_ret
          rw [HV.out]
          exact ⟨by go_num, HB.out.alloc hz _⟩
    · have x0 := html_x2
      rw [show htmlS X.data.toList i (htmlPs.drop 2) = (if (Lib.hasPrefix X.data.toList (⟨#[60, 33, 45, 45]⟩ : ByteArray).data.toList && (!((⟨#[60, 33, 45, 45]⟩ : ByteArray).data.toList == [60, 33]) || declB X.data.toList)) = true then (if Lib.index (Lib.trimPrefix X.data.toList (⟨#[60, 33, 45, 45]⟩ : ByteArray).data.toList) (⟨#[45, 45, 62]⟩ : ByteArray).data.toList < 0 then 0 else i + (⟨#[60, 33, 45, 45]⟩ : ByteArray).size + (Lib.index (Lib.trimPrefix X.data.toList (⟨#[60, 33, 45, 45]⟩ : ByteArray).data.toList) (⟨#[45, 45, 62]⟩ : ByteArray).data.toList).toNat + (⟨#[45, 45, 62]⟩ : ByteArray).size) else htmlS X.data.toList i (htmlPs.drop 3)) from rfl] at hE
      cases hp : Lib.hasPrefix X.data.toList (⟨#[60, 33, 45, 45]⟩ : ByteArray).data.toList with
      | false =>
        rw [hp, Bool.false_and, if_neg (by simp)] at hE
        have HE2 := Lib.hid hE
        have HP := Lib.hid hp
        clear hp hE
        go_wp2_with fail
        refine Calls.mono (Tryz.strings_CutPrefix X ⟨#[60, 33, 45, 45]⟩ _) ?_
        rintro e w5 ⟨rfl, rfl⟩
        rw [HP.out]
        go_wp2
        go_roundw
        case rel => exact ⟨3, rfl, by omega, HE2.out, HB.out.alloc hz _⟩
        case measure => simp [intOf]
      | true =>
        rw [hp, show (!((⟨#[60, 33, 45, 45]⟩ : ByteArray).data.toList == [60, 33]) || declB X.data.toList) = true from rfl, Bool.and_true, if_pos rfl] at hE
        have HP := Lib.hid hp
        clear hp
        obtain ⟨Y, hY⟩ : ∃ Y : ByteArray, (⟨(Lib.trimPrefix X.data.toList (⟨#[60, 33, 45, 45]⟩ : ByteArray).data.toList).toArray⟩ : ByteArray) = Y := ⟨_, rfl⟩
        have hYl : Lib.trimPrefix X.data.toList (⟨#[60, 33, 45, 45]⟩ : ByteArray).data.toList = Y.data.toList := by rw [← hY]
        have hYs : Y.size ≤ X.size := by rw [← hY]; exact trimPrefix_size X _
        have hC := fun w' => Tryz.strings_CutPrefix X ⟨#[60, 33, 45, 45]⟩ w'
        rw [hY] at hC
        rw [hYl] at hE
        have HC := Lib.hid hC
        have HI := Lib.hid fun w' => index_max Y ⟨#[45, 45, 62]⟩ w' (by omega)
        have hI := index_room Y ⟨#[45, 45, 62]⟩
        have hmw : MaxB (wr.alloc (.cells #[.string ⟨#[60, 33, 45, 45]⟩, .string ⟨#[45, 45, 62]⟩] 45)) := hm.later (HB.out.alloc hz _)
        have HM := Lib.hid hmw
        clear hY hYl hC hmw
        obtain ⟨q, hq⟩ : ∃ q, Lib.index Y.data.toList (⟨#[45, 45, 62]⟩ : ByteArray).data.toList = q := ⟨_, rfl⟩
        rw [hq] at hE hI
        have HQ := Lib.hid hq
        clear hq
        rcases hI with rfl | ⟨n, rfl, hn⟩
        · rw [if_pos (by decide)] at hE
          subst hE
          go_wp2_with fail
          refine Calls.mono (HC.out _) ?_
          rintro e w5 ⟨rfl, rfl⟩
          rw [HP.out]
          go_wp2_with fail
          refine Calls.mono (HI.out _ HM.out) ?_
          rintro e w6 ⟨rfl, rfl⟩
          rw [HQ.out]
          go_wp2
          go_ret
          exact ⟨rfl, HB.out.alloc hz _⟩
        · rw [if_neg (by omega)] at hE
          have hv : (E : Int) = (i : Int) + 4 + (n : Int) + 3 := by
            rw [← hE, show (⟨#[60, 33, 45, 45]⟩ : ByteArray).size = 4 from rfl, show (⟨#[45, 45, 62]⟩ : ByteArray).size = 3 from rfl]
            omega
          have hb1 : (i : Int) + (n : Int) ≤ 2199023254 := by omega
          have HV := Lib.hid hv
          clear hE hv
          go_wp2_with fail
          refine Calls.mono (HC.out _) ?_
          rintro e w5 ⟨rfl, rfl⟩
          rw [HP.out]
          go_wp2_with fail
          refine Calls.mono (HI.out _ HM.out) ?_
          rintro e w6 ⟨rfl, rfl⟩
          rw [HQ.out]
          go_wp2
          go_ret
          rw [HV.out]
          exact ⟨by go_num, HB.out.alloc hz _⟩
    · have x0 := html_x3
      rw [show htmlS X.data.toList i (htmlPs.drop 3) = (if (Lib.hasPrefix X.data.toList (⟨#[60, 63]⟩ : ByteArray).data.toList && (!((⟨#[60, 63]⟩ : ByteArray).data.toList == [60, 33]) || declB X.data.toList)) = true then (if Lib.index (Lib.trimPrefix X.data.toList (⟨#[60, 63]⟩ : ByteArray).data.toList) (⟨#[63, 62]⟩ : ByteArray).data.toList < 0 then 0 else i + (⟨#[60, 63]⟩ : ByteArray).size + (Lib.index (Lib.trimPrefix X.data.toList (⟨#[60, 63]⟩ : ByteArray).data.toList) (⟨#[63, 62]⟩ : ByteArray).data.toList).toNat + (⟨#[63, 62]⟩ : ByteArray).size) else htmlS X.data.toList i (htmlPs.drop 4)) from rfl] at hE
      cases hp : Lib.hasPrefix X.data.toList (⟨#[60, 63]⟩ : ByteArray).data.toList with
      | false =>
        rw [hp, Bool.false_and, if_neg (by simp)] at hE
        have HE2 := Lib.hid hE
        have HP := Lib.hid hp
        clear hp hE
        go_wp2_with fail
        refine Calls.mono (Tryz.strings_CutPrefix X ⟨#[60, 63]⟩ _) ?_
        rintro e w5 ⟨rfl, rfl⟩
        rw [HP.out]
        go_wp2
        go_roundw
        case rel => exact ⟨4, rfl, by omega, HE2.out, HB.out.alloc hz _⟩
        case measure => simp [intOf]
      | true =>
        rw [hp, show (!((⟨#[60, 63]⟩ : ByteArray).data.toList == [60, 33]) || declB X.data.toList) = true from rfl, Bool.and_true, if_pos rfl] at hE
        have HP := Lib.hid hp
        clear hp
        obtain ⟨Y, hY⟩ : ∃ Y : ByteArray, (⟨(Lib.trimPrefix X.data.toList (⟨#[60, 63]⟩ : ByteArray).data.toList).toArray⟩ : ByteArray) = Y := ⟨_, rfl⟩
        have hYl : Lib.trimPrefix X.data.toList (⟨#[60, 63]⟩ : ByteArray).data.toList = Y.data.toList := by rw [← hY]
        have hYs : Y.size ≤ X.size := by rw [← hY]; exact trimPrefix_size X _
        have hC := fun w' => Tryz.strings_CutPrefix X ⟨#[60, 63]⟩ w'
        rw [hY] at hC
        rw [hYl] at hE
        have HC := Lib.hid hC
        have HI := Lib.hid fun w' => index_max Y ⟨#[63, 62]⟩ w' (by omega)
        have hI := index_room Y ⟨#[63, 62]⟩
        have hmw : MaxB (wr.alloc (.cells #[.string ⟨#[60, 63]⟩, .string ⟨#[63, 62]⟩] 45)) := hm.later (HB.out.alloc hz _)
        have HM := Lib.hid hmw
        clear hY hYl hC hmw
        obtain ⟨q, hq⟩ : ∃ q, Lib.index Y.data.toList (⟨#[63, 62]⟩ : ByteArray).data.toList = q := ⟨_, rfl⟩
        rw [hq] at hE hI
        have HQ := Lib.hid hq
        clear hq
        rcases hI with rfl | ⟨n, rfl, hn⟩
        · rw [if_pos (by decide)] at hE
          subst hE
          go_wp2_with fail
          refine Calls.mono (HC.out _) ?_
          rintro e w5 ⟨rfl, rfl⟩
          rw [HP.out]
          go_wp2_with fail
          refine Calls.mono (HI.out _ HM.out) ?_
          rintro e w6 ⟨rfl, rfl⟩
          rw [HQ.out]
          go_wp2
          go_ret
          exact ⟨rfl, HB.out.alloc hz _⟩
        · rw [if_neg (by omega)] at hE
          have hv : (E : Int) = (i : Int) + 2 + (n : Int) + 2 := by
            rw [← hE, show (⟨#[60, 63]⟩ : ByteArray).size = 2 from rfl, show (⟨#[63, 62]⟩ : ByteArray).size = 2 from rfl]
            omega
          have hb1 : (i : Int) + (n : Int) ≤ 2199023254 := by omega
          have HV := Lib.hid hv
          clear hE hv
          go_wp2_with fail
          refine Calls.mono (HC.out _) ?_
          rintro e w5 ⟨rfl, rfl⟩
          rw [HP.out]
          go_wp2_with fail
          refine Calls.mono (HI.out _ HM.out) ?_
          rintro e w6 ⟨rfl, rfl⟩
          rw [HQ.out]
          go_wp2
          go_ret
          rw [HV.out]
          exact ⟨by go_num, HB.out.alloc hz _⟩
    · have x0 := html_x4
      rw [show htmlS X.data.toList i (htmlPs.drop 4) = (if (Lib.hasPrefix X.data.toList (⟨#[60, 33, 91, 67, 68, 65, 84, 65, 91]⟩ : ByteArray).data.toList && (!((⟨#[60, 33, 91, 67, 68, 65, 84, 65, 91]⟩ : ByteArray).data.toList == [60, 33]) || declB X.data.toList)) = true then (if Lib.index (Lib.trimPrefix X.data.toList (⟨#[60, 33, 91, 67, 68, 65, 84, 65, 91]⟩ : ByteArray).data.toList) (⟨#[93, 93, 62]⟩ : ByteArray).data.toList < 0 then 0 else i + (⟨#[60, 33, 91, 67, 68, 65, 84, 65, 91]⟩ : ByteArray).size + (Lib.index (Lib.trimPrefix X.data.toList (⟨#[60, 33, 91, 67, 68, 65, 84, 65, 91]⟩ : ByteArray).data.toList) (⟨#[93, 93, 62]⟩ : ByteArray).data.toList).toNat + (⟨#[93, 93, 62]⟩ : ByteArray).size) else htmlS X.data.toList i (htmlPs.drop 5)) from rfl] at hE
      cases hp : Lib.hasPrefix X.data.toList (⟨#[60, 33, 91, 67, 68, 65, 84, 65, 91]⟩ : ByteArray).data.toList with
      | false =>
        rw [hp, Bool.false_and, if_neg (by simp)] at hE
        have HE2 := Lib.hid hE
        have HP := Lib.hid hp
        clear hp hE
        go_wp2_with fail
        refine Calls.mono (Tryz.strings_CutPrefix X ⟨#[60, 33, 91, 67, 68, 65, 84, 65, 91]⟩ _) ?_
        rintro e w5 ⟨rfl, rfl⟩
        rw [HP.out]
        go_wp2
        go_roundw
        case rel => exact ⟨5, rfl, by omega, HE2.out, HB.out.alloc hz _⟩
        case measure => simp [intOf]
      | true =>
        rw [hp, show (!((⟨#[60, 33, 91, 67, 68, 65, 84, 65, 91]⟩ : ByteArray).data.toList == [60, 33]) || declB X.data.toList) = true from rfl, Bool.and_true, if_pos rfl] at hE
        have HP := Lib.hid hp
        clear hp
        obtain ⟨Y, hY⟩ : ∃ Y : ByteArray, (⟨(Lib.trimPrefix X.data.toList (⟨#[60, 33, 91, 67, 68, 65, 84, 65, 91]⟩ : ByteArray).data.toList).toArray⟩ : ByteArray) = Y := ⟨_, rfl⟩
        have hYl : Lib.trimPrefix X.data.toList (⟨#[60, 33, 91, 67, 68, 65, 84, 65, 91]⟩ : ByteArray).data.toList = Y.data.toList := by rw [← hY]
        have hYs : Y.size ≤ X.size := by rw [← hY]; exact trimPrefix_size X _
        have hC := fun w' => Tryz.strings_CutPrefix X ⟨#[60, 33, 91, 67, 68, 65, 84, 65, 91]⟩ w'
        rw [hY] at hC
        rw [hYl] at hE
        have HC := Lib.hid hC
        have HI := Lib.hid fun w' => index_max Y ⟨#[93, 93, 62]⟩ w' (by omega)
        have hI := index_room Y ⟨#[93, 93, 62]⟩
        have hmw : MaxB (wr.alloc (.cells #[.string ⟨#[60, 33, 91, 67, 68, 65, 84, 65, 91]⟩, .string ⟨#[93, 93, 62]⟩] 45)) := hm.later (HB.out.alloc hz _)
        have HM := Lib.hid hmw
        clear hY hYl hC hmw
        obtain ⟨q, hq⟩ : ∃ q, Lib.index Y.data.toList (⟨#[93, 93, 62]⟩ : ByteArray).data.toList = q := ⟨_, rfl⟩
        rw [hq] at hE hI
        have HQ := Lib.hid hq
        clear hq
        rcases hI with rfl | ⟨n, rfl, hn⟩
        · rw [if_pos (by decide)] at hE
          subst hE
          go_wp2_with fail
          refine Calls.mono (HC.out _) ?_
          rintro e w5 ⟨rfl, rfl⟩
          rw [HP.out]
          go_wp2_with fail
          refine Calls.mono (HI.out _ HM.out) ?_
          rintro e w6 ⟨rfl, rfl⟩
          rw [HQ.out]
          go_wp2
          go_ret
          exact ⟨rfl, HB.out.alloc hz _⟩
        · rw [if_neg (by omega)] at hE
          have hv : (E : Int) = (i : Int) + 9 + (n : Int) + 3 := by
            rw [← hE, show (⟨#[60, 33, 91, 67, 68, 65, 84, 65, 91]⟩ : ByteArray).size = 9 from rfl, show (⟨#[93, 93, 62]⟩ : ByteArray).size = 3 from rfl]
            omega
          have hb1 : (i : Int) + (n : Int) ≤ 2199023254 := by omega
          have HV := Lib.hid hv
          clear hE hv
          go_wp2_with fail
          refine Calls.mono (HC.out _) ?_
          rintro e w5 ⟨rfl, rfl⟩
          rw [HP.out]
          go_wp2_with fail
          refine Calls.mono (HI.out _ HM.out) ?_
          rintro e w6 ⟨rfl, rfl⟩
          rw [HQ.out]
          go_wp2
          go_ret
          rw [HV.out]
          exact ⟨by go_num, HB.out.alloc hz _⟩
    · have x0 := html_x5
      rw [show htmlS X.data.toList i (htmlPs.drop 5) = (if (Lib.hasPrefix X.data.toList (⟨#[60, 33]⟩ : ByteArray).data.toList && (!((⟨#[60, 33]⟩ : ByteArray).data.toList == [60, 33]) || declB X.data.toList)) = true then (if Lib.index (Lib.trimPrefix X.data.toList (⟨#[60, 33]⟩ : ByteArray).data.toList) (⟨#[62]⟩ : ByteArray).data.toList < 0 then 0 else i + (⟨#[60, 33]⟩ : ByteArray).size + (Lib.index (Lib.trimPrefix X.data.toList (⟨#[60, 33]⟩ : ByteArray).data.toList) (⟨#[62]⟩ : ByteArray).data.toList).toNat + (⟨#[62]⟩ : ByteArray).size) else htmlS X.data.toList i (htmlPs.drop 6)) from rfl] at hE
      cases hp : Lib.hasPrefix X.data.toList (⟨#[60, 33]⟩ : ByteArray).data.toList with
      | false =>
        rw [hp, Bool.false_and, if_neg (by simp)] at hE
        have HE2 := Lib.hid hE
        have HP := Lib.hid hp
        clear hp hE
        go_wp2_with fail
        refine Calls.mono (Tryz.strings_CutPrefix X ⟨#[60, 33]⟩ _) ?_
        rintro e w5 ⟨rfl, rfl⟩
        rw [HP.out]
        go_wp2
        go_roundw
        case rel => exact ⟨6, rfl, by omega, HE2.out, HB.out.alloc hz _⟩
        case measure => simp [intOf]
      | true =>
        rw [HD.out, show (!((⟨#[60, 33]⟩ : ByteArray).data.toList == [60, 33]) || false) = false from rfl, Bool.and_false, if_neg (by simp)] at hE
        have HE2 := Lib.hid hE
        have HP := Lib.hid hp
        clear hp hE
        go_wp2_with fail
        refine Calls.mono (Tryz.strings_CutPrefix X ⟨#[60, 33]⟩ _) ?_
        rintro e w5 ⟨rfl, rfl⟩
        rw [HP.out]
        go_wp2
        go_roundw
        case rel => exact ⟨6, rfl, by omega, HE2.out, HB.out.alloc hz _⟩
        case measure => simp [intOf]
    · have e0 : E = 0 := by rw [← hE]; rfl
      subst e0
      go_wp2
      go_ret
      exact ⟨rfl, HB.out⟩
set_option maxHeartbeats 16000000 in
set_option maxRecDepth 100000 in
theorem html_dec0 (s : ByteArray) (i : Nat) (w : World) (hs : s.size ≤ 1099511627) (hm : MaxB w) (hi : i < s.size) (h : tagN (s.data.toList.drop i) = 0) (h2 : 2 < s.size - i) (hq : pre2 (s.data.toList.drop i) = true) (hr : thirdB (s.data.toList.drop i) = false) :
    Calls Tryz.prog 13 #[.string s, .int .i64 (i : Int)] w (RIb w (htmlC (s.data.toList.drop i) i : Nat)) := by
  have z1 : decide (s.size ≤ i) = false := by simp; omega
  have hki : (i : Int) < (s.size : Int) := by omega
  have hki1 : (i : Int) ≤ (s.size : Int) := by omega
  obtain ⟨X, hX⟩ : ∃ X, s.extract i s.size = X := ⟨_, rfl⟩
  have hex := ext_drop s i
  rw [hX] at hex
  have hXz : X.size = s.size - i := by rw [← hX, ByteArray.size_extract]; omega
  have hXs : 2 < X.size := by omega
  have hT := fun w' => tag_any X w' (by omega)
  rw [← hex] at h hq ⊢
  have hv : htmlC X.data.toList i = htmlS X.data.toList i htmlPs := by unfold htmlC; rw [if_neg (by omega)]
  rw [hv]
  rw [h] at hT
  rw [← hex] at hr
  have hd : declB X.data.toList = false := by rw [declB_eq, hq, hr]; rfl
  rw [third_get X hXs] at hr
  have HR := Lib.hid hr
  clear hr
  have z2 : decide ((2 : Int) < (X.size : Int)) = true := by simp; omega
  have z3 : (X.extract 0 2).toList = [60, 33] := by rw [pre2_ext, hq]
  obtain ⟨E, hE⟩ : ∃ E, htmlS X.data.toList i htmlPs = E := ⟨_, rfl⟩
  rw [hE]
  have HE := Lib.hid hE
  have HT := Lib.hid hT
  have HX := Lib.hid hX
  have HD := Lib.hid hd
  clear hT hX hex hv hE hd h hq
  go_enter Tryz.func13, Tryz.ntmps13
  go_wp2_with fail
  rw [HX.out]
  refine Calls.mono (HT.out _) ?_
  rintro e w1 ⟨rfl, b1⟩
  have HB1 := Lib.hid b1
  clear b1
  go_wp2_with fail
  refine Calls.mono (letter_any X[2] _) ?_
  rintro e w2 ⟨rfl, rfl⟩
  rw [HR.out]
  go_wp2_with fail
  go_loopw [51] (fun v wr => HtmlW w X.data.toList i E v wr) (fun v _ => 6 - (intOf v).toNat)
  case atStart => exact ⟨0, rfl, by omega, HE.out, HB1.out⟩
  case round =>
    obtain ⟨k, rfl, hk, hE, hb⟩ := hrel
    have HB := Lib.hid hb
    have hz := hb.size
    clear hb HE
    rcases (show k = 0 ∨ k = 1 ∨ k = 2 ∨ k = 3 ∨ k = 4 ∨ k = 5 ∨ k = 6 by omega) with rfl | rfl | rfl | rfl | rfl | rfl | rfl
    · have x0 := html_x0
      rw [show htmlS X.data.toList i (htmlPs.drop 0) = (if (Lib.hasPrefix X.data.toList (⟨#[60, 33, 45, 45, 62]⟩ : ByteArray).data.toList && (!((⟨#[60, 33, 45, 45, 62]⟩ : ByteArray).data.toList == [60, 33]) || declB X.data.toList)) = true then (if Lib.index (Lib.trimPrefix X.data.toList (⟨#[60, 33, 45, 45, 62]⟩ : ByteArray).data.toList) (⟨#[]⟩ : ByteArray).data.toList < 0 then 0 else i + (⟨#[60, 33, 45, 45, 62]⟩ : ByteArray).size + (Lib.index (Lib.trimPrefix X.data.toList (⟨#[60, 33, 45, 45, 62]⟩ : ByteArray).data.toList) (⟨#[]⟩ : ByteArray).data.toList).toNat + (⟨#[]⟩ : ByteArray).size) else htmlS X.data.toList i (htmlPs.drop 1)) from rfl] at hE
      cases hp : Lib.hasPrefix X.data.toList (⟨#[60, 33, 45, 45, 62]⟩ : ByteArray).data.toList with
      | false =>
        rw [hp, Bool.false_and, if_neg (by simp)] at hE
        have HE2 := Lib.hid hE
        have HP := Lib.hid hp
        clear hp hE
        go_wp2_with fail
        refine Calls.mono (Tryz.strings_CutPrefix X ⟨#[60, 33, 45, 45, 62]⟩ _) ?_
        rintro e w5 ⟨rfl, rfl⟩
        rw [HP.out]
        go_wp2
        go_roundw
        case rel => exact ⟨1, rfl, by omega, HE2.out, HB.out.alloc hz _⟩
        case measure => simp [intOf]
      | true =>
        rw [hp, show (!((⟨#[60, 33, 45, 45, 62]⟩ : ByteArray).data.toList == [60, 33]) || declB X.data.toList) = true from rfl, Bool.and_true, if_pos rfl] at hE
        have HP := Lib.hid hp
        clear hp
        obtain ⟨Y, hY⟩ : ∃ Y : ByteArray, (⟨(Lib.trimPrefix X.data.toList (⟨#[60, 33, 45, 45, 62]⟩ : ByteArray).data.toList).toArray⟩ : ByteArray) = Y := ⟨_, rfl⟩
        have hYl : Lib.trimPrefix X.data.toList (⟨#[60, 33, 45, 45, 62]⟩ : ByteArray).data.toList = Y.data.toList := by rw [← hY]
        have hYs : Y.size ≤ X.size := by rw [← hY]; exact trimPrefix_size X _
        have hC := fun w' => Tryz.strings_CutPrefix X ⟨#[60, 33, 45, 45, 62]⟩ w'
        rw [hY] at hC
        rw [hYl] at hE
        have HC := Lib.hid hC
        have HI := Lib.hid fun w' => index_max Y ⟨#[]⟩ w' (by omega)
        have hI := index_room Y ⟨#[]⟩
        have hmw : MaxB (wr.alloc (.cells #[.string ⟨#[60, 33, 45, 45, 62]⟩, .string ⟨#[]⟩] 45)) := hm.later (HB.out.alloc hz _)
        have HM := Lib.hid hmw
        clear hY hYl hC hmw
        obtain ⟨q, hq⟩ : ∃ q, Lib.index Y.data.toList (⟨#[]⟩ : ByteArray).data.toList = q := ⟨_, rfl⟩
        rw [hq] at hE hI
        have HQ := Lib.hid hq
        clear hq
        rcases hI with rfl | ⟨n, rfl, hn⟩
        · rw [if_pos (by decide)] at hE
          subst hE
          go_wp2_with fail
          refine Calls.mono (HC.out _) ?_
          rintro e w5 ⟨rfl, rfl⟩
          rw [HP.out]
          go_wp2_with fail
          refine Calls.mono (HI.out _ HM.out) ?_
          rintro e w6 ⟨rfl, rfl⟩
          rw [HQ.out]
          go_wp2
          go_ret
          exact ⟨rfl, HB.out.alloc hz _⟩
        · rw [if_neg (by omega)] at hE
          have hv : (E : Int) = (i : Int) + 5 + (n : Int) + 0 := by
            rw [← hE, show (⟨#[60, 33, 45, 45, 62]⟩ : ByteArray).size = 5 from rfl, show (⟨#[]⟩ : ByteArray).size = 0 from rfl]
            omega
          have hb1 : (i : Int) + (n : Int) ≤ 2199023254 := by omega
          have HV := Lib.hid hv
          clear hE hv
          go_wp2_with fail
          refine Calls.mono (HC.out _) ?_
          rintro e w5 ⟨rfl, rfl⟩
          rw [HP.out]
          go_wp2_with fail
          refine Calls.mono (HI.out _ HM.out) ?_
          rintro e w6 ⟨rfl, rfl⟩
          rw [HQ.out]
          go_wp2
          go_ret
          rw [HV.out]
          exact ⟨by go_num, HB.out.alloc hz _⟩
    · have x0 := html_x1
      rw [show htmlS X.data.toList i (htmlPs.drop 1) = (if (Lib.hasPrefix X.data.toList (⟨#[60, 33, 45, 45, 45, 62]⟩ : ByteArray).data.toList && (!((⟨#[60, 33, 45, 45, 45, 62]⟩ : ByteArray).data.toList == [60, 33]) || declB X.data.toList)) = true then (if Lib.index (Lib.trimPrefix X.data.toList (⟨#[60, 33, 45, 45, 45, 62]⟩ : ByteArray).data.toList) (⟨#[]⟩ : ByteArray).data.toList < 0 then 0 else i + (⟨#[60, 33, 45, 45, 45, 62]⟩ : ByteArray).size + (Lib.index (Lib.trimPrefix X.data.toList (⟨#[60, 33, 45, 45, 45, 62]⟩ : ByteArray).data.toList) (⟨#[]⟩ : ByteArray).data.toList).toNat + (⟨#[]⟩ : ByteArray).size) else htmlS X.data.toList i (htmlPs.drop 2)) from rfl] at hE
      cases hp : Lib.hasPrefix X.data.toList (⟨#[60, 33, 45, 45, 45, 62]⟩ : ByteArray).data.toList with
      | false =>
        rw [hp, Bool.false_and, if_neg (by simp)] at hE
        have HE2 := Lib.hid hE
        have HP := Lib.hid hp
        clear hp hE
        go_wp2_with fail
        refine Calls.mono (Tryz.strings_CutPrefix X ⟨#[60, 33, 45, 45, 45, 62]⟩ _) ?_
        rintro e w5 ⟨rfl, rfl⟩
        rw [HP.out]
        go_wp2
        go_roundw
        case rel => exact ⟨2, rfl, by omega, HE2.out, HB.out.alloc hz _⟩
        case measure => simp [intOf]
      | true =>
        rw [hp, show (!((⟨#[60, 33, 45, 45, 45, 62]⟩ : ByteArray).data.toList == [60, 33]) || declB X.data.toList) = true from rfl, Bool.and_true, if_pos rfl] at hE
        have HP := Lib.hid hp
        clear hp
        obtain ⟨Y, hY⟩ : ∃ Y : ByteArray, (⟨(Lib.trimPrefix X.data.toList (⟨#[60, 33, 45, 45, 45, 62]⟩ : ByteArray).data.toList).toArray⟩ : ByteArray) = Y := ⟨_, rfl⟩
        have hYl : Lib.trimPrefix X.data.toList (⟨#[60, 33, 45, 45, 45, 62]⟩ : ByteArray).data.toList = Y.data.toList := by rw [← hY]
        have hYs : Y.size ≤ X.size := by rw [← hY]; exact trimPrefix_size X _
        have hC := fun w' => Tryz.strings_CutPrefix X ⟨#[60, 33, 45, 45, 45, 62]⟩ w'
        rw [hY] at hC
        rw [hYl] at hE
        have HC := Lib.hid hC
        have HI := Lib.hid fun w' => index_max Y ⟨#[]⟩ w' (by omega)
        have hI := index_room Y ⟨#[]⟩
        have hmw : MaxB (wr.alloc (.cells #[.string ⟨#[60, 33, 45, 45, 45, 62]⟩, .string ⟨#[]⟩] 45)) := hm.later (HB.out.alloc hz _)
        have HM := Lib.hid hmw
        clear hY hYl hC hmw
        obtain ⟨q, hq⟩ : ∃ q, Lib.index Y.data.toList (⟨#[]⟩ : ByteArray).data.toList = q := ⟨_, rfl⟩
        rw [hq] at hE hI
        have HQ := Lib.hid hq
        clear hq
        rcases hI with rfl | ⟨n, rfl, hn⟩
        · rw [if_pos (by decide)] at hE
          subst hE
          go_wp2_with fail
          refine Calls.mono (HC.out _) ?_
          rintro e w5 ⟨rfl, rfl⟩
          rw [HP.out]
          go_wp2_with fail
          refine Calls.mono (HI.out _ HM.out) ?_
          rintro e w6 ⟨rfl, rfl⟩
          rw [HQ.out]
          go_wp2
          go_ret
          exact ⟨rfl, HB.out.alloc hz _⟩
        · rw [if_neg (by omega)] at hE
          have hv : (E : Int) = (i : Int) + 6 + (n : Int) + 0 := by
            rw [← hE, show (⟨#[60, 33, 45, 45, 45, 62]⟩ : ByteArray).size = 6 from rfl, show (⟨#[]⟩ : ByteArray).size = 0 from rfl]
            omega
          have hb1 : (i : Int) + (n : Int) ≤ 2199023254 := by omega
          have HV := Lib.hid hv
          clear hE hv
          go_wp2_with fail
          refine Calls.mono (HC.out _) ?_
          rintro e w5 ⟨rfl, rfl⟩
          rw [HP.out]
          go_wp2_with fail
          refine Calls.mono (HI.out _ HM.out) ?_
          rintro e w6 ⟨rfl, rfl⟩
          rw [HQ.out]
          go_wp2
          go_ret
          rw [HV.out]
          exact ⟨by go_num, HB.out.alloc hz _⟩
    · have x0 := html_x2
      rw [show htmlS X.data.toList i (htmlPs.drop 2) = (if (Lib.hasPrefix X.data.toList (⟨#[60, 33, 45, 45]⟩ : ByteArray).data.toList && (!((⟨#[60, 33, 45, 45]⟩ : ByteArray).data.toList == [60, 33]) || declB X.data.toList)) = true then (if Lib.index (Lib.trimPrefix X.data.toList (⟨#[60, 33, 45, 45]⟩ : ByteArray).data.toList) (⟨#[45, 45, 62]⟩ : ByteArray).data.toList < 0 then 0 else i + (⟨#[60, 33, 45, 45]⟩ : ByteArray).size + (Lib.index (Lib.trimPrefix X.data.toList (⟨#[60, 33, 45, 45]⟩ : ByteArray).data.toList) (⟨#[45, 45, 62]⟩ : ByteArray).data.toList).toNat + (⟨#[45, 45, 62]⟩ : ByteArray).size) else htmlS X.data.toList i (htmlPs.drop 3)) from rfl] at hE
      cases hp : Lib.hasPrefix X.data.toList (⟨#[60, 33, 45, 45]⟩ : ByteArray).data.toList with
      | false =>
        rw [hp, Bool.false_and, if_neg (by simp)] at hE
        have HE2 := Lib.hid hE
        have HP := Lib.hid hp
        clear hp hE
        go_wp2_with fail
        refine Calls.mono (Tryz.strings_CutPrefix X ⟨#[60, 33, 45, 45]⟩ _) ?_
        rintro e w5 ⟨rfl, rfl⟩
        rw [HP.out]
        go_wp2
        go_roundw
        case rel => exact ⟨3, rfl, by omega, HE2.out, HB.out.alloc hz _⟩
        case measure => simp [intOf]
      | true =>
        rw [hp, show (!((⟨#[60, 33, 45, 45]⟩ : ByteArray).data.toList == [60, 33]) || declB X.data.toList) = true from rfl, Bool.and_true, if_pos rfl] at hE
        have HP := Lib.hid hp
        clear hp
        obtain ⟨Y, hY⟩ : ∃ Y : ByteArray, (⟨(Lib.trimPrefix X.data.toList (⟨#[60, 33, 45, 45]⟩ : ByteArray).data.toList).toArray⟩ : ByteArray) = Y := ⟨_, rfl⟩
        have hYl : Lib.trimPrefix X.data.toList (⟨#[60, 33, 45, 45]⟩ : ByteArray).data.toList = Y.data.toList := by rw [← hY]
        have hYs : Y.size ≤ X.size := by rw [← hY]; exact trimPrefix_size X _
        have hC := fun w' => Tryz.strings_CutPrefix X ⟨#[60, 33, 45, 45]⟩ w'
        rw [hY] at hC
        rw [hYl] at hE
        have HC := Lib.hid hC
        have HI := Lib.hid fun w' => index_max Y ⟨#[45, 45, 62]⟩ w' (by omega)
        have hI := index_room Y ⟨#[45, 45, 62]⟩
        have hmw : MaxB (wr.alloc (.cells #[.string ⟨#[60, 33, 45, 45]⟩, .string ⟨#[45, 45, 62]⟩] 45)) := hm.later (HB.out.alloc hz _)
        have HM := Lib.hid hmw
        clear hY hYl hC hmw
        obtain ⟨q, hq⟩ : ∃ q, Lib.index Y.data.toList (⟨#[45, 45, 62]⟩ : ByteArray).data.toList = q := ⟨_, rfl⟩
        rw [hq] at hE hI
        have HQ := Lib.hid hq
        clear hq
        rcases hI with rfl | ⟨n, rfl, hn⟩
        · rw [if_pos (by decide)] at hE
          subst hE
          go_wp2_with fail
          refine Calls.mono (HC.out _) ?_
          rintro e w5 ⟨rfl, rfl⟩
          rw [HP.out]
          go_wp2_with fail
          refine Calls.mono (HI.out _ HM.out) ?_
          rintro e w6 ⟨rfl, rfl⟩
          rw [HQ.out]
          go_wp2
          go_ret
          exact ⟨rfl, HB.out.alloc hz _⟩
        · rw [if_neg (by omega)] at hE
          have hv : (E : Int) = (i : Int) + 4 + (n : Int) + 3 := by
            rw [← hE, show (⟨#[60, 33, 45, 45]⟩ : ByteArray).size = 4 from rfl, show (⟨#[45, 45, 62]⟩ : ByteArray).size = 3 from rfl]
            omega
          have hb1 : (i : Int) + (n : Int) ≤ 2199023254 := by omega
          have HV := Lib.hid hv
          clear hE hv
          go_wp2_with fail
          refine Calls.mono (HC.out _) ?_
          rintro e w5 ⟨rfl, rfl⟩
          rw [HP.out]
          go_wp2_with fail
          refine Calls.mono (HI.out _ HM.out) ?_
          rintro e w6 ⟨rfl, rfl⟩
          rw [HQ.out]
          go_wp2
          go_ret
          rw [HV.out]
          exact ⟨by go_num, HB.out.alloc hz _⟩
    · have x0 := html_x3
      rw [show htmlS X.data.toList i (htmlPs.drop 3) = (if (Lib.hasPrefix X.data.toList (⟨#[60, 63]⟩ : ByteArray).data.toList && (!((⟨#[60, 63]⟩ : ByteArray).data.toList == [60, 33]) || declB X.data.toList)) = true then (if Lib.index (Lib.trimPrefix X.data.toList (⟨#[60, 63]⟩ : ByteArray).data.toList) (⟨#[63, 62]⟩ : ByteArray).data.toList < 0 then 0 else i + (⟨#[60, 63]⟩ : ByteArray).size + (Lib.index (Lib.trimPrefix X.data.toList (⟨#[60, 63]⟩ : ByteArray).data.toList) (⟨#[63, 62]⟩ : ByteArray).data.toList).toNat + (⟨#[63, 62]⟩ : ByteArray).size) else htmlS X.data.toList i (htmlPs.drop 4)) from rfl] at hE
      cases hp : Lib.hasPrefix X.data.toList (⟨#[60, 63]⟩ : ByteArray).data.toList with
      | false =>
        rw [hp, Bool.false_and, if_neg (by simp)] at hE
        have HE2 := Lib.hid hE
        have HP := Lib.hid hp
        clear hp hE
        go_wp2_with fail
        refine Calls.mono (Tryz.strings_CutPrefix X ⟨#[60, 63]⟩ _) ?_
        rintro e w5 ⟨rfl, rfl⟩
        rw [HP.out]
        go_wp2
        go_roundw
        case rel => exact ⟨4, rfl, by omega, HE2.out, HB.out.alloc hz _⟩
        case measure => simp [intOf]
      | true =>
        rw [hp, show (!((⟨#[60, 63]⟩ : ByteArray).data.toList == [60, 33]) || declB X.data.toList) = true from rfl, Bool.and_true, if_pos rfl] at hE
        have HP := Lib.hid hp
        clear hp
        obtain ⟨Y, hY⟩ : ∃ Y : ByteArray, (⟨(Lib.trimPrefix X.data.toList (⟨#[60, 63]⟩ : ByteArray).data.toList).toArray⟩ : ByteArray) = Y := ⟨_, rfl⟩
        have hYl : Lib.trimPrefix X.data.toList (⟨#[60, 63]⟩ : ByteArray).data.toList = Y.data.toList := by rw [← hY]
        have hYs : Y.size ≤ X.size := by rw [← hY]; exact trimPrefix_size X _
        have hC := fun w' => Tryz.strings_CutPrefix X ⟨#[60, 63]⟩ w'
        rw [hY] at hC
        rw [hYl] at hE
        have HC := Lib.hid hC
        have HI := Lib.hid fun w' => index_max Y ⟨#[63, 62]⟩ w' (by omega)
        have hI := index_room Y ⟨#[63, 62]⟩
        have hmw : MaxB (wr.alloc (.cells #[.string ⟨#[60, 63]⟩, .string ⟨#[63, 62]⟩] 45)) := hm.later (HB.out.alloc hz _)
        have HM := Lib.hid hmw
        clear hY hYl hC hmw
        obtain ⟨q, hq⟩ : ∃ q, Lib.index Y.data.toList (⟨#[63, 62]⟩ : ByteArray).data.toList = q := ⟨_, rfl⟩
        rw [hq] at hE hI
        have HQ := Lib.hid hq
        clear hq
        rcases hI with rfl | ⟨n, rfl, hn⟩
        · rw [if_pos (by decide)] at hE
          subst hE
          go_wp2_with fail
          refine Calls.mono (HC.out _) ?_
          rintro e w5 ⟨rfl, rfl⟩
          rw [HP.out]
          go_wp2_with fail
          refine Calls.mono (HI.out _ HM.out) ?_
          rintro e w6 ⟨rfl, rfl⟩
          rw [HQ.out]
          go_wp2
          go_ret
          exact ⟨rfl, HB.out.alloc hz _⟩
        · rw [if_neg (by omega)] at hE
          have hv : (E : Int) = (i : Int) + 2 + (n : Int) + 2 := by
            rw [← hE, show (⟨#[60, 63]⟩ : ByteArray).size = 2 from rfl, show (⟨#[63, 62]⟩ : ByteArray).size = 2 from rfl]
            omega
          have hb1 : (i : Int) + (n : Int) ≤ 2199023254 := by omega
          have HV := Lib.hid hv
          clear hE hv
          go_wp2_with fail
          refine Calls.mono (HC.out _) ?_
          rintro e w5 ⟨rfl, rfl⟩
          rw [HP.out]
          go_wp2_with fail
          refine Calls.mono (HI.out _ HM.out) ?_
          rintro e w6 ⟨rfl, rfl⟩
          rw [HQ.out]
          go_wp2
          go_ret
          rw [HV.out]
          exact ⟨by go_num, HB.out.alloc hz _⟩
    · have x0 := html_x4
      rw [show htmlS X.data.toList i (htmlPs.drop 4) = (if (Lib.hasPrefix X.data.toList (⟨#[60, 33, 91, 67, 68, 65, 84, 65, 91]⟩ : ByteArray).data.toList && (!((⟨#[60, 33, 91, 67, 68, 65, 84, 65, 91]⟩ : ByteArray).data.toList == [60, 33]) || declB X.data.toList)) = true then (if Lib.index (Lib.trimPrefix X.data.toList (⟨#[60, 33, 91, 67, 68, 65, 84, 65, 91]⟩ : ByteArray).data.toList) (⟨#[93, 93, 62]⟩ : ByteArray).data.toList < 0 then 0 else i + (⟨#[60, 33, 91, 67, 68, 65, 84, 65, 91]⟩ : ByteArray).size + (Lib.index (Lib.trimPrefix X.data.toList (⟨#[60, 33, 91, 67, 68, 65, 84, 65, 91]⟩ : ByteArray).data.toList) (⟨#[93, 93, 62]⟩ : ByteArray).data.toList).toNat + (⟨#[93, 93, 62]⟩ : ByteArray).size) else htmlS X.data.toList i (htmlPs.drop 5)) from rfl] at hE
      cases hp : Lib.hasPrefix X.data.toList (⟨#[60, 33, 91, 67, 68, 65, 84, 65, 91]⟩ : ByteArray).data.toList with
      | false =>
        rw [hp, Bool.false_and, if_neg (by simp)] at hE
        have HE2 := Lib.hid hE
        have HP := Lib.hid hp
        clear hp hE
        go_wp2_with fail
        refine Calls.mono (Tryz.strings_CutPrefix X ⟨#[60, 33, 91, 67, 68, 65, 84, 65, 91]⟩ _) ?_
        rintro e w5 ⟨rfl, rfl⟩
        rw [HP.out]
        go_wp2
        go_roundw
        case rel => exact ⟨5, rfl, by omega, HE2.out, HB.out.alloc hz _⟩
        case measure => simp [intOf]
      | true =>
        rw [hp, show (!((⟨#[60, 33, 91, 67, 68, 65, 84, 65, 91]⟩ : ByteArray).data.toList == [60, 33]) || declB X.data.toList) = true from rfl, Bool.and_true, if_pos rfl] at hE
        have HP := Lib.hid hp
        clear hp
        obtain ⟨Y, hY⟩ : ∃ Y : ByteArray, (⟨(Lib.trimPrefix X.data.toList (⟨#[60, 33, 91, 67, 68, 65, 84, 65, 91]⟩ : ByteArray).data.toList).toArray⟩ : ByteArray) = Y := ⟨_, rfl⟩
        have hYl : Lib.trimPrefix X.data.toList (⟨#[60, 33, 91, 67, 68, 65, 84, 65, 91]⟩ : ByteArray).data.toList = Y.data.toList := by rw [← hY]
        have hYs : Y.size ≤ X.size := by rw [← hY]; exact trimPrefix_size X _
        have hC := fun w' => Tryz.strings_CutPrefix X ⟨#[60, 33, 91, 67, 68, 65, 84, 65, 91]⟩ w'
        rw [hY] at hC
        rw [hYl] at hE
        have HC := Lib.hid hC
        have HI := Lib.hid fun w' => index_max Y ⟨#[93, 93, 62]⟩ w' (by omega)
        have hI := index_room Y ⟨#[93, 93, 62]⟩
        have hmw : MaxB (wr.alloc (.cells #[.string ⟨#[60, 33, 91, 67, 68, 65, 84, 65, 91]⟩, .string ⟨#[93, 93, 62]⟩] 45)) := hm.later (HB.out.alloc hz _)
        have HM := Lib.hid hmw
        clear hY hYl hC hmw
        obtain ⟨q, hq⟩ : ∃ q, Lib.index Y.data.toList (⟨#[93, 93, 62]⟩ : ByteArray).data.toList = q := ⟨_, rfl⟩
        rw [hq] at hE hI
        have HQ := Lib.hid hq
        clear hq
        rcases hI with rfl | ⟨n, rfl, hn⟩
        · rw [if_pos (by decide)] at hE
          subst hE
          go_wp2_with fail
          refine Calls.mono (HC.out _) ?_
          rintro e w5 ⟨rfl, rfl⟩
          rw [HP.out]
          go_wp2_with fail
          refine Calls.mono (HI.out _ HM.out) ?_
          rintro e w6 ⟨rfl, rfl⟩
          rw [HQ.out]
          go_wp2
          go_ret
          exact ⟨rfl, HB.out.alloc hz _⟩
        · rw [if_neg (by omega)] at hE
          have hv : (E : Int) = (i : Int) + 9 + (n : Int) + 3 := by
            rw [← hE, show (⟨#[60, 33, 91, 67, 68, 65, 84, 65, 91]⟩ : ByteArray).size = 9 from rfl, show (⟨#[93, 93, 62]⟩ : ByteArray).size = 3 from rfl]
            omega
          have hb1 : (i : Int) + (n : Int) ≤ 2199023254 := by omega
          have HV := Lib.hid hv
          clear hE hv
          go_wp2_with fail
          refine Calls.mono (HC.out _) ?_
          rintro e w5 ⟨rfl, rfl⟩
          rw [HP.out]
          go_wp2_with fail
          refine Calls.mono (HI.out _ HM.out) ?_
          rintro e w6 ⟨rfl, rfl⟩
          rw [HQ.out]
          go_wp2
          go_ret
          rw [HV.out]
          exact ⟨by go_num, HB.out.alloc hz _⟩
    · have x0 := html_x5
      rw [show htmlS X.data.toList i (htmlPs.drop 5) = (if (Lib.hasPrefix X.data.toList (⟨#[60, 33]⟩ : ByteArray).data.toList && (!((⟨#[60, 33]⟩ : ByteArray).data.toList == [60, 33]) || declB X.data.toList)) = true then (if Lib.index (Lib.trimPrefix X.data.toList (⟨#[60, 33]⟩ : ByteArray).data.toList) (⟨#[62]⟩ : ByteArray).data.toList < 0 then 0 else i + (⟨#[60, 33]⟩ : ByteArray).size + (Lib.index (Lib.trimPrefix X.data.toList (⟨#[60, 33]⟩ : ByteArray).data.toList) (⟨#[62]⟩ : ByteArray).data.toList).toNat + (⟨#[62]⟩ : ByteArray).size) else htmlS X.data.toList i (htmlPs.drop 6)) from rfl] at hE
      cases hp : Lib.hasPrefix X.data.toList (⟨#[60, 33]⟩ : ByteArray).data.toList with
      | false =>
        rw [hp, Bool.false_and, if_neg (by simp)] at hE
        have HE2 := Lib.hid hE
        have HP := Lib.hid hp
        clear hp hE
        go_wp2_with fail
        refine Calls.mono (Tryz.strings_CutPrefix X ⟨#[60, 33]⟩ _) ?_
        rintro e w5 ⟨rfl, rfl⟩
        rw [HP.out]
        go_wp2
        go_roundw
        case rel => exact ⟨6, rfl, by omega, HE2.out, HB.out.alloc hz _⟩
        case measure => simp [intOf]
      | true =>
        rw [HD.out, show (!((⟨#[60, 33]⟩ : ByteArray).data.toList == [60, 33]) || false) = false from rfl, Bool.and_false, if_neg (by simp)] at hE
        have HE2 := Lib.hid hE
        have HP := Lib.hid hp
        clear hp hE
        go_wp2_with fail
        refine Calls.mono (Tryz.strings_CutPrefix X ⟨#[60, 33]⟩ _) ?_
        rintro e w5 ⟨rfl, rfl⟩
        rw [HP.out]
        go_wp2
        go_roundw
        case rel => exact ⟨6, rfl, by omega, HE2.out, HB.out.alloc hz _⟩
        case measure => simp [intOf]
    · have e0 : E = 0 := by rw [← hE]; rfl
      subst e0
      go_wp2
      go_ret
      exact ⟨rfl, HB.out⟩
set_option maxHeartbeats 16000000 in
set_option maxRecDepth 100000 in
theorem html_dec1 (s : ByteArray) (i : Nat) (w : World) (hs : s.size ≤ 1099511627) (hm : MaxB w) (hi : i < s.size) (h : tagN (s.data.toList.drop i) = 0) (h2 : 2 < s.size - i) (hq : pre2 (s.data.toList.drop i) = true) (hr : thirdB (s.data.toList.drop i) = true) :
    Calls Tryz.prog 13 #[.string s, .int .i64 (i : Int)] w (RIb w (htmlC (s.data.toList.drop i) i : Nat)) := by
  have z1 : decide (s.size ≤ i) = false := by simp; omega
  have hki : (i : Int) < (s.size : Int) := by omega
  have hki1 : (i : Int) ≤ (s.size : Int) := by omega
  obtain ⟨X, hX⟩ : ∃ X, s.extract i s.size = X := ⟨_, rfl⟩
  have hex := ext_drop s i
  rw [hX] at hex
  have hXz : X.size = s.size - i := by rw [← hX, ByteArray.size_extract]; omega
  have hXs : 2 < X.size := by omega
  have hT := fun w' => tag_any X w' (by omega)
  rw [← hex] at h hq ⊢
  have hv : htmlC X.data.toList i = htmlS X.data.toList i htmlPs := by unfold htmlC; rw [if_neg (by omega)]
  rw [hv]
  rw [h] at hT
  rw [← hex] at hr
  have hd : declB X.data.toList = true := by rw [declB_eq, hq, hr]; rfl
  rw [third_get X hXs] at hr
  have HR := Lib.hid hr
  clear hr
  have z2 : decide ((2 : Int) < (X.size : Int)) = true := by simp; omega
  have z3 : (X.extract 0 2).toList = [60, 33] := by rw [pre2_ext, hq]
  obtain ⟨E, hE⟩ : ∃ E, htmlS X.data.toList i htmlPs = E := ⟨_, rfl⟩
  rw [hE]
  have HE := Lib.hid hE
  have HT := Lib.hid hT
  have HX := Lib.hid hX
  have HD := Lib.hid hd
  clear hT hX hex hv hE hd h hq
  go_enter Tryz.func13, Tryz.ntmps13
  go_wp2_with fail
  rw [HX.out]
  refine Calls.mono (HT.out _) ?_
  rintro e w1 ⟨rfl, b1⟩
  have HB1 := Lib.hid b1
  clear b1
  go_wp2_with fail
  refine Calls.mono (letter_any X[2] _) ?_
  rintro e w2 ⟨rfl, rfl⟩
  rw [HR.out]
  go_wp2_with fail
  go_loopw [51] (fun v wr => HtmlW w X.data.toList i E v wr) (fun v _ => 6 - (intOf v).toNat)
  case atStart => exact ⟨0, rfl, by omega, HE.out, HB1.out⟩
  case round =>
    obtain ⟨k, rfl, hk, hE, hb⟩ := hrel
    have HB := Lib.hid hb
    have hz := hb.size
    clear hb HE
    rcases (show k = 0 ∨ k = 1 ∨ k = 2 ∨ k = 3 ∨ k = 4 ∨ k = 5 ∨ k = 6 by omega) with rfl | rfl | rfl | rfl | rfl | rfl | rfl
    · have x0 := html_x0
      rw [show htmlS X.data.toList i (htmlPs.drop 0) = (if (Lib.hasPrefix X.data.toList (⟨#[60, 33, 45, 45, 62]⟩ : ByteArray).data.toList && (!((⟨#[60, 33, 45, 45, 62]⟩ : ByteArray).data.toList == [60, 33]) || declB X.data.toList)) = true then (if Lib.index (Lib.trimPrefix X.data.toList (⟨#[60, 33, 45, 45, 62]⟩ : ByteArray).data.toList) (⟨#[]⟩ : ByteArray).data.toList < 0 then 0 else i + (⟨#[60, 33, 45, 45, 62]⟩ : ByteArray).size + (Lib.index (Lib.trimPrefix X.data.toList (⟨#[60, 33, 45, 45, 62]⟩ : ByteArray).data.toList) (⟨#[]⟩ : ByteArray).data.toList).toNat + (⟨#[]⟩ : ByteArray).size) else htmlS X.data.toList i (htmlPs.drop 1)) from rfl] at hE
      cases hp : Lib.hasPrefix X.data.toList (⟨#[60, 33, 45, 45, 62]⟩ : ByteArray).data.toList with
      | false =>
        rw [hp, Bool.false_and, if_neg (by simp)] at hE
        have HE2 := Lib.hid hE
        have HP := Lib.hid hp
        clear hp hE
        go_wp2_with fail
        refine Calls.mono (Tryz.strings_CutPrefix X ⟨#[60, 33, 45, 45, 62]⟩ _) ?_
        rintro e w5 ⟨rfl, rfl⟩
        rw [HP.out]
        go_wp2
        go_roundw
        case rel => exact ⟨1, rfl, by omega, HE2.out, HB.out.alloc hz _⟩
        case measure => simp [intOf]
      | true =>
        rw [hp, show (!((⟨#[60, 33, 45, 45, 62]⟩ : ByteArray).data.toList == [60, 33]) || declB X.data.toList) = true from rfl, Bool.and_true, if_pos rfl] at hE
        have HP := Lib.hid hp
        clear hp
        obtain ⟨Y, hY⟩ : ∃ Y : ByteArray, (⟨(Lib.trimPrefix X.data.toList (⟨#[60, 33, 45, 45, 62]⟩ : ByteArray).data.toList).toArray⟩ : ByteArray) = Y := ⟨_, rfl⟩
        have hYl : Lib.trimPrefix X.data.toList (⟨#[60, 33, 45, 45, 62]⟩ : ByteArray).data.toList = Y.data.toList := by rw [← hY]
        have hYs : Y.size ≤ X.size := by rw [← hY]; exact trimPrefix_size X _
        have hC := fun w' => Tryz.strings_CutPrefix X ⟨#[60, 33, 45, 45, 62]⟩ w'
        rw [hY] at hC
        rw [hYl] at hE
        have HC := Lib.hid hC
        have HI := Lib.hid fun w' => index_max Y ⟨#[]⟩ w' (by omega)
        have hI := index_room Y ⟨#[]⟩
        have hmw : MaxB (wr.alloc (.cells #[.string ⟨#[60, 33, 45, 45, 62]⟩, .string ⟨#[]⟩] 45)) := hm.later (HB.out.alloc hz _)
        have HM := Lib.hid hmw
        clear hY hYl hC hmw
        obtain ⟨q, hq⟩ : ∃ q, Lib.index Y.data.toList (⟨#[]⟩ : ByteArray).data.toList = q := ⟨_, rfl⟩
        rw [hq] at hE hI
        have HQ := Lib.hid hq
        clear hq
        rcases hI with rfl | ⟨n, rfl, hn⟩
        · rw [if_pos (by decide)] at hE
          subst hE
          go_wp2_with fail
          refine Calls.mono (HC.out _) ?_
          rintro e w5 ⟨rfl, rfl⟩
          rw [HP.out]
          go_wp2_with fail
          refine Calls.mono (HI.out _ HM.out) ?_
          rintro e w6 ⟨rfl, rfl⟩
          rw [HQ.out]
          go_wp2
          go_ret
          exact ⟨rfl, HB.out.alloc hz _⟩
        · rw [if_neg (by omega)] at hE
          have hv : (E : Int) = (i : Int) + 5 + (n : Int) + 0 := by
            rw [← hE, show (⟨#[60, 33, 45, 45, 62]⟩ : ByteArray).size = 5 from rfl, show (⟨#[]⟩ : ByteArray).size = 0 from rfl]
            omega
          have hb1 : (i : Int) + (n : Int) ≤ 2199023254 := by omega
          have HV := Lib.hid hv
          clear hE hv
          go_wp2_with fail
          refine Calls.mono (HC.out _) ?_
          rintro e w5 ⟨rfl, rfl⟩
          rw [HP.out]
          go_wp2_with fail
          refine Calls.mono (HI.out _ HM.out) ?_
          rintro e w6 ⟨rfl, rfl⟩
          rw [HQ.out]
          go_wp2
          go_ret
          rw [HV.out]
          exact ⟨by go_num, HB.out.alloc hz _⟩
    · have x0 := html_x1
      rw [show htmlS X.data.toList i (htmlPs.drop 1) = (if (Lib.hasPrefix X.data.toList (⟨#[60, 33, 45, 45, 45, 62]⟩ : ByteArray).data.toList && (!((⟨#[60, 33, 45, 45, 45, 62]⟩ : ByteArray).data.toList == [60, 33]) || declB X.data.toList)) = true then (if Lib.index (Lib.trimPrefix X.data.toList (⟨#[60, 33, 45, 45, 45, 62]⟩ : ByteArray).data.toList) (⟨#[]⟩ : ByteArray).data.toList < 0 then 0 else i + (⟨#[60, 33, 45, 45, 45, 62]⟩ : ByteArray).size + (Lib.index (Lib.trimPrefix X.data.toList (⟨#[60, 33, 45, 45, 45, 62]⟩ : ByteArray).data.toList) (⟨#[]⟩ : ByteArray).data.toList).toNat + (⟨#[]⟩ : ByteArray).size) else htmlS X.data.toList i (htmlPs.drop 2)) from rfl] at hE
      cases hp : Lib.hasPrefix X.data.toList (⟨#[60, 33, 45, 45, 45, 62]⟩ : ByteArray).data.toList with
      | false =>
        rw [hp, Bool.false_and, if_neg (by simp)] at hE
        have HE2 := Lib.hid hE
        have HP := Lib.hid hp
        clear hp hE
        go_wp2_with fail
        refine Calls.mono (Tryz.strings_CutPrefix X ⟨#[60, 33, 45, 45, 45, 62]⟩ _) ?_
        rintro e w5 ⟨rfl, rfl⟩
        rw [HP.out]
        go_wp2
        go_roundw
        case rel => exact ⟨2, rfl, by omega, HE2.out, HB.out.alloc hz _⟩
        case measure => simp [intOf]
      | true =>
        rw [hp, show (!((⟨#[60, 33, 45, 45, 45, 62]⟩ : ByteArray).data.toList == [60, 33]) || declB X.data.toList) = true from rfl, Bool.and_true, if_pos rfl] at hE
        have HP := Lib.hid hp
        clear hp
        obtain ⟨Y, hY⟩ : ∃ Y : ByteArray, (⟨(Lib.trimPrefix X.data.toList (⟨#[60, 33, 45, 45, 45, 62]⟩ : ByteArray).data.toList).toArray⟩ : ByteArray) = Y := ⟨_, rfl⟩
        have hYl : Lib.trimPrefix X.data.toList (⟨#[60, 33, 45, 45, 45, 62]⟩ : ByteArray).data.toList = Y.data.toList := by rw [← hY]
        have hYs : Y.size ≤ X.size := by rw [← hY]; exact trimPrefix_size X _
        have hC := fun w' => Tryz.strings_CutPrefix X ⟨#[60, 33, 45, 45, 45, 62]⟩ w'
        rw [hY] at hC
        rw [hYl] at hE
        have HC := Lib.hid hC
        have HI := Lib.hid fun w' => index_max Y ⟨#[]⟩ w' (by omega)
        have hI := index_room Y ⟨#[]⟩
        have hmw : MaxB (wr.alloc (.cells #[.string ⟨#[60, 33, 45, 45, 45, 62]⟩, .string ⟨#[]⟩] 45)) := hm.later (HB.out.alloc hz _)
        have HM := Lib.hid hmw
        clear hY hYl hC hmw
        obtain ⟨q, hq⟩ : ∃ q, Lib.index Y.data.toList (⟨#[]⟩ : ByteArray).data.toList = q := ⟨_, rfl⟩
        rw [hq] at hE hI
        have HQ := Lib.hid hq
        clear hq
        rcases hI with rfl | ⟨n, rfl, hn⟩
        · rw [if_pos (by decide)] at hE
          subst hE
          go_wp2_with fail
          refine Calls.mono (HC.out _) ?_
          rintro e w5 ⟨rfl, rfl⟩
          rw [HP.out]
          go_wp2_with fail
          refine Calls.mono (HI.out _ HM.out) ?_
          rintro e w6 ⟨rfl, rfl⟩
          rw [HQ.out]
          go_wp2
          go_ret
          exact ⟨rfl, HB.out.alloc hz _⟩
        · rw [if_neg (by omega)] at hE
          have hv : (E : Int) = (i : Int) + 6 + (n : Int) + 0 := by
            rw [← hE, show (⟨#[60, 33, 45, 45, 45, 62]⟩ : ByteArray).size = 6 from rfl, show (⟨#[]⟩ : ByteArray).size = 0 from rfl]
            omega
          have hb1 : (i : Int) + (n : Int) ≤ 2199023254 := by omega
          have HV := Lib.hid hv
          clear hE hv
          go_wp2_with fail
          refine Calls.mono (HC.out _) ?_
          rintro e w5 ⟨rfl, rfl⟩
          rw [HP.out]
          go_wp2_with fail
          refine Calls.mono (HI.out _ HM.out) ?_
          rintro e w6 ⟨rfl, rfl⟩
          rw [HQ.out]
          go_wp2
          go_ret
          rw [HV.out]
          exact ⟨by go_num, HB.out.alloc hz _⟩
    · have x0 := html_x2
      rw [show htmlS X.data.toList i (htmlPs.drop 2) = (if (Lib.hasPrefix X.data.toList (⟨#[60, 33, 45, 45]⟩ : ByteArray).data.toList && (!((⟨#[60, 33, 45, 45]⟩ : ByteArray).data.toList == [60, 33]) || declB X.data.toList)) = true then (if Lib.index (Lib.trimPrefix X.data.toList (⟨#[60, 33, 45, 45]⟩ : ByteArray).data.toList) (⟨#[45, 45, 62]⟩ : ByteArray).data.toList < 0 then 0 else i + (⟨#[60, 33, 45, 45]⟩ : ByteArray).size + (Lib.index (Lib.trimPrefix X.data.toList (⟨#[60, 33, 45, 45]⟩ : ByteArray).data.toList) (⟨#[45, 45, 62]⟩ : ByteArray).data.toList).toNat + (⟨#[45, 45, 62]⟩ : ByteArray).size) else htmlS X.data.toList i (htmlPs.drop 3)) from rfl] at hE
      cases hp : Lib.hasPrefix X.data.toList (⟨#[60, 33, 45, 45]⟩ : ByteArray).data.toList with
      | false =>
        rw [hp, Bool.false_and, if_neg (by simp)] at hE
        have HE2 := Lib.hid hE
        have HP := Lib.hid hp
        clear hp hE
        go_wp2_with fail
        refine Calls.mono (Tryz.strings_CutPrefix X ⟨#[60, 33, 45, 45]⟩ _) ?_
        rintro e w5 ⟨rfl, rfl⟩
        rw [HP.out]
        go_wp2
        go_roundw
        case rel => exact ⟨3, rfl, by omega, HE2.out, HB.out.alloc hz _⟩
        case measure => simp [intOf]
      | true =>
        rw [hp, show (!((⟨#[60, 33, 45, 45]⟩ : ByteArray).data.toList == [60, 33]) || declB X.data.toList) = true from rfl, Bool.and_true, if_pos rfl] at hE
        have HP := Lib.hid hp
        clear hp
        obtain ⟨Y, hY⟩ : ∃ Y : ByteArray, (⟨(Lib.trimPrefix X.data.toList (⟨#[60, 33, 45, 45]⟩ : ByteArray).data.toList).toArray⟩ : ByteArray) = Y := ⟨_, rfl⟩
        have hYl : Lib.trimPrefix X.data.toList (⟨#[60, 33, 45, 45]⟩ : ByteArray).data.toList = Y.data.toList := by rw [← hY]
        have hYs : Y.size ≤ X.size := by rw [← hY]; exact trimPrefix_size X _
        have hC := fun w' => Tryz.strings_CutPrefix X ⟨#[60, 33, 45, 45]⟩ w'
        rw [hY] at hC
        rw [hYl] at hE
        have HC := Lib.hid hC
        have HI := Lib.hid fun w' => index_max Y ⟨#[45, 45, 62]⟩ w' (by omega)
        have hI := index_room Y ⟨#[45, 45, 62]⟩
        have hmw : MaxB (wr.alloc (.cells #[.string ⟨#[60, 33, 45, 45]⟩, .string ⟨#[45, 45, 62]⟩] 45)) := hm.later (HB.out.alloc hz _)
        have HM := Lib.hid hmw
        clear hY hYl hC hmw
        obtain ⟨q, hq⟩ : ∃ q, Lib.index Y.data.toList (⟨#[45, 45, 62]⟩ : ByteArray).data.toList = q := ⟨_, rfl⟩
        rw [hq] at hE hI
        have HQ := Lib.hid hq
        clear hq
        rcases hI with rfl | ⟨n, rfl, hn⟩
        · rw [if_pos (by decide)] at hE
          subst hE
          go_wp2_with fail
          refine Calls.mono (HC.out _) ?_
          rintro e w5 ⟨rfl, rfl⟩
          rw [HP.out]
          go_wp2_with fail
          refine Calls.mono (HI.out _ HM.out) ?_
          rintro e w6 ⟨rfl, rfl⟩
          rw [HQ.out]
          go_wp2
          go_ret
          exact ⟨rfl, HB.out.alloc hz _⟩
        · rw [if_neg (by omega)] at hE
          have hv : (E : Int) = (i : Int) + 4 + (n : Int) + 3 := by
            rw [← hE, show (⟨#[60, 33, 45, 45]⟩ : ByteArray).size = 4 from rfl, show (⟨#[45, 45, 62]⟩ : ByteArray).size = 3 from rfl]
            omega
          have hb1 : (i : Int) + (n : Int) ≤ 2199023254 := by omega
          have HV := Lib.hid hv
          clear hE hv
          go_wp2_with fail
          refine Calls.mono (HC.out _) ?_
          rintro e w5 ⟨rfl, rfl⟩
          rw [HP.out]
          go_wp2_with fail
          refine Calls.mono (HI.out _ HM.out) ?_
          rintro e w6 ⟨rfl, rfl⟩
          rw [HQ.out]
          go_wp2
          go_ret
          rw [HV.out]
          exact ⟨by go_num, HB.out.alloc hz _⟩
    · have x0 := html_x3
      rw [show htmlS X.data.toList i (htmlPs.drop 3) = (if (Lib.hasPrefix X.data.toList (⟨#[60, 63]⟩ : ByteArray).data.toList && (!((⟨#[60, 63]⟩ : ByteArray).data.toList == [60, 33]) || declB X.data.toList)) = true then (if Lib.index (Lib.trimPrefix X.data.toList (⟨#[60, 63]⟩ : ByteArray).data.toList) (⟨#[63, 62]⟩ : ByteArray).data.toList < 0 then 0 else i + (⟨#[60, 63]⟩ : ByteArray).size + (Lib.index (Lib.trimPrefix X.data.toList (⟨#[60, 63]⟩ : ByteArray).data.toList) (⟨#[63, 62]⟩ : ByteArray).data.toList).toNat + (⟨#[63, 62]⟩ : ByteArray).size) else htmlS X.data.toList i (htmlPs.drop 4)) from rfl] at hE
      cases hp : Lib.hasPrefix X.data.toList (⟨#[60, 63]⟩ : ByteArray).data.toList with
      | false =>
        rw [hp, Bool.false_and, if_neg (by simp)] at hE
        have HE2 := Lib.hid hE
        have HP := Lib.hid hp
        clear hp hE
        go_wp2_with fail
        refine Calls.mono (Tryz.strings_CutPrefix X ⟨#[60, 63]⟩ _) ?_
        rintro e w5 ⟨rfl, rfl⟩
        rw [HP.out]
        go_wp2
        go_roundw
        case rel => exact ⟨4, rfl, by omega, HE2.out, HB.out.alloc hz _⟩
        case measure => simp [intOf]
      | true =>
        rw [hp, show (!((⟨#[60, 63]⟩ : ByteArray).data.toList == [60, 33]) || declB X.data.toList) = true from rfl, Bool.and_true, if_pos rfl] at hE
        have HP := Lib.hid hp
        clear hp
        obtain ⟨Y, hY⟩ : ∃ Y : ByteArray, (⟨(Lib.trimPrefix X.data.toList (⟨#[60, 63]⟩ : ByteArray).data.toList).toArray⟩ : ByteArray) = Y := ⟨_, rfl⟩
        have hYl : Lib.trimPrefix X.data.toList (⟨#[60, 63]⟩ : ByteArray).data.toList = Y.data.toList := by rw [← hY]
        have hYs : Y.size ≤ X.size := by rw [← hY]; exact trimPrefix_size X _
        have hC := fun w' => Tryz.strings_CutPrefix X ⟨#[60, 63]⟩ w'
        rw [hY] at hC
        rw [hYl] at hE
        have HC := Lib.hid hC
        have HI := Lib.hid fun w' => index_max Y ⟨#[63, 62]⟩ w' (by omega)
        have hI := index_room Y ⟨#[63, 62]⟩
        have hmw : MaxB (wr.alloc (.cells #[.string ⟨#[60, 63]⟩, .string ⟨#[63, 62]⟩] 45)) := hm.later (HB.out.alloc hz _)
        have HM := Lib.hid hmw
        clear hY hYl hC hmw
        obtain ⟨q, hq⟩ : ∃ q, Lib.index Y.data.toList (⟨#[63, 62]⟩ : ByteArray).data.toList = q := ⟨_, rfl⟩
        rw [hq] at hE hI
        have HQ := Lib.hid hq
        clear hq
        rcases hI with rfl | ⟨n, rfl, hn⟩
        · rw [if_pos (by decide)] at hE
          subst hE
          go_wp2_with fail
          refine Calls.mono (HC.out _) ?_
          rintro e w5 ⟨rfl, rfl⟩
          rw [HP.out]
          go_wp2_with fail
          refine Calls.mono (HI.out _ HM.out) ?_
          rintro e w6 ⟨rfl, rfl⟩
          rw [HQ.out]
          go_wp2
          go_ret
          exact ⟨rfl, HB.out.alloc hz _⟩
        · rw [if_neg (by omega)] at hE
          have hv : (E : Int) = (i : Int) + 2 + (n : Int) + 2 := by
            rw [← hE, show (⟨#[60, 63]⟩ : ByteArray).size = 2 from rfl, show (⟨#[63, 62]⟩ : ByteArray).size = 2 from rfl]
            omega
          have hb1 : (i : Int) + (n : Int) ≤ 2199023254 := by omega
          have HV := Lib.hid hv
          clear hE hv
          go_wp2_with fail
          refine Calls.mono (HC.out _) ?_
          rintro e w5 ⟨rfl, rfl⟩
          rw [HP.out]
          go_wp2_with fail
          refine Calls.mono (HI.out _ HM.out) ?_
          rintro e w6 ⟨rfl, rfl⟩
          rw [HQ.out]
          go_wp2
          go_ret
          rw [HV.out]
          exact ⟨by go_num, HB.out.alloc hz _⟩
    · have x0 := html_x4
      rw [show htmlS X.data.toList i (htmlPs.drop 4) = (if (Lib.hasPrefix X.data.toList (⟨#[60, 33, 91, 67, 68, 65, 84, 65, 91]⟩ : ByteArray).data.toList && (!((⟨#[60, 33, 91, 67, 68, 65, 84, 65, 91]⟩ : ByteArray).data.toList == [60, 33]) || declB X.data.toList)) = true then (if Lib.index (Lib.trimPrefix X.data.toList (⟨#[60, 33, 91, 67, 68, 65, 84, 65, 91]⟩ : ByteArray).data.toList) (⟨#[93, 93, 62]⟩ : ByteArray).data.toList < 0 then 0 else i + (⟨#[60, 33, 91, 67, 68, 65, 84, 65, 91]⟩ : ByteArray).size + (Lib.index (Lib.trimPrefix X.data.toList (⟨#[60, 33, 91, 67, 68, 65, 84, 65, 91]⟩ : ByteArray).data.toList) (⟨#[93, 93, 62]⟩ : ByteArray).data.toList).toNat + (⟨#[93, 93, 62]⟩ : ByteArray).size) else htmlS X.data.toList i (htmlPs.drop 5)) from rfl] at hE
      cases hp : Lib.hasPrefix X.data.toList (⟨#[60, 33, 91, 67, 68, 65, 84, 65, 91]⟩ : ByteArray).data.toList with
      | false =>
        rw [hp, Bool.false_and, if_neg (by simp)] at hE
        have HE2 := Lib.hid hE
        have HP := Lib.hid hp
        clear hp hE
        go_wp2_with fail
        refine Calls.mono (Tryz.strings_CutPrefix X ⟨#[60, 33, 91, 67, 68, 65, 84, 65, 91]⟩ _) ?_
        rintro e w5 ⟨rfl, rfl⟩
        rw [HP.out]
        go_wp2
        go_roundw
        case rel => exact ⟨5, rfl, by omega, HE2.out, HB.out.alloc hz _⟩
        case measure => simp [intOf]
      | true =>
        rw [hp, show (!((⟨#[60, 33, 91, 67, 68, 65, 84, 65, 91]⟩ : ByteArray).data.toList == [60, 33]) || declB X.data.toList) = true from rfl, Bool.and_true, if_pos rfl] at hE
        have HP := Lib.hid hp
        clear hp
        obtain ⟨Y, hY⟩ : ∃ Y : ByteArray, (⟨(Lib.trimPrefix X.data.toList (⟨#[60, 33, 91, 67, 68, 65, 84, 65, 91]⟩ : ByteArray).data.toList).toArray⟩ : ByteArray) = Y := ⟨_, rfl⟩
        have hYl : Lib.trimPrefix X.data.toList (⟨#[60, 33, 91, 67, 68, 65, 84, 65, 91]⟩ : ByteArray).data.toList = Y.data.toList := by rw [← hY]
        have hYs : Y.size ≤ X.size := by rw [← hY]; exact trimPrefix_size X _
        have hC := fun w' => Tryz.strings_CutPrefix X ⟨#[60, 33, 91, 67, 68, 65, 84, 65, 91]⟩ w'
        rw [hY] at hC
        rw [hYl] at hE
        have HC := Lib.hid hC
        have HI := Lib.hid fun w' => index_max Y ⟨#[93, 93, 62]⟩ w' (by omega)
        have hI := index_room Y ⟨#[93, 93, 62]⟩
        have hmw : MaxB (wr.alloc (.cells #[.string ⟨#[60, 33, 91, 67, 68, 65, 84, 65, 91]⟩, .string ⟨#[93, 93, 62]⟩] 45)) := hm.later (HB.out.alloc hz _)
        have HM := Lib.hid hmw
        clear hY hYl hC hmw
        obtain ⟨q, hq⟩ : ∃ q, Lib.index Y.data.toList (⟨#[93, 93, 62]⟩ : ByteArray).data.toList = q := ⟨_, rfl⟩
        rw [hq] at hE hI
        have HQ := Lib.hid hq
        clear hq
        rcases hI with rfl | ⟨n, rfl, hn⟩
        · rw [if_pos (by decide)] at hE
          subst hE
          go_wp2_with fail
          refine Calls.mono (HC.out _) ?_
          rintro e w5 ⟨rfl, rfl⟩
          rw [HP.out]
          go_wp2_with fail
          refine Calls.mono (HI.out _ HM.out) ?_
          rintro e w6 ⟨rfl, rfl⟩
          rw [HQ.out]
          go_wp2
          go_ret
          exact ⟨rfl, HB.out.alloc hz _⟩
        · rw [if_neg (by omega)] at hE
          have hv : (E : Int) = (i : Int) + 9 + (n : Int) + 3 := by
            rw [← hE, show (⟨#[60, 33, 91, 67, 68, 65, 84, 65, 91]⟩ : ByteArray).size = 9 from rfl, show (⟨#[93, 93, 62]⟩ : ByteArray).size = 3 from rfl]
            omega
          have hb1 : (i : Int) + (n : Int) ≤ 2199023254 := by omega
          have HV := Lib.hid hv
          clear hE hv
          go_wp2_with fail
          refine Calls.mono (HC.out _) ?_
          rintro e w5 ⟨rfl, rfl⟩
          rw [HP.out]
          go_wp2_with fail
          refine Calls.mono (HI.out _ HM.out) ?_
          rintro e w6 ⟨rfl, rfl⟩
          rw [HQ.out]
          go_wp2
          go_ret
          rw [HV.out]
          exact ⟨by go_num, HB.out.alloc hz _⟩
    · have x0 := html_x5
      rw [show htmlS X.data.toList i (htmlPs.drop 5) = (if (Lib.hasPrefix X.data.toList (⟨#[60, 33]⟩ : ByteArray).data.toList && (!((⟨#[60, 33]⟩ : ByteArray).data.toList == [60, 33]) || declB X.data.toList)) = true then (if Lib.index (Lib.trimPrefix X.data.toList (⟨#[60, 33]⟩ : ByteArray).data.toList) (⟨#[62]⟩ : ByteArray).data.toList < 0 then 0 else i + (⟨#[60, 33]⟩ : ByteArray).size + (Lib.index (Lib.trimPrefix X.data.toList (⟨#[60, 33]⟩ : ByteArray).data.toList) (⟨#[62]⟩ : ByteArray).data.toList).toNat + (⟨#[62]⟩ : ByteArray).size) else htmlS X.data.toList i (htmlPs.drop 6)) from rfl] at hE
      cases hp : Lib.hasPrefix X.data.toList (⟨#[60, 33]⟩ : ByteArray).data.toList with
      | false =>
        rw [hp, Bool.false_and, if_neg (by simp)] at hE
        have HE2 := Lib.hid hE
        have HP := Lib.hid hp
        clear hp hE
        go_wp2_with fail
        refine Calls.mono (Tryz.strings_CutPrefix X ⟨#[60, 33]⟩ _) ?_
        rintro e w5 ⟨rfl, rfl⟩
        rw [HP.out]
        go_wp2
        go_roundw
        case rel => exact ⟨6, rfl, by omega, HE2.out, HB.out.alloc hz _⟩
        case measure => simp [intOf]
      | true =>
        rw [hp, HD.out, show (!((⟨#[60, 33]⟩ : ByteArray).data.toList == [60, 33]) || true) = true from rfl, Bool.and_true, if_pos rfl] at hE
        have HP := Lib.hid hp
        clear hp
        obtain ⟨Y, hY⟩ : ∃ Y : ByteArray, (⟨(Lib.trimPrefix X.data.toList (⟨#[60, 33]⟩ : ByteArray).data.toList).toArray⟩ : ByteArray) = Y := ⟨_, rfl⟩
        have hYl : Lib.trimPrefix X.data.toList (⟨#[60, 33]⟩ : ByteArray).data.toList = Y.data.toList := by rw [← hY]
        have hYs : Y.size ≤ X.size := by rw [← hY]; exact trimPrefix_size X _
        have hC := fun w' => Tryz.strings_CutPrefix X ⟨#[60, 33]⟩ w'
        rw [hY] at hC
        rw [hYl] at hE
        have HC := Lib.hid hC
        have HI := Lib.hid fun w' => index_max Y ⟨#[62]⟩ w' (by omega)
        have hI := index_room Y ⟨#[62]⟩
        have hmw : MaxB (wr.alloc (.cells #[.string ⟨#[60, 33]⟩, .string ⟨#[62]⟩] 45)) := hm.later (HB.out.alloc hz _)
        have HM := Lib.hid hmw
        clear hY hYl hC hmw
        obtain ⟨q, hq⟩ : ∃ q, Lib.index Y.data.toList (⟨#[62]⟩ : ByteArray).data.toList = q := ⟨_, rfl⟩
        rw [hq] at hE hI
        have HQ := Lib.hid hq
        clear hq
        rcases hI with rfl | ⟨n, rfl, hn⟩
        · rw [if_pos (by decide)] at hE
          subst hE
          go_wp2_with fail
          refine Calls.mono (HC.out _) ?_
          rintro e w5 ⟨rfl, rfl⟩
          rw [HP.out]
          go_wp2_with fail
          refine Calls.mono (HI.out _ HM.out) ?_
          rintro e w6 ⟨rfl, rfl⟩
          rw [HQ.out]
          go_wp2
          go_ret
          exact ⟨rfl, HB.out.alloc hz _⟩
        · rw [if_neg (by omega)] at hE
          have hv : (E : Int) = (i : Int) + 2 + (n : Int) + 1 := by
            rw [← hE, show (⟨#[60, 33]⟩ : ByteArray).size = 2 from rfl, show (⟨#[62]⟩ : ByteArray).size = 1 from rfl]
            omega
          have hb1 : (i : Int) + (n : Int) ≤ 2199023254 := by omega
          have HV := Lib.hid hv
          clear hE hv
          go_wp2_with fail
          refine Calls.mono (HC.out _) ?_
          rintro e w5 ⟨rfl, rfl⟩
          rw [HP.out]
          go_wp2_with fail
          refine Calls.mono (HI.out _ HM.out) ?_
          rintro e w6 ⟨rfl, rfl⟩
          rw [HQ.out]
          go_wp2
          go_ret
          rw [HV.out]
          exact ⟨by go_num, HB.out.alloc hz _⟩
    · have e0 : E = 0 := by rw [← hE]; rfl
      subst e0
      go_wp2
      go_ret
      exact ⟨rfl, HB.out⟩
theorem html_any (s : ByteArray) (i : Int) (w : World) (hs : s.size ≤ 1099511627) (hi : -9223372036854775808 ≤ i ∧ i ≤ 9223372036854775807) (hm : MaxB w) :
    Calls Tryz.prog 13 #[.string s, .int .i64 i] w (RIb w (htmlAt s.data.toList i : Nat)) := by
  have hsl : s.data.toList.length = s.size := Array.length_toList
  by_cases h : 0 ≤ i ∧ i < s.size
  · obtain ⟨k, rfl⟩ : ∃ k : Nat, i = k := ⟨i.toNat, by omega⟩
    have hk : k < s.size := by omega
    have hv : htmlAt s.data.toList (k : Int) = htmlC (s.data.toList.drop k) k := by unfold htmlAt; rw [hsl, if_pos h]; rfl
    rw [hv]
    by_cases ht : 0 < tagN (s.data.toList.drop k)
    · refine html_tag s k w hs hk ?_ ht
      refine Nat.le_trans (tagN_le _) ?_
      rw [List.length_drop]
      omega
    · have ht0 : tagN (s.data.toList.drop k) = 0 := by omega
      by_cases h2 : s.size - k ≤ 2
      · exact html_short s k w hs hm hk ht0 h2
      · cases hq : pre2 (s.data.toList.drop k) with
        | false => exact html_nod s k w hs hm hk ht0 (by omega) hq
        | true =>
          cases hr : thirdB (s.data.toList.drop k) with
          | false => exact html_dec0 s k w hs hm hk ht0 (by omega) hq hr
          | true => exact html_dec1 s k w hs hm hk ht0 (by omega) hq hr
  · have hv : htmlAt s.data.toList i = 0 := by unfold htmlAt; rw [hsl, if_neg h]
    rw [hv]
    exact html_no s i w hs hi (by omega)
end Go.Proofs.YtikokedphocpiaaGreatDoor
