/- leaf.Head. -/
import Derived.Test.YtjhfmdfihbkcaaaGreatDoorLfCols
namespace Go.Proofs.YtjhfmdfihbkcaaaGreatDoor
open Go.RowKit

def endT (l : List UInt8) : List UInt8 := Lib.trimRightS l [32, 9]
def headTxt (t : List UInt8) : List UInt8 := if Lib.trimRightB t 35 = [] ∨ endT (Lib.trimRightB t 35) ≠ Lib.trimRightB t 35 then endT (Lib.trimRightB t 35) else t
/-- Is it a heading? -/
def headIs (l : List UInt8) : Bool := decide (1 ≤ frontN l 35) && decide (frontN l 35 ≤ 6) && apartB (l.drop (frontN l 35))
def headLev (l : List UInt8) : Nat := if headIs l = true then frontN l 35 else 0
def headText (l : List UInt8) : List UInt8 := if headIs l = true then headTxt (blankT (l.drop (frontN l 35))) else []
def HeadR (w : World) (n : Nat) (t : List UInt8) (e : Ending) (w' : World) : Prop := e = .returned (.tuple #[.int .i64 (n : Int), .string ⟨t.toArray⟩]) ∧ Below w.heap.size w w'
theorem headLev_pos {l : List UInt8} (h : 0 < headLev l) : l.head? = some 35 := by
  unfold headLev at h
  split at h
  · exact frontN_pos h
  · exact absurd h (Nat.lt_irrefl 0)
theorem right_set (s : ByteArray) (w : World) (hs : s.size ≤ 1099511627) : Calls Tryz.prog 19 #[.string s, .string ⟨#[32, 9]⟩] w (StrB w (endT s.data.toList)) :=
  Any.strings_TrimRight_laid Tryz.lays162 (by kernel_rfl) s ⟨#[32, 9]⟩ w (by omega) (by decide) (ascii_of_all (by decide))
theorem trimRB_len (l : List UInt8) (c : UInt8) : (Lib.trimRightB l c).length ≤ l.length := by
  unfold Lib.trimRightB
  have h1 := (List.dropWhile_sublist (l := l.reverse) (· == c)).length_le
  rw [List.length_reverse] at h1 ⊢
  exact h1
set_option maxHeartbeats 2000000 in
set_option maxRecDepth 100000 in
theorem head_any (s : ByteArray) (w : World) (hs : s.size ≤ 1099511627) : Calls Tryz.prog 6 #[.string s] w (HeadR w (headLev s.data.toList) (headText s.data.toList)) := by
  have hsl : s.data.toList.length = s.size := Array.length_toList
  have hnle := frontN_le s.data.toList 35
  rw [hsl] at hnle
  have hF := front_any s 35 w hs (by decide)
  obtain ⟨X, hX⟩ : ∃ X : ByteArray, s.extract (frontN s.data.toList 35) s.size = X := ⟨_, rfl⟩
  have hXl : X.data.toList = s.data.toList.drop (frontN s.data.toList 35) := by
    rw [← hX, Lib.extract_data, ← hsl]
    exact List.take_of_length_le (by rw [List.length_drop]; omega)
  have hXs : X.size ≤ s.size := by
    have := congrArg List.length hXl
    rw [Array.length_toList, List.length_drop] at this
    have : X.size = _ := this
    omega
  have hv1 : headLev s.data.toList = if (decide (1 ≤ frontN s.data.toList 35) && decide (frontN s.data.toList 35 ≤ 6) && apartB X.data.toList) = true then frontN s.data.toList 35 else 0 := by rw [hXl]; rfl
  have hv2 : headText s.data.toList = if (decide (1 ≤ frontN s.data.toList 35) && decide (frontN s.data.toList 35 ≤ 6) && apartB X.data.toList) = true then headTxt (blankT X.data.toList) else [] := by rw [hXl]; rfl
  rw [hv1, hv2]
  clear hv1 hv2 hXl
  obtain ⟨n, hn⟩ : ∃ n, frontN s.data.toList 35 = n := ⟨_, rfl⟩
  rw [hn] at hF hX hnle ⊢
  have hki : (n : Int) ≤ (s.size : Int) := by omega
  have HF := Lib.hid hF
  have HX := Lib.hid hX
  clear hF hX hn hsl
  by_cases h1 : 1 ≤ n
  · have y1 : ¬ (n : Int) < 1 := by omega
    by_cases h6 : n ≤ 6
    · have y6 : ¬ (6 : Int) < (n : Int) := by omega
      rw [show decide (1 ≤ n) = true by simpa using h1, show decide (n ≤ 6) = true by simpa using h6, Bool.true_and, Bool.true_and]
      have HA := Lib.hid fun w' => apart_any X w'
      cases ha : apartB X.data.toList with
      | false =>
        rw [ha] at HA
        rw [if_neg (by simp), if_neg (by simp)]
        clear ha
        go_enter Tryz.func6, Tryz.ntmps6
        go_wp2_with fail
        refine Calls.mono HF.out ?_
        rintro e w1 ⟨rfl, rfl⟩
        go_wp2_with fail
        rw [HX.out]
        refine Calls.mono (HA.out _) ?_
        rintro e w1 ⟨rfl, rfl⟩
        go_wp2
        go_ret2
        exact ⟨rfl, Below.refl _ _⟩
      | true =>
        rw [ha] at HA
        rw [if_pos rfl, if_pos rfl]
        clear ha
        have hT := fun w' => colsTrim_any X w' (by omega)
        have hTl := trimS_len X.data.toList [32, 9]
        rw [show X.data.toList.length = X.size from Array.length_toList] at hTl
        obtain ⟨T, hT0⟩ : ∃ T : ByteArray, (⟨(blankT X.data.toList).toArray⟩ : ByteArray) = T := ⟨_, rfl⟩
        have hTd : blankT X.data.toList = T.data.toList := by rw [← hT0]
        have hTs : T.size ≤ X.size := by rw [← hT0]; exact hTl
        unfold StrB at hT
        rw [hT0] at hT
        rw [hTd]
        clear hT0 hTl hTd
        have hB := fun w' => Tryz.strings_TrimRight_one T 35 (by decide) w' (by omega)
        have hBl := trimRB_len T.data.toList 35
        rw [show T.data.toList.length = T.size from Array.length_toList] at hBl
        obtain ⟨B, hB0⟩ : ∃ B : ByteArray, (⟨(Lib.trimRightB T.data.toList 35).toArray⟩ : ByteArray) = B := ⟨_, rfl⟩
        have hBd : Lib.trimRightB T.data.toList 35 = B.data.toList := by rw [← hB0]
        have hBs : B.size ≤ T.size := by rw [← hB0]; exact hBl
        rw [hB0] at hB
        have hE := fun w' => right_set B w' (by omega)
        obtain ⟨E, hE0⟩ : ∃ E : ByteArray, (⟨(endT B.data.toList).toArray⟩ : ByteArray) = E := ⟨_, rfl⟩
        have hEd : endT B.data.toList = E.data.toList := by rw [← hE0]
        unfold StrB at hE
        rw [hE0] at hE
        have hv : headTxt T.data.toList = if B.data.toList = [] ∨ E.data.toList ≠ B.data.toList then E.data.toList else T.data.toList := by
          unfold headTxt
          rw [hBd, hEd]
        rw [hv]
        clear hv hEd hE0 hB0 hBd hBl
        have HT := Lib.hid hT
        have HB := Lib.hid hB
        have HE := Lib.hid hE
        clear hT hB hE
        by_cases hb : B.data.toList = []
        · rw [if_pos (.inl hb)]
          have t1 : B.toList = [] := by rw [Lib.toList_data]; exact hb
          have t2 : B.toList.isEmpty = true := by rw [t1]; rfl
          clear hb
          go_enter Tryz.func6, Tryz.ntmps6
          go_wp2_with fail
          refine Calls.mono HF.out ?_
          rintro e w1 ⟨rfl, rfl⟩
          go_wp2_with fail
          rw [HX.out]
          refine Calls.mono (HA.out _) ?_
          rintro e w1 ⟨rfl, rfl⟩
          go_wp2_with fail
          rw [HX.out]
          refine Calls.mono (HT.out _) ?_
          rintro e w2 ⟨rfl, b2⟩
          go_wp2_with fail
          refine Calls.mono (HB.out _) ?_
          rintro e w3 ⟨rfl, rfl⟩
          go_wp2_with fail
          refine Calls.mono (HE.out _) ?_
          rintro e w4 ⟨rfl, b4⟩
          have b4 := b2.trans (b4.mono b2.size)
          go_wp2
          go_ret2
          exact ⟨by rfl, b4⟩
        · have t1 : ¬ B.toList = [] := by rw [Lib.toList_data]; exact hb
          have t2 : B.toList.isEmpty = false := by cases hq : B.toList with | nil => exact absurd hq t1 | cons _ _ => rfl
          by_cases he : E.data.toList = B.data.toList
          · rw [if_neg (by rintro (h | h); exact hb h; exact h he)]
            have t3 : E.toList = B.toList := by rw [Lib.toList_data, Lib.toList_data]; exact he
            clear hb he
            go_enter Tryz.func6, Tryz.ntmps6
            go_wp2_with fail
            refine Calls.mono HF.out ?_
            rintro e w1 ⟨rfl, rfl⟩
            go_wp2_with fail
            rw [HX.out]
            refine Calls.mono (HA.out _) ?_
            rintro e w1 ⟨rfl, rfl⟩
            go_wp2_with fail
            rw [HX.out]
            refine Calls.mono (HT.out _) ?_
            rintro e w2 ⟨rfl, b2⟩
            go_wp2_with fail
            refine Calls.mono (HB.out _) ?_
            rintro e w3 ⟨rfl, rfl⟩
            go_wp2_with fail
            refine Calls.mono (HE.out _) ?_
            rintro e w4 ⟨rfl, b4⟩
            have b4 := b2.trans (b4.mono b2.size)
            go_wp2
            go_ret2
            exact ⟨by rfl, b4⟩
          · rw [if_pos (.inr he)]
            have t3 : ¬ E.toList = B.toList := by rw [Lib.toList_data, Lib.toList_data]; exact he
            have t4 : (E.toList == B.toList) = false := by simpa using t3
            clear hb he
            go_enter Tryz.func6, Tryz.ntmps6
            go_wp2_with fail
            refine Calls.mono HF.out ?_
            rintro e w1 ⟨rfl, rfl⟩
            go_wp2_with fail
            rw [HX.out]
            refine Calls.mono (HA.out _) ?_
            rintro e w1 ⟨rfl, rfl⟩
            go_wp2_with fail
            rw [HX.out]
            refine Calls.mono (HT.out _) ?_
            rintro e w2 ⟨rfl, b2⟩
            go_wp2_with fail
            refine Calls.mono (HB.out _) ?_
            rintro e w3 ⟨rfl, rfl⟩
            go_wp2_with fail
            refine Calls.mono (HE.out _) ?_
            rintro e w4 ⟨rfl, b4⟩
            have b4 := b2.trans (b4.mono b2.size)
            go_wp2
            go_ret2
            exact ⟨by rfl, b4⟩
    · have y6 : (6 : Int) < (n : Int) := by omega
      rw [show decide (n ≤ 6) = false by simpa using h6, Bool.and_false, Bool.false_and, if_neg (by simp), if_neg (by simp)]
      go_enter Tryz.func6, Tryz.ntmps6
      go_wp2_with fail
      refine Calls.mono HF.out ?_
      rintro e w1 ⟨rfl, rfl⟩
      go_wp2
      go_ret2
      exact ⟨rfl, Below.refl _ _⟩
  · have y1 : (n : Int) < 1 := by omega
    rw [show decide (1 ≤ n) = false by simpa using h1, Bool.false_and, Bool.false_and, if_neg (by simp), if_neg (by simp)]
    go_enter Tryz.func6, Tryz.ntmps6
    go_wp2_with fail
    refine Calls.mono HF.out ?_
    rintro e w1 ⟨rfl, rfl⟩
    go_wp2
    go_ret2
    exact ⟨rfl, Below.refl _ _⟩
end Go.Proofs.YtjhfmdfihbkcaaaGreatDoor
