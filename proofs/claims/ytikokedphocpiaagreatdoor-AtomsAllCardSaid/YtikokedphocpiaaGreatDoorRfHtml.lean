/- The reference's at, upTo and HTML: how long is the markup at a place of a text? -/
import Derived.Test.YtikokedphocpiaaGreatDoorRfTag
import Derived.Test.YtikokedphocpiaaGreatDoorAtHtmn
import Derived.Lib.Bytes2
namespace Go.Proofs.YtikokedphocpiaaGreatDoor
open Go.RowKit

set_option maxHeartbeats 1000000 in
set_option maxRecDepth 100000 in
theorem at_any (s : ByteArray) (i : Nat) (x : ByteArray) (w : World) (_ : s.size ≤ 1099511627) (hi : i ≤ s.size) (hx : x.size ≤ 100) :
    Calls Tryz.prog 36 #[.string s, .int .i64 (i : Int), .string x] w (RB w (Lib.hasPrefix (s.data.toList.drop i) x.data.toList)) := by
  have hsl : s.data.toList.length = s.size := Array.length_toList
  have hxl : x.data.toList.length = x.size := Array.length_toList
  have hpt := Lib.hasPrefix_of_take (s.data.toList.drop i) x.data.toList
  rw [List.length_drop, hsl, hxl] at hpt
  obtain ⟨B, hB⟩ : ∃ B, Lib.hasPrefix (s.data.toList.drop i) x.data.toList = B := ⟨_, rfl⟩
  rw [hB] at hpt ⊢
  have hi1 : (i : Int) ≤ (s.size : Int) := by omega
  by_cases hl : x.size ≤ s.size - i
  · rw [decide_eq_true hl, Bool.true_and] at hpt
    have z1 : (x.size : Int) ≤ (s.size : Int) - (i : Int) := by omega
    have hlen : (i : Int) + (x.size : Int) ≤ (s.size : Int) := by omega
    obtain ⟨X, hX⟩ : ∃ X, s.extract i (i + x.size) = X := ⟨_, rfl⟩
    have hXl : X.data.toList = (s.data.toList.drop i).take x.size := by rw [← hX, Lib.extract_data, show i + x.size - i = x.size by omega]
    have hXb : (X.data.toList == x.data.toList) = B := by rw [← hpt, hXl]
    have HXX := Lib.hid hX
    cases B with
    | true =>
      have he : X.toList = x.toList := by rw [ByteArray.toList_eq, ByteArray.toList_eq]; simpa using hXb
      clear hpt hB hXl hXb hsl hxl hX
      go_enter Tryz.func36, Tryz.ntmps36
      go_wp2
      rw [HXX.out]
      go_ret
      exact ⟨by simp [he], rfl⟩
    | false =>
      have he : ¬ X.toList = x.toList := by rw [ByteArray.toList_eq, ByteArray.toList_eq]; simpa using hXb
      clear hpt hB hXl hXb hsl hxl hX
      go_enter Tryz.func36, Tryz.ntmps36
      go_wp2
      go_ret
      exact ⟨by simp [HXX.out, he], rfl⟩
  · rw [decide_eq_false hl, Bool.false_and] at hpt
    have z1 : ¬ (x.size : Int) ≤ (s.size : Int) - (i : Int) := by omega
    subst hpt
    clear hB hsl hxl
    go_enter Tryz.func36, Tryz.ntmps36
    go_wp2
    go_ret
    exact ⟨rfl, rfl⟩
def upN (l : List UInt8) (i : Nat) (x : List UInt8) : Nat := if Lib.index (l.drop i) x < 0 then 0 else i + (Lib.index (l.drop i) x).toNat + x.length
def UpW (w : World) (l : List UInt8) (i : Nat) (x : List UInt8) (v : Value) (wr : World) : Prop := ∃ k : Nat, v = .int .i64 k ∧ i ≤ k ∧ k ≤ l.length ∧ (∀ j, i ≤ j → j < k → Lib.hasPrefix (l.drop j) x = false) ∧ wr = w
theorem upN_hit {l x : List UInt8} {i k : Nat} (h1 : i ≤ k) (h2 : k ≤ l.length) (h : ∀ j, i ≤ j → j < k → Lib.hasPrefix (l.drop j) x = false) (hk : Lib.hasPrefix (l.drop k) x = true) : upN l i x = k + x.length := by
  have e : Lib.index (l.drop i) x = ((k - i : Nat) : Int) := Lib.index_first (by rw [List.length_drop]; omega) (by unfold Lib.occAt; rw [List.drop_drop, show i + (k - i) = k by omega]; exact hk) (fun j hj => by unfold Lib.occAt; rw [List.drop_drop]; exact h (i + j) (by omega) (by omega))
  unfold upN
  rw [e, if_neg (by omega), Int.toNat_natCast]
  omega
theorem upN_none {l x : List UInt8} {i : Nat} (hx : x ≠ []) (h : ∀ j, i ≤ j → j < l.length → Lib.hasPrefix (l.drop j) x = false) : upN l i x = 0 := by
  have e : Lib.index (l.drop i) x = -1 := Lib.index_none fun j _ => by
    unfold Lib.occAt
    rw [List.drop_drop]
    rcases Nat.lt_or_ge (i + j) l.length with h1 | h1
    · exact h (i + j) (by omega) h1
    · rw [List.drop_eq_nil_of_le h1]
      cases x with
      | nil => exact absurd rfl hx
      | cons a t => rfl
  unfold upN
  rw [e, if_pos (by decide)]
set_option maxHeartbeats 1000000 in
set_option maxRecDepth 100000 in
theorem upTo_any (s : ByteArray) (i : Nat) (x : ByteArray) (w : World) (hs : s.size ≤ 1099511627) (hi : i ≤ s.size) (hx : x.size ≤ 100) (hne : x.data.toList ≠ []) :
    Calls Tryz.prog 37 #[.string s, .int .i64 (i : Int), .string x] w (RI w (upN s.data.toList i x.data.toList : Nat)) := by
  have hsl : s.data.toList.length = s.size := Array.length_toList
  have hxl : x.data.toList.length = x.size := Array.length_toList
  have HA := Lib.hid fun (k : Nat) w' (hk : k ≤ s.size) => at_any s k x w' hs hk hx
  have HSL := Lib.hid hsl
  have HXL := Lib.hid hxl
  have HNE := Lib.hid hne
  clear hsl hxl hne
  go_enter Tryz.func37, Tryz.ntmps37
  go_wp2_with fail
  go_loopw [7] (fun v wr => UpW w s.data.toList i x.data.toList v wr) (fun v _ => s.size - (intOf v).toNat)
  case atStart => exact ⟨i, rfl, Nat.le_refl _, by rw [HSL.out]; exact hi, fun j h1 h2 => by omega, rfl⟩
  case round =>
    obtain ⟨k, rfl, hik, hk, hj, rfl⟩ := hrel
    have hks : k ≤ s.size := by have := HSL.out; omega
    have HJ := Lib.hid hj
    have HIK := Lib.hid hik
    clear hj hk hik
    by_cases h2 : k < s.size
    · have z2 : (k : Int) < (s.size : Int) := by omega
      have hA := fun w' => HA.out k w' hks
      cases hb : Lib.hasPrefix (s.data.toList.drop k) x.data.toList with
      | true =>
        rw [hb] at hA
        have hv := upN_hit HIK.out (by rw [HSL.out]; exact hks) HJ.out hb
        have hvI : ((upN s.data.toList i x.data.toList : Nat) : Int) = (k : Int) + (x.size : Int) := by rw [hv, HXL.out]; omega
        have HA2 := Lib.hid hA
        have HV := Lib.hid hvI
        clear hb hA hv hvI
        go_wp2_with fail
        refine Calls.mono (HA2.out _) ?_
        rintro e w1 ⟨rfl, rfl⟩
        go_wp2
        go_ret
        rw [HV.out]
        exact ⟨by go_num, rfl⟩
      | false =>
        rw [hb] at hA
        have HA2 := Lib.hid hA
        have HB := Lib.hid hb
        clear hb hA
        go_wp2_with fail
        refine Calls.mono (HA2.out _) ?_
        rintro e w1 ⟨rfl, rfl⟩
        go_wp2
        exact ⟨⟨k + 1, by go_num, by have := HIK.out; omega, by rw [HSL.out]; exact h2, fun j h1 h3 => by
          rcases Nat.lt_or_ge j k with h | h
          · exact HJ.out j h1 h
          · rw [show j = k by omega]; exact HB.out, rfl⟩, by simp [intOf]; omega⟩
    · have z2 : ¬ (k : Int) < (s.size : Int) := by omega
      have hv : upN s.data.toList i x.data.toList = 0 := upN_none HNE.out fun j h1 h3 => HJ.out j h1 (by have := HSL.out; omega)
      have HV := Lib.hid hv
      clear hv h2
      go_wp2
      go_ret
      rw [HV.out]
      exact ⟨rfl, rfl⟩
theorem htmlS_yes (l : List UInt8) (i : Nat) (a b : ByteArray) (r : List (ByteArray × ByteArray)) (h : Lib.hasPrefix (l.drop i) a.data.toList = true) (h2 : (!(a.data.toList == [60, 33]) || declB (l.drop i)) = true) : htmlS (l.drop i) i ((a, b) :: r) = upN l (i + a.size) b.data.toList := by
  unfold htmlS
  rw [h, h2, if_pos (by rfl)]
  have ha : a.size = a.data.toList.length := by rw [Array.length_toList]; rfl
  have hb : b.size = b.data.toList.length := by rw [Array.length_toList]; rfl
  unfold upN Lib.trimPrefix
  rw [h, if_pos rfl, List.drop_drop, ha, hb]
theorem htmlS_no (l : List UInt8) (i : Nat) (a b : ByteArray) (r : List (ByteArray × ByteArray)) (h : Lib.hasPrefix (l.drop i) a.data.toList = false) : htmlS (l.drop i) i ((a, b) :: r) = htmlS (l.drop i) i r := by
  rw [htmlS, h, Bool.false_and, if_neg (by simp)]
theorem upN_nil (l : List UInt8) (i : Nat) : upN l i [] = i := by
  have e : Lib.index (l.drop i) [] = 0 := by cases l.drop i <;> rfl
  unfold upN
  rw [e]
  rfl
set_option maxHeartbeats 4000000 in
set_option maxRecDepth 100000 in
theorem rfh0 (s : ByteArray) (i : Nat) (w : World) (hs : s.size ≤ 1099511627) (hi : i < s.size) (ht : tagN (s.data.toList.drop i) = 0)  (p0 : Lib.hasPrefix (s.data.toList.drop i) (⟨#[60, 33, 45, 45, 62]⟩ : ByteArray).data.toList = true) :
    Calls Tryz.prog 14 #[.string s, .int .i64 (i : Int)] w (IntD w (htmlC (s.data.toList.drop i) i : Nat)) := by
  have hsl : s.data.toList.length = s.size := Array.length_toList
  have z1 : decide (s.size ≤ i) = false := by simp; omega
  have hki1 : (i : Int) ≤ (s.size : Int) := by omega
  obtain ⟨X, hX⟩ : ∃ X, s.extract i s.size = X := ⟨_, rfl⟩
  have hex := ext_drop s i
  rw [hX] at hex
  have hXz : X.size = s.size - i := by rw [← hX, ByteArray.size_extract]; omega
  have hT := fun w' => reftag_any X w' (by omega)
  rw [hex, ht] at hT
  have hv0 : htmlC (s.data.toList.drop i) i = htmlS (s.data.toList.drop i) i [(⟨#[60, 33, 45, 45, 62]⟩, ⟨#[]⟩), (⟨#[60, 33, 45, 45, 45, 62]⟩, ⟨#[]⟩), (⟨#[60, 33, 45, 45]⟩, ⟨#[45, 45, 62]⟩), (⟨#[60, 63]⟩, ⟨#[63, 62]⟩), (⟨#[60, 33, 91, 67, 68, 65, 84, 65, 91]⟩, ⟨#[93, 93, 62]⟩), (⟨#[60, 33]⟩, ⟨#[62]⟩)] := by unfold htmlC; rw [ht, if_neg (by omega)]; rfl
  have hv : htmlC (s.data.toList.drop i) i = i + 5 := by rw [hv0, htmlS_yes _ _ _ _ _ p0 rfl, show (⟨#[]⟩ : ByteArray).data.toList = [] from rfl, upN_nil]; rfl
  rw [hv]
  have hA0 := fun w' => at_any s i ⟨#[60, 33, 45, 45, 62]⟩ w' hs (by omega) (by decide)
  rw [p0] at hA0
  have HA0 := Lib.hid hA0
  have HT := Lib.hid hT
  have HX := Lib.hid hX
  clear hT hX hex hXz hv hv0 ht hsl p0 hA0
  go_enter Tryz.func14, Tryz.ntmps14
  go_wp2_with fail
  rw [HX.out]
  refine Calls.mono (HT.out _) ?_
  rintro e w1 ⟨rfl, d, rfl⟩
  go_wp2_with fail
  refine Calls.mono (HA0.out _) ?_
  rintro e w2 ⟨rfl, rfl⟩
  go_wp2
  go_ret
  exact ⟨by go_num, d, rfl⟩
set_option maxHeartbeats 4000000 in
set_option maxRecDepth 100000 in
theorem rfh1 (s : ByteArray) (i : Nat) (w : World) (hs : s.size ≤ 1099511627) (hi : i < s.size) (ht : tagN (s.data.toList.drop i) = 0) (p0 : Lib.hasPrefix (s.data.toList.drop i) (⟨#[60, 33, 45, 45, 62]⟩ : ByteArray).data.toList = false) (p1 : Lib.hasPrefix (s.data.toList.drop i) (⟨#[60, 33, 45, 45, 45, 62]⟩ : ByteArray).data.toList = true) :
    Calls Tryz.prog 14 #[.string s, .int .i64 (i : Int)] w (IntD w (htmlC (s.data.toList.drop i) i : Nat)) := by
  have hsl : s.data.toList.length = s.size := Array.length_toList
  have z1 : decide (s.size ≤ i) = false := by simp; omega
  have hki1 : (i : Int) ≤ (s.size : Int) := by omega
  obtain ⟨X, hX⟩ : ∃ X, s.extract i s.size = X := ⟨_, rfl⟩
  have hex := ext_drop s i
  rw [hX] at hex
  have hXz : X.size = s.size - i := by rw [← hX, ByteArray.size_extract]; omega
  have hT := fun w' => reftag_any X w' (by omega)
  rw [hex, ht] at hT
  have hv0 : htmlC (s.data.toList.drop i) i = htmlS (s.data.toList.drop i) i [(⟨#[60, 33, 45, 45, 62]⟩, ⟨#[]⟩), (⟨#[60, 33, 45, 45, 45, 62]⟩, ⟨#[]⟩), (⟨#[60, 33, 45, 45]⟩, ⟨#[45, 45, 62]⟩), (⟨#[60, 63]⟩, ⟨#[63, 62]⟩), (⟨#[60, 33, 91, 67, 68, 65, 84, 65, 91]⟩, ⟨#[93, 93, 62]⟩), (⟨#[60, 33]⟩, ⟨#[62]⟩)] := by unfold htmlC; rw [ht, if_neg (by omega)]; rfl
  have hv : htmlC (s.data.toList.drop i) i = i + 6 := by rw [hv0, htmlS_no _ _ _ _ _ p0, htmlS_yes _ _ _ _ _ p1 rfl, show (⟨#[]⟩ : ByteArray).data.toList = [] from rfl, upN_nil]; rfl
  rw [hv]
  have hA0 := fun w' => at_any s i ⟨#[60, 33, 45, 45, 62]⟩ w' hs (by omega) (by decide)
  rw [p0] at hA0
  have HA0 := Lib.hid hA0
  have hA1 := fun w' => at_any s i ⟨#[60, 33, 45, 45, 45, 62]⟩ w' hs (by omega) (by decide)
  rw [p1] at hA1
  have HA1 := Lib.hid hA1
  have HT := Lib.hid hT
  have HX := Lib.hid hX
  clear hT hX hex hXz hv hv0 ht hsl p0 p1 hA0 hA1
  go_enter Tryz.func14, Tryz.ntmps14
  go_wp2_with fail
  rw [HX.out]
  refine Calls.mono (HT.out _) ?_
  rintro e w1 ⟨rfl, d, rfl⟩
  go_wp2_with fail
  refine Calls.mono (HA0.out _) ?_
  rintro e w2 ⟨rfl, rfl⟩
  go_wp2_with fail
  refine Calls.mono (HA1.out _) ?_
  rintro e w2 ⟨rfl, rfl⟩
  go_wp2
  go_ret
  exact ⟨by go_num, d, rfl⟩
set_option maxHeartbeats 4000000 in
set_option maxRecDepth 100000 in
theorem rfh2 (s : ByteArray) (i : Nat) (w : World) (hs : s.size ≤ 1099511627) (hi : i < s.size) (ht : tagN (s.data.toList.drop i) = 0) (p0 : Lib.hasPrefix (s.data.toList.drop i) (⟨#[60, 33, 45, 45, 62]⟩ : ByteArray).data.toList = false) (p1 : Lib.hasPrefix (s.data.toList.drop i) (⟨#[60, 33, 45, 45, 45, 62]⟩ : ByteArray).data.toList = false) (p2 : Lib.hasPrefix (s.data.toList.drop i) (⟨#[60, 33, 45, 45]⟩ : ByteArray).data.toList = true) :
    Calls Tryz.prog 14 #[.string s, .int .i64 (i : Int)] w (IntD w (htmlC (s.data.toList.drop i) i : Nat)) := by
  have hsl : s.data.toList.length = s.size := Array.length_toList
  have z1 : decide (s.size ≤ i) = false := by simp; omega
  have hki1 : (i : Int) ≤ (s.size : Int) := by omega
  obtain ⟨X, hX⟩ : ∃ X, s.extract i s.size = X := ⟨_, rfl⟩
  have hex := ext_drop s i
  rw [hX] at hex
  have hXz : X.size = s.size - i := by rw [← hX, ByteArray.size_extract]; omega
  have hT := fun w' => reftag_any X w' (by omega)
  rw [hex, ht] at hT
  have hv0 : htmlC (s.data.toList.drop i) i = htmlS (s.data.toList.drop i) i [(⟨#[60, 33, 45, 45, 62]⟩, ⟨#[]⟩), (⟨#[60, 33, 45, 45, 45, 62]⟩, ⟨#[]⟩), (⟨#[60, 33, 45, 45]⟩, ⟨#[45, 45, 62]⟩), (⟨#[60, 63]⟩, ⟨#[63, 62]⟩), (⟨#[60, 33, 91, 67, 68, 65, 84, 65, 91]⟩, ⟨#[93, 93, 62]⟩), (⟨#[60, 33]⟩, ⟨#[62]⟩)] := by unfold htmlC; rw [ht, if_neg (by omega)]; rfl
  have hv : htmlC (s.data.toList.drop i) i = upN s.data.toList (i + 4) (⟨#[45, 45, 62]⟩ : ByteArray).data.toList := by rw [hv0, htmlS_no _ _ _ _ _ p0, htmlS_no _ _ _ _ _ p1, htmlS_yes _ _ _ _ _ p2 rfl]; rfl
  rw [hv]
  have hal := Lib.hasPrefix_le p2
  have hal2 : 4 ≤ s.size - i := by rw [List.length_drop, hsl] at hal; exact hal
  obtain ⟨U, hU⟩ : ∃ U, upN s.data.toList (i + 4) (⟨#[45, 45, 62]⟩ : ByteArray).data.toList = U := ⟨_, rfl⟩
  have hup : ∀ w', Calls Tryz.prog 37 #[.string s, .int .i64 ((i : Int) + 4), .string ⟨#[45, 45, 62]⟩] w' (RI w' (U : Nat)) := fun w' => by have := upTo_any s (i + 4) ⟨#[45, 45, 62]⟩ w' hs (by omega) (by decide) (by decide); rwa [hU] at this
  rw [hU]
  have HUP := Lib.hid hup
  clear hU hup hal
  have hA0 := fun w' => at_any s i ⟨#[60, 33, 45, 45, 62]⟩ w' hs (by omega) (by decide)
  rw [p0] at hA0
  have HA0 := Lib.hid hA0
  have hA1 := fun w' => at_any s i ⟨#[60, 33, 45, 45, 45, 62]⟩ w' hs (by omega) (by decide)
  rw [p1] at hA1
  have HA1 := Lib.hid hA1
  have hA2 := fun w' => at_any s i ⟨#[60, 33, 45, 45]⟩ w' hs (by omega) (by decide)
  rw [p2] at hA2
  have HA2 := Lib.hid hA2
  have HT := Lib.hid hT
  have HX := Lib.hid hX
  clear hT hX hex hXz hv hv0 ht hsl p0 p1 p2 hA0 hA1 hA2
  go_enter Tryz.func14, Tryz.ntmps14
  go_wp2_with fail
  rw [HX.out]
  refine Calls.mono (HT.out _) ?_
  rintro e w1 ⟨rfl, d, rfl⟩
  go_wp2_with fail
  refine Calls.mono (HA0.out _) ?_
  rintro e w2 ⟨rfl, rfl⟩
  go_wp2_with fail
  refine Calls.mono (HA1.out _) ?_
  rintro e w2 ⟨rfl, rfl⟩
  go_wp2_with fail
  refine Calls.mono (HA2.out _) ?_
  rintro e w2 ⟨rfl, rfl⟩
  go_wp2_with fail
  refine Calls.mono (HUP.out _) ?_
  rintro e w4 ⟨rfl, rfl⟩
  go_wp2
  go_ret
  exact ⟨by go_num, d, rfl⟩
set_option maxHeartbeats 4000000 in
set_option maxRecDepth 100000 in
theorem rfh3 (s : ByteArray) (i : Nat) (w : World) (hs : s.size ≤ 1099511627) (hi : i < s.size) (ht : tagN (s.data.toList.drop i) = 0) (p0 : Lib.hasPrefix (s.data.toList.drop i) (⟨#[60, 33, 45, 45, 62]⟩ : ByteArray).data.toList = false) (p1 : Lib.hasPrefix (s.data.toList.drop i) (⟨#[60, 33, 45, 45, 45, 62]⟩ : ByteArray).data.toList = false) (p2 : Lib.hasPrefix (s.data.toList.drop i) (⟨#[60, 33, 45, 45]⟩ : ByteArray).data.toList = false) (p3 : Lib.hasPrefix (s.data.toList.drop i) (⟨#[60, 63]⟩ : ByteArray).data.toList = true) :
    Calls Tryz.prog 14 #[.string s, .int .i64 (i : Int)] w (IntD w (htmlC (s.data.toList.drop i) i : Nat)) := by
  have hsl : s.data.toList.length = s.size := Array.length_toList
  have z1 : decide (s.size ≤ i) = false := by simp; omega
  have hki1 : (i : Int) ≤ (s.size : Int) := by omega
  obtain ⟨X, hX⟩ : ∃ X, s.extract i s.size = X := ⟨_, rfl⟩
  have hex := ext_drop s i
  rw [hX] at hex
  have hXz : X.size = s.size - i := by rw [← hX, ByteArray.size_extract]; omega
  have hT := fun w' => reftag_any X w' (by omega)
  rw [hex, ht] at hT
  have hv0 : htmlC (s.data.toList.drop i) i = htmlS (s.data.toList.drop i) i [(⟨#[60, 33, 45, 45, 62]⟩, ⟨#[]⟩), (⟨#[60, 33, 45, 45, 45, 62]⟩, ⟨#[]⟩), (⟨#[60, 33, 45, 45]⟩, ⟨#[45, 45, 62]⟩), (⟨#[60, 63]⟩, ⟨#[63, 62]⟩), (⟨#[60, 33, 91, 67, 68, 65, 84, 65, 91]⟩, ⟨#[93, 93, 62]⟩), (⟨#[60, 33]⟩, ⟨#[62]⟩)] := by unfold htmlC; rw [ht, if_neg (by omega)]; rfl
  have hv : htmlC (s.data.toList.drop i) i = upN s.data.toList (i + 2) (⟨#[63, 62]⟩ : ByteArray).data.toList := by rw [hv0, htmlS_no _ _ _ _ _ p0, htmlS_no _ _ _ _ _ p1, htmlS_no _ _ _ _ _ p2, htmlS_yes _ _ _ _ _ p3 rfl]; rfl
  rw [hv]
  have hal := Lib.hasPrefix_le p3
  have hal2 : 2 ≤ s.size - i := by rw [List.length_drop, hsl] at hal; exact hal
  obtain ⟨U, hU⟩ : ∃ U, upN s.data.toList (i + 2) (⟨#[63, 62]⟩ : ByteArray).data.toList = U := ⟨_, rfl⟩
  have hup : ∀ w', Calls Tryz.prog 37 #[.string s, .int .i64 ((i : Int) + 2), .string ⟨#[63, 62]⟩] w' (RI w' (U : Nat)) := fun w' => by have := upTo_any s (i + 2) ⟨#[63, 62]⟩ w' hs (by omega) (by decide) (by decide); rwa [hU] at this
  rw [hU]
  have HUP := Lib.hid hup
  clear hU hup hal
  have hA0 := fun w' => at_any s i ⟨#[60, 33, 45, 45, 62]⟩ w' hs (by omega) (by decide)
  rw [p0] at hA0
  have HA0 := Lib.hid hA0
  have hA1 := fun w' => at_any s i ⟨#[60, 33, 45, 45, 45, 62]⟩ w' hs (by omega) (by decide)
  rw [p1] at hA1
  have HA1 := Lib.hid hA1
  have hA2 := fun w' => at_any s i ⟨#[60, 33, 45, 45]⟩ w' hs (by omega) (by decide)
  rw [p2] at hA2
  have HA2 := Lib.hid hA2
  have hA3 := fun w' => at_any s i ⟨#[60, 63]⟩ w' hs (by omega) (by decide)
  rw [p3] at hA3
  have HA3 := Lib.hid hA3
  have HT := Lib.hid hT
  have HX := Lib.hid hX
  clear hT hX hex hXz hv hv0 ht hsl p0 p1 p2 p3 hA0 hA1 hA2 hA3
  go_enter Tryz.func14, Tryz.ntmps14
  go_wp2_with fail
  rw [HX.out]
  refine Calls.mono (HT.out _) ?_
  rintro e w1 ⟨rfl, d, rfl⟩
  go_wp2_with fail
  refine Calls.mono (HA0.out _) ?_
  rintro e w2 ⟨rfl, rfl⟩
  go_wp2_with fail
  refine Calls.mono (HA1.out _) ?_
  rintro e w2 ⟨rfl, rfl⟩
  go_wp2_with fail
  refine Calls.mono (HA2.out _) ?_
  rintro e w2 ⟨rfl, rfl⟩
  go_wp2_with fail
  refine Calls.mono (HA3.out _) ?_
  rintro e w2 ⟨rfl, rfl⟩
  go_wp2_with fail
  refine Calls.mono (HUP.out _) ?_
  rintro e w4 ⟨rfl, rfl⟩
  go_wp2
  go_ret
  exact ⟨by go_num, d, rfl⟩
set_option maxHeartbeats 4000000 in
set_option maxRecDepth 100000 in
theorem rfh4 (s : ByteArray) (i : Nat) (w : World) (hs : s.size ≤ 1099511627) (hi : i < s.size) (ht : tagN (s.data.toList.drop i) = 0) (p0 : Lib.hasPrefix (s.data.toList.drop i) (⟨#[60, 33, 45, 45, 62]⟩ : ByteArray).data.toList = false) (p1 : Lib.hasPrefix (s.data.toList.drop i) (⟨#[60, 33, 45, 45, 45, 62]⟩ : ByteArray).data.toList = false) (p2 : Lib.hasPrefix (s.data.toList.drop i) (⟨#[60, 33, 45, 45]⟩ : ByteArray).data.toList = false) (p3 : Lib.hasPrefix (s.data.toList.drop i) (⟨#[60, 63]⟩ : ByteArray).data.toList = false) (p4 : Lib.hasPrefix (s.data.toList.drop i) (⟨#[60, 33, 91, 67, 68, 65, 84, 65, 91]⟩ : ByteArray).data.toList = true) :
    Calls Tryz.prog 14 #[.string s, .int .i64 (i : Int)] w (IntD w (htmlC (s.data.toList.drop i) i : Nat)) := by
  have hsl : s.data.toList.length = s.size := Array.length_toList
  have z1 : decide (s.size ≤ i) = false := by simp; omega
  have hki1 : (i : Int) ≤ (s.size : Int) := by omega
  obtain ⟨X, hX⟩ : ∃ X, s.extract i s.size = X := ⟨_, rfl⟩
  have hex := ext_drop s i
  rw [hX] at hex
  have hXz : X.size = s.size - i := by rw [← hX, ByteArray.size_extract]; omega
  have hT := fun w' => reftag_any X w' (by omega)
  rw [hex, ht] at hT
  have hv0 : htmlC (s.data.toList.drop i) i = htmlS (s.data.toList.drop i) i [(⟨#[60, 33, 45, 45, 62]⟩, ⟨#[]⟩), (⟨#[60, 33, 45, 45, 45, 62]⟩, ⟨#[]⟩), (⟨#[60, 33, 45, 45]⟩, ⟨#[45, 45, 62]⟩), (⟨#[60, 63]⟩, ⟨#[63, 62]⟩), (⟨#[60, 33, 91, 67, 68, 65, 84, 65, 91]⟩, ⟨#[93, 93, 62]⟩), (⟨#[60, 33]⟩, ⟨#[62]⟩)] := by unfold htmlC; rw [ht, if_neg (by omega)]; rfl
  have hv : htmlC (s.data.toList.drop i) i = upN s.data.toList (i + 9) (⟨#[93, 93, 62]⟩ : ByteArray).data.toList := by rw [hv0, htmlS_no _ _ _ _ _ p0, htmlS_no _ _ _ _ _ p1, htmlS_no _ _ _ _ _ p2, htmlS_no _ _ _ _ _ p3, htmlS_yes _ _ _ _ _ p4 rfl]; rfl
  rw [hv]
  have hal := Lib.hasPrefix_le p4
  have hal2 : 9 ≤ s.size - i := by rw [List.length_drop, hsl] at hal; exact hal
  obtain ⟨U, hU⟩ : ∃ U, upN s.data.toList (i + 9) (⟨#[93, 93, 62]⟩ : ByteArray).data.toList = U := ⟨_, rfl⟩
  have hup : ∀ w', Calls Tryz.prog 37 #[.string s, .int .i64 ((i : Int) + 9), .string ⟨#[93, 93, 62]⟩] w' (RI w' (U : Nat)) := fun w' => by have := upTo_any s (i + 9) ⟨#[93, 93, 62]⟩ w' hs (by omega) (by decide) (by decide); rwa [hU] at this
  rw [hU]
  have HUP := Lib.hid hup
  clear hU hup hal
  have hA0 := fun w' => at_any s i ⟨#[60, 33, 45, 45, 62]⟩ w' hs (by omega) (by decide)
  rw [p0] at hA0
  have HA0 := Lib.hid hA0
  have hA1 := fun w' => at_any s i ⟨#[60, 33, 45, 45, 45, 62]⟩ w' hs (by omega) (by decide)
  rw [p1] at hA1
  have HA1 := Lib.hid hA1
  have hA2 := fun w' => at_any s i ⟨#[60, 33, 45, 45]⟩ w' hs (by omega) (by decide)
  rw [p2] at hA2
  have HA2 := Lib.hid hA2
  have hA3 := fun w' => at_any s i ⟨#[60, 63]⟩ w' hs (by omega) (by decide)
  rw [p3] at hA3
  have HA3 := Lib.hid hA3
  have hA4 := fun w' => at_any s i ⟨#[60, 33, 91, 67, 68, 65, 84, 65, 91]⟩ w' hs (by omega) (by decide)
  rw [p4] at hA4
  have HA4 := Lib.hid hA4
  have HT := Lib.hid hT
  have HX := Lib.hid hX
  clear hT hX hex hXz hv hv0 ht hsl p0 p1 p2 p3 p4 hA0 hA1 hA2 hA3 hA4
  go_enter Tryz.func14, Tryz.ntmps14
  go_wp2_with fail
  rw [HX.out]
  refine Calls.mono (HT.out _) ?_
  rintro e w1 ⟨rfl, d, rfl⟩
  go_wp2_with fail
  refine Calls.mono (HA0.out _) ?_
  rintro e w2 ⟨rfl, rfl⟩
  go_wp2_with fail
  refine Calls.mono (HA1.out _) ?_
  rintro e w2 ⟨rfl, rfl⟩
  go_wp2_with fail
  refine Calls.mono (HA2.out _) ?_
  rintro e w2 ⟨rfl, rfl⟩
  go_wp2_with fail
  refine Calls.mono (HA3.out _) ?_
  rintro e w2 ⟨rfl, rfl⟩
  go_wp2_with fail
  refine Calls.mono (HA4.out _) ?_
  rintro e w2 ⟨rfl, rfl⟩
  go_wp2_with fail
  refine Calls.mono (HUP.out _) ?_
  rintro e w4 ⟨rfl, rfl⟩
  go_wp2
  go_ret
  exact ⟨by go_num, d, rfl⟩
set_option maxHeartbeats 4000000 in
set_option maxRecDepth 100000 in
theorem rfh6 (s : ByteArray) (i : Nat) (w : World) (hs : s.size ≤ 1099511627) (hi : i < s.size) (ht : tagN (s.data.toList.drop i) = 0) (p0 : Lib.hasPrefix (s.data.toList.drop i) (⟨#[60, 33, 45, 45, 62]⟩ : ByteArray).data.toList = false) (p1 : Lib.hasPrefix (s.data.toList.drop i) (⟨#[60, 33, 45, 45, 45, 62]⟩ : ByteArray).data.toList = false) (p2 : Lib.hasPrefix (s.data.toList.drop i) (⟨#[60, 33, 45, 45]⟩ : ByteArray).data.toList = false) (p3 : Lib.hasPrefix (s.data.toList.drop i) (⟨#[60, 63]⟩ : ByteArray).data.toList = false) (p4 : Lib.hasPrefix (s.data.toList.drop i) (⟨#[60, 33, 91, 67, 68, 65, 84, 65, 91]⟩ : ByteArray).data.toList = false) (p5 : Lib.hasPrefix (s.data.toList.drop i) (⟨#[60, 33]⟩ : ByteArray).data.toList = false) :
    Calls Tryz.prog 14 #[.string s, .int .i64 (i : Int)] w (IntD w (htmlC (s.data.toList.drop i) i : Nat)) := by
  have hsl : s.data.toList.length = s.size := Array.length_toList
  have z1 : decide (s.size ≤ i) = false := by simp; omega
  have hki1 : (i : Int) ≤ (s.size : Int) := by omega
  obtain ⟨X, hX⟩ : ∃ X, s.extract i s.size = X := ⟨_, rfl⟩
  have hex := ext_drop s i
  rw [hX] at hex
  have hXz : X.size = s.size - i := by rw [← hX, ByteArray.size_extract]; omega
  have hT := fun w' => reftag_any X w' (by omega)
  rw [hex, ht] at hT
  have hv0 : htmlC (s.data.toList.drop i) i = htmlS (s.data.toList.drop i) i [(⟨#[60, 33, 45, 45, 62]⟩, ⟨#[]⟩), (⟨#[60, 33, 45, 45, 45, 62]⟩, ⟨#[]⟩), (⟨#[60, 33, 45, 45]⟩, ⟨#[45, 45, 62]⟩), (⟨#[60, 63]⟩, ⟨#[63, 62]⟩), (⟨#[60, 33, 91, 67, 68, 65, 84, 65, 91]⟩, ⟨#[93, 93, 62]⟩), (⟨#[60, 33]⟩, ⟨#[62]⟩)] := by unfold htmlC; rw [ht, if_neg (by omega)]; rfl
  have hv : htmlC (s.data.toList.drop i) i = 0 := by rw [hv0, htmlS_no _ _ _ _ _ p0, htmlS_no _ _ _ _ _ p1, htmlS_no _ _ _ _ _ p2, htmlS_no _ _ _ _ _ p3, htmlS_no _ _ _ _ _ p4, htmlS_no _ _ _ _ _ p5]; rfl
  rw [hv]
  have hA0 := fun w' => at_any s i ⟨#[60, 33, 45, 45, 62]⟩ w' hs (by omega) (by decide)
  rw [p0] at hA0
  have HA0 := Lib.hid hA0
  have hA1 := fun w' => at_any s i ⟨#[60, 33, 45, 45, 45, 62]⟩ w' hs (by omega) (by decide)
  rw [p1] at hA1
  have HA1 := Lib.hid hA1
  have hA2 := fun w' => at_any s i ⟨#[60, 33, 45, 45]⟩ w' hs (by omega) (by decide)
  rw [p2] at hA2
  have HA2 := Lib.hid hA2
  have hA3 := fun w' => at_any s i ⟨#[60, 63]⟩ w' hs (by omega) (by decide)
  rw [p3] at hA3
  have HA3 := Lib.hid hA3
  have hA4 := fun w' => at_any s i ⟨#[60, 33, 91, 67, 68, 65, 84, 65, 91]⟩ w' hs (by omega) (by decide)
  rw [p4] at hA4
  have HA4 := Lib.hid hA4
  have hA5 := fun w' => at_any s i ⟨#[60, 33]⟩ w' hs (by omega) (by decide)
  rw [p5] at hA5
  have HA5 := Lib.hid hA5
  have HT := Lib.hid hT
  have HX := Lib.hid hX
  clear hT hX hex hXz hv hv0 ht hsl p0 p1 p2 p3 p4 p5 hA0 hA1 hA2 hA3 hA4 hA5
  go_enter Tryz.func14, Tryz.ntmps14
  go_wp2_with fail
  rw [HX.out]
  refine Calls.mono (HT.out _) ?_
  rintro e w1 ⟨rfl, d, rfl⟩
  go_wp2_with fail
  refine Calls.mono (HA0.out _) ?_
  rintro e w2 ⟨rfl, rfl⟩
  go_wp2_with fail
  refine Calls.mono (HA1.out _) ?_
  rintro e w2 ⟨rfl, rfl⟩
  go_wp2_with fail
  refine Calls.mono (HA2.out _) ?_
  rintro e w2 ⟨rfl, rfl⟩
  go_wp2_with fail
  refine Calls.mono (HA3.out _) ?_
  rintro e w2 ⟨rfl, rfl⟩
  go_wp2_with fail
  refine Calls.mono (HA4.out _) ?_
  rintro e w2 ⟨rfl, rfl⟩
  go_wp2_with fail
  refine Calls.mono (HA5.out _) ?_
  rintro e w2 ⟨rfl, rfl⟩
  go_wp2
  go_ret
  exact ⟨by go_num, d, rfl⟩
set_option maxHeartbeats 4000000 in
set_option maxRecDepth 100000 in
theorem rfh5y (s : ByteArray) (i : Nat) (w : World) (hs : s.size ≤ 1099511627) (hi : i < s.size) (ht : tagN (s.data.toList.drop i) = 0) (p0 : Lib.hasPrefix (s.data.toList.drop i) (⟨#[60, 33, 45, 45, 62]⟩ : ByteArray).data.toList = false) (p1 : Lib.hasPrefix (s.data.toList.drop i) (⟨#[60, 33, 45, 45, 45, 62]⟩ : ByteArray).data.toList = false) (p2 : Lib.hasPrefix (s.data.toList.drop i) (⟨#[60, 33, 45, 45]⟩ : ByteArray).data.toList = false) (p3 : Lib.hasPrefix (s.data.toList.drop i) (⟨#[60, 63]⟩ : ByteArray).data.toList = false) (p4 : Lib.hasPrefix (s.data.toList.drop i) (⟨#[60, 33, 91, 67, 68, 65, 84, 65, 91]⟩ : ByteArray).data.toList = false) (p5 : Lib.hasPrefix (s.data.toList.drop i) (⟨#[60, 33]⟩ : ByteArray).data.toList = true) (hq : i + 2 < s.size) (hlt : letter s[i + 2] = true) (hd : declB (s.data.toList.drop i) = true) :
    Calls Tryz.prog 14 #[.string s, .int .i64 (i : Int)] w (IntD w (htmlC (s.data.toList.drop i) i : Nat)) := by
  have hsl : s.data.toList.length = s.size := Array.length_toList
  have z1 : decide (s.size ≤ i) = false := by simp; omega
  have hki1 : (i : Int) ≤ (s.size : Int) := by omega
  obtain ⟨X, hX⟩ : ∃ X, s.extract i s.size = X := ⟨_, rfl⟩
  have hex := ext_drop s i
  rw [hX] at hex
  have hXz : X.size = s.size - i := by rw [← hX, ByteArray.size_extract]; omega
  have hT := fun w' => reftag_any X w' (by omega)
  rw [hex, ht] at hT
  have hv0 : htmlC (s.data.toList.drop i) i = htmlS (s.data.toList.drop i) i [(⟨#[60, 33, 45, 45, 62]⟩, ⟨#[]⟩), (⟨#[60, 33, 45, 45, 45, 62]⟩, ⟨#[]⟩), (⟨#[60, 33, 45, 45]⟩, ⟨#[45, 45, 62]⟩), (⟨#[60, 63]⟩, ⟨#[63, 62]⟩), (⟨#[60, 33, 91, 67, 68, 65, 84, 65, 91]⟩, ⟨#[93, 93, 62]⟩), (⟨#[60, 33]⟩, ⟨#[62]⟩)] := by unfold htmlC; rw [ht, if_neg (by omega)]; rfl
  have hv : htmlC (s.data.toList.drop i) i = upN s.data.toList (i + 2) (⟨#[62]⟩ : ByteArray).data.toList := by rw [hv0, htmlS_no _ _ _ _ _ p0, htmlS_no _ _ _ _ _ p1, htmlS_no _ _ _ _ _ p2, htmlS_no _ _ _ _ _ p3, htmlS_no _ _ _ _ _ p4, htmlS_yes _ _ _ _ _ p5 (by rw [hd]; rfl)]; rfl
  rw [hv]
  have hal := Lib.hasPrefix_le p5
  have hal2 : 2 ≤ s.size - i := by rw [List.length_drop, hsl] at hal; exact hal
  obtain ⟨U, hU⟩ : ∃ U, upN s.data.toList (i + 2) (⟨#[62]⟩ : ByteArray).data.toList = U := ⟨_, rfl⟩
  have hup : ∀ w', Calls Tryz.prog 37 #[.string s, .int .i64 ((i : Int) + 2), .string ⟨#[62]⟩] w' (RI w' (U : Nat)) := fun w' => by have := upTo_any s (i + 2) ⟨#[62]⟩ w' hs (by omega) (by decide) (by decide); rwa [hU] at this
  rw [hU]
  have HUP := Lib.hid hup
  clear hU hup hal
  have hA0 := fun w' => at_any s i ⟨#[60, 33, 45, 45, 62]⟩ w' hs (by omega) (by decide)
  rw [p0] at hA0
  have HA0 := Lib.hid hA0
  have hA1 := fun w' => at_any s i ⟨#[60, 33, 45, 45, 45, 62]⟩ w' hs (by omega) (by decide)
  rw [p1] at hA1
  have HA1 := Lib.hid hA1
  have hA2 := fun w' => at_any s i ⟨#[60, 33, 45, 45]⟩ w' hs (by omega) (by decide)
  rw [p2] at hA2
  have HA2 := Lib.hid hA2
  have hA3 := fun w' => at_any s i ⟨#[60, 63]⟩ w' hs (by omega) (by decide)
  rw [p3] at hA3
  have HA3 := Lib.hid hA3
  have hA4 := fun w' => at_any s i ⟨#[60, 33, 91, 67, 68, 65, 84, 65, 91]⟩ w' hs (by omega) (by decide)
  rw [p4] at hA4
  have HA4 := Lib.hid hA4
  have hA5 := fun w' => at_any s i ⟨#[60, 33]⟩ w' hs (by omega) (by decide)
  rw [p5] at hA5
  have HA5 := Lib.hid hA5
  have HT := Lib.hid hT
  have HX := Lib.hid hX
  have y2 : (i : Int) + 2 < (s.size : Int) := by omega
  have hl2 := fun w' => refletter_any s[i + 2] w'
  rw [hlt] at hl2
  have HLT := Lib.hid hl2
  clear hl2 hlt
  clear hT hX hex hXz hv hv0 ht hsl p0 p1 p2 p3 p4 p5 hA0 hA1 hA2 hA3 hA4 hA5 hd
  go_enter Tryz.func14, Tryz.ntmps14
  go_wp2_with fail
  rw [HX.out]
  refine Calls.mono (HT.out _) ?_
  rintro e w1 ⟨rfl, d, rfl⟩
  go_wp2_with fail
  refine Calls.mono (HA0.out _) ?_
  rintro e w2 ⟨rfl, rfl⟩
  go_wp2_with fail
  refine Calls.mono (HA1.out _) ?_
  rintro e w2 ⟨rfl, rfl⟩
  go_wp2_with fail
  refine Calls.mono (HA2.out _) ?_
  rintro e w2 ⟨rfl, rfl⟩
  go_wp2_with fail
  refine Calls.mono (HA3.out _) ?_
  rintro e w2 ⟨rfl, rfl⟩
  go_wp2_with fail
  refine Calls.mono (HA4.out _) ?_
  rintro e w2 ⟨rfl, rfl⟩
  go_wp2_with fail
  refine Calls.mono (HA5.out _) ?_
  rintro e w2 ⟨rfl, rfl⟩
  go_wp2_with fail
  refine Calls.mono (HLT.out _) ?_
  rintro e w3 ⟨rfl, rfl⟩
  go_wp2_with fail
  refine Calls.mono (HUP.out _) ?_
  rintro e w4 ⟨rfl, rfl⟩
  go_wp2
  go_ret
  exact ⟨by go_num, d, rfl⟩
set_option maxHeartbeats 4000000 in
set_option maxRecDepth 100000 in
theorem rfh5n (s : ByteArray) (i : Nat) (w : World) (hs : s.size ≤ 1099511627) (hi : i < s.size) (ht : tagN (s.data.toList.drop i) = 0) (p0 : Lib.hasPrefix (s.data.toList.drop i) (⟨#[60, 33, 45, 45, 62]⟩ : ByteArray).data.toList = false) (p1 : Lib.hasPrefix (s.data.toList.drop i) (⟨#[60, 33, 45, 45, 45, 62]⟩ : ByteArray).data.toList = false) (p2 : Lib.hasPrefix (s.data.toList.drop i) (⟨#[60, 33, 45, 45]⟩ : ByteArray).data.toList = false) (p3 : Lib.hasPrefix (s.data.toList.drop i) (⟨#[60, 63]⟩ : ByteArray).data.toList = false) (p4 : Lib.hasPrefix (s.data.toList.drop i) (⟨#[60, 33, 91, 67, 68, 65, 84, 65, 91]⟩ : ByteArray).data.toList = false) (p5 : Lib.hasPrefix (s.data.toList.drop i) (⟨#[60, 33]⟩ : ByteArray).data.toList = true) (hq : i + 2 < s.size) (hlt : letter s[i + 2] = false) (hd : declB (s.data.toList.drop i) = false) :
    Calls Tryz.prog 14 #[.string s, .int .i64 (i : Int)] w (IntD w (htmlC (s.data.toList.drop i) i : Nat)) := by
  have hsl : s.data.toList.length = s.size := Array.length_toList
  have z1 : decide (s.size ≤ i) = false := by simp; omega
  have hki1 : (i : Int) ≤ (s.size : Int) := by omega
  obtain ⟨X, hX⟩ : ∃ X, s.extract i s.size = X := ⟨_, rfl⟩
  have hex := ext_drop s i
  rw [hX] at hex
  have hXz : X.size = s.size - i := by rw [← hX, ByteArray.size_extract]; omega
  have hT := fun w' => reftag_any X w' (by omega)
  rw [hex, ht] at hT
  have hv0 : htmlC (s.data.toList.drop i) i = htmlS (s.data.toList.drop i) i [(⟨#[60, 33, 45, 45, 62]⟩, ⟨#[]⟩), (⟨#[60, 33, 45, 45, 45, 62]⟩, ⟨#[]⟩), (⟨#[60, 33, 45, 45]⟩, ⟨#[45, 45, 62]⟩), (⟨#[60, 63]⟩, ⟨#[63, 62]⟩), (⟨#[60, 33, 91, 67, 68, 65, 84, 65, 91]⟩, ⟨#[93, 93, 62]⟩), (⟨#[60, 33]⟩, ⟨#[62]⟩)] := by unfold htmlC; rw [ht, if_neg (by omega)]; rfl
  have hv : htmlC (s.data.toList.drop i) i = 0 := by rw [hv0, htmlS_no _ _ _ _ _ p0, htmlS_no _ _ _ _ _ p1, htmlS_no _ _ _ _ _ p2, htmlS_no _ _ _ _ _ p3, htmlS_no _ _ _ _ _ p4, htmlS, hd, p5]; rfl
  rw [hv]
  have hA0 := fun w' => at_any s i ⟨#[60, 33, 45, 45, 62]⟩ w' hs (by omega) (by decide)
  rw [p0] at hA0
  have HA0 := Lib.hid hA0
  have hA1 := fun w' => at_any s i ⟨#[60, 33, 45, 45, 45, 62]⟩ w' hs (by omega) (by decide)
  rw [p1] at hA1
  have HA1 := Lib.hid hA1
  have hA2 := fun w' => at_any s i ⟨#[60, 33, 45, 45]⟩ w' hs (by omega) (by decide)
  rw [p2] at hA2
  have HA2 := Lib.hid hA2
  have hA3 := fun w' => at_any s i ⟨#[60, 63]⟩ w' hs (by omega) (by decide)
  rw [p3] at hA3
  have HA3 := Lib.hid hA3
  have hA4 := fun w' => at_any s i ⟨#[60, 33, 91, 67, 68, 65, 84, 65, 91]⟩ w' hs (by omega) (by decide)
  rw [p4] at hA4
  have HA4 := Lib.hid hA4
  have hA5 := fun w' => at_any s i ⟨#[60, 33]⟩ w' hs (by omega) (by decide)
  rw [p5] at hA5
  have HA5 := Lib.hid hA5
  have HT := Lib.hid hT
  have HX := Lib.hid hX
  have y2 : (i : Int) + 2 < (s.size : Int) := by omega
  have hl2 := fun w' => refletter_any s[i + 2] w'
  rw [hlt] at hl2
  have HLT := Lib.hid hl2
  clear hl2 hlt
  clear hT hX hex hXz hv hv0 ht hsl p0 p1 p2 p3 p4 p5 hA0 hA1 hA2 hA3 hA4 hA5 hd
  go_enter Tryz.func14, Tryz.ntmps14
  go_wp2_with fail
  rw [HX.out]
  refine Calls.mono (HT.out _) ?_
  rintro e w1 ⟨rfl, d, rfl⟩
  go_wp2_with fail
  refine Calls.mono (HA0.out _) ?_
  rintro e w2 ⟨rfl, rfl⟩
  go_wp2_with fail
  refine Calls.mono (HA1.out _) ?_
  rintro e w2 ⟨rfl, rfl⟩
  go_wp2_with fail
  refine Calls.mono (HA2.out _) ?_
  rintro e w2 ⟨rfl, rfl⟩
  go_wp2_with fail
  refine Calls.mono (HA3.out _) ?_
  rintro e w2 ⟨rfl, rfl⟩
  go_wp2_with fail
  refine Calls.mono (HA4.out _) ?_
  rintro e w2 ⟨rfl, rfl⟩
  go_wp2_with fail
  refine Calls.mono (HA5.out _) ?_
  rintro e w2 ⟨rfl, rfl⟩
  go_wp2_with fail
  refine Calls.mono (HLT.out _) ?_
  rintro e w3 ⟨rfl, rfl⟩
  go_wp2
  go_ret
  exact ⟨by go_num, d, rfl⟩
set_option maxHeartbeats 4000000 in
set_option maxRecDepth 100000 in
theorem rfh5s (s : ByteArray) (i : Nat) (w : World) (hs : s.size ≤ 1099511627) (hi : i < s.size) (ht : tagN (s.data.toList.drop i) = 0) (p0 : Lib.hasPrefix (s.data.toList.drop i) (⟨#[60, 33, 45, 45, 62]⟩ : ByteArray).data.toList = false) (p1 : Lib.hasPrefix (s.data.toList.drop i) (⟨#[60, 33, 45, 45, 45, 62]⟩ : ByteArray).data.toList = false) (p2 : Lib.hasPrefix (s.data.toList.drop i) (⟨#[60, 33, 45, 45]⟩ : ByteArray).data.toList = false) (p3 : Lib.hasPrefix (s.data.toList.drop i) (⟨#[60, 63]⟩ : ByteArray).data.toList = false) (p4 : Lib.hasPrefix (s.data.toList.drop i) (⟨#[60, 33, 91, 67, 68, 65, 84, 65, 91]⟩ : ByteArray).data.toList = false) (p5 : Lib.hasPrefix (s.data.toList.drop i) (⟨#[60, 33]⟩ : ByteArray).data.toList = true) (hq : s.size ≤ i + 2) (hd : declB (s.data.toList.drop i) = false) :
    Calls Tryz.prog 14 #[.string s, .int .i64 (i : Int)] w (IntD w (htmlC (s.data.toList.drop i) i : Nat)) := by
  have hsl : s.data.toList.length = s.size := Array.length_toList
  have z1 : decide (s.size ≤ i) = false := by simp; omega
  have hki1 : (i : Int) ≤ (s.size : Int) := by omega
  obtain ⟨X, hX⟩ : ∃ X, s.extract i s.size = X := ⟨_, rfl⟩
  have hex := ext_drop s i
  rw [hX] at hex
  have hXz : X.size = s.size - i := by rw [← hX, ByteArray.size_extract]; omega
  have hT := fun w' => reftag_any X w' (by omega)
  rw [hex, ht] at hT
  have hv0 : htmlC (s.data.toList.drop i) i = htmlS (s.data.toList.drop i) i [(⟨#[60, 33, 45, 45, 62]⟩, ⟨#[]⟩), (⟨#[60, 33, 45, 45, 45, 62]⟩, ⟨#[]⟩), (⟨#[60, 33, 45, 45]⟩, ⟨#[45, 45, 62]⟩), (⟨#[60, 63]⟩, ⟨#[63, 62]⟩), (⟨#[60, 33, 91, 67, 68, 65, 84, 65, 91]⟩, ⟨#[93, 93, 62]⟩), (⟨#[60, 33]⟩, ⟨#[62]⟩)] := by unfold htmlC; rw [ht, if_neg (by omega)]; rfl
  have hv : htmlC (s.data.toList.drop i) i = 0 := by rw [hv0, htmlS_no _ _ _ _ _ p0, htmlS_no _ _ _ _ _ p1, htmlS_no _ _ _ _ _ p2, htmlS_no _ _ _ _ _ p3, htmlS_no _ _ _ _ _ p4, htmlS, hd, p5]; rfl
  rw [hv]
  have hA0 := fun w' => at_any s i ⟨#[60, 33, 45, 45, 62]⟩ w' hs (by omega) (by decide)
  rw [p0] at hA0
  have HA0 := Lib.hid hA0
  have hA1 := fun w' => at_any s i ⟨#[60, 33, 45, 45, 45, 62]⟩ w' hs (by omega) (by decide)
  rw [p1] at hA1
  have HA1 := Lib.hid hA1
  have hA2 := fun w' => at_any s i ⟨#[60, 33, 45, 45]⟩ w' hs (by omega) (by decide)
  rw [p2] at hA2
  have HA2 := Lib.hid hA2
  have hA3 := fun w' => at_any s i ⟨#[60, 63]⟩ w' hs (by omega) (by decide)
  rw [p3] at hA3
  have HA3 := Lib.hid hA3
  have hA4 := fun w' => at_any s i ⟨#[60, 33, 91, 67, 68, 65, 84, 65, 91]⟩ w' hs (by omega) (by decide)
  rw [p4] at hA4
  have HA4 := Lib.hid hA4
  have hA5 := fun w' => at_any s i ⟨#[60, 33]⟩ w' hs (by omega) (by decide)
  rw [p5] at hA5
  have HA5 := Lib.hid hA5
  have HT := Lib.hid hT
  have HX := Lib.hid hX
  have y2 : ¬ (i : Int) + 2 < (s.size : Int) := by omega
  have y3 : decide ((i : Int) + 2 < (s.size : Int)) = false := by simp; omega
  clear hT hX hex hXz hv hv0 ht hsl p0 p1 p2 p3 p4 p5 hA0 hA1 hA2 hA3 hA4 hA5 hd
  go_enter Tryz.func14, Tryz.ntmps14
  go_wp2_with fail
  rw [HX.out]
  refine Calls.mono (HT.out _) ?_
  rintro e w1 ⟨rfl, d, rfl⟩
  go_wp2_with fail
  refine Calls.mono (HA0.out _) ?_
  rintro e w2 ⟨rfl, rfl⟩
  go_wp2_with fail
  refine Calls.mono (HA1.out _) ?_
  rintro e w2 ⟨rfl, rfl⟩
  go_wp2_with fail
  refine Calls.mono (HA2.out _) ?_
  rintro e w2 ⟨rfl, rfl⟩
  go_wp2_with fail
  refine Calls.mono (HA3.out _) ?_
  rintro e w2 ⟨rfl, rfl⟩
  go_wp2_with fail
  refine Calls.mono (HA4.out _) ?_
  rintro e w2 ⟨rfl, rfl⟩
  go_wp2_with fail
  refine Calls.mono (HA5.out _) ?_
  rintro e w2 ⟨rfl, rfl⟩
  go_wp2
  go_ret
  exact ⟨by go_num, d, rfl⟩
set_option maxHeartbeats 1000000 in
set_option maxRecDepth 100000 in
theorem rfh_tag (s : ByteArray) (i : Nat) (w : World) (hs : s.size ≤ 1099511627) (hi : i < s.size) (h : 0 < tagN (s.data.toList.drop i)) :
    Calls Tryz.prog 14 #[.string s, .int .i64 (i : Int)] w (IntD w (htmlC (s.data.toList.drop i) i : Nat)) := by
  have z1 : decide (s.size ≤ i) = false := by simp; omega
  have hki1 : (i : Int) ≤ (s.size : Int) := by omega
  obtain ⟨X, hX⟩ : ∃ X, s.extract i s.size = X := ⟨_, rfl⟩
  have hex := ext_drop s i
  rw [hX] at hex
  have hXz : X.size = s.size - i := by rw [← hX, ByteArray.size_extract]; omega
  have hT := fun w' => reftag_any X w' (by omega)
  have hle := tagN_le (s.data.toList.drop i)
  rw [List.length_drop, show s.data.toList.length = s.size from Array.length_toList] at hle
  have hv : ((htmlC (s.data.toList.drop i) i : Nat) : Int) = (i : Int) + (tagN (s.data.toList.drop i) : Int) := by unfold htmlC; rw [if_pos h]; omega
  rw [hv]
  rw [hex] at hT
  obtain ⟨n, hn⟩ : ∃ n, tagN (s.data.toList.drop i) = n := ⟨_, rfl⟩
  rw [hn] at hT h hle ⊢
  have HT := Lib.hid hT
  have HX := Lib.hid hX
  have zn : decide (0 < n) = true := by simp; omega
  have zn2 : (0 : Int) < (n : Int) := by omega
  clear hT hX hex hv hn hXz
  go_enter Tryz.func14, Tryz.ntmps14
  go_wp2_with fail
  rw [HX.out]
  refine Calls.mono (HT.out _) ?_
  rintro e w1 ⟨rfl, d, rfl⟩
  go_wp2
  go_ret
  exact ⟨rfl, d, rfl⟩
set_option maxHeartbeats 1000000 in
set_option maxRecDepth 100000 in
theorem rfh_no (s : ByteArray) (i : Int) (w : World) (_ : s.size ≤ 1099511627) (_ : -9223372036854775808 ≤ i ∧ i ≤ 9223372036854775807) (h : i < 0 ∨ (s.size : Int) ≤ i) :
    Calls Tryz.prog 14 #[.string s, .int .i64 i] w (IntD w 0) := by
  by_cases h0 : i < 0
  · have z0 : decide (i < 0) = true := by simpa using h0
    clear h h0
    go_enter Tryz.func14, Tryz.ntmps14
    go_wp2
    go_ret
    exact ⟨rfl, 0, rfl⟩
  · have z0 : decide (i < 0) = false := by simpa using h0
    have h1 : (s.size : Int) ≤ i := by rcases h with h | h; exact absurd h h0; exact h
    have z1 : decide ((s.size : Int) ≤ i) = true := by simpa using h1
    clear h h0 h1
    go_enter Tryz.func14, Tryz.ntmps14
    go_wp2
    go_ret
    exact ⟨rfl, 0, rfl⟩
theorem refhtml_any (s : ByteArray) (i : Int) (w : World) (hs : s.size ≤ 1099511627) (hi : -9223372036854775808 ≤ i ∧ i ≤ 9223372036854775807) :
    Calls Tryz.prog 14 #[.string s, .int .i64 i] w (IntD w (htmlAt s.data.toList i : Nat)) := by
  have hsl : s.data.toList.length = s.size := Array.length_toList
  by_cases h : 0 ≤ i ∧ i < s.size
  · obtain ⟨k, rfl⟩ : ∃ k : Nat, i = k := ⟨i.toNat, by omega⟩
    have hk : k < s.size := by omega
    have hv : htmlAt s.data.toList (k : Int) = htmlC (s.data.toList.drop k) k := by unfold htmlAt; rw [hsl, if_pos h]; rfl
    rw [hv]
    by_cases ht : 0 < tagN (s.data.toList.drop k)
    · exact rfh_tag s k w hs hk ht
    · have ht0 : tagN (s.data.toList.drop k) = 0 := by omega
      cases p0 : Lib.hasPrefix (s.data.toList.drop k) (⟨#[60, 33, 45, 45, 62]⟩ : ByteArray).data.toList with
      | true =>
        exact rfh0 s k w hs hk ht0  p0
      | false =>
        cases p1 : Lib.hasPrefix (s.data.toList.drop k) (⟨#[60, 33, 45, 45, 45, 62]⟩ : ByteArray).data.toList with
        | true =>
          exact rfh1 s k w hs hk ht0 p0 p1
        | false =>
          cases p2 : Lib.hasPrefix (s.data.toList.drop k) (⟨#[60, 33, 45, 45]⟩ : ByteArray).data.toList with
          | true =>
            exact rfh2 s k w hs hk ht0 p0 p1 p2
          | false =>
            cases p3 : Lib.hasPrefix (s.data.toList.drop k) (⟨#[60, 63]⟩ : ByteArray).data.toList with
            | true =>
              exact rfh3 s k w hs hk ht0 p0 p1 p2 p3
            | false =>
              cases p4 : Lib.hasPrefix (s.data.toList.drop k) (⟨#[60, 33, 91, 67, 68, 65, 84, 65, 91]⟩ : ByteArray).data.toList with
              | true =>
                exact rfh4 s k w hs hk ht0 p0 p1 p2 p3 p4
              | false =>
                cases p5 : Lib.hasPrefix (s.data.toList.drop k) (⟨#[60, 33]⟩ : ByteArray).data.toList with
                | true =>
                  have hpre : pre2 (s.data.toList.drop k) = true := by
                    unfold pre2
                    have := Lib.hasPrefix_of_take (s.data.toList.drop k) (⟨#[60, 33]⟩ : ByteArray).data.toList
                    rw [p5] at this
                    simp only [Bool.and_eq_true] at this
                    exact this.2
                  by_cases hq : k + 2 < s.size
                  · have hthird : thirdB (s.data.toList.drop k) = letter s[k + 2] := by
                      have hlen : 2 < (s.data.toList.drop k).length := by rw [List.length_drop, hsl]; omega
                      rw [third_list _ hlen, List.getElem_drop]
                      rfl
                    cases hlt : letter s[k + 2] with
                    | true => exact rfh5y s k w hs hk ht0 p0 p1 p2 p3 p4 p5 hq hlt (by rw [declB_eq, hpre, hthird, hlt]; rfl)
                    | false => exact rfh5n s k w hs hk ht0 p0 p1 p2 p3 p4 p5 hq hlt (by rw [declB_eq, hpre, hthird, hlt]; rfl)
                  · refine rfh5s s k w hs hk ht0 p0 p1 p2 p3 p4 p5 (by omega) ?_
                    rw [declB_eq, hpre]
                    have hlen : (s.data.toList.drop k).length ≤ 2 := by rw [List.length_drop, hsl]; omega
                    revert hlen
                    generalize s.data.toList.drop k = r
                    intro hlen
                    match r, hlen with
                    | [], _ => rfl
                    | [_], _ => rfl
                    | [_, _], _ => rfl
                | false =>
                  exact rfh6 s k w hs hk ht0 p0 p1 p2 p3 p4 p5
  · have hv : htmlAt s.data.toList i = 0 := by unfold htmlAt; rw [hsl, if_neg h]
    rw [hv]
    exact rfh_no s i w hs hi (by omega)
end Go.Proofs.YtikokedphocpiaaGreatDoor
