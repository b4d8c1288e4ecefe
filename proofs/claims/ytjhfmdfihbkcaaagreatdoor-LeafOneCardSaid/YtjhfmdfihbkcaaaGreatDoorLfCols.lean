/- leaf.front, leaf.apart, cols.Trim, cols.Blank. -/
import Derived.Test.YtjhfmdfihbkcaaaGreatDoorAtLeaf
namespace Go.Proofs.YtjhfmdfihbkcaaaGreatDoor
open Go.RowKit

theorem enc_fin : ∀ x : Fin 128, Utf8.encode ((x.val : Nat) : Int) = ⟨#[UInt8.ofNat x.val]⟩ := by decide +kernel
theorem enc_byte (c : UInt8) (h : c.toNat < 128) : Utf8.encode ((c.toNat : Nat) : Int) = ⟨#[c]⟩ := by
  have := enc_fin ⟨c.toNat, h⟩
  rw [show UInt8.ofNat c.toNat = c by simp] at this
  exact this
/-- How many of a byte a text begins with. -/
def frontN (l : List UInt8) (c : UInt8) : Nat := (l.takeWhile (· == c)).length
theorem frontN_le (l : List UInt8) (c : UInt8) : frontN l c ≤ l.length := (List.takeWhile_sublist _).length_le
theorem frontN_trim (l : List UInt8) (c : UInt8) : (Lib.trimLeftB l c).length + frontN l c = l.length := by
  unfold frontN Lib.trimLeftB
  have := congrArg List.length (List.takeWhile_append_dropWhile (p := (· == c)) (l := l))
  rw [List.length_append] at this
  omega
theorem frontN_pos {l : List UInt8} {c : UInt8} (h : 0 < frontN l c) : l.head? = some c := by
  cases l with
  | nil => exact absurd h (Nat.lt_irrefl 0)
  | cons b l =>
    unfold frontN at h
    cases hb : b == c with
    | true => rw [List.head?_cons, eq_of_beq hb]
    | false => rw [List.takeWhile_cons_of_neg (by rw [hb]; simp)] at h; exact absurd h (Nat.lt_irrefl 0)
theorem wrap_i32 (c : UInt8) (h : c.toNat < 128) : IntKind.i32.wrap ((c.toNat : Nat) : Int) = ((c.toNat : Nat) : Int) := by
  rw [IntKind.wrap_i32]
  omega
set_option maxHeartbeats 1000000 in
set_option maxRecDepth 100000 in
theorem front_any (s : ByteArray) (c : UInt8) (w : World) (hs : s.size ≤ 1099511627) (hc : c.toNat < 128) : Calls Tryz.prog 16 #[.string s, .int .u8 (c.toNat : Int)] w (RI w (frontN s.data.toList c : Nat)) := by
  have hsl : s.data.toList.length = s.size := Array.length_toList
  have hf := frontN_trim s.data.toList c
  have hT := Tryz.strings_TrimLeft_one s c hc w
  obtain ⟨Y, hY⟩ : ∃ Y : ByteArray, (⟨(Lib.trimLeftB s.data.toList c).toArray⟩ : ByteArray) = Y := ⟨_, rfl⟩
  have hYs : Y.size = (Lib.trimLeftB s.data.toList c).length := by rw [← hY]; rfl
  have hv : ((frontN s.data.toList c : Nat) : Int) = (s.size : Int) - (Y.size : Int) := by omega
  have hYle : Y.size ≤ s.size := by omega
  rw [hY] at hT
  rw [hv]
  have HT := Lib.hid hT
  have HE := Lib.hid (enc_byte c hc)
  have hwr := wrap_i32 c hc
  clear hT hY hYs hv hsl hf
  go_enter Tryz.func16, Tryz.ntmps16
  go_wp2_with fail
  rw [HE.out]
  refine Calls.mono HT.out ?_
  rintro e w1 ⟨rfl, rfl⟩
  go_wp2
  go_ret
  exact ⟨rfl, rfl⟩
/-- Nothing, or begun with a blank. -/
def apartB : List UInt8 → Bool
  | [] => true
  | b :: _ => b == 32 || b == 9
set_option maxHeartbeats 1000000 in
set_option maxRecDepth 100000 in
theorem apart_any (s : ByteArray) (w : World) : Calls Tryz.prog 17 #[.string s] w (RB w (apartB s.data.toList)) := by
  by_cases h0 : s.size = 0
  · obtain rfl : s = ⟨#[]⟩ := by
      have : s.data = #[] := Array.eq_empty_of_size_eq_zero h0
      rw [← Lib.mk_data s, this]
    go_enter Tryz.func17, Tryz.ntmps17
    go_wp2
    go_ret
    exact ⟨rfl, rfl⟩
  · have hpos : 0 < s.size := by omega
    obtain ⟨b, r, hl⟩ : ∃ b r, s.data.toList = b :: r := by
      cases hl : s.data.toList with
      | nil => have := congrArg List.length hl; rw [Array.length_toList] at this; exact absurd this h0
      | cons b r => exact ⟨b, r, rfl⟩
    have hb : s[0] = b := by
      have h1 : s.data.toList[0]? = some b := by rw [hl]; rfl
      have h2 : s.data.toList[0]? = some s[0] := by rw [List.getElem?_eq_getElem (by rw [Array.length_toList]; exact hpos)]; rfl
      rw [h1] at h2
      exact (Option.some.inj h2).symm
    have ht : ¬ s.toList = [] := by rw [Lib.toList_data, hl]; simp
    have ht2 : s.toList.isEmpty = false := by rw [Lib.toList_data, hl]; rfl
    have hI := indexByte_any ⟨#[32, 9]⟩ b w
    have hv : decide (0 ≤ Lib.indexByte [32, 9] b) = (b == 32 || b == 9) := by
      unfold Lib.indexByte Lib.indexByte Lib.indexByte
      by_cases e1 : b = 32
      · subst e1; rfl
      · by_cases e2 : b = 9
        · subst e2; rfl
        · have f1 : ((32 : UInt8) == b) = false := by simpa using fun h => e1 h.symm
          have f2 : ((9 : UInt8) == b) = false := by simpa using fun h => e2 h.symm
          simp [e1, e2, f1, f2]
    obtain ⟨q, hq⟩ : ∃ q, Lib.indexByte (⟨#[32, 9]⟩ : ByteArray).data.toList b = q := ⟨_, rfl⟩
    have hs : apartB s.data.toList = decide (0 ≤ q) := by rw [hl, ← hq]; exact hv.symm
    rw [hq] at hI
    rw [hs]
    have HI := Lib.hid hI
    have HB := Lib.hid hb
    clear hI hb hs hq hv hl
    go_enter Tryz.func17, Tryz.ntmps17
    go_wp2_with fail
    rw [HB.out]
    refine Calls.mono HI.out ?_
    rintro e w1 ⟨rfl, rfl⟩
    go_wp2
    go_ret
    exact ⟨rfl, rfl⟩
def blankT (l : List UInt8) : List UInt8 := Lib.trimS l [32, 9]
def StrB (w : World) (l : List UInt8) (e : Ending) (w' : World) : Prop := e = .returned (.string ⟨l.toArray⟩) ∧ Below w.heap.size w w'
theorem trim_set (s : ByteArray) (w : World) (hs : s.size ≤ 1099511627) : Calls Tryz.prog 36 #[.string s, .string ⟨#[32, 9]⟩] w (StrB w (blankT s.data.toList)) :=
  Any.strings_Trim_laid Tryz.lays160 (by kernel_rfl) s ⟨#[32, 9]⟩ w (by omega) (by decide) (ascii_of_all (by decide))
theorem trimS_len (l cs : List UInt8) : (Lib.trimS l cs).length ≤ l.length := by
  unfold Lib.trimS Lib.trimLeftS Lib.trimRightS
  have h1 := (List.dropWhile_sublist (l := l.reverse) (cs.contains ·)).length_le
  have h2 := (List.dropWhile_sublist (l := (l.reverse.dropWhile (cs.contains ·)).reverse) (cs.contains ·)).length_le
  rw [List.length_reverse] at h1 h2
  omega
set_option maxHeartbeats 1000000 in
set_option maxRecDepth 100000 in
theorem colsTrim_any (s : ByteArray) (w : World) (hs : s.size ≤ 1099511627) : Calls Tryz.prog 18 #[.string s] w (StrB w (blankT s.data.toList)) := by
  have HT := Lib.hid (trim_set s w hs)
  go_enter Tryz.func18, Tryz.ntmps18
  go_wp2_with fail
  refine Calls.mono HT.out ?_
  rintro e w1 ⟨rfl, b1⟩
  go_wp2
  go_ret
  exact ⟨rfl, b1⟩
def RBw (w : World) (v : Bool) (e : Ending) (w' : World) : Prop := e = .returned (.bool v) ∧ Below w.heap.size w w'
set_option maxHeartbeats 1000000 in
set_option maxRecDepth 100000 in
theorem colsBlank_any (s : ByteArray) (w : World) (hs : s.size ≤ 1099511627) : Calls Tryz.prog 20 #[.string s] w (RBw w (blankT s.data.toList).isEmpty) := by
  have hT := colsTrim_any s w hs
  obtain ⟨l, hl⟩ : ∃ l, blankT s.data.toList = l := ⟨_, rfl⟩
  rw [hl] at hT ⊢
  obtain ⟨Y, hY⟩ : ∃ Y : ByteArray, (⟨l.toArray⟩ : ByteArray) = Y := ⟨_, rfl⟩
  have hYl : Y.toList = l := by rw [← hY, Lib.toList_data]
  unfold StrB at hT
  rw [hY] at hT
  have HT := Lib.hid hT
  have HY := Lib.hid hYl
  clear hT hl hY
  cases he : l.isEmpty with
  | true =>
    have t1 : Y.toList = [] := by rw [HY.out]; simpa using he
    have t2 : Y.toList.isEmpty = true := by rw [HY.out]; exact he
    clear hYl he
    go_enter Tryz.func20, Tryz.ntmps20
    go_wp2_with fail
    refine Calls.mono HT.out ?_
    rintro e w1 ⟨rfl, b1⟩
    go_wp2
    go_ret
    exact ⟨rfl, b1⟩
  | false =>
    have t1 : ¬ Y.toList = [] := by rw [HY.out]; simpa using he
    have t2 : Y.toList.isEmpty = false := by rw [HY.out]; exact he
    clear hYl he
    go_enter Tryz.func20, Tryz.ntmps20
    go_wp2_with fail
    refine Calls.mono HT.out ?_
    rintro e w1 ⟨rfl, b1⟩
    go_wp2
    go_ret
    exact ⟨rfl, b1⟩
end Go.Proofs.YtjhfmdfihbkcaaaGreatDoor
