/- atoms.word, atoms.all: do all bytes of a text meet a test that reads nothing. -/
import Derived.Test.YtikokedphocpiaaGreatDoorAtEsc
import Derived.Shelf.GgClosure.Gives
namespace Go.Proofs.YtikokedphocpiaaGreatDoor
open Go.RowKit

def wordB (b : UInt8) : Bool := letter b || digit b
theorem word_any (b : UInt8) (w : World) : Calls Tryz.prog 57 #[.int .u8 (b.toNat : Int)] w (RB w (wordB b)) := by
  cases hl : letter b with
  | true =>
    have hs : wordB b = true := by unfold wordB; rw [hl]; rfl
    rw [hs]
    have HL := Lib.hid hl
    clear hs hl
    go_enter Tryz.func57, Tryz.ntmps57
    go_wp2_with fail
    refine Calls.mono (letter_any b _) ?_
    rintro e w' ⟨rfl, rfl⟩
    rw [HL.out]
    go_wp2
    go_ret
    exact ⟨rfl, rfl⟩
  | false =>
    have hs : wordB b = digit b := by unfold wordB; rw [hl]; rfl
    rw [hs]
    have HL := Lib.hid hl
    clear hs hl
    go_enter Tryz.func57, Tryz.ntmps57
    go_wp2_with fail
    refine Calls.mono (letter_any b _) ?_
    rintro e w' ⟨rfl, rfl⟩
    rw [HL.out]
    go_wp2_with fail
    refine Calls.mono (digit_any b _) ?_
    rintro e w' ⟨rfl, rfl⟩
    go_wp2
    go_ret
    exact ⟨rfl, rfl⟩

/-- A function of a byte that reads nothing and answers p. -/
def Says (g : Nat) (p : UInt8 → Bool) : Prop := ∀ (b : UInt8) (w : World), Calls Tryz.prog g #[.int .u8 (b.toNat : Int)] w (RB w (p b))
def allB (p : UInt8 → Bool) (l : List UInt8) : Bool := l.all p
theorem take_all (l : List UInt8) (p : UInt8 → Bool) (k : Nat) (hk : k < l.length) : (l.take (k + 1)).all p = ((l.take k).all p && p l[k]) := by
  rw [List.take_succ_eq_append_getElem hk, List.all_append]
  simp
set_option maxHeartbeats 1000000 in
set_option maxRecDepth 100000 in
theorem all_any (g : Nat) (eg : ∀ args w, (callFunc g args).run Tryz.prog w = .ok (.enter g args) w) (p : UInt8 → Bool) (hp : Says g p) (s : ByteArray) (w : World) (hs : s.size ≤ 1099511627776) :
    Calls Tryz.prog 55 #[.string s, .func (.func g) #[] #[]] w (RB w (allB p s.data.toList)) := by
  have hsl : s.data.toList.length = s.size := Array.length_toList
  have HSL := Lib.hid hsl
  have HP := Lib.hid hp
  clear hsl hp
  go_enter Tryz.func55, Tryz.ntmps55
  go_wp2_with fail
  go_loop [8] (fun i => ∃ k : Nat, i = .int .i64 k ∧ k ≤ s.size ∧ Hid ((s.data.toList.take k).all p = true)) (fun i => s.size - (intOf i).toNat)
  case atStart => exact ⟨0, rfl, Nat.zero_le _, rfl⟩
  case round =>
    obtain ⟨k, rfl, hk, HT⟩ := hrel
    by_cases hlt : k < s.size
    · have hki : (k : Int) < (s.size : Int) := by omega
      have hta := take_all s.data.toList p k (by rw [HSL.out]; exact hlt)
      rw [HT.out, Bool.true_and] at hta
      have hta2 : (s.data.toList.take (k + 1)).all p = p s[k] := hta
      have HTA := Lib.hid hta2
      clear hta hta2
      cases hb : p s[k] with
      | true =>
        have HB := Lib.hid hb
        clear hb
        go_wp2_with fail
        refine Calls.mono (HP.out s[k] _) ?_
        rintro e w' ⟨rfl, rfl⟩
        rw [HB.out]
        go_wp2
        go_round
        case rel => exact ⟨k + 1, by go_num, hlt, by show _ = true; rw [HTA.out, HB.out]⟩
        case measure => simp [intOf]; omega
      | false =>
        have hno : s.data.toList.all p = false := by
          rw [← Bool.not_eq_true]
          intro h
          rw [List.all_eq_true] at h
          have := h s[k] (by show s.data[k] ∈ s.data.toList; exact Array.mem_def.1 (Array.getElem_mem _))
          rw [hb] at this
          cases this
        have HB := Lib.hid hb
        have HNO := Lib.hid (show allB p s.data.toList = false from hno)
        clear hb hno
        go_wp2_with fail
        refine Calls.mono (HP.out s[k] _) ?_
        rintro e w' ⟨rfl, rfl⟩
        rw [HB.out]
        go_wp2
        go_ret
        rw [HNO.out]
        exact ⟨rfl, rfl⟩
    · obtain rfl : k = s.size := by omega
      have ht := HT.out
      rw [List.take_of_length_le (by rw [HSL.out]; exact Nat.le_refl _)] at ht
      have HTT := Lib.hid (show allB p s.data.toList = true from ht)
      clear ht HT
      go_wp2
      go_ret
      rw [HTT.out]
      exact ⟨rfl, rfl⟩

def inB (l : List UInt8) (b : UInt8) : Bool := wordB b || decide (0 ≤ Lib.indexByte l b)
def restB (b : UInt8) : Bool := decide (32 < b.toNat) && !(b == 60)
def hostB (b : UInt8) : Bool := wordB b || b == 45
theorem says_scheme : Says 56 (inB (⟨#[43, 46, 45]⟩ : ByteArray).data.toList) := fun b w => by
  cases hw : wordB b with
  | true =>
    have hs : inB (⟨#[43, 46, 45]⟩ : ByteArray).data.toList b = true := by unfold inB; rw [hw]; rfl
    rw [hs]
    have HW := Lib.hid hw
    clear hs hw
    go_enter Tryz.func56, Tryz.ntmps56
    go_wp2_with fail
    refine Calls.mono (word_any b _) ?_
    rintro e w' ⟨rfl, rfl⟩
    rw [HW.out]
    go_wp2
    go_ret
    exact ⟨rfl, rfl⟩
  | false =>
    obtain ⟨q, hq⟩ : ∃ q, Lib.indexByte (⟨#[43, 46, 45]⟩ : ByteArray).data.toList b = q := ⟨_, rfl⟩
    have hs : inB (⟨#[43, 46, 45]⟩ : ByteArray).data.toList b = decide (0 ≤ q) := by unfold inB; rw [hw, hq]; rfl
    rw [hs]
    have HW := Lib.hid hw
    have HQ := Lib.hid hq
    clear hs hw hq
    go_enter Tryz.func56, Tryz.ntmps56
    go_wp2_with fail
    refine Calls.mono (word_any b _) ?_
    rintro e w' ⟨rfl, rfl⟩
    rw [HW.out]
    go_wp2_with fail
    refine Calls.mono (indexByte_any ⟨#[43, 46, 45]⟩ b _) ?_
    rintro e w' ⟨rfl, rfl⟩
    rw [HQ.out]
    go_wp2
    go_ret
    exact ⟨rfl, rfl⟩
theorem says_user : Says 59 (inB (⟨#[46, 33, 35, 36, 37, 38, 39, 42, 43, 47, 61, 63, 94, 95, 123, 124, 125, 126, 45, 96]⟩ : ByteArray).data.toList) := fun b w => by
  cases hw : wordB b with
  | true =>
    have hs : inB (⟨#[46, 33, 35, 36, 37, 38, 39, 42, 43, 47, 61, 63, 94, 95, 123, 124, 125, 126, 45, 96]⟩ : ByteArray).data.toList b = true := by unfold inB; rw [hw]; rfl
    rw [hs]
    have HW := Lib.hid hw
    clear hs hw
    go_enter Tryz.func59, Tryz.ntmps59
    go_wp2_with fail
    refine Calls.mono (word_any b _) ?_
    rintro e w' ⟨rfl, rfl⟩
    rw [HW.out]
    go_wp2
    go_ret
    exact ⟨rfl, rfl⟩
  | false =>
    obtain ⟨q, hq⟩ : ∃ q, Lib.indexByte (⟨#[46, 33, 35, 36, 37, 38, 39, 42, 43, 47, 61, 63, 94, 95, 123, 124, 125, 126, 45, 96]⟩ : ByteArray).data.toList b = q := ⟨_, rfl⟩
    have hs : inB (⟨#[46, 33, 35, 36, 37, 38, 39, 42, 43, 47, 61, 63, 94, 95, 123, 124, 125, 126, 45, 96]⟩ : ByteArray).data.toList b = decide (0 ≤ q) := by unfold inB; rw [hw, hq]; rfl
    rw [hs]
    have HW := Lib.hid hw
    have HQ := Lib.hid hq
    clear hs hw hq
    go_enter Tryz.func59, Tryz.ntmps59
    go_wp2_with fail
    refine Calls.mono (word_any b _) ?_
    rintro e w' ⟨rfl, rfl⟩
    rw [HW.out]
    go_wp2_with fail
    refine Calls.mono (indexByte_any ⟨#[46, 33, 35, 36, 37, 38, 39, 42, 43, 47, 61, 63, 94, 95, 123, 124, 125, 126, 45, 96]⟩ b _) ?_
    rintro e w' ⟨rfl, rfl⟩
    rw [HQ.out]
    go_wp2
    go_ret
    exact ⟨rfl, rfl⟩
theorem says_rest : Says 58 restB := fun b w => by
  by_cases h1 : 32 < b.toNat
  · have z1 : decide ((32 : Int) < (b.toNat : Int)) = true := by simp; omega
    by_cases h2 : b = 60
    · have z2 : ((b.toNat : Int) != 60) = false := by rw [h2]; rfl
      have hs : restB b = false := by unfold restB; simp [h2]
      rw [hs]
      clear hs h1 h2
      go_enter Tryz.func58, Tryz.ntmps58
      go_wp2
      go_ret
      exact ⟨rfl, rfl⟩
    · have z2 : ((b.toNat : Int) != 60) = true := by simp; intro e; exact h2 (UInt8.toNat_inj.1 (by show b.toNat = 60; omega))
      have hs : restB b = true := by unfold restB; simp [h2]; omega
      rw [hs]
      clear hs h1 h2
      go_enter Tryz.func58, Tryz.ntmps58
      go_wp2
      go_ret
      exact ⟨rfl, rfl⟩
  · have z1 : decide ((32 : Int) < (b.toNat : Int)) = false := by simp; omega
    have hs : restB b = false := by unfold restB; simp [h1]
    rw [hs]
    clear hs h1
    go_enter Tryz.func58, Tryz.ntmps58
    go_wp2
    go_ret
    exact ⟨rfl, rfl⟩
theorem says_host : Says 61 hostB := fun b w => by
  cases hw : wordB b with
  | true =>
    have hs : hostB b = true := by unfold hostB; rw [hw]; rfl
    rw [hs]
    have HW := Lib.hid hw
    clear hs hw
    go_enter Tryz.func61, Tryz.ntmps61
    go_wp2_with fail
    refine Calls.mono (word_any b _) ?_
    rintro e w' ⟨rfl, rfl⟩
    rw [HW.out]
    go_wp2
    go_ret
    exact ⟨rfl, rfl⟩
  | false =>
    have HW := Lib.hid hw
    by_cases h : b = 45
    · have z : ((b.toNat : Int) == 45) = true := by rw [h]; rfl
      have hs : hostB b = true := by unfold hostB; rw [hw, h]; rfl
      rw [hs]
      clear hs hw h
      go_enter Tryz.func61, Tryz.ntmps61
      go_wp2_with fail
      refine Calls.mono (word_any b _) ?_
      rintro e w' ⟨rfl, rfl⟩
      rw [HW.out]
      go_wp2
      go_ret
      exact ⟨rfl, rfl⟩
    · have z : ((b.toNat : Int) == 45) = false := by rw [beq_eq_false_iff_ne]; intro e; exact h (UInt8.toNat_inj.1 (by show b.toNat = 45; omega))
      have hs : hostB b = false := by unfold hostB; rw [hw]; simpa using h
      rw [hs]
      clear hs hw h
      go_enter Tryz.func61, Tryz.ntmps61
      go_wp2_with fail
      refine Calls.mono (word_any b _) ?_
      rintro e w' ⟨rfl, rfl⟩
      rw [HW.out]
      go_wp2
      go_ret
      exact ⟨rfl, rfl⟩
end Go.Proofs.YtikokedphocpiaaGreatDoor
