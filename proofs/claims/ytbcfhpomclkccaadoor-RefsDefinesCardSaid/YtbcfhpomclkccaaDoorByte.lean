/- class.Letter, Digit, small and the reference's Letter, Digit; strings.IndexByte: of every byte. -/
import Derived.Test.YtbcfhpomclkccaaDoorRows
import Derived.WalkKit
import Derived.Lib.Bytealg
import Derived.Lib.Hide
namespace Go.Proofs.YtbcfhpomclkccaaDoor
open Go.RowKit

def letterN (n : Nat) : Bool := (decide (65 ≤ n) && decide (n ≤ 90)) || (decide (97 ≤ n) && decide (n ≤ 122))
def digitN (n : Nat) : Bool := decide (48 ≤ n) && decide (n ≤ 57)
def smallN (n : Nat) : Nat := if 65 ≤ n ∧ n ≤ 90 then n + 32 else n
def letter (b : UInt8) : Bool := letterN b.toNat
def digit (b : UInt8) : Bool := digitN b.toNat
def small (b : UInt8) : UInt8 := UInt8.ofNat (smallN b.toNat)
theorem small_toNat (b : UInt8) : (small b).toNat = smallN b.toNat := by
  have := UInt8.toNat_lt b
  unfold small smallN
  split <;> simp <;> omega

set_option maxRecDepth 100000 in
theorem or32 : ∀ x : Fin 256, bits .or .u8 ((x.val : Nat) : Int) 32 = (((x.val ||| 32) : Nat) : Int) := by decide
set_option maxRecDepth 100000 in
theorem or_letter : ∀ x : Fin 256, letterN x.val = (decide (97 ≤ x.val ||| 32) && decide (x.val ||| 32 ≤ 122)) := by decide
set_option maxRecDepth 100000 in
theorem or_small : ∀ x : Fin 256, 65 ≤ x.val → x.val ≤ 90 → x.val ||| 32 = x.val + 32 := by decide
theorem orb (b : UInt8) : bits .or .u8 ((b.toNat : Nat) : Int) 32 = (((b.toNat ||| 32) : Nat) : Int) := or32 ⟨b.toNat, UInt8.toNat_lt b⟩

def RB (w : World) (v : Bool) (e : Ending) (w' : World) : Prop := e = .returned (.bool v) ∧ w = w'

theorem letter_any (b : UInt8) (w : World) : Calls Tryd.prog 61 #[.int .u8 (b.toNat : Int)] w (RB w (letter b)) := by
  have ho := orb b
  have hl : letter b = _ := or_letter ⟨b.toNat, UInt8.toNat_lt b⟩
  simp only at hl
  obtain ⟨y, hy⟩ : ∃ y, b.toNat ||| 32 = y := ⟨_, rfl⟩
  rw [hy] at ho hl
  have HL := Lib.hid hl
  clear hl hy
  by_cases h1 : 97 ≤ y
  · have z1 : (97 : Int) ≤ (y : Int) := by omega
    by_cases h2 : y ≤ 122
    · have z2 : (y : Int) ≤ 122 := by omega
      go_enter Tryd.func61, Tryd.ntmps61
      go_wp2
      go_ret
      exact ⟨by rw [HL.out]; simp [h1, h2], rfl⟩
    · have z2 : ¬ (y : Int) ≤ 122 := by omega
      go_enter Tryd.func61, Tryd.ntmps61
      go_wp2
      go_ret
      exact ⟨by rw [HL.out]; simp [h1, h2], rfl⟩
  · have z1 : ¬ (97 : Int) ≤ (y : Int) := by omega
    go_enter Tryd.func61, Tryd.ntmps61
    go_wp2
    go_ret
    exact ⟨by rw [HL.out]; simp [h1], rfl⟩

theorem u8_sub (n k : Nat) (hn : n < 256) (hk : k < 256) : IntKind.u8.wrap ((n : Int) - (k : Int)) = if k ≤ n then (n : Int) - k else (n : Int) - k + 256 := by
  rw [IntKind.wrap_u8]
  split <;> omega
theorem digit_any (b : UInt8) (w : World) : Calls Tryd.prog 62 #[.int .u8 (b.toNat : Int)] w (RB w (digit b)) := by
  have hb := UInt8.toNat_lt b
  have hs := u8_sub b.toNat 48 (by omega) (by omega)
  obtain ⟨n, hn⟩ : ∃ n, b.toNat = n := ⟨_, rfl⟩
  have hd : digit b = (decide (48 ≤ n) && decide (n ≤ 57)) := by unfold digit digitN; rw [hn]
  have HD := Lib.hid hd
  rw [hn] at hb hs ⊢
  clear hd hn
  by_cases h1 : 48 ≤ n
  · rw [if_pos h1] at hs
    obtain ⟨y, hy⟩ : ∃ y, n - 48 = y := ⟨_, rfl⟩
    have hs' : IntKind.u8.wrap ((n : Int) - 48) = (y : Int) := by
      show IntKind.u8.wrap ((n : Int) - ((48 : Nat) : Int)) = _
      rw [hs]
      omega
    by_cases h2 : n ≤ 57
    · have z2 : (y : Int) < 10 := by omega
      clear hs hy
      go_enter Tryd.func62, Tryd.ntmps62
      go_wp2
      go_ret
      exact ⟨by rw [HD.out]; simp [h1, h2], rfl⟩
    · have z2 : ¬ (y : Int) < 10 := by omega
      clear hs hy
      go_enter Tryd.func62, Tryd.ntmps62
      go_wp2
      go_ret
      exact ⟨by rw [HD.out]; simp [h1, h2], rfl⟩
  · rw [if_neg h1] at hs
    obtain ⟨y, hy⟩ : ∃ y, n + 208 = y := ⟨_, rfl⟩
    have hs' : IntKind.u8.wrap ((n : Int) - 48) = (y : Int) := by
      show IntKind.u8.wrap ((n : Int) - ((48 : Nat) : Int)) = _
      rw [hs]
      omega
    have z2 : ¬ (y : Int) < 10 := by omega
    clear hs hy
    go_enter Tryd.func62, Tryd.ntmps62
    go_wp2
    go_ret
    exact ⟨by rw [HD.out]; simp [h1], rfl⟩

theorem small_any (b : UInt8) (w : World) : Calls Tryd.prog 102 #[.int .u8 (b.toNat : Int)] w fun e w' => e = .returned (.int .u8 ((small b).toNat : Int)) ∧ w = w' := by
  have ho := orb b
  have hb := UInt8.toNat_lt b
  have hs := small_toNat b
  have hos := or_small ⟨b.toNat, hb⟩
  simp only at hos
  obtain ⟨n, hn⟩ : ∃ n, b.toNat = n := ⟨_, rfl⟩
  rw [hn] at ho hs hos hb ⊢
  have HS := Lib.hid hs
  clear hs hn
  by_cases h1 : 65 ≤ n
  · have z1 : (65 : Int) ≤ (n : Int) := by omega
    by_cases h2 : n ≤ 90
    · have z2 : (n : Int) ≤ 90 := by omega
      rw [hos h1 h2] at ho
      clear hos
      go_enter Tryd.func102, Tryd.ntmps102
      go_wp2
      go_ret
      exact ⟨by rw [HS.out]; simp [smallN, h1, h2], rfl⟩
    · have z2 : ¬ (n : Int) ≤ 90 := by omega
      clear hos ho
      go_enter Tryd.func102, Tryd.ntmps102
      go_wp2
      go_ret
      exact ⟨by rw [HS.out]; simp [smallN, h2], rfl⟩
  · have z1 : ¬ (65 : Int) ≤ (n : Int) := by omega
    clear hos ho
    go_enter Tryd.func102, Tryd.ntmps102
    go_wp2
    go_ret
    exact ⟨by rw [HS.out]; simp [smallN, h1], rfl⟩

set_option maxRecDepth 100000 in
theorem sl_indexByte (s : ByteArray) (c : UInt8) (w : World) : Calls Tryd.prog 101 #[.string s, .int .u8 (c.toNat : Int)] w fun e w' => e = .returned (.int .i64 (Lib.indexByte s.data.toList c)) ∧ w = w' := by
  go_enter Tryd.func101, Tryd.ntmps101
  go_wp2
  rw [run_callFunc_extern Tryd.func107 (by kernel_rfl) (by kernel_rfl) (by kernel_rfl) (e := Extern.BytealgIndexByte.indexByte) (by kernel_rfl), Lib.run_indexByteString]
  simp only [Result.andThen]
  rw [Oper.upon_value]
  go_wp2
  go_ret
  refine ⟨?_, rfl⟩
  simp
theorem indexByte_any (s : ByteArray) (c : UInt8) (w : World) : Calls Tryd.prog 87 #[.string s, .int .u8 (c.toNat : Int)] w fun e w' => e = .returned (.int .i64 (Lib.indexByte s.data.toList c)) ∧ w = w' := by
  go_enter Tryd.func87, Tryd.ntmps87
  go_wp2_with fail
  refine Calls.mono (sl_indexByte s c _) ?_
  rintro e w' ⟨rfl, rfl⟩
  go_wp2
  go_ret
  exact ⟨rfl, rfl⟩
theorem indexByte_has (l : List UInt8) (c : UInt8) : (0 ≤ Lib.indexByte l c) ↔ c ∈ l := by
  induction l with
  | nil => simp [Lib.indexByte]
  | cons b l ih =>
    have hge := Lib.indexByte_ge l c
    unfold Lib.indexByte
    by_cases hb : b = c
    · simp [hb]
    · have hb' : (b == c) = false := by simpa using hb
      rw [hb', List.mem_cons]
      simp only [Bool.false_eq_true, if_false]
      have hcb : ¬ c = b := fun e => hb e.symm
      split
      · rename_i h
        rw [beq_iff_eq] at h
        rw [h] at ih
        simp only [hcb, false_or]
        rw [← ih]
      · rename_i h
        rw [beq_iff_eq] at h
        simp only [hcb, false_or]
        rw [← ih]
        omega
end Go.Proofs.YtbcfhpomclkccaaDoor
