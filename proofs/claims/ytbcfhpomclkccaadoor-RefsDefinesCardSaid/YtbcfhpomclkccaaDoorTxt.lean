/- The reference's Text, in little: some text, of at most three times the bytes. -/
import Derived.Test.YtbcfhpomclkccaaDoorAcc2
namespace Go.Proofs.YtbcfhpomclkccaaDoor
open Go.RowKit

def manyN (n : Nat) : Nat := if n < 128 then 1 else if n < 194 then 0 else if n < 224 then 2 else if n < 240 then 3 else if n < 245 then 4 else 0
theorem manyN_le (n : Nat) : manyN n ≤ 4 := by unfold manyN; repeat (split <;> try omega)
def IntW (w : World) (n : Int) (e : Ending) (w' : World) : Prop := e = .returned (.int .i64 n) ∧ w = w'
theorem many_any (b : UInt8) (w : World) : Calls Tryd.prog 81 #[.int .u8 (b.toNat : Int)] w (IntW w (manyN b.toNat : Nat)) := by
  obtain ⟨n, hn⟩ : ∃ n, b.toNat = n := ⟨_, rfl⟩
  rw [hn]
  clear hn
  obtain ⟨m, hm⟩ : ∃ m, manyN n = m := ⟨_, rfl⟩
  rw [hm]
  have HM := Lib.hid hm
  clear hm
  have hcase : n < 128 ∨ (128 ≤ n ∧ n < 194) ∨ (194 ≤ n ∧ n ≤ 223) ∨ (223 < n ∧ n < 224) ∨ (224 ≤ n ∧ n ≤ 239) ∨ (240 ≤ n ∧ n ≤ 244) ∨ (244 < n) := by omega
  rcases hcase with h1 | ⟨h1, h2⟩ | ⟨h1, h2⟩ | ⟨h1, h2⟩ | ⟨h1, h2⟩ | ⟨h1, h2⟩ | h1
  · have z1 : (n : Int) < 128 := by omega
    have e : m = 1 := by rw [← HM.out]; unfold manyN; rw [if_pos h1]
    subst e
    go_enter Tryd.func81, Tryd.ntmps81
    go_wp2
    go_ret
    exact ⟨rfl, rfl⟩
  · have z1 : ¬ (n : Int) < 128 := by omega
    have z2 : ¬ (194 : Int) ≤ n := by omega
    have z3 : ¬ (224 : Int) ≤ n := by omega
    have z4 : ¬ (240 : Int) ≤ n := by omega
    have e : m = 0 := by rw [← HM.out]; unfold manyN; rw [if_neg (by omega), if_pos h2]
    subst e
    go_enter Tryd.func81, Tryd.ntmps81
    go_wp2
    go_ret
    exact ⟨rfl, rfl⟩
  · have z1 : ¬ (n : Int) < 128 := by omega
    have z2 : (194 : Int) ≤ n := by omega
    have z3 : (n : Int) ≤ 223 := by omega
    have e : m = 2 := by rw [← HM.out]; unfold manyN; rw [if_neg (by omega), if_neg (by omega), if_pos (by omega)]
    subst e
    go_enter Tryd.func81, Tryd.ntmps81
    go_wp2
    go_ret
    exact ⟨rfl, rfl⟩
  · omega
  · have z1 : ¬ (n : Int) < 128 := by omega
    have z2 : (194 : Int) ≤ n := by omega
    have z3 : ¬ (n : Int) ≤ 223 := by omega
    have z4 : (224 : Int) ≤ n := by omega
    have z5 : (n : Int) ≤ 239 := by omega
    have e : m = 3 := by rw [← HM.out]; unfold manyN; rw [if_neg (by omega), if_neg (by omega), if_neg (by omega), if_pos (by omega)]
    subst e
    go_enter Tryd.func81, Tryd.ntmps81
    go_wp2
    go_ret
    exact ⟨rfl, rfl⟩
  · have z1 : ¬ (n : Int) < 128 := by omega
    have z2 : (194 : Int) ≤ n := by omega
    have z3 : ¬ (n : Int) ≤ 223 := by omega
    have z4 : (224 : Int) ≤ n := by omega
    have z5 : ¬ (n : Int) ≤ 239 := by omega
    have z6 : (240 : Int) ≤ n := by omega
    have z7 : (n : Int) ≤ 244 := by omega
    have e : m = 4 := by rw [← HM.out]; unfold manyN; rw [if_neg (by omega), if_neg (by omega), if_neg (by omega), if_neg (by omega), if_pos (by omega)]
    subst e
    go_enter Tryd.func81, Tryd.ntmps81
    go_wp2
    go_ret
    exact ⟨rfl, rfl⟩
  · have z1 : ¬ (n : Int) < 128 := by omega
    have z2 : (194 : Int) ≤ n := by omega
    have z3 : ¬ (n : Int) ≤ 223 := by omega
    have z4 : (224 : Int) ≤ n := by omega
    have z5 : ¬ (n : Int) ≤ 239 := by omega
    have z6 : (240 : Int) ≤ n := by omega
    have z7 : ¬ (n : Int) ≤ 244 := by omega
    have e : m = 0 := by rw [← HM.out]; unfold manyN; rw [if_neg (by omega), if_neg (by omega), if_neg (by omega), if_neg (by omega), if_neg (by omega)]
    subst e
    go_enter Tryd.func81, Tryd.ntmps81
    go_wp2
    go_ret
    exact ⟨rfl, rfl⟩
def secR (a : Nat) : Nat × Nat := if a = 224 then (160, 191) else if a = 237 then (128, 159) else if a = 240 then (144, 191) else if a = 244 then (128, 143) else (128, 191)
def secB (a b : Nat) : Bool := decide ((secR a).1 ≤ b) && decide (b ≤ (secR a).2)
def BoolW (w : World) (v : Bool) (e : Ending) (w' : World) : Prop := e = .returned (.bool v) ∧ w = w'
theorem second_any (a b : UInt8) (w : World) : Calls Tryd.prog 82 #[.int .u8 (a.toNat : Int), .int .u8 (b.toNat : Int)] w (BoolW w (secB a.toNat b.toNat)) := by
  obtain ⟨n, hn⟩ : ∃ n, a.toNat = n := ⟨_, rfl⟩
  obtain ⟨m, hm⟩ : ∃ m, b.toNat = m := ⟨_, rfl⟩
  rw [hn, hm]
  clear hn hm
  have key : ∀ lo hi : Nat, secR n = (lo, hi) → secB n m = if (lo : Int) ≤ (m : Int) then decide ((m : Int) ≤ (hi : Int)) else false := fun lo hi e => by
    unfold secB
    rw [e]
    by_cases h : lo ≤ m
    · rw [if_pos (by omega), decide_eq_true h, Bool.true_and]
      exact decide_eq_decide.2 (by omega)
    · rw [if_neg (by omega), decide_eq_false h, Bool.false_and]
  have hcase : n = 224 ∨ n = 237 ∨ n = 240 ∨ n = 244 ∨ (¬ n = 224 ∧ ¬ n = 237 ∧ ¬ n = 240 ∧ ¬ n = 244) := by omega
  rcases hcase with rfl | rfl | rfl | rfl | ⟨h1, h2, h3, h4⟩
  · rw [key 160 191 rfl]
    clear key
    by_cases h : (160 : Int) ≤ (m : Int)
    · rw [if_pos (by omega)]
      go_enter Tryd.func82, Tryd.ntmps82
      go_wp2
      go_ret
      exact ⟨rfl, rfl⟩
    · rw [if_neg (by omega)]
      go_enter Tryd.func82, Tryd.ntmps82
      go_wp2
      go_ret
      exact ⟨rfl, rfl⟩
  · rw [key 128 159 rfl]
    clear key
    by_cases h : (128 : Int) ≤ (m : Int)
    · rw [if_pos (by omega)]
      go_enter Tryd.func82, Tryd.ntmps82
      go_wp2
      go_ret
      exact ⟨rfl, rfl⟩
    · rw [if_neg (by omega)]
      go_enter Tryd.func82, Tryd.ntmps82
      go_wp2
      go_ret
      exact ⟨rfl, rfl⟩
  · rw [key 144 191 rfl]
    clear key
    by_cases h : (144 : Int) ≤ (m : Int)
    · rw [if_pos (by omega)]
      go_enter Tryd.func82, Tryd.ntmps82
      go_wp2
      go_ret
      exact ⟨rfl, rfl⟩
    · rw [if_neg (by omega)]
      go_enter Tryd.func82, Tryd.ntmps82
      go_wp2
      go_ret
      exact ⟨rfl, rfl⟩
  · rw [key 128 143 rfl]
    clear key
    by_cases h : (128 : Int) ≤ (m : Int)
    · rw [if_pos (by omega)]
      go_enter Tryd.func82, Tryd.ntmps82
      go_wp2
      go_ret
      exact ⟨rfl, rfl⟩
    · rw [if_neg (by omega)]
      go_enter Tryd.func82, Tryd.ntmps82
      go_wp2
      go_ret
      exact ⟨rfl, rfl⟩
  · rw [key 128 191 (by unfold secR; rw [if_neg h1, if_neg h2, if_neg h3, if_neg h4])]
    have y1 : ((n : Int) == 224) = false := by rw [beq_eq_false_iff_ne]; omega
    have y2 : ((n : Int) == 237) = false := by rw [beq_eq_false_iff_ne]; omega
    have y3 : ((n : Int) == 240) = false := by rw [beq_eq_false_iff_ne]; omega
    have y4 : ((n : Int) == 244) = false := by rw [beq_eq_false_iff_ne]; omega
    clear key h1 h2 h3 h4
    by_cases h : (128 : Int) ≤ (m : Int)
    · rw [if_pos (by omega)]
      go_enter Tryd.func82, Tryd.ntmps82
      go_wp2
      go_ret
      exact ⟨rfl, rfl⟩
    · rw [if_neg (by omega)]
      go_enter Tryd.func82, Tryd.ntmps82
      go_wp2
      go_ret
      exact ⟨rfl, rfl⟩
end Go.Proofs.YtbcfhpomclkccaaDoor
