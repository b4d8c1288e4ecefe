/- class.turned. -/
import Derived.Test.YtbcfhpomclkccaaDoorRsWr
import Derived.WalkSmall
namespace Go.Proofs.YtbcfhpomclkccaaDoor
open Go.RowKit

/-- A character in its small form. -/
def turnN (r : Nat) : Nat :=
  if (65 ≤ r ∧ r ≤ 90) ∨ (192 ≤ r ∧ r ≤ 222 ∧ r ≠ 215) ∨ (913 ≤ r ∧ r ≤ 937 ∧ r ≠ 930) ∨ (1040 ≤ r ∧ r ≤ 1071) then r + 32
  else if 1024 ≤ r ∧ r ≤ 1039 then r + 80
  else if r = 962 then 963
  else if (256 ≤ r ∧ r ≤ 311) ∨ (330 ≤ r ∧ r ≤ 375) ∨ (7680 ≤ r ∧ r ≤ 7829) then r + 1 - r % 2
  else if (313 ≤ r ∧ r ≤ 328) ∨ (377 ≤ r ∧ r ≤ 382) then r + r % 2
  else r
theorem and1 (r : Nat) (h : r < 2147483648) : bits BinOp.and IntKind.i32 (r : Int) 1 = ((r % 2 : Nat) : Int) := by
  have hx : r &&& 1 = r % 2 := Nat.and_one_is_mod r
  have h1 : (BitVec.ofInt 32 (r : Int)).toNat = r := by
    rw [BitVec.ofInt_natCast, BitVec.toNat_ofNat]; exact Nat.mod_eq_of_lt (by omega)
  have h2 : (BitVec.ofInt 32 (1 : Int)).toNat = 1 := by decide
  show IntKind.i32.wrap ((BitVec.ofInt 32 (r : Int) &&& BitVec.ofInt 32 (1 : Int)).toNat : Int) = _
  rw [BitVec.toNat_and, h1, h2, hx]
  have : (r % 2 : Nat) = 0 ∨ (r % 2 : Nat) = 1 := by omega
  rcases this with e | e <;> rw [e] <;> decide
theorem turn_fin (a b : Int) (w : World) (h : a = b) : (Ending.returned (.int .i32 a) : Ending) = .returned (.int .i32 b) ∧ w = w := ⟨by rw [h], rfl⟩
def TurR (w : World) (n : Nat) (e : Ending) (w' : World) : Prop := e = .returned (.int .i32 (n : Int)) ∧ w' = w
set_option maxRecDepth 100000 in
theorem turn0 (r : Nat) (w : World) (h0 : 0 ≤ r) (h1 : r ≤ 64) : Calls Tryd.prog 49 #[.int .i32 (r : Int)] w (TurR w (r)) := by
  have g65 : ¬ ((65 : Int) ≤ (r : Int)) := by omega
  have g192 : ¬ ((192 : Int) ≤ (r : Int)) := by omega
  have g913 : ¬ ((913 : Int) ≤ (r : Int)) := by omega
  have g1040 : ¬ ((1040 : Int) ≤ (r : Int)) := by omega
  have g1024 : ¬ ((1024 : Int) ≤ (r : Int)) := by omega
  have g256 : ¬ ((256 : Int) ≤ (r : Int)) := by omega
  have g330 : ¬ ((330 : Int) ≤ (r : Int)) := by omega
  have g7680 : ¬ ((7680 : Int) ≤ (r : Int)) := by omega
  have g313 : ¬ ((313 : Int) ≤ (r : Int)) := by omega
  have g377 : ¬ ((377 : Int) ≤ (r : Int)) := by omega
  have l90 : ((r : Int) ≤ 90) := by omega
  have l222 : ((r : Int) ≤ 222) := by omega
  have l937 : ((r : Int) ≤ 937) := by omega
  have l1071 : ((r : Int) ≤ 1071) := by omega
  have l1039 : ((r : Int) ≤ 1039) := by omega
  have l311 : ((r : Int) ≤ 311) := by omega
  have l375 : ((r : Int) ≤ 375) := by omega
  have l7829 : ((r : Int) ≤ 7829) := by omega
  have l328 : ((r : Int) ≤ 328) := by omega
  have l382 : ((r : Int) ≤ 382) := by omega
  have e962 : ((r : Int) == 962) = false := by rw [beq_eq_false_iff_ne]; omega
  have n215 : ((r : Int) != 215) = true := by simp; omega
  have n930 : ((r : Int) != 930) = true := by simp; omega
  clear h0
  go_enter Tryd.func49, Tryd.ntmps49
  go_wp2
  go_ret
  exact ⟨rfl, rfl⟩
set_option maxRecDepth 100000 in
theorem turn1 (r : Nat) (w : World) (h0 : 65 ≤ r) (h1 : r ≤ 90) : Calls Tryd.prog 49 #[.int .i32 (r : Int)] w (TurR w (r + 32)) := by
  have g65 : ((65 : Int) ≤ (r : Int)) := by omega
  have g192 : ¬ ((192 : Int) ≤ (r : Int)) := by omega
  have g913 : ¬ ((913 : Int) ≤ (r : Int)) := by omega
  have g1040 : ¬ ((1040 : Int) ≤ (r : Int)) := by omega
  have g1024 : ¬ ((1024 : Int) ≤ (r : Int)) := by omega
  have g256 : ¬ ((256 : Int) ≤ (r : Int)) := by omega
  have g330 : ¬ ((330 : Int) ≤ (r : Int)) := by omega
  have g7680 : ¬ ((7680 : Int) ≤ (r : Int)) := by omega
  have g313 : ¬ ((313 : Int) ≤ (r : Int)) := by omega
  have g377 : ¬ ((377 : Int) ≤ (r : Int)) := by omega
  have l90 : ((r : Int) ≤ 90) := by omega
  have l222 : ((r : Int) ≤ 222) := by omega
  have l937 : ((r : Int) ≤ 937) := by omega
  have l1071 : ((r : Int) ≤ 1071) := by omega
  have l1039 : ((r : Int) ≤ 1039) := by omega
  have l311 : ((r : Int) ≤ 311) := by omega
  have l375 : ((r : Int) ≤ 375) := by omega
  have l7829 : ((r : Int) ≤ 7829) := by omega
  have l328 : ((r : Int) ≤ 328) := by omega
  have l382 : ((r : Int) ≤ 382) := by omega
  have e962 : ((r : Int) == 962) = false := by rw [beq_eq_false_iff_ne]; omega
  have n215 : ((r : Int) != 215) = true := by simp; omega
  have n930 : ((r : Int) != 930) = true := by simp; omega
  clear h0
  go_enter Tryd.func49, Tryd.ntmps49
  go_wp2
  go_ret
  exact ⟨rfl, rfl⟩
set_option maxRecDepth 100000 in
theorem turn2 (r : Nat) (w : World) (h0 : 91 ≤ r) (h1 : r ≤ 191) : Calls Tryd.prog 49 #[.int .i32 (r : Int)] w (TurR w (r)) := by
  have g65 : ((65 : Int) ≤ (r : Int)) := by omega
  have g192 : ¬ ((192 : Int) ≤ (r : Int)) := by omega
  have g913 : ¬ ((913 : Int) ≤ (r : Int)) := by omega
  have g1040 : ¬ ((1040 : Int) ≤ (r : Int)) := by omega
  have g1024 : ¬ ((1024 : Int) ≤ (r : Int)) := by omega
  have g256 : ¬ ((256 : Int) ≤ (r : Int)) := by omega
  have g330 : ¬ ((330 : Int) ≤ (r : Int)) := by omega
  have g7680 : ¬ ((7680 : Int) ≤ (r : Int)) := by omega
  have g313 : ¬ ((313 : Int) ≤ (r : Int)) := by omega
  have g377 : ¬ ((377 : Int) ≤ (r : Int)) := by omega
  have l90 : ¬ ((r : Int) ≤ 90) := by omega
  have l222 : ((r : Int) ≤ 222) := by omega
  have l937 : ((r : Int) ≤ 937) := by omega
  have l1071 : ((r : Int) ≤ 1071) := by omega
  have l1039 : ((r : Int) ≤ 1039) := by omega
  have l311 : ((r : Int) ≤ 311) := by omega
  have l375 : ((r : Int) ≤ 375) := by omega
  have l7829 : ((r : Int) ≤ 7829) := by omega
  have l328 : ((r : Int) ≤ 328) := by omega
  have l382 : ((r : Int) ≤ 382) := by omega
  have e962 : ((r : Int) == 962) = false := by rw [beq_eq_false_iff_ne]; omega
  have n215 : ((r : Int) != 215) = true := by simp; omega
  have n930 : ((r : Int) != 930) = true := by simp; omega
  clear h0
  go_enter Tryd.func49, Tryd.ntmps49
  go_wp2
  go_ret
  exact ⟨rfl, rfl⟩
set_option maxRecDepth 100000 in
theorem turn3 (r : Nat) (w : World) (h0 : 192 ≤ r) (h1 : r ≤ 214) : Calls Tryd.prog 49 #[.int .i32 (r : Int)] w (TurR w (r + 32)) := by
  have g65 : ((65 : Int) ≤ (r : Int)) := by omega
  have g192 : ((192 : Int) ≤ (r : Int)) := by omega
  have g913 : ¬ ((913 : Int) ≤ (r : Int)) := by omega
  have g1040 : ¬ ((1040 : Int) ≤ (r : Int)) := by omega
  have g1024 : ¬ ((1024 : Int) ≤ (r : Int)) := by omega
  have g256 : ¬ ((256 : Int) ≤ (r : Int)) := by omega
  have g330 : ¬ ((330 : Int) ≤ (r : Int)) := by omega
  have g7680 : ¬ ((7680 : Int) ≤ (r : Int)) := by omega
  have g313 : ¬ ((313 : Int) ≤ (r : Int)) := by omega
  have g377 : ¬ ((377 : Int) ≤ (r : Int)) := by omega
  have l90 : ¬ ((r : Int) ≤ 90) := by omega
  have l222 : ((r : Int) ≤ 222) := by omega
  have l937 : ((r : Int) ≤ 937) := by omega
  have l1071 : ((r : Int) ≤ 1071) := by omega
  have l1039 : ((r : Int) ≤ 1039) := by omega
  have l311 : ((r : Int) ≤ 311) := by omega
  have l375 : ((r : Int) ≤ 375) := by omega
  have l7829 : ((r : Int) ≤ 7829) := by omega
  have l328 : ((r : Int) ≤ 328) := by omega
  have l382 : ((r : Int) ≤ 382) := by omega
  have e962 : ((r : Int) == 962) = false := by rw [beq_eq_false_iff_ne]; omega
  have n215 : ((r : Int) != 215) = true := by simp; omega
  have n930 : ((r : Int) != 930) = true := by simp; omega
  clear h0
  go_enter Tryd.func49, Tryd.ntmps49
  go_wp2
  go_ret
  exact ⟨rfl, rfl⟩
set_option maxRecDepth 100000 in
theorem turn4 (r : Nat) (w : World) (h0 : 215 ≤ r) (h1 : r ≤ 215) : Calls Tryd.prog 49 #[.int .i32 (r : Int)] w (TurR w (r)) := by
  have g65 : ((65 : Int) ≤ (r : Int)) := by omega
  have g192 : ((192 : Int) ≤ (r : Int)) := by omega
  have g913 : ¬ ((913 : Int) ≤ (r : Int)) := by omega
  have g1040 : ¬ ((1040 : Int) ≤ (r : Int)) := by omega
  have g1024 : ¬ ((1024 : Int) ≤ (r : Int)) := by omega
  have g256 : ¬ ((256 : Int) ≤ (r : Int)) := by omega
  have g330 : ¬ ((330 : Int) ≤ (r : Int)) := by omega
  have g7680 : ¬ ((7680 : Int) ≤ (r : Int)) := by omega
  have g313 : ¬ ((313 : Int) ≤ (r : Int)) := by omega
  have g377 : ¬ ((377 : Int) ≤ (r : Int)) := by omega
  have l90 : ¬ ((r : Int) ≤ 90) := by omega
  have l222 : ((r : Int) ≤ 222) := by omega
  have l937 : ((r : Int) ≤ 937) := by omega
  have l1071 : ((r : Int) ≤ 1071) := by omega
  have l1039 : ((r : Int) ≤ 1039) := by omega
  have l311 : ((r : Int) ≤ 311) := by omega
  have l375 : ((r : Int) ≤ 375) := by omega
  have l7829 : ((r : Int) ≤ 7829) := by omega
  have l328 : ((r : Int) ≤ 328) := by omega
  have l382 : ((r : Int) ≤ 382) := by omega
  have e962 : ((r : Int) == 962) = false := by rw [beq_eq_false_iff_ne]; omega
  have n215 : ((r : Int) != 215) = false := by simp; omega
  have n930 : ((r : Int) != 930) = true := by simp; omega
  clear h0
  go_enter Tryd.func49, Tryd.ntmps49
  go_wp2
  go_ret
  exact ⟨rfl, rfl⟩
set_option maxRecDepth 100000 in
theorem turn5 (r : Nat) (w : World) (h0 : 216 ≤ r) (h1 : r ≤ 222) : Calls Tryd.prog 49 #[.int .i32 (r : Int)] w (TurR w (r + 32)) := by
  have g65 : ((65 : Int) ≤ (r : Int)) := by omega
  have g192 : ((192 : Int) ≤ (r : Int)) := by omega
  have g913 : ¬ ((913 : Int) ≤ (r : Int)) := by omega
  have g1040 : ¬ ((1040 : Int) ≤ (r : Int)) := by omega
  have g1024 : ¬ ((1024 : Int) ≤ (r : Int)) := by omega
  have g256 : ¬ ((256 : Int) ≤ (r : Int)) := by omega
  have g330 : ¬ ((330 : Int) ≤ (r : Int)) := by omega
  have g7680 : ¬ ((7680 : Int) ≤ (r : Int)) := by omega
  have g313 : ¬ ((313 : Int) ≤ (r : Int)) := by omega
  have g377 : ¬ ((377 : Int) ≤ (r : Int)) := by omega
  have l90 : ¬ ((r : Int) ≤ 90) := by omega
  have l222 : ((r : Int) ≤ 222) := by omega
  have l937 : ((r : Int) ≤ 937) := by omega
  have l1071 : ((r : Int) ≤ 1071) := by omega
  have l1039 : ((r : Int) ≤ 1039) := by omega
  have l311 : ((r : Int) ≤ 311) := by omega
  have l375 : ((r : Int) ≤ 375) := by omega
  have l7829 : ((r : Int) ≤ 7829) := by omega
  have l328 : ((r : Int) ≤ 328) := by omega
  have l382 : ((r : Int) ≤ 382) := by omega
  have e962 : ((r : Int) == 962) = false := by rw [beq_eq_false_iff_ne]; omega
  have n215 : ((r : Int) != 215) = true := by simp; omega
  have n930 : ((r : Int) != 930) = true := by simp; omega
  clear h0
  go_enter Tryd.func49, Tryd.ntmps49
  go_wp2
  go_ret
  exact ⟨rfl, rfl⟩
set_option maxRecDepth 100000 in
theorem turn6 (r : Nat) (w : World) (h0 : 223 ≤ r) (h1 : r ≤ 255) : Calls Tryd.prog 49 #[.int .i32 (r : Int)] w (TurR w (r)) := by
  have g65 : ((65 : Int) ≤ (r : Int)) := by omega
  have g192 : ((192 : Int) ≤ (r : Int)) := by omega
  have g913 : ¬ ((913 : Int) ≤ (r : Int)) := by omega
  have g1040 : ¬ ((1040 : Int) ≤ (r : Int)) := by omega
  have g1024 : ¬ ((1024 : Int) ≤ (r : Int)) := by omega
  have g256 : ¬ ((256 : Int) ≤ (r : Int)) := by omega
  have g330 : ¬ ((330 : Int) ≤ (r : Int)) := by omega
  have g7680 : ¬ ((7680 : Int) ≤ (r : Int)) := by omega
  have g313 : ¬ ((313 : Int) ≤ (r : Int)) := by omega
  have g377 : ¬ ((377 : Int) ≤ (r : Int)) := by omega
  have l90 : ¬ ((r : Int) ≤ 90) := by omega
  have l222 : ¬ ((r : Int) ≤ 222) := by omega
  have l937 : ((r : Int) ≤ 937) := by omega
  have l1071 : ((r : Int) ≤ 1071) := by omega
  have l1039 : ((r : Int) ≤ 1039) := by omega
  have l311 : ((r : Int) ≤ 311) := by omega
  have l375 : ((r : Int) ≤ 375) := by omega
  have l7829 : ((r : Int) ≤ 7829) := by omega
  have l328 : ((r : Int) ≤ 328) := by omega
  have l382 : ((r : Int) ≤ 382) := by omega
  have e962 : ((r : Int) == 962) = false := by rw [beq_eq_false_iff_ne]; omega
  have n215 : ((r : Int) != 215) = true := by simp; omega
  have n930 : ((r : Int) != 930) = true := by simp; omega
  clear h0
  go_enter Tryd.func49, Tryd.ntmps49
  go_wp2
  go_ret
  exact ⟨rfl, rfl⟩
set_option maxRecDepth 100000 in
theorem turn7 (r : Nat) (w : World) (h0 : 256 ≤ r) (h1 : r ≤ 311) : Calls Tryd.prog 49 #[.int .i32 (r : Int)] w (TurR w (r + 1 - r % 2)) := by
  have g65 : ((65 : Int) ≤ (r : Int)) := by omega
  have g192 : ((192 : Int) ≤ (r : Int)) := by omega
  have g913 : ¬ ((913 : Int) ≤ (r : Int)) := by omega
  have g1040 : ¬ ((1040 : Int) ≤ (r : Int)) := by omega
  have g1024 : ¬ ((1024 : Int) ≤ (r : Int)) := by omega
  have g256 : ((256 : Int) ≤ (r : Int)) := by omega
  have g330 : ¬ ((330 : Int) ≤ (r : Int)) := by omega
  have g7680 : ¬ ((7680 : Int) ≤ (r : Int)) := by omega
  have g313 : ¬ ((313 : Int) ≤ (r : Int)) := by omega
  have g377 : ¬ ((377 : Int) ≤ (r : Int)) := by omega
  have l90 : ¬ ((r : Int) ≤ 90) := by omega
  have l222 : ¬ ((r : Int) ≤ 222) := by omega
  have l937 : ((r : Int) ≤ 937) := by omega
  have l1071 : ((r : Int) ≤ 1071) := by omega
  have l1039 : ((r : Int) ≤ 1039) := by omega
  have l311 : ((r : Int) ≤ 311) := by omega
  have l375 : ((r : Int) ≤ 375) := by omega
  have l7829 : ((r : Int) ≤ 7829) := by omega
  have l328 : ((r : Int) ≤ 328) := by omega
  have l382 : ((r : Int) ≤ 382) := by omega
  have e962 : ((r : Int) == 962) = false := by rw [beq_eq_false_iff_ne]; omega
  have n215 : ((r : Int) != 215) = true := by simp; omega
  have n930 : ((r : Int) != 930) = true := by simp; omega
  have hm := and1 r (by omega)
  have hr2 : r % 2 ≤ 1 := by omega
  clear h0
  go_enter Tryd.func49, Tryd.ntmps49
  go_wp2
  go_ret
  exact turn_fin _ _ _ (by omega)
set_option maxRecDepth 100000 in
theorem turn8 (r : Nat) (w : World) (h0 : 312 ≤ r) (h1 : r ≤ 312) : Calls Tryd.prog 49 #[.int .i32 (r : Int)] w (TurR w (r)) := by
  have g65 : ((65 : Int) ≤ (r : Int)) := by omega
  have g192 : ((192 : Int) ≤ (r : Int)) := by omega
  have g913 : ¬ ((913 : Int) ≤ (r : Int)) := by omega
  have g1040 : ¬ ((1040 : Int) ≤ (r : Int)) := by omega
  have g1024 : ¬ ((1024 : Int) ≤ (r : Int)) := by omega
  have g256 : ((256 : Int) ≤ (r : Int)) := by omega
  have g330 : ¬ ((330 : Int) ≤ (r : Int)) := by omega
  have g7680 : ¬ ((7680 : Int) ≤ (r : Int)) := by omega
  have g313 : ¬ ((313 : Int) ≤ (r : Int)) := by omega
  have g377 : ¬ ((377 : Int) ≤ (r : Int)) := by omega
  have l90 : ¬ ((r : Int) ≤ 90) := by omega
  have l222 : ¬ ((r : Int) ≤ 222) := by omega
  have l937 : ((r : Int) ≤ 937) := by omega
  have l1071 : ((r : Int) ≤ 1071) := by omega
  have l1039 : ((r : Int) ≤ 1039) := by omega
  have l311 : ¬ ((r : Int) ≤ 311) := by omega
  have l375 : ((r : Int) ≤ 375) := by omega
  have l7829 : ((r : Int) ≤ 7829) := by omega
  have l328 : ((r : Int) ≤ 328) := by omega
  have l382 : ((r : Int) ≤ 382) := by omega
  have e962 : ((r : Int) == 962) = false := by rw [beq_eq_false_iff_ne]; omega
  have n215 : ((r : Int) != 215) = true := by simp; omega
  have n930 : ((r : Int) != 930) = true := by simp; omega
  clear h0
  go_enter Tryd.func49, Tryd.ntmps49
  go_wp2
  go_ret
  exact ⟨rfl, rfl⟩
set_option maxRecDepth 100000 in
theorem turn9 (r : Nat) (w : World) (h0 : 313 ≤ r) (h1 : r ≤ 328) : Calls Tryd.prog 49 #[.int .i32 (r : Int)] w (TurR w (r + r % 2)) := by
  have g65 : ((65 : Int) ≤ (r : Int)) := by omega
  have g192 : ((192 : Int) ≤ (r : Int)) := by omega
  have g913 : ¬ ((913 : Int) ≤ (r : Int)) := by omega
  have g1040 : ¬ ((1040 : Int) ≤ (r : Int)) := by omega
  have g1024 : ¬ ((1024 : Int) ≤ (r : Int)) := by omega
  have g256 : ((256 : Int) ≤ (r : Int)) := by omega
  have g330 : ¬ ((330 : Int) ≤ (r : Int)) := by omega
  have g7680 : ¬ ((7680 : Int) ≤ (r : Int)) := by omega
  have g313 : ((313 : Int) ≤ (r : Int)) := by omega
  have g377 : ¬ ((377 : Int) ≤ (r : Int)) := by omega
  have l90 : ¬ ((r : Int) ≤ 90) := by omega
  have l222 : ¬ ((r : Int) ≤ 222) := by omega
  have l937 : ((r : Int) ≤ 937) := by omega
  have l1071 : ((r : Int) ≤ 1071) := by omega
  have l1039 : ((r : Int) ≤ 1039) := by omega
  have l311 : ¬ ((r : Int) ≤ 311) := by omega
  have l375 : ((r : Int) ≤ 375) := by omega
  have l7829 : ((r : Int) ≤ 7829) := by omega
  have l328 : ((r : Int) ≤ 328) := by omega
  have l382 : ((r : Int) ≤ 382) := by omega
  have e962 : ((r : Int) == 962) = false := by rw [beq_eq_false_iff_ne]; omega
  have n215 : ((r : Int) != 215) = true := by simp; omega
  have n930 : ((r : Int) != 930) = true := by simp; omega
  have hm := and1 r (by omega)
  have hr2 : r % 2 ≤ 1 := by omega
  clear h0
  go_enter Tryd.func49, Tryd.ntmps49
  go_wp2
  go_ret
  exact turn_fin _ _ _ (by omega)
set_option maxRecDepth 100000 in
theorem turn10 (r : Nat) (w : World) (h0 : 329 ≤ r) (h1 : r ≤ 329) : Calls Tryd.prog 49 #[.int .i32 (r : Int)] w (TurR w (r)) := by
  have g65 : ((65 : Int) ≤ (r : Int)) := by omega
  have g192 : ((192 : Int) ≤ (r : Int)) := by omega
  have g913 : ¬ ((913 : Int) ≤ (r : Int)) := by omega
  have g1040 : ¬ ((1040 : Int) ≤ (r : Int)) := by omega
  have g1024 : ¬ ((1024 : Int) ≤ (r : Int)) := by omega
  have g256 : ((256 : Int) ≤ (r : Int)) := by omega
  have g330 : ¬ ((330 : Int) ≤ (r : Int)) := by omega
  have g7680 : ¬ ((7680 : Int) ≤ (r : Int)) := by omega
  have g313 : ((313 : Int) ≤ (r : Int)) := by omega
  have g377 : ¬ ((377 : Int) ≤ (r : Int)) := by omega
  have l90 : ¬ ((r : Int) ≤ 90) := by omega
  have l222 : ¬ ((r : Int) ≤ 222) := by omega
  have l937 : ((r : Int) ≤ 937) := by omega
  have l1071 : ((r : Int) ≤ 1071) := by omega
  have l1039 : ((r : Int) ≤ 1039) := by omega
  have l311 : ¬ ((r : Int) ≤ 311) := by omega
  have l375 : ((r : Int) ≤ 375) := by omega
  have l7829 : ((r : Int) ≤ 7829) := by omega
  have l328 : ¬ ((r : Int) ≤ 328) := by omega
  have l382 : ((r : Int) ≤ 382) := by omega
  have e962 : ((r : Int) == 962) = false := by rw [beq_eq_false_iff_ne]; omega
  have n215 : ((r : Int) != 215) = true := by simp; omega
  have n930 : ((r : Int) != 930) = true := by simp; omega
  clear h0
  go_enter Tryd.func49, Tryd.ntmps49
  go_wp2
  go_ret
  exact ⟨rfl, rfl⟩
set_option maxRecDepth 100000 in
theorem turn11 (r : Nat) (w : World) (h0 : 330 ≤ r) (h1 : r ≤ 375) : Calls Tryd.prog 49 #[.int .i32 (r : Int)] w (TurR w (r + 1 - r % 2)) := by
  have g65 : ((65 : Int) ≤ (r : Int)) := by omega
  have g192 : ((192 : Int) ≤ (r : Int)) := by omega
  have g913 : ¬ ((913 : Int) ≤ (r : Int)) := by omega
  have g1040 : ¬ ((1040 : Int) ≤ (r : Int)) := by omega
  have g1024 : ¬ ((1024 : Int) ≤ (r : Int)) := by omega
  have g256 : ((256 : Int) ≤ (r : Int)) := by omega
  have g330 : ((330 : Int) ≤ (r : Int)) := by omega
  have g7680 : ¬ ((7680 : Int) ≤ (r : Int)) := by omega
  have g313 : ((313 : Int) ≤ (r : Int)) := by omega
  have g377 : ¬ ((377 : Int) ≤ (r : Int)) := by omega
  have l90 : ¬ ((r : Int) ≤ 90) := by omega
  have l222 : ¬ ((r : Int) ≤ 222) := by omega
  have l937 : ((r : Int) ≤ 937) := by omega
  have l1071 : ((r : Int) ≤ 1071) := by omega
  have l1039 : ((r : Int) ≤ 1039) := by omega
  have l311 : ¬ ((r : Int) ≤ 311) := by omega
  have l375 : ((r : Int) ≤ 375) := by omega
  have l7829 : ((r : Int) ≤ 7829) := by omega
  have l328 : ¬ ((r : Int) ≤ 328) := by omega
  have l382 : ((r : Int) ≤ 382) := by omega
  have e962 : ((r : Int) == 962) = false := by rw [beq_eq_false_iff_ne]; omega
  have n215 : ((r : Int) != 215) = true := by simp; omega
  have n930 : ((r : Int) != 930) = true := by simp; omega
  have hm := and1 r (by omega)
  have hr2 : r % 2 ≤ 1 := by omega
  clear h0
  go_enter Tryd.func49, Tryd.ntmps49
  go_wp2
  go_ret
  exact turn_fin _ _ _ (by omega)
set_option maxRecDepth 100000 in
theorem turn12 (r : Nat) (w : World) (h0 : 376 ≤ r) (h1 : r ≤ 376) : Calls Tryd.prog 49 #[.int .i32 (r : Int)] w (TurR w (r)) := by
  have g65 : ((65 : Int) ≤ (r : Int)) := by omega
  have g192 : ((192 : Int) ≤ (r : Int)) := by omega
  have g913 : ¬ ((913 : Int) ≤ (r : Int)) := by omega
  have g1040 : ¬ ((1040 : Int) ≤ (r : Int)) := by omega
  have g1024 : ¬ ((1024 : Int) ≤ (r : Int)) := by omega
  have g256 : ((256 : Int) ≤ (r : Int)) := by omega
  have g330 : ((330 : Int) ≤ (r : Int)) := by omega
  have g7680 : ¬ ((7680 : Int) ≤ (r : Int)) := by omega
  have g313 : ((313 : Int) ≤ (r : Int)) := by omega
  have g377 : ¬ ((377 : Int) ≤ (r : Int)) := by omega
  have l90 : ¬ ((r : Int) ≤ 90) := by omega
  have l222 : ¬ ((r : Int) ≤ 222) := by omega
  have l937 : ((r : Int) ≤ 937) := by omega
  have l1071 : ((r : Int) ≤ 1071) := by omega
  have l1039 : ((r : Int) ≤ 1039) := by omega
  have l311 : ¬ ((r : Int) ≤ 311) := by omega
  have l375 : ¬ ((r : Int) ≤ 375) := by omega
  have l7829 : ((r : Int) ≤ 7829) := by omega
  have l328 : ¬ ((r : Int) ≤ 328) := by omega
  have l382 : ((r : Int) ≤ 382) := by omega
  have e962 : ((r : Int) == 962) = false := by rw [beq_eq_false_iff_ne]; omega
  have n215 : ((r : Int) != 215) = true := by simp; omega
  have n930 : ((r : Int) != 930) = true := by simp; omega
  clear h0
  go_enter Tryd.func49, Tryd.ntmps49
  go_wp2
  go_ret
  exact ⟨rfl, rfl⟩
set_option maxRecDepth 100000 in
theorem turn13 (r : Nat) (w : World) (h0 : 377 ≤ r) (h1 : r ≤ 382) : Calls Tryd.prog 49 #[.int .i32 (r : Int)] w (TurR w (r + r % 2)) := by
  have g65 : ((65 : Int) ≤ (r : Int)) := by omega
  have g192 : ((192 : Int) ≤ (r : Int)) := by omega
  have g913 : ¬ ((913 : Int) ≤ (r : Int)) := by omega
  have g1040 : ¬ ((1040 : Int) ≤ (r : Int)) := by omega
  have g1024 : ¬ ((1024 : Int) ≤ (r : Int)) := by omega
  have g256 : ((256 : Int) ≤ (r : Int)) := by omega
  have g330 : ((330 : Int) ≤ (r : Int)) := by omega
  have g7680 : ¬ ((7680 : Int) ≤ (r : Int)) := by omega
  have g313 : ((313 : Int) ≤ (r : Int)) := by omega
  have g377 : ((377 : Int) ≤ (r : Int)) := by omega
  have l90 : ¬ ((r : Int) ≤ 90) := by omega
  have l222 : ¬ ((r : Int) ≤ 222) := by omega
  have l937 : ((r : Int) ≤ 937) := by omega
  have l1071 : ((r : Int) ≤ 1071) := by omega
  have l1039 : ((r : Int) ≤ 1039) := by omega
  have l311 : ¬ ((r : Int) ≤ 311) := by omega
  have l375 : ¬ ((r : Int) ≤ 375) := by omega
  have l7829 : ((r : Int) ≤ 7829) := by omega
  have l328 : ¬ ((r : Int) ≤ 328) := by omega
  have l382 : ((r : Int) ≤ 382) := by omega
  have e962 : ((r : Int) == 962) = false := by rw [beq_eq_false_iff_ne]; omega
  have n215 : ((r : Int) != 215) = true := by simp; omega
  have n930 : ((r : Int) != 930) = true := by simp; omega
  have hm := and1 r (by omega)
  have hr2 : r % 2 ≤ 1 := by omega
  clear h0
  go_enter Tryd.func49, Tryd.ntmps49
  go_wp2
  go_ret
  exact turn_fin _ _ _ (by omega)
set_option maxRecDepth 100000 in
theorem turn14 (r : Nat) (w : World) (h0 : 383 ≤ r) (h1 : r ≤ 912) : Calls Tryd.prog 49 #[.int .i32 (r : Int)] w (TurR w (r)) := by
  have g65 : ((65 : Int) ≤ (r : Int)) := by omega
  have g192 : ((192 : Int) ≤ (r : Int)) := by omega
  have g913 : ¬ ((913 : Int) ≤ (r : Int)) := by omega
  have g1040 : ¬ ((1040 : Int) ≤ (r : Int)) := by omega
  have g1024 : ¬ ((1024 : Int) ≤ (r : Int)) := by omega
  have g256 : ((256 : Int) ≤ (r : Int)) := by omega
  have g330 : ((330 : Int) ≤ (r : Int)) := by omega
  have g7680 : ¬ ((7680 : Int) ≤ (r : Int)) := by omega
  have g313 : ((313 : Int) ≤ (r : Int)) := by omega
  have g377 : ((377 : Int) ≤ (r : Int)) := by omega
  have l90 : ¬ ((r : Int) ≤ 90) := by omega
  have l222 : ¬ ((r : Int) ≤ 222) := by omega
  have l937 : ((r : Int) ≤ 937) := by omega
  have l1071 : ((r : Int) ≤ 1071) := by omega
  have l1039 : ((r : Int) ≤ 1039) := by omega
  have l311 : ¬ ((r : Int) ≤ 311) := by omega
  have l375 : ¬ ((r : Int) ≤ 375) := by omega
  have l7829 : ((r : Int) ≤ 7829) := by omega
  have l328 : ¬ ((r : Int) ≤ 328) := by omega
  have l382 : ¬ ((r : Int) ≤ 382) := by omega
  have e962 : ((r : Int) == 962) = false := by rw [beq_eq_false_iff_ne]; omega
  have n215 : ((r : Int) != 215) = true := by simp; omega
  have n930 : ((r : Int) != 930) = true := by simp; omega
  clear h0
  go_enter Tryd.func49, Tryd.ntmps49
  go_wp2
  go_ret
  exact ⟨rfl, rfl⟩
set_option maxRecDepth 100000 in
theorem turn15 (r : Nat) (w : World) (h0 : 913 ≤ r) (h1 : r ≤ 929) : Calls Tryd.prog 49 #[.int .i32 (r : Int)] w (TurR w (r + 32)) := by
  have g65 : ((65 : Int) ≤ (r : Int)) := by omega
  have g192 : ((192 : Int) ≤ (r : Int)) := by omega
  have g913 : ((913 : Int) ≤ (r : Int)) := by omega
  have g1040 : ¬ ((1040 : Int) ≤ (r : Int)) := by omega
  have g1024 : ¬ ((1024 : Int) ≤ (r : Int)) := by omega
  have g256 : ((256 : Int) ≤ (r : Int)) := by omega
  have g330 : ((330 : Int) ≤ (r : Int)) := by omega
  have g7680 : ¬ ((7680 : Int) ≤ (r : Int)) := by omega
  have g313 : ((313 : Int) ≤ (r : Int)) := by omega
  have g377 : ((377 : Int) ≤ (r : Int)) := by omega
  have l90 : ¬ ((r : Int) ≤ 90) := by omega
  have l222 : ¬ ((r : Int) ≤ 222) := by omega
  have l937 : ((r : Int) ≤ 937) := by omega
  have l1071 : ((r : Int) ≤ 1071) := by omega
  have l1039 : ((r : Int) ≤ 1039) := by omega
  have l311 : ¬ ((r : Int) ≤ 311) := by omega
  have l375 : ¬ ((r : Int) ≤ 375) := by omega
  have l7829 : ((r : Int) ≤ 7829) := by omega
  have l328 : ¬ ((r : Int) ≤ 328) := by omega
  have l382 : ¬ ((r : Int) ≤ 382) := by omega
  have e962 : ((r : Int) == 962) = false := by rw [beq_eq_false_iff_ne]; omega
  have n215 : ((r : Int) != 215) = true := by simp; omega
  have n930 : ((r : Int) != 930) = true := by simp; omega
  clear h0
  go_enter Tryd.func49, Tryd.ntmps49
  go_wp2
  go_ret
  exact ⟨rfl, rfl⟩
set_option maxRecDepth 100000 in
theorem turn16 (r : Nat) (w : World) (h0 : 930 ≤ r) (h1 : r ≤ 930) : Calls Tryd.prog 49 #[.int .i32 (r : Int)] w (TurR w (r)) := by
  have g65 : ((65 : Int) ≤ (r : Int)) := by omega
  have g192 : ((192 : Int) ≤ (r : Int)) := by omega
  have g913 : ((913 : Int) ≤ (r : Int)) := by omega
  have g1040 : ¬ ((1040 : Int) ≤ (r : Int)) := by omega
  have g1024 : ¬ ((1024 : Int) ≤ (r : Int)) := by omega
  have g256 : ((256 : Int) ≤ (r : Int)) := by omega
  have g330 : ((330 : Int) ≤ (r : Int)) := by omega
  have g7680 : ¬ ((7680 : Int) ≤ (r : Int)) := by omega
  have g313 : ((313 : Int) ≤ (r : Int)) := by omega
  have g377 : ((377 : Int) ≤ (r : Int)) := by omega
  have l90 : ¬ ((r : Int) ≤ 90) := by omega
  have l222 : ¬ ((r : Int) ≤ 222) := by omega
  have l937 : ((r : Int) ≤ 937) := by omega
  have l1071 : ((r : Int) ≤ 1071) := by omega
  have l1039 : ((r : Int) ≤ 1039) := by omega
  have l311 : ¬ ((r : Int) ≤ 311) := by omega
  have l375 : ¬ ((r : Int) ≤ 375) := by omega
  have l7829 : ((r : Int) ≤ 7829) := by omega
  have l328 : ¬ ((r : Int) ≤ 328) := by omega
  have l382 : ¬ ((r : Int) ≤ 382) := by omega
  have e962 : ((r : Int) == 962) = false := by rw [beq_eq_false_iff_ne]; omega
  have n215 : ((r : Int) != 215) = true := by simp; omega
  have n930 : ((r : Int) != 930) = false := by simp; omega
  clear h0
  go_enter Tryd.func49, Tryd.ntmps49
  go_wp2
  go_ret
  exact ⟨rfl, rfl⟩
set_option maxRecDepth 100000 in
theorem turn17 (r : Nat) (w : World) (h0 : 931 ≤ r) (h1 : r ≤ 937) : Calls Tryd.prog 49 #[.int .i32 (r : Int)] w (TurR w (r + 32)) := by
  have g65 : ((65 : Int) ≤ (r : Int)) := by omega
  have g192 : ((192 : Int) ≤ (r : Int)) := by omega
  have g913 : ((913 : Int) ≤ (r : Int)) := by omega
  have g1040 : ¬ ((1040 : Int) ≤ (r : Int)) := by omega
  have g1024 : ¬ ((1024 : Int) ≤ (r : Int)) := by omega
  have g256 : ((256 : Int) ≤ (r : Int)) := by omega
  have g330 : ((330 : Int) ≤ (r : Int)) := by omega
  have g7680 : ¬ ((7680 : Int) ≤ (r : Int)) := by omega
  have g313 : ((313 : Int) ≤ (r : Int)) := by omega
  have g377 : ((377 : Int) ≤ (r : Int)) := by omega
  have l90 : ¬ ((r : Int) ≤ 90) := by omega
  have l222 : ¬ ((r : Int) ≤ 222) := by omega
  have l937 : ((r : Int) ≤ 937) := by omega
  have l1071 : ((r : Int) ≤ 1071) := by omega
  have l1039 : ((r : Int) ≤ 1039) := by omega
  have l311 : ¬ ((r : Int) ≤ 311) := by omega
  have l375 : ¬ ((r : Int) ≤ 375) := by omega
  have l7829 : ((r : Int) ≤ 7829) := by omega
  have l328 : ¬ ((r : Int) ≤ 328) := by omega
  have l382 : ¬ ((r : Int) ≤ 382) := by omega
  have e962 : ((r : Int) == 962) = false := by rw [beq_eq_false_iff_ne]; omega
  have n215 : ((r : Int) != 215) = true := by simp; omega
  have n930 : ((r : Int) != 930) = true := by simp; omega
  clear h0
  go_enter Tryd.func49, Tryd.ntmps49
  go_wp2
  go_ret
  exact ⟨rfl, rfl⟩
set_option maxRecDepth 100000 in
theorem turn18 (r : Nat) (w : World) (h0 : 938 ≤ r) (h1 : r ≤ 961) : Calls Tryd.prog 49 #[.int .i32 (r : Int)] w (TurR w (r)) := by
  have g65 : ((65 : Int) ≤ (r : Int)) := by omega
  have g192 : ((192 : Int) ≤ (r : Int)) := by omega
  have g913 : ((913 : Int) ≤ (r : Int)) := by omega
  have g1040 : ¬ ((1040 : Int) ≤ (r : Int)) := by omega
  have g1024 : ¬ ((1024 : Int) ≤ (r : Int)) := by omega
  have g256 : ((256 : Int) ≤ (r : Int)) := by omega
  have g330 : ((330 : Int) ≤ (r : Int)) := by omega
  have g7680 : ¬ ((7680 : Int) ≤ (r : Int)) := by omega
  have g313 : ((313 : Int) ≤ (r : Int)) := by omega
  have g377 : ((377 : Int) ≤ (r : Int)) := by omega
  have l90 : ¬ ((r : Int) ≤ 90) := by omega
  have l222 : ¬ ((r : Int) ≤ 222) := by omega
  have l937 : ¬ ((r : Int) ≤ 937) := by omega
  have l1071 : ((r : Int) ≤ 1071) := by omega
  have l1039 : ((r : Int) ≤ 1039) := by omega
  have l311 : ¬ ((r : Int) ≤ 311) := by omega
  have l375 : ¬ ((r : Int) ≤ 375) := by omega
  have l7829 : ((r : Int) ≤ 7829) := by omega
  have l328 : ¬ ((r : Int) ≤ 328) := by omega
  have l382 : ¬ ((r : Int) ≤ 382) := by omega
  have e962 : ((r : Int) == 962) = false := by rw [beq_eq_false_iff_ne]; omega
  have n215 : ((r : Int) != 215) = true := by simp; omega
  have n930 : ((r : Int) != 930) = true := by simp; omega
  clear h0
  go_enter Tryd.func49, Tryd.ntmps49
  go_wp2
  go_ret
  exact ⟨rfl, rfl⟩
set_option maxRecDepth 100000 in
theorem turn19 (r : Nat) (w : World) (h0 : 962 ≤ r) (h1 : r ≤ 962) : Calls Tryd.prog 49 #[.int .i32 (r : Int)] w (TurR w (963)) := by
  have g65 : ((65 : Int) ≤ (r : Int)) := by omega
  have g192 : ((192 : Int) ≤ (r : Int)) := by omega
  have g913 : ((913 : Int) ≤ (r : Int)) := by omega
  have g1040 : ¬ ((1040 : Int) ≤ (r : Int)) := by omega
  have g1024 : ¬ ((1024 : Int) ≤ (r : Int)) := by omega
  have g256 : ((256 : Int) ≤ (r : Int)) := by omega
  have g330 : ((330 : Int) ≤ (r : Int)) := by omega
  have g7680 : ¬ ((7680 : Int) ≤ (r : Int)) := by omega
  have g313 : ((313 : Int) ≤ (r : Int)) := by omega
  have g377 : ((377 : Int) ≤ (r : Int)) := by omega
  have l90 : ¬ ((r : Int) ≤ 90) := by omega
  have l222 : ¬ ((r : Int) ≤ 222) := by omega
  have l937 : ¬ ((r : Int) ≤ 937) := by omega
  have l1071 : ((r : Int) ≤ 1071) := by omega
  have l1039 : ((r : Int) ≤ 1039) := by omega
  have l311 : ¬ ((r : Int) ≤ 311) := by omega
  have l375 : ¬ ((r : Int) ≤ 375) := by omega
  have l7829 : ((r : Int) ≤ 7829) := by omega
  have l328 : ¬ ((r : Int) ≤ 328) := by omega
  have l382 : ¬ ((r : Int) ≤ 382) := by omega
  have e962 : ((r : Int) == 962) = true := by rw [beq_iff_eq]; omega
  have n215 : ((r : Int) != 215) = true := by simp; omega
  have n930 : ((r : Int) != 930) = true := by simp; omega
  clear h0
  go_enter Tryd.func49, Tryd.ntmps49
  go_wp2
  go_ret
  exact ⟨rfl, rfl⟩
set_option maxRecDepth 100000 in
theorem turn20 (r : Nat) (w : World) (h0 : 963 ≤ r) (h1 : r ≤ 1023) : Calls Tryd.prog 49 #[.int .i32 (r : Int)] w (TurR w (r)) := by
  have g65 : ((65 : Int) ≤ (r : Int)) := by omega
  have g192 : ((192 : Int) ≤ (r : Int)) := by omega
  have g913 : ((913 : Int) ≤ (r : Int)) := by omega
  have g1040 : ¬ ((1040 : Int) ≤ (r : Int)) := by omega
  have g1024 : ¬ ((1024 : Int) ≤ (r : Int)) := by omega
  have g256 : ((256 : Int) ≤ (r : Int)) := by omega
  have g330 : ((330 : Int) ≤ (r : Int)) := by omega
  have g7680 : ¬ ((7680 : Int) ≤ (r : Int)) := by omega
  have g313 : ((313 : Int) ≤ (r : Int)) := by omega
  have g377 : ((377 : Int) ≤ (r : Int)) := by omega
  have l90 : ¬ ((r : Int) ≤ 90) := by omega
  have l222 : ¬ ((r : Int) ≤ 222) := by omega
  have l937 : ¬ ((r : Int) ≤ 937) := by omega
  have l1071 : ((r : Int) ≤ 1071) := by omega
  have l1039 : ((r : Int) ≤ 1039) := by omega
  have l311 : ¬ ((r : Int) ≤ 311) := by omega
  have l375 : ¬ ((r : Int) ≤ 375) := by omega
  have l7829 : ((r : Int) ≤ 7829) := by omega
  have l328 : ¬ ((r : Int) ≤ 328) := by omega
  have l382 : ¬ ((r : Int) ≤ 382) := by omega
  have e962 : ((r : Int) == 962) = false := by rw [beq_eq_false_iff_ne]; omega
  have n215 : ((r : Int) != 215) = true := by simp; omega
  have n930 : ((r : Int) != 930) = true := by simp; omega
  clear h0
  go_enter Tryd.func49, Tryd.ntmps49
  go_wp2
  go_ret
  exact ⟨rfl, rfl⟩
set_option maxRecDepth 100000 in
theorem turn21 (r : Nat) (w : World) (h0 : 1024 ≤ r) (h1 : r ≤ 1039) : Calls Tryd.prog 49 #[.int .i32 (r : Int)] w (TurR w (r + 80)) := by
  have g65 : ((65 : Int) ≤ (r : Int)) := by omega
  have g192 : ((192 : Int) ≤ (r : Int)) := by omega
  have g913 : ((913 : Int) ≤ (r : Int)) := by omega
  have g1040 : ¬ ((1040 : Int) ≤ (r : Int)) := by omega
  have g1024 : ((1024 : Int) ≤ (r : Int)) := by omega
  have g256 : ((256 : Int) ≤ (r : Int)) := by omega
  have g330 : ((330 : Int) ≤ (r : Int)) := by omega
  have g7680 : ¬ ((7680 : Int) ≤ (r : Int)) := by omega
  have g313 : ((313 : Int) ≤ (r : Int)) := by omega
  have g377 : ((377 : Int) ≤ (r : Int)) := by omega
  have l90 : ¬ ((r : Int) ≤ 90) := by omega
  have l222 : ¬ ((r : Int) ≤ 222) := by omega
  have l937 : ¬ ((r : Int) ≤ 937) := by omega
  have l1071 : ((r : Int) ≤ 1071) := by omega
  have l1039 : ((r : Int) ≤ 1039) := by omega
  have l311 : ¬ ((r : Int) ≤ 311) := by omega
  have l375 : ¬ ((r : Int) ≤ 375) := by omega
  have l7829 : ((r : Int) ≤ 7829) := by omega
  have l328 : ¬ ((r : Int) ≤ 328) := by omega
  have l382 : ¬ ((r : Int) ≤ 382) := by omega
  have e962 : ((r : Int) == 962) = false := by rw [beq_eq_false_iff_ne]; omega
  have n215 : ((r : Int) != 215) = true := by simp; omega
  have n930 : ((r : Int) != 930) = true := by simp; omega
  clear h0
  go_enter Tryd.func49, Tryd.ntmps49
  go_wp2
  go_ret
  exact ⟨rfl, rfl⟩
set_option maxRecDepth 100000 in
theorem turn22 (r : Nat) (w : World) (h0 : 1040 ≤ r) (h1 : r ≤ 1071) : Calls Tryd.prog 49 #[.int .i32 (r : Int)] w (TurR w (r + 32)) := by
  have g65 : ((65 : Int) ≤ (r : Int)) := by omega
  have g192 : ((192 : Int) ≤ (r : Int)) := by omega
  have g913 : ((913 : Int) ≤ (r : Int)) := by omega
  have g1040 : ((1040 : Int) ≤ (r : Int)) := by omega
  have g1024 : ((1024 : Int) ≤ (r : Int)) := by omega
  have g256 : ((256 : Int) ≤ (r : Int)) := by omega
  have g330 : ((330 : Int) ≤ (r : Int)) := by omega
  have g7680 : ¬ ((7680 : Int) ≤ (r : Int)) := by omega
  have g313 : ((313 : Int) ≤ (r : Int)) := by omega
  have g377 : ((377 : Int) ≤ (r : Int)) := by omega
  have l90 : ¬ ((r : Int) ≤ 90) := by omega
  have l222 : ¬ ((r : Int) ≤ 222) := by omega
  have l937 : ¬ ((r : Int) ≤ 937) := by omega
  have l1071 : ((r : Int) ≤ 1071) := by omega
  have l1039 : ¬ ((r : Int) ≤ 1039) := by omega
  have l311 : ¬ ((r : Int) ≤ 311) := by omega
  have l375 : ¬ ((r : Int) ≤ 375) := by omega
  have l7829 : ((r : Int) ≤ 7829) := by omega
  have l328 : ¬ ((r : Int) ≤ 328) := by omega
  have l382 : ¬ ((r : Int) ≤ 382) := by omega
  have e962 : ((r : Int) == 962) = false := by rw [beq_eq_false_iff_ne]; omega
  have n215 : ((r : Int) != 215) = true := by simp; omega
  have n930 : ((r : Int) != 930) = true := by simp; omega
  clear h0
  go_enter Tryd.func49, Tryd.ntmps49
  go_wp2
  go_ret
  exact ⟨rfl, rfl⟩
set_option maxRecDepth 100000 in
theorem turn23 (r : Nat) (w : World) (h0 : 1072 ≤ r) (h1 : r ≤ 7679) : Calls Tryd.prog 49 #[.int .i32 (r : Int)] w (TurR w (r)) := by
  have g65 : ((65 : Int) ≤ (r : Int)) := by omega
  have g192 : ((192 : Int) ≤ (r : Int)) := by omega
  have g913 : ((913 : Int) ≤ (r : Int)) := by omega
  have g1040 : ((1040 : Int) ≤ (r : Int)) := by omega
  have g1024 : ((1024 : Int) ≤ (r : Int)) := by omega
  have g256 : ((256 : Int) ≤ (r : Int)) := by omega
  have g330 : ((330 : Int) ≤ (r : Int)) := by omega
  have g7680 : ¬ ((7680 : Int) ≤ (r : Int)) := by omega
  have g313 : ((313 : Int) ≤ (r : Int)) := by omega
  have g377 : ((377 : Int) ≤ (r : Int)) := by omega
  have l90 : ¬ ((r : Int) ≤ 90) := by omega
  have l222 : ¬ ((r : Int) ≤ 222) := by omega
  have l937 : ¬ ((r : Int) ≤ 937) := by omega
  have l1071 : ¬ ((r : Int) ≤ 1071) := by omega
  have l1039 : ¬ ((r : Int) ≤ 1039) := by omega
  have l311 : ¬ ((r : Int) ≤ 311) := by omega
  have l375 : ¬ ((r : Int) ≤ 375) := by omega
  have l7829 : ((r : Int) ≤ 7829) := by omega
  have l328 : ¬ ((r : Int) ≤ 328) := by omega
  have l382 : ¬ ((r : Int) ≤ 382) := by omega
  have e962 : ((r : Int) == 962) = false := by rw [beq_eq_false_iff_ne]; omega
  have n215 : ((r : Int) != 215) = true := by simp; omega
  have n930 : ((r : Int) != 930) = true := by simp; omega
  clear h0
  go_enter Tryd.func49, Tryd.ntmps49
  go_wp2
  go_ret
  exact ⟨rfl, rfl⟩
set_option maxRecDepth 100000 in
theorem turn24 (r : Nat) (w : World) (h0 : 7680 ≤ r) (h1 : r ≤ 7829) : Calls Tryd.prog 49 #[.int .i32 (r : Int)] w (TurR w (r + 1 - r % 2)) := by
  have g65 : ((65 : Int) ≤ (r : Int)) := by omega
  have g192 : ((192 : Int) ≤ (r : Int)) := by omega
  have g913 : ((913 : Int) ≤ (r : Int)) := by omega
  have g1040 : ((1040 : Int) ≤ (r : Int)) := by omega
  have g1024 : ((1024 : Int) ≤ (r : Int)) := by omega
  have g256 : ((256 : Int) ≤ (r : Int)) := by omega
  have g330 : ((330 : Int) ≤ (r : Int)) := by omega
  have g7680 : ((7680 : Int) ≤ (r : Int)) := by omega
  have g313 : ((313 : Int) ≤ (r : Int)) := by omega
  have g377 : ((377 : Int) ≤ (r : Int)) := by omega
  have l90 : ¬ ((r : Int) ≤ 90) := by omega
  have l222 : ¬ ((r : Int) ≤ 222) := by omega
  have l937 : ¬ ((r : Int) ≤ 937) := by omega
  have l1071 : ¬ ((r : Int) ≤ 1071) := by omega
  have l1039 : ¬ ((r : Int) ≤ 1039) := by omega
  have l311 : ¬ ((r : Int) ≤ 311) := by omega
  have l375 : ¬ ((r : Int) ≤ 375) := by omega
  have l7829 : ((r : Int) ≤ 7829) := by omega
  have l328 : ¬ ((r : Int) ≤ 328) := by omega
  have l382 : ¬ ((r : Int) ≤ 382) := by omega
  have e962 : ((r : Int) == 962) = false := by rw [beq_eq_false_iff_ne]; omega
  have n215 : ((r : Int) != 215) = true := by simp; omega
  have n930 : ((r : Int) != 930) = true := by simp; omega
  have hm := and1 r (by omega)
  have hr2 : r % 2 ≤ 1 := by omega
  clear h0
  go_enter Tryd.func49, Tryd.ntmps49
  go_wp2
  go_ret
  exact turn_fin _ _ _ (by omega)
set_option maxRecDepth 100000 in
theorem turn25 (r : Nat) (w : World) (h0 : 7830 ≤ r) (h1 : r ≤ 1114111) : Calls Tryd.prog 49 #[.int .i32 (r : Int)] w (TurR w (r)) := by
  have g65 : ((65 : Int) ≤ (r : Int)) := by omega
  have g192 : ((192 : Int) ≤ (r : Int)) := by omega
  have g913 : ((913 : Int) ≤ (r : Int)) := by omega
  have g1040 : ((1040 : Int) ≤ (r : Int)) := by omega
  have g1024 : ((1024 : Int) ≤ (r : Int)) := by omega
  have g256 : ((256 : Int) ≤ (r : Int)) := by omega
  have g330 : ((330 : Int) ≤ (r : Int)) := by omega
  have g7680 : ((7680 : Int) ≤ (r : Int)) := by omega
  have g313 : ((313 : Int) ≤ (r : Int)) := by omega
  have g377 : ((377 : Int) ≤ (r : Int)) := by omega
  have l90 : ¬ ((r : Int) ≤ 90) := by omega
  have l222 : ¬ ((r : Int) ≤ 222) := by omega
  have l937 : ¬ ((r : Int) ≤ 937) := by omega
  have l1071 : ¬ ((r : Int) ≤ 1071) := by omega
  have l1039 : ¬ ((r : Int) ≤ 1039) := by omega
  have l311 : ¬ ((r : Int) ≤ 311) := by omega
  have l375 : ¬ ((r : Int) ≤ 375) := by omega
  have l7829 : ¬ ((r : Int) ≤ 7829) := by omega
  have l328 : ¬ ((r : Int) ≤ 328) := by omega
  have l382 : ¬ ((r : Int) ≤ 382) := by omega
  have e962 : ((r : Int) == 962) = false := by rw [beq_eq_false_iff_ne]; omega
  have n215 : ((r : Int) != 215) = true := by simp; omega
  have n930 : ((r : Int) != 930) = true := by simp; omega
  clear h0
  go_enter Tryd.func49, Tryd.ntmps49
  go_wp2
  go_ret
  exact ⟨rfl, rfl⟩
theorem turned_any (r : Nat) (w : World) (h : r < 1114112) : Calls Tryd.prog 49 #[.int .i32 (r : Int)] w (TurR w (turnN r)) := by
  by_cases q0 : r ≤ 64
  · have hv : turnN r = r := by unfold turnN; rw [if_neg (by omega), if_neg (by omega), if_neg (by omega), if_neg (by omega), if_neg (by omega)]
    rw [hv]
    exact turn0 r w (by omega) q0
  by_cases q1 : r ≤ 90
  · have hv : turnN r = r + 32 := by unfold turnN; rw [if_pos (by omega)]
    rw [hv]
    exact turn1 r w (by omega) q1
  by_cases q2 : r ≤ 191
  · have hv : turnN r = r := by unfold turnN; rw [if_neg (by omega), if_neg (by omega), if_neg (by omega), if_neg (by omega), if_neg (by omega)]
    rw [hv]
    exact turn2 r w (by omega) q2
  by_cases q3 : r ≤ 214
  · have hv : turnN r = r + 32 := by unfold turnN; rw [if_pos (by omega)]
    rw [hv]
    exact turn3 r w (by omega) q3
  by_cases q4 : r ≤ 215
  · have hv : turnN r = r := by unfold turnN; rw [if_neg (by omega), if_neg (by omega), if_neg (by omega), if_neg (by omega), if_neg (by omega)]
    rw [hv]
    exact turn4 r w (by omega) q4
  by_cases q5 : r ≤ 222
  · have hv : turnN r = r + 32 := by unfold turnN; rw [if_pos (by omega)]
    rw [hv]
    exact turn5 r w (by omega) q5
  by_cases q6 : r ≤ 255
  · have hv : turnN r = r := by unfold turnN; rw [if_neg (by omega), if_neg (by omega), if_neg (by omega), if_neg (by omega), if_neg (by omega)]
    rw [hv]
    exact turn6 r w (by omega) q6
  by_cases q7 : r ≤ 311
  · have hv : turnN r = r + 1 - r % 2 := by unfold turnN; rw [if_neg (by omega), if_neg (by omega), if_neg (by omega), if_pos (by omega)]
    rw [hv]
    exact turn7 r w (by omega) q7
  by_cases q8 : r ≤ 312
  · have hv : turnN r = r := by unfold turnN; rw [if_neg (by omega), if_neg (by omega), if_neg (by omega), if_neg (by omega), if_neg (by omega)]
    rw [hv]
    exact turn8 r w (by omega) q8
  by_cases q9 : r ≤ 328
  · have hv : turnN r = r + r % 2 := by unfold turnN; rw [if_neg (by omega), if_neg (by omega), if_neg (by omega), if_neg (by omega), if_pos (by omega)]
    rw [hv]
    exact turn9 r w (by omega) q9
  by_cases q10 : r ≤ 329
  · have hv : turnN r = r := by unfold turnN; rw [if_neg (by omega), if_neg (by omega), if_neg (by omega), if_neg (by omega), if_neg (by omega)]
    rw [hv]
    exact turn10 r w (by omega) q10
  by_cases q11 : r ≤ 375
  · have hv : turnN r = r + 1 - r % 2 := by unfold turnN; rw [if_neg (by omega), if_neg (by omega), if_neg (by omega), if_pos (by omega)]
    rw [hv]
    exact turn11 r w (by omega) q11
  by_cases q12 : r ≤ 376
  · have hv : turnN r = r := by unfold turnN; rw [if_neg (by omega), if_neg (by omega), if_neg (by omega), if_neg (by omega), if_neg (by omega)]
    rw [hv]
    exact turn12 r w (by omega) q12
  by_cases q13 : r ≤ 382
  · have hv : turnN r = r + r % 2 := by unfold turnN; rw [if_neg (by omega), if_neg (by omega), if_neg (by omega), if_neg (by omega), if_pos (by omega)]
    rw [hv]
    exact turn13 r w (by omega) q13
  by_cases q14 : r ≤ 912
  · have hv : turnN r = r := by unfold turnN; rw [if_neg (by omega), if_neg (by omega), if_neg (by omega), if_neg (by omega), if_neg (by omega)]
    rw [hv]
    exact turn14 r w (by omega) q14
  by_cases q15 : r ≤ 929
  · have hv : turnN r = r + 32 := by unfold turnN; rw [if_pos (by omega)]
    rw [hv]
    exact turn15 r w (by omega) q15
  by_cases q16 : r ≤ 930
  · have hv : turnN r = r := by unfold turnN; rw [if_neg (by omega), if_neg (by omega), if_neg (by omega), if_neg (by omega), if_neg (by omega)]
    rw [hv]
    exact turn16 r w (by omega) q16
  by_cases q17 : r ≤ 937
  · have hv : turnN r = r + 32 := by unfold turnN; rw [if_pos (by omega)]
    rw [hv]
    exact turn17 r w (by omega) q17
  by_cases q18 : r ≤ 961
  · have hv : turnN r = r := by unfold turnN; rw [if_neg (by omega), if_neg (by omega), if_neg (by omega), if_neg (by omega), if_neg (by omega)]
    rw [hv]
    exact turn18 r w (by omega) q18
  by_cases q19 : r ≤ 962
  · have hv : turnN r = 963 := by unfold turnN; rw [if_neg (by omega), if_neg (by omega), if_pos (by omega)]
    rw [hv]
    exact turn19 r w (by omega) q19
  by_cases q20 : r ≤ 1023
  · have hv : turnN r = r := by unfold turnN; rw [if_neg (by omega), if_neg (by omega), if_neg (by omega), if_neg (by omega), if_neg (by omega)]
    rw [hv]
    exact turn20 r w (by omega) q20
  by_cases q21 : r ≤ 1039
  · have hv : turnN r = r + 80 := by unfold turnN; rw [if_neg (by omega), if_pos (by omega)]
    rw [hv]
    exact turn21 r w (by omega) q21
  by_cases q22 : r ≤ 1071
  · have hv : turnN r = r + 32 := by unfold turnN; rw [if_pos (by omega)]
    rw [hv]
    exact turn22 r w (by omega) q22
  by_cases q23 : r ≤ 7679
  · have hv : turnN r = r := by unfold turnN; rw [if_neg (by omega), if_neg (by omega), if_neg (by omega), if_neg (by omega), if_neg (by omega)]
    rw [hv]
    exact turn23 r w (by omega) q23
  by_cases q24 : r ≤ 7829
  · have hv : turnN r = r + 1 - r % 2 := by unfold turnN; rw [if_neg (by omega), if_neg (by omega), if_neg (by omega), if_pos (by omega)]
    rw [hv]
    exact turn24 r w (by omega) q24
  have hv : turnN r = r := by unfold turnN; rw [if_neg (by omega), if_neg (by omega), if_neg (by omega), if_neg (by omega), if_neg (by omega)]
  rw [hv]
  exact turn25 r w (by omega) (by omega)
end Go.Proofs.YtbcfhpomclkccaaDoor
