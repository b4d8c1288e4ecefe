/- The reference's fold. -/
import Derived.Test.YtbcfhpomclkccaaDoorRsFold
import Derived.Test.YtbcfhpomclkccaaDoorAcc2
namespace Go.Proofs.YtbcfhpomclkccaaDoor
open Go.RowKit

def rnc (z : Nat) : Value := .int .i32 (z : Int)
/-- What a character is folded to, as characters. -/
def foldR (r : Nat) : List Nat := if r = 223 ∨ r = 7838 then [115, 115] else [turnN r]
def FdR (w : World) (zs : List Nat) (e : Ending) (w' : World) : Prop := e = .returned (.slice (some ⟨w.heap.size, 0, none⟩) zs.length zs.length) ∧ w' = w.alloc (.cells (zs.map rnc).toArray 21)
theorem fd_fin (w : World) (a b : Int) (h : a = b) : (Ending.returned (.slice (some ⟨w.heap.size, 0, none⟩) 1 1) : Ending) = .returned (.slice (some ⟨w.heap.size, 0, none⟩) 1 1) ∧ w.alloc (.cells #[.int .i32 a] 21) = w.alloc (.cells #[.int .i32 b] 21) := ⟨rfl, by rw [h]⟩
set_option maxRecDepth 100000 in
theorem rfo0 (r : Nat) (w : World) (h0 : 0 ≤ r) (h1 : r ≤ 64) : Calls Tryd.prog 55 #[.int .i32 (r : Int)] w (FdR w [r]) := by
  have g65 : ¬ ((65 : Int) ≤ (r : Int)) := by omega
  have g192 : ¬ ((192 : Int) ≤ (r : Int)) := by omega
  have g913 : ¬ ((913 : Int) ≤ (r : Int)) := by omega
  have g1040 : ¬ ((1040 : Int) ≤ (r : Int)) := by omega
  have g1024 : ¬ ((1024 : Int) ≤ (r : Int)) := by omega
  have g256 : ¬ ((256 : Int) ≤ (r : Int)) := by omega
  have g330 : ¬ ((330 : Int) ≤ (r : Int)) := by omega
  have g7680 : ¬ ((7680 : Int) ≤ (r : Int)) := by omega
  have g313 : ¬ ((313 : Int) ≤ (r : Int)) := by omega
  have g377 : ¬ ((377 : Int) ≤ (r : Int)) := by omega
  have l90 : ((r : Int) ≤ 90) := by omega
  have l222 : ((r : Int) ≤ 222) := by omega
  have l937 : ((r : Int) ≤ 937) := by omega
  have l1071 : ((r : Int) ≤ 1071) := by omega
  have l1039 : ((r : Int) ≤ 1039) := by omega
  have l311 : ((r : Int) ≤ 311) := by omega
  have l375 : ((r : Int) ≤ 375) := by omega
  have l7829 : ((r : Int) ≤ 7829) := by omega
  have l328 : ((r : Int) ≤ 328) := by omega
  have l382 : ((r : Int) ≤ 382) := by omega
  have e223 : ((r : Int) == 223) = false := by rw [beq_eq_false_iff_ne]; omega
  have e7838 : ((r : Int) == 7838) = false := by rw [beq_eq_false_iff_ne]; omega
  have e962 : ((r : Int) == 962) = false := by rw [beq_eq_false_iff_ne]; omega
  have n215 : ((r : Int) != 215) = true := by simp; omega
  have n930 : ((r : Int) != 930) = true := by simp; omega
  clear h0
  go_enter Tryd.func55, Tryd.ntmps55
  go_wp2
  go_ret
  exact ⟨rfl, rfl⟩
set_option maxRecDepth 100000 in
theorem rfo1 (r : Nat) (w : World) (h0 : 65 ≤ r) (h1 : r ≤ 90) : Calls Tryd.prog 55 #[.int .i32 (r : Int)] w (FdR w [r + 32]) := by
  have g65 : ((65 : Int) ≤ (r : Int)) := by omega
  have g192 : ¬ ((192 : Int) ≤ (r : Int)) := by omega
  have g913 : ¬ ((913 : Int) ≤ (r : Int)) := by omega
  have g1040 : ¬ ((1040 : Int) ≤ (r : Int)) := by omega
  have g1024 : ¬ ((1024 : Int) ≤ (r : Int)) := by omega
  have g256 : ¬ ((256 : Int) ≤ (r : Int)) := by omega
  have g330 : ¬ ((330 : Int) ≤ (r : Int)) := by omega
  have g7680 : ¬ ((7680 : Int) ≤ (r : Int)) := by omega
  have g313 : ¬ ((313 : Int) ≤ (r : Int)) := by omega
  have g377 : ¬ ((377 : Int) ≤ (r : Int)) := by omega
  have l90 : ((r : Int) ≤ 90) := by omega
  have l222 : ((r : Int) ≤ 222) := by omega
  have l937 : ((r : Int) ≤ 937) := by omega
  have l1071 : ((r : Int) ≤ 1071) := by omega
  have l1039 : ((r : Int) ≤ 1039) := by omega
  have l311 : ((r : Int) ≤ 311) := by omega
  have l375 : ((r : Int) ≤ 375) := by omega
  have l7829 : ((r : Int) ≤ 7829) := by omega
  have l328 : ((r : Int) ≤ 328) := by omega
  have l382 : ((r : Int) ≤ 382) := by omega
  have e223 : ((r : Int) == 223) = false := by rw [beq_eq_false_iff_ne]; omega
  have e7838 : ((r : Int) == 7838) = false := by rw [beq_eq_false_iff_ne]; omega
  have e962 : ((r : Int) == 962) = false := by rw [beq_eq_false_iff_ne]; omega
  have n215 : ((r : Int) != 215) = true := by simp; omega
  have n930 : ((r : Int) != 930) = true := by simp; omega
  clear h0
  go_enter Tryd.func55, Tryd.ntmps55
  go_wp2
  go_ret
  exact fd_fin _ _ _ (by omega)
set_option maxRecDepth 100000 in
theorem rfo2 (r : Nat) (w : World) (h0 : 91 ≤ r) (h1 : r ≤ 191) : Calls Tryd.prog 55 #[.int .i32 (r : Int)] w (FdR w [r]) := by
  have g65 : ((65 : Int) ≤ (r : Int)) := by omega
  have g192 : ¬ ((192 : Int) ≤ (r : Int)) := by omega
  have g913 : ¬ ((913 : Int) ≤ (r : Int)) := by omega
  have g1040 : ¬ ((1040 : Int) ≤ (r : Int)) := by omega
  have g1024 : ¬ ((1024 : Int) ≤ (r : Int)) := by omega
  have g256 : ¬ ((256 : Int) ≤ (r : Int)) := by omega
  have g330 : ¬ ((330 : Int) ≤ (r : Int)) := by omega
  have g7680 : ¬ ((7680 : Int) ≤ (r : Int)) := by omega
  have g313 : ¬ ((313 : Int) ≤ (r : Int)) := by omega
  have g377 : ¬ ((377 : Int) ≤ (r : Int)) := by omega
  have l90 : ¬ ((r : Int) ≤ 90) := by omega
  have l222 : ((r : Int) ≤ 222) := by omega
  have l937 : ((r : Int) ≤ 937) := by omega
  have l1071 : ((r : Int) ≤ 1071) := by omega
  have l1039 : ((r : Int) ≤ 1039) := by omega
  have l311 : ((r : Int) ≤ 311) := by omega
  have l375 : ((r : Int) ≤ 375) := by omega
  have l7829 : ((r : Int) ≤ 7829) := by omega
  have l328 : ((r : Int) ≤ 328) := by omega
  have l382 : ((r : Int) ≤ 382) := by omega
  have e223 : ((r : Int) == 223) = false := by rw [beq_eq_false_iff_ne]; omega
  have e7838 : ((r : Int) == 7838) = false := by rw [beq_eq_false_iff_ne]; omega
  have e962 : ((r : Int) == 962) = false := by rw [beq_eq_false_iff_ne]; omega
  have n215 : ((r : Int) != 215) = true := by simp; omega
  have n930 : ((r : Int) != 930) = true := by simp; omega
  clear h0
  go_enter Tryd.func55, Tryd.ntmps55
  go_wp2
  go_ret
  exact ⟨rfl, rfl⟩
set_option maxRecDepth 100000 in
theorem rfo3 (r : Nat) (w : World) (h0 : 192 ≤ r) (h1 : r ≤ 214) : Calls Tryd.prog 55 #[.int .i32 (r : Int)] w (FdR w [r + 32]) := by
  have g65 : ((65 : Int) ≤ (r : Int)) := by omega
  have g192 : ((192 : Int) ≤ (r : Int)) := by omega
  have g913 : ¬ ((913 : Int) ≤ (r : Int)) := by omega
  have g1040 : ¬ ((1040 : Int) ≤ (r : Int)) := by omega
  have g1024 : ¬ ((1024 : Int) ≤ (r : Int)) := by omega
  have g256 : ¬ ((256 : Int) ≤ (r : Int)) := by omega
  have g330 : ¬ ((330 : Int) ≤ (r : Int)) := by omega
  have g7680 : ¬ ((7680 : Int) ≤ (r : Int)) := by omega
  have g313 : ¬ ((313 : Int) ≤ (r : Int)) := by omega
  have g377 : ¬ ((377 : Int) ≤ (r : Int)) := by omega
  have l90 : ¬ ((r : Int) ≤ 90) := by omega
  have l222 : ((r : Int) ≤ 222) := by omega
  have l937 : ((r : Int) ≤ 937) := by omega
  have l1071 : ((r : Int) ≤ 1071) := by omega
  have l1039 : ((r : Int) ≤ 1039) := by omega
  have l311 : ((r : Int) ≤ 311) := by omega
  have l375 : ((r : Int) ≤ 375) := by omega
  have l7829 : ((r : Int) ≤ 7829) := by omega
  have l328 : ((r : Int) ≤ 328) := by omega
  have l382 : ((r : Int) ≤ 382) := by omega
  have e223 : ((r : Int) == 223) = false := by rw [beq_eq_false_iff_ne]; omega
  have e7838 : ((r : Int) == 7838) = false := by rw [beq_eq_false_iff_ne]; omega
  have e962 : ((r : Int) == 962) = false := by rw [beq_eq_false_iff_ne]; omega
  have n215 : ((r : Int) != 215) = true := by simp; omega
  have n930 : ((r : Int) != 930) = true := by simp; omega
  clear h0
  go_enter Tryd.func55, Tryd.ntmps55
  go_wp2
  go_ret
  exact fd_fin _ _ _ (by omega)
set_option maxRecDepth 100000 in
theorem rfo4 (r : Nat) (w : World) (h0 : 215 ≤ r) (h1 : r ≤ 215) : Calls Tryd.prog 55 #[.int .i32 (r : Int)] w (FdR w [r]) := by
  have g65 : ((65 : Int) ≤ (r : Int)) := by omega
  have g192 : ((192 : Int) ≤ (r : Int)) := by omega
  have g913 : ¬ ((913 : Int) ≤ (r : Int)) := by omega
  have g1040 : ¬ ((1040 : Int) ≤ (r : Int)) := by omega
  have g1024 : ¬ ((1024 : Int) ≤ (r : Int)) := by omega
  have g256 : ¬ ((256 : Int) ≤ (r : Int)) := by omega
  have g330 : ¬ ((330 : Int) ≤ (r : Int)) := by omega
  have g7680 : ¬ ((7680 : Int) ≤ (r : Int)) := by omega
  have g313 : ¬ ((313 : Int) ≤ (r : Int)) := by omega
  have g377 : ¬ ((377 : Int) ≤ (r : Int)) := by omega
  have l90 : ¬ ((r : Int) ≤ 90) := by omega
  have l222 : ((r : Int) ≤ 222) := by omega
  have l937 : ((r : Int) ≤ 937) := by omega
  have l1071 : ((r : Int) ≤ 1071) := by omega
  have l1039 : ((r : Int) ≤ 1039) := by omega
  have l311 : ((r : Int) ≤ 311) := by omega
  have l375 : ((r : Int) ≤ 375) := by omega
  have l7829 : ((r : Int) ≤ 7829) := by omega
  have l328 : ((r : Int) ≤ 328) := by omega
  have l382 : ((r : Int) ≤ 382) := by omega
  have e223 : ((r : Int) == 223) = false := by rw [beq_eq_false_iff_ne]; omega
  have e7838 : ((r : Int) == 7838) = false := by rw [beq_eq_false_iff_ne]; omega
  have e962 : ((r : Int) == 962) = false := by rw [beq_eq_false_iff_ne]; omega
  have n215 : ((r : Int) != 215) = false := by simp; omega
  have n930 : ((r : Int) != 930) = true := by simp; omega
  clear h0
  go_enter Tryd.func55, Tryd.ntmps55
  go_wp2
  go_ret
  exact ⟨rfl, rfl⟩
set_option maxRecDepth 100000 in
theorem rfo5 (r : Nat) (w : World) (h0 : 216 ≤ r) (h1 : r ≤ 222) : Calls Tryd.prog 55 #[.int .i32 (r : Int)] w (FdR w [r + 32]) := by
  have g65 : ((65 : Int) ≤ (r : Int)) := by omega
  have g192 : ((192 : Int) ≤ (r : Int)) := by omega
  have g913 : ¬ ((913 : Int) ≤ (r : Int)) := by omega
  have g1040 : ¬ ((1040 : Int) ≤ (r : Int)) := by omega
  have g1024 : ¬ ((1024 : Int) ≤ (r : Int)) := by omega
  have g256 : ¬ ((256 : Int) ≤ (r : Int)) := by omega
  have g330 : ¬ ((330 : Int) ≤ (r : Int)) := by omega
  have g7680 : ¬ ((7680 : Int) ≤ (r : Int)) := by omega
  have g313 : ¬ ((313 : Int) ≤ (r : Int)) := by omega
  have g377 : ¬ ((377 : Int) ≤ (r : Int)) := by omega
  have l90 : ¬ ((r : Int) ≤ 90) := by omega
  have l222 : ((r : Int) ≤ 222) := by omega
  have l937 : ((r : Int) ≤ 937) := by omega
  have l1071 : ((r : Int) ≤ 1071) := by omega
  have l1039 : ((r : Int) ≤ 1039) := by omega
  have l311 : ((r : Int) ≤ 311) := by omega
  have l375 : ((r : Int) ≤ 375) := by omega
  have l7829 : ((r : Int) ≤ 7829) := by omega
  have l328 : ((r : Int) ≤ 328) := by omega
  have l382 : ((r : Int) ≤ 382) := by omega
  have e223 : ((r : Int) == 223) = false := by rw [beq_eq_false_iff_ne]; omega
  have e7838 : ((r : Int) == 7838) = false := by rw [beq_eq_false_iff_ne]; omega
  have e962 : ((r : Int) == 962) = false := by rw [beq_eq_false_iff_ne]; omega
  have n215 : ((r : Int) != 215) = true := by simp; omega
  have n930 : ((r : Int) != 930) = true := by simp; omega
  clear h0
  go_enter Tryd.func55, Tryd.ntmps55
  go_wp2
  go_ret
  exact fd_fin _ _ _ (by omega)
set_option maxRecDepth 100000 in
theorem rfo6 (r : Nat) (w : World) (h0 : 223 ≤ r) (h1 : r ≤ 223) : Calls Tryd.prog 55 #[.int .i32 (r : Int)] w (FdR w [115, 115]) := by
  have g65 : ((65 : Int) ≤ (r : Int)) := by omega
  have g192 : ((192 : Int) ≤ (r : Int)) := by omega
  have g913 : ¬ ((913 : Int) ≤ (r : Int)) := by omega
  have g1040 : ¬ ((1040 : Int) ≤ (r : Int)) := by omega
  have g1024 : ¬ ((1024 : Int) ≤ (r : Int)) := by omega
  have g256 : ¬ ((256 : Int) ≤ (r : Int)) := by omega
  have g330 : ¬ ((330 : Int) ≤ (r : Int)) := by omega
  have g7680 : ¬ ((7680 : Int) ≤ (r : Int)) := by omega
  have g313 : ¬ ((313 : Int) ≤ (r : Int)) := by omega
  have g377 : ¬ ((377 : Int) ≤ (r : Int)) := by omega
  have l90 : ¬ ((r : Int) ≤ 90) := by omega
  have l222 : ¬ ((r : Int) ≤ 222) := by omega
  have l937 : ((r : Int) ≤ 937) := by omega
  have l1071 : ((r : Int) ≤ 1071) := by omega
  have l1039 : ((r : Int) ≤ 1039) := by omega
  have l311 : ((r : Int) ≤ 311) := by omega
  have l375 : ((r : Int) ≤ 375) := by omega
  have l7829 : ((r : Int) ≤ 7829) := by omega
  have l328 : ((r : Int) ≤ 328) := by omega
  have l382 : ((r : Int) ≤ 382) := by omega
  have e223 : ((r : Int) == 223) = true := by rw [beq_iff_eq]; omega
  have e7838 : ((r : Int) == 7838) = false := by rw [beq_eq_false_iff_ne]; omega
  have e962 : ((r : Int) == 962) = false := by rw [beq_eq_false_iff_ne]; omega
  have n215 : ((r : Int) != 215) = true := by simp; omega
  have n930 : ((r : Int) != 930) = true := by simp; omega
  clear h0
  go_enter Tryd.func55, Tryd.ntmps55
  go_wp2
  go_ret
  exact ⟨rfl, rfl⟩
set_option maxRecDepth 100000 in
theorem rfo7 (r : Nat) (w : World) (h0 : 224 ≤ r) (h1 : r ≤ 255) : Calls Tryd.prog 55 #[.int .i32 (r : Int)] w (FdR w [r]) := by
  have g65 : ((65 : Int) ≤ (r : Int)) := by omega
  have g192 : ((192 : Int) ≤ (r : Int)) := by omega
  have g913 : ¬ ((913 : Int) ≤ (r : Int)) := by omega
  have g1040 : ¬ ((1040 : Int) ≤ (r : Int)) := by omega
  have g1024 : ¬ ((1024 : Int) ≤ (r : Int)) := by omega
  have g256 : ¬ ((256 : Int) ≤ (r : Int)) := by omega
  have g330 : ¬ ((330 : Int) ≤ (r : Int)) := by omega
  have g7680 : ¬ ((7680 : Int) ≤ (r : Int)) := by omega
  have g313 : ¬ ((313 : Int) ≤ (r : Int)) := by omega
  have g377 : ¬ ((377 : Int) ≤ (r : Int)) := by omega
  have l90 : ¬ ((r : Int) ≤ 90) := by omega
  have l222 : ¬ ((r : Int) ≤ 222) := by omega
  have l937 : ((r : Int) ≤ 937) := by omega
  have l1071 : ((r : Int) ≤ 1071) := by omega
  have l1039 : ((r : Int) ≤ 1039) := by omega
  have l311 : ((r : Int) ≤ 311) := by omega
  have l375 : ((r : Int) ≤ 375) := by omega
  have l7829 : ((r : Int) ≤ 7829) := by omega
  have l328 : ((r : Int) ≤ 328) := by omega
  have l382 : ((r : Int) ≤ 382) := by omega
  have e223 : ((r : Int) == 223) = false := by rw [beq_eq_false_iff_ne]; omega
  have e7838 : ((r : Int) == 7838) = false := by rw [beq_eq_false_iff_ne]; omega
  have e962 : ((r : Int) == 962) = false := by rw [beq_eq_false_iff_ne]; omega
  have n215 : ((r : Int) != 215) = true := by simp; omega
  have n930 : ((r : Int) != 930) = true := by simp; omega
  clear h0
  go_enter Tryd.func55, Tryd.ntmps55
  go_wp2
  go_ret
  exact ⟨rfl, rfl⟩
set_option maxRecDepth 100000 in
theorem rfo8x0 (r : Nat) (w : World) (h0 : 256 ≤ r) (h1 : r ≤ 311) (hm : r % 2 = 0) : Calls Tryd.prog 55 #[.int .i32 (r : Int)] w (FdR w [r + 1]) := by
  have g65 : ((65 : Int) ≤ (r : Int)) := by omega
  have g192 : ((192 : Int) ≤ (r : Int)) := by omega
  have g913 : ¬ ((913 : Int) ≤ (r : Int)) := by omega
  have g1040 : ¬ ((1040 : Int) ≤ (r : Int)) := by omega
  have g1024 : ¬ ((1024 : Int) ≤ (r : Int)) := by omega
  have g256 : ((256 : Int) ≤ (r : Int)) := by omega
  have g330 : ¬ ((330 : Int) ≤ (r : Int)) := by omega
  have g7680 : ¬ ((7680 : Int) ≤ (r : Int)) := by omega
  have g313 : ¬ ((313 : Int) ≤ (r : Int)) := by omega
  have g377 : ¬ ((377 : Int) ≤ (r : Int)) := by omega
  have l90 : ¬ ((r : Int) ≤ 90) := by omega
  have l222 : ¬ ((r : Int) ≤ 222) := by omega
  have l937 : ((r : Int) ≤ 937) := by omega
  have l1071 : ((r : Int) ≤ 1071) := by omega
  have l1039 : ((r : Int) ≤ 1039) := by omega
  have l311 : ((r : Int) ≤ 311) := by omega
  have l375 : ((r : Int) ≤ 375) := by omega
  have l7829 : ((r : Int) ≤ 7829) := by omega
  have l328 : ((r : Int) ≤ 328) := by omega
  have l382 : ((r : Int) ≤ 382) := by omega
  have e223 : ((r : Int) == 223) = false := by rw [beq_eq_false_iff_ne]; omega
  have e7838 : ((r : Int) == 7838) = false := by rw [beq_eq_false_iff_ne]; omega
  have e962 : ((r : Int) == 962) = false := by rw [beq_eq_false_iff_ne]; omega
  have n215 : ((r : Int) != 215) = true := by simp; omega
  have n930 : ((r : Int) != 930) = true := by simp; omega
  have hmi : Int.tmod (r : Int) 2 = 0 := by rw [Int.tmod_eq_emod_of_nonneg (by omega)]; omega
  have hmj : (r : Int) % 2 = 0 := by omega
  clear h0
  go_enter Tryd.func55, Tryd.ntmps55
  go_wp2
  go_ret
  exact fd_fin _ _ _ (by omega)
set_option maxRecDepth 100000 in
theorem rfo8x1 (r : Nat) (w : World) (h0 : 256 ≤ r) (h1 : r ≤ 311) (hm : r % 2 = 1) : Calls Tryd.prog 55 #[.int .i32 (r : Int)] w (FdR w [r]) := by
  have g65 : ((65 : Int) ≤ (r : Int)) := by omega
  have g192 : ((192 : Int) ≤ (r : Int)) := by omega
  have g913 : ¬ ((913 : Int) ≤ (r : Int)) := by omega
  have g1040 : ¬ ((1040 : Int) ≤ (r : Int)) := by omega
  have g1024 : ¬ ((1024 : Int) ≤ (r : Int)) := by omega
  have g256 : ((256 : Int) ≤ (r : Int)) := by omega
  have g330 : ¬ ((330 : Int) ≤ (r : Int)) := by omega
  have g7680 : ¬ ((7680 : Int) ≤ (r : Int)) := by omega
  have g313 : ¬ ((313 : Int) ≤ (r : Int)) := by omega
  have g377 : ¬ ((377 : Int) ≤ (r : Int)) := by omega
  have l90 : ¬ ((r : Int) ≤ 90) := by omega
  have l222 : ¬ ((r : Int) ≤ 222) := by omega
  have l937 : ((r : Int) ≤ 937) := by omega
  have l1071 : ((r : Int) ≤ 1071) := by omega
  have l1039 : ((r : Int) ≤ 1039) := by omega
  have l311 : ((r : Int) ≤ 311) := by omega
  have l375 : ((r : Int) ≤ 375) := by omega
  have l7829 : ((r : Int) ≤ 7829) := by omega
  have l328 : ((r : Int) ≤ 328) := by omega
  have l382 : ((r : Int) ≤ 382) := by omega
  have e223 : ((r : Int) == 223) = false := by rw [beq_eq_false_iff_ne]; omega
  have e7838 : ((r : Int) == 7838) = false := by rw [beq_eq_false_iff_ne]; omega
  have e962 : ((r : Int) == 962) = false := by rw [beq_eq_false_iff_ne]; omega
  have n215 : ((r : Int) != 215) = true := by simp; omega
  have n930 : ((r : Int) != 930) = true := by simp; omega
  have hmi : Int.tmod (r : Int) 2 = 1 := by rw [Int.tmod_eq_emod_of_nonneg (by omega)]; omega
  have hmj : (r : Int) % 2 = 1 := by omega
  clear h0
  go_enter Tryd.func55, Tryd.ntmps55
  go_wp2
  go_ret
  exact ⟨rfl, rfl⟩
set_option maxRecDepth 100000 in
theorem rfo9 (r : Nat) (w : World) (h0 : 312 ≤ r) (h1 : r ≤ 312) : Calls Tryd.prog 55 #[.int .i32 (r : Int)] w (FdR w [r]) := by
  have g65 : ((65 : Int) ≤ (r : Int)) := by omega
  have g192 : ((192 : Int) ≤ (r : Int)) := by omega
  have g913 : ¬ ((913 : Int) ≤ (r : Int)) := by omega
  have g1040 : ¬ ((1040 : Int) ≤ (r : Int)) := by omega
  have g1024 : ¬ ((1024 : Int) ≤ (r : Int)) := by omega
  have g256 : ((256 : Int) ≤ (r : Int)) := by omega
  have g330 : ¬ ((330 : Int) ≤ (r : Int)) := by omega
  have g7680 : ¬ ((7680 : Int) ≤ (r : Int)) := by omega
  have g313 : ¬ ((313 : Int) ≤ (r : Int)) := by omega
  have g377 : ¬ ((377 : Int) ≤ (r : Int)) := by omega
  have l90 : ¬ ((r : Int) ≤ 90) := by omega
  have l222 : ¬ ((r : Int) ≤ 222) := by omega
  have l937 : ((r : Int) ≤ 937) := by omega
  have l1071 : ((r : Int) ≤ 1071) := by omega
  have l1039 : ((r : Int) ≤ 1039) := by omega
  have l311 : ¬ ((r : Int) ≤ 311) := by omega
  have l375 : ((r : Int) ≤ 375) := by omega
  have l7829 : ((r : Int) ≤ 7829) := by omega
  have l328 : ((r : Int) ≤ 328) := by omega
  have l382 : ((r : Int) ≤ 382) := by omega
  have e223 : ((r : Int) == 223) = false := by rw [beq_eq_false_iff_ne]; omega
  have e7838 : ((r : Int) == 7838) = false := by rw [beq_eq_false_iff_ne]; omega
  have e962 : ((r : Int) == 962) = false := by rw [beq_eq_false_iff_ne]; omega
  have n215 : ((r : Int) != 215) = true := by simp; omega
  have n930 : ((r : Int) != 930) = true := by simp; omega
  clear h0
  go_enter Tryd.func55, Tryd.ntmps55
  go_wp2
  go_ret
  exact ⟨rfl, rfl⟩
set_option maxRecDepth 100000 in
theorem rfo10x0 (r : Nat) (w : World) (h0 : 313 ≤ r) (h1 : r ≤ 328) (hm : r % 2 = 0) : Calls Tryd.prog 55 #[.int .i32 (r : Int)] w (FdR w [r]) := by
  have g65 : ((65 : Int) ≤ (r : Int)) := by omega
  have g192 : ((192 : Int) ≤ (r : Int)) := by omega
  have g913 : ¬ ((913 : Int) ≤ (r : Int)) := by omega
  have g1040 : ¬ ((1040 : Int) ≤ (r : Int)) := by omega
  have g1024 : ¬ ((1024 : Int) ≤ (r : Int)) := by omega
  have g256 : ((256 : Int) ≤ (r : Int)) := by omega
  have g330 : ¬ ((330 : Int) ≤ (r : Int)) := by omega
  have g7680 : ¬ ((7680 : Int) ≤ (r : Int)) := by omega
  have g313 : ((313 : Int) ≤ (r : Int)) := by omega
  have g377 : ¬ ((377 : Int) ≤ (r : Int)) := by omega
  have l90 : ¬ ((r : Int) ≤ 90) := by omega
  have l222 : ¬ ((r : Int) ≤ 222) := by omega
  have l937 : ((r : Int) ≤ 937) := by omega
  have l1071 : ((r : Int) ≤ 1071) := by omega
  have l1039 : ((r : Int) ≤ 1039) := by omega
  have l311 : ¬ ((r : Int) ≤ 311) := by omega
  have l375 : ((r : Int) ≤ 375) := by omega
  have l7829 : ((r : Int) ≤ 7829) := by omega
  have l328 : ((r : Int) ≤ 328) := by omega
  have l382 : ((r : Int) ≤ 382) := by omega
  have e223 : ((r : Int) == 223) = false := by rw [beq_eq_false_iff_ne]; omega
  have e7838 : ((r : Int) == 7838) = false := by rw [beq_eq_false_iff_ne]; omega
  have e962 : ((r : Int) == 962) = false := by rw [beq_eq_false_iff_ne]; omega
  have n215 : ((r : Int) != 215) = true := by simp; omega
  have n930 : ((r : Int) != 930) = true := by simp; omega
  have hmi : Int.tmod (r : Int) 2 = 0 := by rw [Int.tmod_eq_emod_of_nonneg (by omega)]; omega
  have hmj : (r : Int) % 2 = 0 := by omega
  clear h0
  go_enter Tryd.func55, Tryd.ntmps55
  go_wp2
  go_ret
  exact ⟨rfl, rfl⟩
set_option maxRecDepth 100000 in
theorem rfo10x1 (r : Nat) (w : World) (h0 : 313 ≤ r) (h1 : r ≤ 328) (hm : r % 2 = 1) : Calls Tryd.prog 55 #[.int .i32 (r : Int)] w (FdR w [r + 1]) := by
  have g65 : ((65 : Int) ≤ (r : Int)) := by omega
  have g192 : ((192 : Int) ≤ (r : Int)) := by omega
  have g913 : ¬ ((913 : Int) ≤ (r : Int)) := by omega
  have g1040 : ¬ ((1040 : Int) ≤ (r : Int)) := by omega
  have g1024 : ¬ ((1024 : Int) ≤ (r : Int)) := by omega
  have g256 : ((256 : Int) ≤ (r : Int)) := by omega
  have g330 : ¬ ((330 : Int) ≤ (r : Int)) := by omega
  have g7680 : ¬ ((7680 : Int) ≤ (r : Int)) := by omega
  have g313 : ((313 : Int) ≤ (r : Int)) := by omega
  have g377 : ¬ ((377 : Int) ≤ (r : Int)) := by omega
  have l90 : ¬ ((r : Int) ≤ 90) := by omega
  have l222 : ¬ ((r : Int) ≤ 222) := by omega
  have l937 : ((r : Int) ≤ 937) := by omega
  have l1071 : ((r : Int) ≤ 1071) := by omega
  have l1039 : ((r : Int) ≤ 1039) := by omega
  have l311 : ¬ ((r : Int) ≤ 311) := by omega
  have l375 : ((r : Int) ≤ 375) := by omega
  have l7829 : ((r : Int) ≤ 7829) := by omega
  have l328 : ((r : Int) ≤ 328) := by omega
  have l382 : ((r : Int) ≤ 382) := by omega
  have e223 : ((r : Int) == 223) = false := by rw [beq_eq_false_iff_ne]; omega
  have e7838 : ((r : Int) == 7838) = false := by rw [beq_eq_false_iff_ne]; omega
  have e962 : ((r : Int) == 962) = false := by rw [beq_eq_false_iff_ne]; omega
  have n215 : ((r : Int) != 215) = true := by simp; omega
  have n930 : ((r : Int) != 930) = true := by simp; omega
  have hmi : Int.tmod (r : Int) 2 = 1 := by rw [Int.tmod_eq_emod_of_nonneg (by omega)]; omega
  have hmj : (r : Int) % 2 = 1 := by omega
  clear h0
  go_enter Tryd.func55, Tryd.ntmps55
  go_wp2
  go_ret
  exact fd_fin _ _ _ (by omega)
set_option maxRecDepth 100000 in
theorem rfo11 (r : Nat) (w : World) (h0 : 329 ≤ r) (h1 : r ≤ 329) : Calls Tryd.prog 55 #[.int .i32 (r : Int)] w (FdR w [r]) := by
  have g65 : ((65 : Int) ≤ (r : Int)) := by omega
  have g192 : ((192 : Int) ≤ (r : Int)) := by omega
  have g913 : ¬ ((913 : Int) ≤ (r : Int)) := by omega
  have g1040 : ¬ ((1040 : Int) ≤ (r : Int)) := by omega
  have g1024 : ¬ ((1024 : Int) ≤ (r : Int)) := by omega
  have g256 : ((256 : Int) ≤ (r : Int)) := by omega
  have g330 : ¬ ((330 : Int) ≤ (r : Int)) := by omega
  have g7680 : ¬ ((7680 : Int) ≤ (r : Int)) := by omega
  have g313 : ((313 : Int) ≤ (r : Int)) := by omega
  have g377 : ¬ ((377 : Int) ≤ (r : Int)) := by omega
  have l90 : ¬ ((r : Int) ≤ 90) := by omega
  have l222 : ¬ ((r : Int) ≤ 222) := by omega
  have l937 : ((r : Int) ≤ 937) := by omega
  have l1071 : ((r : Int) ≤ 1071) := by omega
  have l1039 : ((r : Int) ≤ 1039) := by omega
  have l311 : ¬ ((r : Int) ≤ 311) := by omega
  have l375 : ((r : Int) ≤ 375) := by omega
  have l7829 : ((r : Int) ≤ 7829) := by omega
  have l328 : ¬ ((r : Int) ≤ 328) := by omega
  have l382 : ((r : Int) ≤ 382) := by omega
  have e223 : ((r : Int) == 223) = false := by rw [beq_eq_false_iff_ne]; omega
  have e7838 : ((r : Int) == 7838) = false := by rw [beq_eq_false_iff_ne]; omega
  have e962 : ((r : Int) == 962) = false := by rw [beq_eq_false_iff_ne]; omega
  have n215 : ((r : Int) != 215) = true := by simp; omega
  have n930 : ((r : Int) != 930) = true := by simp; omega
  clear h0
  go_enter Tryd.func55, Tryd.ntmps55
  go_wp2
  go_ret
  exact ⟨rfl, rfl⟩
set_option maxRecDepth 100000 in
theorem rfo12x0 (r : Nat) (w : World) (h0 : 330 ≤ r) (h1 : r ≤ 375) (hm : r % 2 = 0) : Calls Tryd.prog 55 #[.int .i32 (r : Int)] w (FdR w [r + 1]) := by
  have g65 : ((65 : Int) ≤ (r : Int)) := by omega
  have g192 : ((192 : Int) ≤ (r : Int)) := by omega
  have g913 : ¬ ((913 : Int) ≤ (r : Int)) := by omega
  have g1040 : ¬ ((1040 : Int) ≤ (r : Int)) := by omega
  have g1024 : ¬ ((1024 : Int) ≤ (r : Int)) := by omega
  have g256 : ((256 : Int) ≤ (r : Int)) := by omega
  have g330 : ((330 : Int) ≤ (r : Int)) := by omega
  have g7680 : ¬ ((7680 : Int) ≤ (r : Int)) := by omega
  have g313 : ((313 : Int) ≤ (r : Int)) := by omega
  have g377 : ¬ ((377 : Int) ≤ (r : Int)) := by omega
  have l90 : ¬ ((r : Int) ≤ 90) := by omega
  have l222 : ¬ ((r : Int) ≤ 222) := by omega
  have l937 : ((r : Int) ≤ 937) := by omega
  have l1071 : ((r : Int) ≤ 1071) := by omega
  have l1039 : ((r : Int) ≤ 1039) := by omega
  have l311 : ¬ ((r : Int) ≤ 311) := by omega
  have l375 : ((r : Int) ≤ 375) := by omega
  have l7829 : ((r : Int) ≤ 7829) := by omega
  have l328 : ¬ ((r : Int) ≤ 328) := by omega
  have l382 : ((r : Int) ≤ 382) := by omega
  have e223 : ((r : Int) == 223) = false := by rw [beq_eq_false_iff_ne]; omega
  have e7838 : ((r : Int) == 7838) = false := by rw [beq_eq_false_iff_ne]; omega
  have e962 : ((r : Int) == 962) = false := by rw [beq_eq_false_iff_ne]; omega
  have n215 : ((r : Int) != 215) = true := by simp; omega
  have n930 : ((r : Int) != 930) = true := by simp; omega
  have hmi : Int.tmod (r : Int) 2 = 0 := by rw [Int.tmod_eq_emod_of_nonneg (by omega)]; omega
  have hmj : (r : Int) % 2 = 0 := by omega
  clear h0
  go_enter Tryd.func55, Tryd.ntmps55
  go_wp2
  go_ret
  exact fd_fin _ _ _ (by omega)
set_option maxRecDepth 100000 in
theorem rfo12x1 (r : Nat) (w : World) (h0 : 330 ≤ r) (h1 : r ≤ 375) (hm : r % 2 = 1) : Calls Tryd.prog 55 #[.int .i32 (r : Int)] w (FdR w [r]) := by
  have g65 : ((65 : Int) ≤ (r : Int)) := by omega
  have g192 : ((192 : Int) ≤ (r : Int)) := by omega
  have g913 : ¬ ((913 : Int) ≤ (r : Int)) := by omega
  have g1040 : ¬ ((1040 : Int) ≤ (r : Int)) := by omega
  have g1024 : ¬ ((1024 : Int) ≤ (r : Int)) := by omega
  have g256 : ((256 : Int) ≤ (r : Int)) := by omega
  have g330 : ((330 : Int) ≤ (r : Int)) := by omega
  have g7680 : ¬ ((7680 : Int) ≤ (r : Int)) := by omega
  have g313 : ((313 : Int) ≤ (r : Int)) := by omega
  have g377 : ¬ ((377 : Int) ≤ (r : Int)) := by omega
  have l90 : ¬ ((r : Int) ≤ 90) := by omega
  have l222 : ¬ ((r : Int) ≤ 222) := by omega
  have l937 : ((r : Int) ≤ 937) := by omega
  have l1071 : ((r : Int) ≤ 1071) := by omega
  have l1039 : ((r : Int) ≤ 1039) := by omega
  have l311 : ¬ ((r : Int) ≤ 311) := by omega
  have l375 : ((r : Int) ≤ 375) := by omega
  have l7829 : ((r : Int) ≤ 7829) := by omega
  have l328 : ¬ ((r : Int) ≤ 328) := by omega
  have l382 : ((r : Int) ≤ 382) := by omega
  have e223 : ((r : Int) == 223) = false := by rw [beq_eq_false_iff_ne]; omega
  have e7838 : ((r : Int) == 7838) = false := by rw [beq_eq_false_iff_ne]; omega
  have e962 : ((r : Int) == 962) = false := by rw [beq_eq_false_iff_ne]; omega
  have n215 : ((r : Int) != 215) = true := by simp; omega
  have n930 : ((r : Int) != 930) = true := by simp; omega
  have hmi : Int.tmod (r : Int) 2 = 1 := by rw [Int.tmod_eq_emod_of_nonneg (by omega)]; omega
  have hmj : (r : Int) % 2 = 1 := by omega
  clear h0
  go_enter Tryd.func55, Tryd.ntmps55
  go_wp2
  go_ret
  exact ⟨rfl, rfl⟩
set_option maxRecDepth 100000 in
theorem rfo13 (r : Nat) (w : World) (h0 : 376 ≤ r) (h1 : r ≤ 376) : Calls Tryd.prog 55 #[.int .i32 (r : Int)] w (FdR w [r]) := by
  have g65 : ((65 : Int) ≤ (r : Int)) := by omega
  have g192 : ((192 : Int) ≤ (r : Int)) := by omega
  have g913 : ¬ ((913 : Int) ≤ (r : Int)) := by omega
  have g1040 : ¬ ((1040 : Int) ≤ (r : Int)) := by omega
  have g1024 : ¬ ((1024 : Int) ≤ (r : Int)) := by omega
  have g256 : ((256 : Int) ≤ (r : Int)) := by omega
  have g330 : ((330 : Int) ≤ (r : Int)) := by omega
  have g7680 : ¬ ((7680 : Int) ≤ (r : Int)) := by omega
  have g313 : ((313 : Int) ≤ (r : Int)) := by omega
  have g377 : ¬ ((377 : Int) ≤ (r : Int)) := by omega
  have l90 : ¬ ((r : Int) ≤ 90) := by omega
  have l222 : ¬ ((r : Int) ≤ 222) := by omega
  have l937 : ((r : Int) ≤ 937) := by omega
  have l1071 : ((r : Int) ≤ 1071) := by omega
  have l1039 : ((r : Int) ≤ 1039) := by omega
  have l311 : ¬ ((r : Int) ≤ 311) := by omega
  have l375 : ¬ ((r : Int) ≤ 375) := by omega
  have l7829 : ((r : Int) ≤ 7829) := by omega
  have l328 : ¬ ((r : Int) ≤ 328) := by omega
  have l382 : ((r : Int) ≤ 382) := by omega
  have e223 : ((r : Int) == 223) = false := by rw [beq_eq_false_iff_ne]; omega
  have e7838 : ((r : Int) == 7838) = false := by rw [beq_eq_false_iff_ne]; omega
  have e962 : ((r : Int) == 962) = false := by rw [beq_eq_false_iff_ne]; omega
  have n215 : ((r : Int) != 215) = true := by simp; omega
  have n930 : ((r : Int) != 930) = true := by simp; omega
  clear h0
  go_enter Tryd.func55, Tryd.ntmps55
  go_wp2
  go_ret
  exact ⟨rfl, rfl⟩
set_option maxRecDepth 100000 in
theorem rfo14x0 (r : Nat) (w : World) (h0 : 377 ≤ r) (h1 : r ≤ 382) (hm : r % 2 = 0) : Calls Tryd.prog 55 #[.int .i32 (r : Int)] w (FdR w [r]) := by
  have g65 : ((65 : Int) ≤ (r : Int)) := by omega
  have g192 : ((192 : Int) ≤ (r : Int)) := by omega
  have g913 : ¬ ((913 : Int) ≤ (r : Int)) := by omega
  have g1040 : ¬ ((1040 : Int) ≤ (r : Int)) := by omega
  have g1024 : ¬ ((1024 : Int) ≤ (r : Int)) := by omega
  have g256 : ((256 : Int) ≤ (r : Int)) := by omega
  have g330 : ((330 : Int) ≤ (r : Int)) := by omega
  have g7680 : ¬ ((7680 : Int) ≤ (r : Int)) := by omega
  have g313 : ((313 : Int) ≤ (r : Int)) := by omega
  have g377 : ((377 : Int) ≤ (r : Int)) := by omega
  have l90 : ¬ ((r : Int) ≤ 90) := by omega
  have l222 : ¬ ((r : Int) ≤ 222) := by omega
  have l937 : ((r : Int) ≤ 937) := by omega
  have l1071 : ((r : Int) ≤ 1071) := by omega
  have l1039 : ((r : Int) ≤ 1039) := by omega
  have l311 : ¬ ((r : Int) ≤ 311) := by omega
  have l375 : ¬ ((r : Int) ≤ 375) := by omega
  have l7829 : ((r : Int) ≤ 7829) := by omega
  have l328 : ¬ ((r : Int) ≤ 328) := by omega
  have l382 : ((r : Int) ≤ 382) := by omega
  have e223 : ((r : Int) == 223) = false := by rw [beq_eq_false_iff_ne]; omega
  have e7838 : ((r : Int) == 7838) = false := by rw [beq_eq_false_iff_ne]; omega
  have e962 : ((r : Int) == 962) = false := by rw [beq_eq_false_iff_ne]; omega
  have n215 : ((r : Int) != 215) = true := by simp; omega
  have n930 : ((r : Int) != 930) = true := by simp; omega
  have hmi : Int.tmod (r : Int) 2 = 0 := by rw [Int.tmod_eq_emod_of_nonneg (by omega)]; omega
  have hmj : (r : Int) % 2 = 0 := by omega
  clear h0
  go_enter Tryd.func55, Tryd.ntmps55
  go_wp2
  go_ret
  exact ⟨rfl, rfl⟩
set_option maxRecDepth 100000 in
theorem rfo14x1 (r : Nat) (w : World) (h0 : 377 ≤ r) (h1 : r ≤ 382) (hm : r % 2 = 1) : Calls Tryd.prog 55 #[.int .i32 (r : Int)] w (FdR w [r + 1]) := by
  have g65 : ((65 : Int) ≤ (r : Int)) := by omega
  have g192 : ((192 : Int) ≤ (r : Int)) := by omega
  have g913 : ¬ ((913 : Int) ≤ (r : Int)) := by omega
  have g1040 : ¬ ((1040 : Int) ≤ (r : Int)) := by omega
  have g1024 : ¬ ((1024 : Int) ≤ (r : Int)) := by omega
  have g256 : ((256 : Int) ≤ (r : Int)) := by omega
  have g330 : ((330 : Int) ≤ (r : Int)) := by omega
  have g7680 : ¬ ((7680 : Int) ≤ (r : Int)) := by omega
  have g313 : ((313 : Int) ≤ (r : Int)) := by omega
  have g377 : ((377 : Int) ≤ (r : Int)) := by omega
  have l90 : ¬ ((r : Int) ≤ 90) := by omega
  have l222 : ¬ ((r : Int) ≤ 222) := by omega
  have l937 : ((r : Int) ≤ 937) := by omega
  have l1071 : ((r : Int) ≤ 1071) := by omega
  have l1039 : ((r : Int) ≤ 1039) := by omega
  have l311 : ¬ ((r : Int) ≤ 311) := by omega
  have l375 : ¬ ((r : Int) ≤ 375) := by omega
  have l7829 : ((r : Int) ≤ 7829) := by omega
  have l328 : ¬ ((r : Int) ≤ 328) := by omega
  have l382 : ((r : Int) ≤ 382) := by omega
  have e223 : ((r : Int) == 223) = false := by rw [beq_eq_false_iff_ne]; omega
  have e7838 : ((r : Int) == 7838) = false := by rw [beq_eq_false_iff_ne]; omega
  have e962 : ((r : Int) == 962) = false := by rw [beq_eq_false_iff_ne]; omega
  have n215 : ((r : Int) != 215) = true := by simp; omega
  have n930 : ((r : Int) != 930) = true := by simp; omega
  have hmi : Int.tmod (r : Int) 2 = 1 := by rw [Int.tmod_eq_emod_of_nonneg (by omega)]; omega
  have hmj : (r : Int) % 2 = 1 := by omega
  clear h0
  go_enter Tryd.func55, Tryd.ntmps55
  go_wp2
  go_ret
  exact fd_fin _ _ _ (by omega)
set_option maxRecDepth 100000 in
theorem rfo15 (r : Nat) (w : World) (h0 : 383 ≤ r) (h1 : r ≤ 912) : Calls Tryd.prog 55 #[.int .i32 (r : Int)] w (FdR w [r]) := by
  have g65 : ((65 : Int) ≤ (r : Int)) := by omega
  have g192 : ((192 : Int) ≤ (r : Int)) := by omega
  have g913 : ¬ ((913 : Int) ≤ (r : Int)) := by omega
  have g1040 : ¬ ((1040 : Int) ≤ (r : Int)) := by omega
  have g1024 : ¬ ((1024 : Int) ≤ (r : Int)) := by omega
  have g256 : ((256 : Int) ≤ (r : Int)) := by omega
  have g330 : ((330 : Int) ≤ (r : Int)) := by omega
  have g7680 : ¬ ((7680 : Int) ≤ (r : Int)) := by omega
  have g313 : ((313 : Int) ≤ (r : Int)) := by omega
  have g377 : ((377 : Int) ≤ (r : Int)) := by omega
  have l90 : ¬ ((r : Int) ≤ 90) := by omega
  have l222 : ¬ ((r : Int) ≤ 222) := by omega
  have l937 : ((r : Int) ≤ 937) := by omega
  have l1071 : ((r : Int) ≤ 1071) := by omega
  have l1039 : ((r : Int) ≤ 1039) := by omega
  have l311 : ¬ ((r : Int) ≤ 311) := by omega
  have l375 : ¬ ((r : Int) ≤ 375) := by omega
  have l7829 : ((r : Int) ≤ 7829) := by omega
  have l328 : ¬ ((r : Int) ≤ 328) := by omega
  have l382 : ¬ ((r : Int) ≤ 382) := by omega
  have e223 : ((r : Int) == 223) = false := by rw [beq_eq_false_iff_ne]; omega
  have e7838 : ((r : Int) == 7838) = false := by rw [beq_eq_false_iff_ne]; omega
  have e962 : ((r : Int) == 962) = false := by rw [beq_eq_false_iff_ne]; omega
  have n215 : ((r : Int) != 215) = true := by simp; omega
  have n930 : ((r : Int) != 930) = true := by simp; omega
  clear h0
  go_enter Tryd.func55, Tryd.ntmps55
  go_wp2
  go_ret
  exact ⟨rfl, rfl⟩
set_option maxRecDepth 100000 in
theorem rfo16 (r : Nat) (w : World) (h0 : 913 ≤ r) (h1 : r ≤ 929) : Calls Tryd.prog 55 #[.int .i32 (r : Int)] w (FdR w [r + 32]) := by
  have g65 : ((65 : Int) ≤ (r : Int)) := by omega
  have g192 : ((192 : Int) ≤ (r : Int)) := by omega
  have g913 : ((913 : Int) ≤ (r : Int)) := by omega
  have g1040 : ¬ ((1040 : Int) ≤ (r : Int)) := by omega
  have g1024 : ¬ ((1024 : Int) ≤ (r : Int)) := by omega
  have g256 : ((256 : Int) ≤ (r : Int)) := by omega
  have g330 : ((330 : Int) ≤ (r : Int)) := by omega
  have g7680 : ¬ ((7680 : Int) ≤ (r : Int)) := by omega
  have g313 : ((313 : Int) ≤ (r : Int)) := by omega
  have g377 : ((377 : Int) ≤ (r : Int)) := by omega
  have l90 : ¬ ((r : Int) ≤ 90) := by omega
  have l222 : ¬ ((r : Int) ≤ 222) := by omega
  have l937 : ((r : Int) ≤ 937) := by omega
  have l1071 : ((r : Int) ≤ 1071) := by omega
  have l1039 : ((r : Int) ≤ 1039) := by omega
  have l311 : ¬ ((r : Int) ≤ 311) := by omega
  have l375 : ¬ ((r : Int) ≤ 375) := by omega
  have l7829 : ((r : Int) ≤ 7829) := by omega
  have l328 : ¬ ((r : Int) ≤ 328) := by omega
  have l382 : ¬ ((r : Int) ≤ 382) := by omega
  have e223 : ((r : Int) == 223) = false := by rw [beq_eq_false_iff_ne]; omega
  have e7838 : ((r : Int) == 7838) = false := by rw [beq_eq_false_iff_ne]; omega
  have e962 : ((r : Int) == 962) = false := by rw [beq_eq_false_iff_ne]; omega
  have n215 : ((r : Int) != 215) = true := by simp; omega
  have n930 : ((r : Int) != 930) = true := by simp; omega
  clear h0
  go_enter Tryd.func55, Tryd.ntmps55
  go_wp2
  go_ret
  exact fd_fin _ _ _ (by omega)
set_option maxRecDepth 100000 in
theorem rfo17 (r : Nat) (w : World) (h0 : 930 ≤ r) (h1 : r ≤ 930) : Calls Tryd.prog 55 #[.int .i32 (r : Int)] w (FdR w [r]) := by
  have g65 : ((65 : Int) ≤ (r : Int)) := by omega
  have g192 : ((192 : Int) ≤ (r : Int)) := by omega
  have g913 : ((913 : Int) ≤ (r : Int)) := by omega
  have g1040 : ¬ ((1040 : Int) ≤ (r : Int)) := by omega
  have g1024 : ¬ ((1024 : Int) ≤ (r : Int)) := by omega
  have g256 : ((256 : Int) ≤ (r : Int)) := by omega
  have g330 : ((330 : Int) ≤ (r : Int)) := by omega
  have g7680 : ¬ ((7680 : Int) ≤ (r : Int)) := by omega
  have g313 : ((313 : Int) ≤ (r : Int)) := by omega
  have g377 : ((377 : Int) ≤ (r : Int)) := by omega
  have l90 : ¬ ((r : Int) ≤ 90) := by omega
  have l222 : ¬ ((r : Int) ≤ 222) := by omega
  have l937 : ((r : Int) ≤ 937) := by omega
  have l1071 : ((r : Int) ≤ 1071) := by omega
  have l1039 : ((r : Int) ≤ 1039) := by omega
  have l311 : ¬ ((r : Int) ≤ 311) := by omega
  have l375 : ¬ ((r : Int) ≤ 375) := by omega
  have l7829 : ((r : Int) ≤ 7829) := by omega
  have l328 : ¬ ((r : Int) ≤ 328) := by omega
  have l382 : ¬ ((r : Int) ≤ 382) := by omega
  have e223 : ((r : Int) == 223) = false := by rw [beq_eq_false_iff_ne]; omega
  have e7838 : ((r : Int) == 7838) = false := by rw [beq_eq_false_iff_ne]; omega
  have e962 : ((r : Int) == 962) = false := by rw [beq_eq_false_iff_ne]; omega
  have n215 : ((r : Int) != 215) = true := by simp; omega
  have n930 : ((r : Int) != 930) = false := by simp; omega
  clear h0
  go_enter Tryd.func55, Tryd.ntmps55
  go_wp2
  go_ret
  exact ⟨rfl, rfl⟩
set_option maxRecDepth 100000 in
theorem rfo18 (r : Nat) (w : World) (h0 : 931 ≤ r) (h1 : r ≤ 937) : Calls Tryd.prog 55 #[.int .i32 (r : Int)] w (FdR w [r + 32]) := by
  have g65 : ((65 : Int) ≤ (r : Int)) := by omega
  have g192 : ((192 : Int) ≤ (r : Int)) := by omega
  have g913 : ((913 : Int) ≤ (r : Int)) := by omega
  have g1040 : ¬ ((1040 : Int) ≤ (r : Int)) := by omega
  have g1024 : ¬ ((1024 : Int) ≤ (r : Int)) := by omega
  have g256 : ((256 : Int) ≤ (r : Int)) := by omega
  have g330 : ((330 : Int) ≤ (r : Int)) := by omega
  have g7680 : ¬ ((7680 : Int) ≤ (r : Int)) := by omega
  have g313 : ((313 : Int) ≤ (r : Int)) := by omega
  have g377 : ((377 : Int) ≤ (r : Int)) := by omega
  have l90 : ¬ ((r : Int) ≤ 90) := by omega
  have l222 : ¬ ((r : Int) ≤ 222) := by omega
  have l937 : ((r : Int) ≤ 937) := by omega
  have l1071 : ((r : Int) ≤ 1071) := by omega
  have l1039 : ((r : Int) ≤ 1039) := by omega
  have l311 : ¬ ((r : Int) ≤ 311) := by omega
  have l375 : ¬ ((r : Int) ≤ 375) := by omega
  have l7829 : ((r : Int) ≤ 7829) := by omega
  have l328 : ¬ ((r : Int) ≤ 328) := by omega
  have l382 : ¬ ((r : Int) ≤ 382) := by omega
  have e223 : ((r : Int) == 223) = false := by rw [beq_eq_false_iff_ne]; omega
  have e7838 : ((r : Int) == 7838) = false := by rw [beq_eq_false_iff_ne]; omega
  have e962 : ((r : Int) == 962) = false := by rw [beq_eq_false_iff_ne]; omega
  have n215 : ((r : Int) != 215) = true := by simp; omega
  have n930 : ((r : Int) != 930) = true := by simp; omega
  clear h0
  go_enter Tryd.func55, Tryd.ntmps55
  go_wp2
  go_ret
  exact fd_fin _ _ _ (by omega)
set_option maxRecDepth 100000 in
theorem rfo19 (r : Nat) (w : World) (h0 : 938 ≤ r) (h1 : r ≤ 961) : Calls Tryd.prog 55 #[.int .i32 (r : Int)] w (FdR w [r]) := by
  have g65 : ((65 : Int) ≤ (r : Int)) := by omega
  have g192 : ((192 : Int) ≤ (r : Int)) := by omega
  have g913 : ((913 : Int) ≤ (r : Int)) := by omega
  have g1040 : ¬ ((1040 : Int) ≤ (r : Int)) := by omega
  have g1024 : ¬ ((1024 : Int) ≤ (r : Int)) := by omega
  have g256 : ((256 : Int) ≤ (r : Int)) := by omega
  have g330 : ((330 : Int) ≤ (r : Int)) := by omega
  have g7680 : ¬ ((7680 : Int) ≤ (r : Int)) := by omega
  have g313 : ((313 : Int) ≤ (r : Int)) := by omega
  have g377 : ((377 : Int) ≤ (r : Int)) := by omega
  have l90 : ¬ ((r : Int) ≤ 90) := by omega
  have l222 : ¬ ((r : Int) ≤ 222) := by omega
  have l937 : ¬ ((r : Int) ≤ 937) := by omega
  have l1071 : ((r : Int) ≤ 1071) := by omega
  have l1039 : ((r : Int) ≤ 1039) := by omega
  have l311 : ¬ ((r : Int) ≤ 311) := by omega
  have l375 : ¬ ((r : Int) ≤ 375) := by omega
  have l7829 : ((r : Int) ≤ 7829) := by omega
  have l328 : ¬ ((r : Int) ≤ 328) := by omega
  have l382 : ¬ ((r : Int) ≤ 382) := by omega
  have e223 : ((r : Int) == 223) = false := by rw [beq_eq_false_iff_ne]; omega
  have e7838 : ((r : Int) == 7838) = false := by rw [beq_eq_false_iff_ne]; omega
  have e962 : ((r : Int) == 962) = false := by rw [beq_eq_false_iff_ne]; omega
  have n215 : ((r : Int) != 215) = true := by simp; omega
  have n930 : ((r : Int) != 930) = true := by simp; omega
  clear h0
  go_enter Tryd.func55, Tryd.ntmps55
  go_wp2
  go_ret
  exact ⟨rfl, rfl⟩
set_option maxRecDepth 100000 in
theorem rfo20 (r : Nat) (w : World) (h0 : 962 ≤ r) (h1 : r ≤ 962) : Calls Tryd.prog 55 #[.int .i32 (r : Int)] w (FdR w [963]) := by
  have g65 : ((65 : Int) ≤ (r : Int)) := by omega
  have g192 : ((192 : Int) ≤ (r : Int)) := by omega
  have g913 : ((913 : Int) ≤ (r : Int)) := by omega
  have g1040 : ¬ ((1040 : Int) ≤ (r : Int)) := by omega
  have g1024 : ¬ ((1024 : Int) ≤ (r : Int)) := by omega
  have g256 : ((256 : Int) ≤ (r : Int)) := by omega
  have g330 : ((330 : Int) ≤ (r : Int)) := by omega
  have g7680 : ¬ ((7680 : Int) ≤ (r : Int)) := by omega
  have g313 : ((313 : Int) ≤ (r : Int)) := by omega
  have g377 : ((377 : Int) ≤ (r : Int)) := by omega
  have l90 : ¬ ((r : Int) ≤ 90) := by omega
  have l222 : ¬ ((r : Int) ≤ 222) := by omega
  have l937 : ¬ ((r : Int) ≤ 937) := by omega
  have l1071 : ((r : Int) ≤ 1071) := by omega
  have l1039 : ((r : Int) ≤ 1039) := by omega
  have l311 : ¬ ((r : Int) ≤ 311) := by omega
  have l375 : ¬ ((r : Int) ≤ 375) := by omega
  have l7829 : ((r : Int) ≤ 7829) := by omega
  have l328 : ¬ ((r : Int) ≤ 328) := by omega
  have l382 : ¬ ((r : Int) ≤ 382) := by omega
  have e223 : ((r : Int) == 223) = false := by rw [beq_eq_false_iff_ne]; omega
  have e7838 : ((r : Int) == 7838) = false := by rw [beq_eq_false_iff_ne]; omega
  have e962 : ((r : Int) == 962) = true := by rw [beq_iff_eq]; omega
  have n215 : ((r : Int) != 215) = true := by simp; omega
  have n930 : ((r : Int) != 930) = true := by simp; omega
  clear h0
  go_enter Tryd.func55, Tryd.ntmps55
  go_wp2
  go_ret
  exact ⟨rfl, rfl⟩
set_option maxRecDepth 100000 in
theorem rfo21 (r : Nat) (w : World) (h0 : 963 ≤ r) (h1 : r ≤ 1023) : Calls Tryd.prog 55 #[.int .i32 (r : Int)] w (FdR w [r]) := by
  have g65 : ((65 : Int) ≤ (r : Int)) := by omega
  have g192 : ((192 : Int) ≤ (r : Int)) := by omega
  have g913 : ((913 : Int) ≤ (r : Int)) := by omega
  have g1040 : ¬ ((1040 : Int) ≤ (r : Int)) := by omega
  have g1024 : ¬ ((1024 : Int) ≤ (r : Int)) := by omega
  have g256 : ((256 : Int) ≤ (r : Int)) := by omega
  have g330 : ((330 : Int) ≤ (r : Int)) := by omega
  have g7680 : ¬ ((7680 : Int) ≤ (r : Int)) := by omega
  have g313 : ((313 : Int) ≤ (r : Int)) := by omega
  have g377 : ((377 : Int) ≤ (r : Int)) := by omega
  have l90 : ¬ ((r : Int) ≤ 90) := by omega
  have l222 : ¬ ((r : Int) ≤ 222) := by omega
  have l937 : ¬ ((r : Int) ≤ 937) := by omega
  have l1071 : ((r : Int) ≤ 1071) := by omega
  have l1039 : ((r : Int) ≤ 1039) := by omega
  have l311 : ¬ ((r : Int) ≤ 311) := by omega
  have l375 : ¬ ((r : Int) ≤ 375) := by omega
  have l7829 : ((r : Int) ≤ 7829) := by omega
  have l328 : ¬ ((r : Int) ≤ 328) := by omega
  have l382 : ¬ ((r : Int) ≤ 382) := by omega
  have e223 : ((r : Int) == 223) = false := by rw [beq_eq_false_iff_ne]; omega
  have e7838 : ((r : Int) == 7838) = false := by rw [beq_eq_false_iff_ne]; omega
  have e962 : ((r : Int) == 962) = false := by rw [beq_eq_false_iff_ne]; omega
  have n215 : ((r : Int) != 215) = true := by simp; omega
  have n930 : ((r : Int) != 930) = true := by simp; omega
  clear h0
  go_enter Tryd.func55, Tryd.ntmps55
  go_wp2
  go_ret
  exact ⟨rfl, rfl⟩
set_option maxRecDepth 100000 in
theorem rfo22 (r : Nat) (w : World) (h0 : 1024 ≤ r) (h1 : r ≤ 1039) : Calls Tryd.prog 55 #[.int .i32 (r : Int)] w (FdR w [r + 80]) := by
  have g65 : ((65 : Int) ≤ (r : Int)) := by omega
  have g192 : ((192 : Int) ≤ (r : Int)) := by omega
  have g913 : ((913 : Int) ≤ (r : Int)) := by omega
  have g1040 : ¬ ((1040 : Int) ≤ (r : Int)) := by omega
  have g1024 : ((1024 : Int) ≤ (r : Int)) := by omega
  have g256 : ((256 : Int) ≤ (r : Int)) := by omega
  have g330 : ((330 : Int) ≤ (r : Int)) := by omega
  have g7680 : ¬ ((7680 : Int) ≤ (r : Int)) := by omega
  have g313 : ((313 : Int) ≤ (r : Int)) := by omega
  have g377 : ((377 : Int) ≤ (r : Int)) := by omega
  have l90 : ¬ ((r : Int) ≤ 90) := by omega
  have l222 : ¬ ((r : Int) ≤ 222) := by omega
  have l937 : ¬ ((r : Int) ≤ 937) := by omega
  have l1071 : ((r : Int) ≤ 1071) := by omega
  have l1039 : ((r : Int) ≤ 1039) := by omega
  have l311 : ¬ ((r : Int) ≤ 311) := by omega
  have l375 : ¬ ((r : Int) ≤ 375) := by omega
  have l7829 : ((r : Int) ≤ 7829) := by omega
  have l328 : ¬ ((r : Int) ≤ 328) := by omega
  have l382 : ¬ ((r : Int) ≤ 382) := by omega
  have e223 : ((r : Int) == 223) = false := by rw [beq_eq_false_iff_ne]; omega
  have e7838 : ((r : Int) == 7838) = false := by rw [beq_eq_false_iff_ne]; omega
  have e962 : ((r : Int) == 962) = false := by rw [beq_eq_false_iff_ne]; omega
  have n215 : ((r : Int) != 215) = true := by simp; omega
  have n930 : ((r : Int) != 930) = true := by simp; omega
  clear h0
  go_enter Tryd.func55, Tryd.ntmps55
  go_wp2
  go_ret
  exact fd_fin _ _ _ (by omega)
set_option maxRecDepth 100000 in
theorem rfo23 (r : Nat) (w : World) (h0 : 1040 ≤ r) (h1 : r ≤ 1071) : Calls Tryd.prog 55 #[.int .i32 (r : Int)] w (FdR w [r + 32]) := by
  have g65 : ((65 : Int) ≤ (r : Int)) := by omega
  have g192 : ((192 : Int) ≤ (r : Int)) := by omega
  have g913 : ((913 : Int) ≤ (r : Int)) := by omega
  have g1040 : ((1040 : Int) ≤ (r : Int)) := by omega
  have g1024 : ((1024 : Int) ≤ (r : Int)) := by omega
  have g256 : ((256 : Int) ≤ (r : Int)) := by omega
  have g330 : ((330 : Int) ≤ (r : Int)) := by omega
  have g7680 : ¬ ((7680 : Int) ≤ (r : Int)) := by omega
  have g313 : ((313 : Int) ≤ (r : Int)) := by omega
  have g377 : ((377 : Int) ≤ (r : Int)) := by omega
  have l90 : ¬ ((r : Int) ≤ 90) := by omega
  have l222 : ¬ ((r : Int) ≤ 222) := by omega
  have l937 : ¬ ((r : Int) ≤ 937) := by omega
  have l1071 : ((r : Int) ≤ 1071) := by omega
  have l1039 : ¬ ((r : Int) ≤ 1039) := by omega
  have l311 : ¬ ((r : Int) ≤ 311) := by omega
  have l375 : ¬ ((r : Int) ≤ 375) := by omega
  have l7829 : ((r : Int) ≤ 7829) := by omega
  have l328 : ¬ ((r : Int) ≤ 328) := by omega
  have l382 : ¬ ((r : Int) ≤ 382) := by omega
  have e223 : ((r : Int) == 223) = false := by rw [beq_eq_false_iff_ne]; omega
  have e7838 : ((r : Int) == 7838) = false := by rw [beq_eq_false_iff_ne]; omega
  have e962 : ((r : Int) == 962) = false := by rw [beq_eq_false_iff_ne]; omega
  have n215 : ((r : Int) != 215) = true := by simp; omega
  have n930 : ((r : Int) != 930) = true := by simp; omega
  clear h0
  go_enter Tryd.func55, Tryd.ntmps55
  go_wp2
  go_ret
  exact fd_fin _ _ _ (by omega)
set_option maxRecDepth 100000 in
theorem rfo24 (r : Nat) (w : World) (h0 : 1072 ≤ r) (h1 : r ≤ 7679) : Calls Tryd.prog 55 #[.int .i32 (r : Int)] w (FdR w [r]) := by
  have g65 : ((65 : Int) ≤ (r : Int)) := by omega
  have g192 : ((192 : Int) ≤ (r : Int)) := by omega
  have g913 : ((913 : Int) ≤ (r : Int)) := by omega
  have g1040 : ((1040 : Int) ≤ (r : Int)) := by omega
  have g1024 : ((1024 : Int) ≤ (r : Int)) := by omega
  have g256 : ((256 : Int) ≤ (r : Int)) := by omega
  have g330 : ((330 : Int) ≤ (r : Int)) := by omega
  have g7680 : ¬ ((7680 : Int) ≤ (r : Int)) := by omega
  have g313 : ((313 : Int) ≤ (r : Int)) := by omega
  have g377 : ((377 : Int) ≤ (r : Int)) := by omega
  have l90 : ¬ ((r : Int) ≤ 90) := by omega
  have l222 : ¬ ((r : Int) ≤ 222) := by omega
  have l937 : ¬ ((r : Int) ≤ 937) := by omega
  have l1071 : ¬ ((r : Int) ≤ 1071) := by omega
  have l1039 : ¬ ((r : Int) ≤ 1039) := by omega
  have l311 : ¬ ((r : Int) ≤ 311) := by omega
  have l375 : ¬ ((r : Int) ≤ 375) := by omega
  have l7829 : ((r : Int) ≤ 7829) := by omega
  have l328 : ¬ ((r : Int) ≤ 328) := by omega
  have l382 : ¬ ((r : Int) ≤ 382) := by omega
  have e223 : ((r : Int) == 223) = false := by rw [beq_eq_false_iff_ne]; omega
  have e7838 : ((r : Int) == 7838) = false := by rw [beq_eq_false_iff_ne]; omega
  have e962 : ((r : Int) == 962) = false := by rw [beq_eq_false_iff_ne]; omega
  have n215 : ((r : Int) != 215) = true := by simp; omega
  have n930 : ((r : Int) != 930) = true := by simp; omega
  clear h0
  go_enter Tryd.func55, Tryd.ntmps55
  go_wp2
  go_ret
  exact ⟨rfl, rfl⟩
set_option maxRecDepth 100000 in
theorem rfo25x0 (r : Nat) (w : World) (h0 : 7680 ≤ r) (h1 : r ≤ 7829) (hm : r % 2 = 0) : Calls Tryd.prog 55 #[.int .i32 (r : Int)] w (FdR w [r + 1]) := by
  have g65 : ((65 : Int) ≤ (r : Int)) := by omega
  have g192 : ((192 : Int) ≤ (r : Int)) := by omega
  have g913 : ((913 : Int) ≤ (r : Int)) := by omega
  have g1040 : ((1040 : Int) ≤ (r : Int)) := by omega
  have g1024 : ((1024 : Int) ≤ (r : Int)) := by omega
  have g256 : ((256 : Int) ≤ (r : Int)) := by omega
  have g330 : ((330 : Int) ≤ (r : Int)) := by omega
  have g7680 : ((7680 : Int) ≤ (r : Int)) := by omega
  have g313 : ((313 : Int) ≤ (r : Int)) := by omega
  have g377 : ((377 : Int) ≤ (r : Int)) := by omega
  have l90 : ¬ ((r : Int) ≤ 90) := by omega
  have l222 : ¬ ((r : Int) ≤ 222) := by omega
  have l937 : ¬ ((r : Int) ≤ 937) := by omega
  have l1071 : ¬ ((r : Int) ≤ 1071) := by omega
  have l1039 : ¬ ((r : Int) ≤ 1039) := by omega
  have l311 : ¬ ((r : Int) ≤ 311) := by omega
  have l375 : ¬ ((r : Int) ≤ 375) := by omega
  have l7829 : ((r : Int) ≤ 7829) := by omega
  have l328 : ¬ ((r : Int) ≤ 328) := by omega
  have l382 : ¬ ((r : Int) ≤ 382) := by omega
  have e223 : ((r : Int) == 223) = false := by rw [beq_eq_false_iff_ne]; omega
  have e7838 : ((r : Int) == 7838) = false := by rw [beq_eq_false_iff_ne]; omega
  have e962 : ((r : Int) == 962) = false := by rw [beq_eq_false_iff_ne]; omega
  have n215 : ((r : Int) != 215) = true := by simp; omega
  have n930 : ((r : Int) != 930) = true := by simp; omega
  have hmi : Int.tmod (r : Int) 2 = 0 := by rw [Int.tmod_eq_emod_of_nonneg (by omega)]; omega
  have hmj : (r : Int) % 2 = 0 := by omega
  clear h0
  go_enter Tryd.func55, Tryd.ntmps55
  go_wp2
  go_ret
  exact fd_fin _ _ _ (by omega)
set_option maxRecDepth 100000 in
theorem rfo25x1 (r : Nat) (w : World) (h0 : 7680 ≤ r) (h1 : r ≤ 7829) (hm : r % 2 = 1) : Calls Tryd.prog 55 #[.int .i32 (r : Int)] w (FdR w [r]) := by
  have g65 : ((65 : Int) ≤ (r : Int)) := by omega
  have g192 : ((192 : Int) ≤ (r : Int)) := by omega
  have g913 : ((913 : Int) ≤ (r : Int)) := by omega
  have g1040 : ((1040 : Int) ≤ (r : Int)) := by omega
  have g1024 : ((1024 : Int) ≤ (r : Int)) := by omega
  have g256 : ((256 : Int) ≤ (r : Int)) := by omega
  have g330 : ((330 : Int) ≤ (r : Int)) := by omega
  have g7680 : ((7680 : Int) ≤ (r : Int)) := by omega
  have g313 : ((313 : Int) ≤ (r : Int)) := by omega
  have g377 : ((377 : Int) ≤ (r : Int)) := by omega
  have l90 : ¬ ((r : Int) ≤ 90) := by omega
  have l222 : ¬ ((r : Int) ≤ 222) := by omega
  have l937 : ¬ ((r : Int) ≤ 937) := by omega
  have l1071 : ¬ ((r : Int) ≤ 1071) := by omega
  have l1039 : ¬ ((r : Int) ≤ 1039) := by omega
  have l311 : ¬ ((r : Int) ≤ 311) := by omega
  have l375 : ¬ ((r : Int) ≤ 375) := by omega
  have l7829 : ((r : Int) ≤ 7829) := by omega
  have l328 : ¬ ((r : Int) ≤ 328) := by omega
  have l382 : ¬ ((r : Int) ≤ 382) := by omega
  have e223 : ((r : Int) == 223) = false := by rw [beq_eq_false_iff_ne]; omega
  have e7838 : ((r : Int) == 7838) = false := by rw [beq_eq_false_iff_ne]; omega
  have e962 : ((r : Int) == 962) = false := by rw [beq_eq_false_iff_ne]; omega
  have n215 : ((r : Int) != 215) = true := by simp; omega
  have n930 : ((r : Int) != 930) = true := by simp; omega
  have hmi : Int.tmod (r : Int) 2 = 1 := by rw [Int.tmod_eq_emod_of_nonneg (by omega)]; omega
  have hmj : (r : Int) % 2 = 1 := by omega
  clear h0
  go_enter Tryd.func55, Tryd.ntmps55
  go_wp2
  go_ret
  exact ⟨rfl, rfl⟩
set_option maxRecDepth 100000 in
theorem rfo26 (r : Nat) (w : World) (h0 : 7830 ≤ r) (h1 : r ≤ 7837) : Calls Tryd.prog 55 #[.int .i32 (r : Int)] w (FdR w [r]) := by
  have g65 : ((65 : Int) ≤ (r : Int)) := by omega
  have g192 : ((192 : Int) ≤ (r : Int)) := by omega
  have g913 : ((913 : Int) ≤ (r : Int)) := by omega
  have g1040 : ((1040 : Int) ≤ (r : Int)) := by omega
  have g1024 : ((1024 : Int) ≤ (r : Int)) := by omega
  have g256 : ((256 : Int) ≤ (r : Int)) := by omega
  have g330 : ((330 : Int) ≤ (r : Int)) := by omega
  have g7680 : ((7680 : Int) ≤ (r : Int)) := by omega
  have g313 : ((313 : Int) ≤ (r : Int)) := by omega
  have g377 : ((377 : Int) ≤ (r : Int)) := by omega
  have l90 : ¬ ((r : Int) ≤ 90) := by omega
  have l222 : ¬ ((r : Int) ≤ 222) := by omega
  have l937 : ¬ ((r : Int) ≤ 937) := by omega
  have l1071 : ¬ ((r : Int) ≤ 1071) := by omega
  have l1039 : ¬ ((r : Int) ≤ 1039) := by omega
  have l311 : ¬ ((r : Int) ≤ 311) := by omega
  have l375 : ¬ ((r : Int) ≤ 375) := by omega
  have l7829 : ¬ ((r : Int) ≤ 7829) := by omega
  have l328 : ¬ ((r : Int) ≤ 328) := by omega
  have l382 : ¬ ((r : Int) ≤ 382) := by omega
  have e223 : ((r : Int) == 223) = false := by rw [beq_eq_false_iff_ne]; omega
  have e7838 : ((r : Int) == 7838) = false := by rw [beq_eq_false_iff_ne]; omega
  have e962 : ((r : Int) == 962) = false := by rw [beq_eq_false_iff_ne]; omega
  have n215 : ((r : Int) != 215) = true := by simp; omega
  have n930 : ((r : Int) != 930) = true := by simp; omega
  clear h0
  go_enter Tryd.func55, Tryd.ntmps55
  go_wp2
  go_ret
  exact ⟨rfl, rfl⟩
set_option maxRecDepth 100000 in
theorem rfo27 (r : Nat) (w : World) (h0 : 7838 ≤ r) (h1 : r ≤ 7838) : Calls Tryd.prog 55 #[.int .i32 (r : Int)] w (FdR w [115, 115]) := by
  have g65 : ((65 : Int) ≤ (r : Int)) := by omega
  have g192 : ((192 : Int) ≤ (r : Int)) := by omega
  have g913 : ((913 : Int) ≤ (r : Int)) := by omega
  have g1040 : ((1040 : Int) ≤ (r : Int)) := by omega
  have g1024 : ((1024 : Int) ≤ (r : Int)) := by omega
  have g256 : ((256 : Int) ≤ (r : Int)) := by omega
  have g330 : ((330 : Int) ≤ (r : Int)) := by omega
  have g7680 : ((7680 : Int) ≤ (r : Int)) := by omega
  have g313 : ((313 : Int) ≤ (r : Int)) := by omega
  have g377 : ((377 : Int) ≤ (r : Int)) := by omega
  have l90 : ¬ ((r : Int) ≤ 90) := by omega
  have l222 : ¬ ((r : Int) ≤ 222) := by omega
  have l937 : ¬ ((r : Int) ≤ 937) := by omega
  have l1071 : ¬ ((r : Int) ≤ 1071) := by omega
  have l1039 : ¬ ((r : Int) ≤ 1039) := by omega
  have l311 : ¬ ((r : Int) ≤ 311) := by omega
  have l375 : ¬ ((r : Int) ≤ 375) := by omega
  have l7829 : ¬ ((r : Int) ≤ 7829) := by omega
  have l328 : ¬ ((r : Int) ≤ 328) := by omega
  have l382 : ¬ ((r : Int) ≤ 382) := by omega
  have e223 : ((r : Int) == 223) = false := by rw [beq_eq_false_iff_ne]; omega
  have e7838 : ((r : Int) == 7838) = true := by rw [beq_iff_eq]; omega
  have e962 : ((r : Int) == 962) = false := by rw [beq_eq_false_iff_ne]; omega
  have n215 : ((r : Int) != 215) = true := by simp; omega
  have n930 : ((r : Int) != 930) = true := by simp; omega
  clear h0
  go_enter Tryd.func55, Tryd.ntmps55
  go_wp2
  go_ret
  exact ⟨rfl, rfl⟩
set_option maxRecDepth 100000 in
theorem rfo28 (r : Nat) (w : World) (h0 : 7839 ≤ r) (h1 : r ≤ 1114111) : Calls Tryd.prog 55 #[.int .i32 (r : Int)] w (FdR w [r]) := by
  have g65 : ((65 : Int) ≤ (r : Int)) := by omega
  have g192 : ((192 : Int) ≤ (r : Int)) := by omega
  have g913 : ((913 : Int) ≤ (r : Int)) := by omega
  have g1040 : ((1040 : Int) ≤ (r : Int)) := by omega
  have g1024 : ((1024 : Int) ≤ (r : Int)) := by omega
  have g256 : ((256 : Int) ≤ (r : Int)) := by omega
  have g330 : ((330 : Int) ≤ (r : Int)) := by omega
  have g7680 : ((7680 : Int) ≤ (r : Int)) := by omega
  have g313 : ((313 : Int) ≤ (r : Int)) := by omega
  have g377 : ((377 : Int) ≤ (r : Int)) := by omega
  have l90 : ¬ ((r : Int) ≤ 90) := by omega
  have l222 : ¬ ((r : Int) ≤ 222) := by omega
  have l937 : ¬ ((r : Int) ≤ 937) := by omega
  have l1071 : ¬ ((r : Int) ≤ 1071) := by omega
  have l1039 : ¬ ((r : Int) ≤ 1039) := by omega
  have l311 : ¬ ((r : Int) ≤ 311) := by omega
  have l375 : ¬ ((r : Int) ≤ 375) := by omega
  have l7829 : ¬ ((r : Int) ≤ 7829) := by omega
  have l328 : ¬ ((r : Int) ≤ 328) := by omega
  have l382 : ¬ ((r : Int) ≤ 382) := by omega
  have e223 : ((r : Int) == 223) = false := by rw [beq_eq_false_iff_ne]; omega
  have e7838 : ((r : Int) == 7838) = false := by rw [beq_eq_false_iff_ne]; omega
  have e962 : ((r : Int) == 962) = false := by rw [beq_eq_false_iff_ne]; omega
  have n215 : ((r : Int) != 215) = true := by simp; omega
  have n930 : ((r : Int) != 930) = true := by simp; omega
  clear h0
  go_enter Tryd.func55, Tryd.ntmps55
  go_wp2
  go_ret
  exact ⟨rfl, rfl⟩
theorem reffold1_any (r : Nat) (w : World) (h : r < 1114112) : Calls Tryd.prog 55 #[.int .i32 (r : Int)] w (FdR w (foldR r)) := by
  by_cases q0 : r ≤ 64
  · have hv : foldR r = [r] := by unfold foldR turnN; rw [if_neg (by omega), if_neg (by omega), if_neg (by omega), if_neg (by omega), if_neg (by omega), if_neg (by omega)]
    rw [hv]
    exact rfo0 r w (by omega) q0
  by_cases q1 : r ≤ 90
  · have hv : foldR r = [r + 32] := by unfold foldR turnN; rw [if_neg (by omega), if_pos (by omega)]
    rw [hv]
    exact rfo1 r w (by omega) q1
  by_cases q2 : r ≤ 191
  · have hv : foldR r = [r] := by unfold foldR turnN; rw [if_neg (by omega), if_neg (by omega), if_neg (by omega), if_neg (by omega), if_neg (by omega), if_neg (by omega)]
    rw [hv]
    exact rfo2 r w (by omega) q2
  by_cases q3 : r ≤ 214
  · have hv : foldR r = [r + 32] := by unfold foldR turnN; rw [if_neg (by omega), if_pos (by omega)]
    rw [hv]
    exact rfo3 r w (by omega) q3
  by_cases q4 : r ≤ 215
  · have hv : foldR r = [r] := by unfold foldR turnN; rw [if_neg (by omega), if_neg (by omega), if_neg (by omega), if_neg (by omega), if_neg (by omega), if_neg (by omega)]
    rw [hv]
    exact rfo4 r w (by omega) q4
  by_cases q5 : r ≤ 222
  · have hv : foldR r = [r + 32] := by unfold foldR turnN; rw [if_neg (by omega), if_pos (by omega)]
    rw [hv]
    exact rfo5 r w (by omega) q5
  by_cases q6 : r ≤ 223
  · have hv : foldR r = [115, 115] := by unfold foldR; rw [if_pos (by omega)]
    rw [hv]
    exact rfo6 r w (by omega) q6
  by_cases q7 : r ≤ 255
  · have hv : foldR r = [r] := by unfold foldR turnN; rw [if_neg (by omega), if_neg (by omega), if_neg (by omega), if_neg (by omega), if_neg (by omega), if_neg (by omega)]
    rw [hv]
    exact rfo7 r w (by omega) q7
  by_cases q8 : r ≤ 311
  · by_cases hm : r % 2 = 0
    · have hv : foldR r = [r + 1] := by unfold foldR turnN; rw [if_neg (by omega), if_neg (by omega), if_neg (by omega), if_neg (by omega), if_pos (by omega)]; congr 1; omega
      rw [hv]
      exact rfo8x0 r w (by omega) q8 hm
    · have hv : foldR r = [r] := by unfold foldR turnN; rw [if_neg (by omega), if_neg (by omega), if_neg (by omega), if_neg (by omega), if_pos (by omega)]; congr 1; omega
      rw [hv]
      exact rfo8x1 r w (by omega) q8 (by omega)
  by_cases q9 : r ≤ 312
  · have hv : foldR r = [r] := by unfold foldR turnN; rw [if_neg (by omega), if_neg (by omega), if_neg (by omega), if_neg (by omega), if_neg (by omega), if_neg (by omega)]
    rw [hv]
    exact rfo9 r w (by omega) q9
  by_cases q10 : r ≤ 328
  · by_cases hm : r % 2 = 0
    · have hv : foldR r = [r] := by unfold foldR turnN; rw [if_neg (by omega), if_neg (by omega), if_neg (by omega), if_neg (by omega), if_neg (by omega), if_pos (by omega)]; congr 1; omega
      rw [hv]
      exact rfo10x0 r w (by omega) q10 hm
    · have hv : foldR r = [r + 1] := by unfold foldR turnN; rw [if_neg (by omega), if_neg (by omega), if_neg (by omega), if_neg (by omega), if_neg (by omega), if_pos (by omega)]; congr 1; omega
      rw [hv]
      exact rfo10x1 r w (by omega) q10 (by omega)
  by_cases q11 : r ≤ 329
  · have hv : foldR r = [r] := by unfold foldR turnN; rw [if_neg (by omega), if_neg (by omega), if_neg (by omega), if_neg (by omega), if_neg (by omega), if_neg (by omega)]
    rw [hv]
    exact rfo11 r w (by omega) q11
  by_cases q12 : r ≤ 375
  · by_cases hm : r % 2 = 0
    · have hv : foldR r = [r + 1] := by unfold foldR turnN; rw [if_neg (by omega), if_neg (by omega), if_neg (by omega), if_neg (by omega), if_pos (by omega)]; congr 1; omega
      rw [hv]
      exact rfo12x0 r w (by omega) q12 hm
    · have hv : foldR r = [r] := by unfold foldR turnN; rw [if_neg (by omega), if_neg (by omega), if_neg (by omega), if_neg (by omega), if_pos (by omega)]; congr 1; omega
      rw [hv]
      exact rfo12x1 r w (by omega) q12 (by omega)
  by_cases q13 : r ≤ 376
  · have hv : foldR r = [r] := by unfold foldR turnN; rw [if_neg (by omega), if_neg (by omega), if_neg (by omega), if_neg (by omega), if_neg (by omega), if_neg (by omega)]
    rw [hv]
    exact rfo13 r w (by omega) q13
  by_cases q14 : r ≤ 382
  · by_cases hm : r % 2 = 0
    · have hv : foldR r = [r] := by unfold foldR turnN; rw [if_neg (by omega), if_neg (by omega), if_neg (by omega), if_neg (by omega), if_neg (by omega), if_pos (by omega)]; congr 1; omega
      rw [hv]
      exact rfo14x0 r w (by omega) q14 hm
    · have hv : foldR r = [r + 1] := by unfold foldR turnN; rw [if_neg (by omega), if_neg (by omega), if_neg (by omega), if_neg (by omega), if_neg (by omega), if_pos (by omega)]; congr 1; omega
      rw [hv]
      exact rfo14x1 r w (by omega) q14 (by omega)
  by_cases q15 : r ≤ 912
  · have hv : foldR r = [r] := by unfold foldR turnN; rw [if_neg (by omega), if_neg (by omega), if_neg (by omega), if_neg (by omega), if_neg (by omega), if_neg (by omega)]
    rw [hv]
    exact rfo15 r w (by omega) q15
  by_cases q16 : r ≤ 929
  · have hv : foldR r = [r + 32] := by unfold foldR turnN; rw [if_neg (by omega), if_pos (by omega)]
    rw [hv]
    exact rfo16 r w (by omega) q16
  by_cases q17 : r ≤ 930
  · have hv : foldR r = [r] := by unfold foldR turnN; rw [if_neg (by omega), if_neg (by omega), if_neg (by omega), if_neg (by omega), if_neg (by omega), if_neg (by omega)]
    rw [hv]
    exact rfo17 r w (by omega) q17
  by_cases q18 : r ≤ 937
  · have hv : foldR r = [r + 32] := by unfold foldR turnN; rw [if_neg (by omega), if_pos (by omega)]
    rw [hv]
    exact rfo18 r w (by omega) q18
  by_cases q19 : r ≤ 961
  · have hv : foldR r = [r] := by unfold foldR turnN; rw [if_neg (by omega), if_neg (by omega), if_neg (by omega), if_neg (by omega), if_neg (by omega), if_neg (by omega)]
    rw [hv]
    exact rfo19 r w (by omega) q19
  by_cases q20 : r ≤ 962
  · have hv : foldR r = [963] := by unfold foldR turnN; rw [if_neg (by omega), if_neg (by omega), if_neg (by omega), if_pos (by omega)]
    rw [hv]
    exact rfo20 r w (by omega) q20
  by_cases q21 : r ≤ 1023
  · have hv : foldR r = [r] := by unfold foldR turnN; rw [if_neg (by omega), if_neg (by omega), if_neg (by omega), if_neg (by omega), if_neg (by omega), if_neg (by omega)]
    rw [hv]
    exact rfo21 r w (by omega) q21
  by_cases q22 : r ≤ 1039
  · have hv : foldR r = [r + 80] := by unfold foldR turnN; rw [if_neg (by omega), if_neg (by omega), if_pos (by omega)]
    rw [hv]
    exact rfo22 r w (by omega) q22
  by_cases q23 : r ≤ 1071
  · have hv : foldR r = [r + 32] := by unfold foldR turnN; rw [if_neg (by omega), if_pos (by omega)]
    rw [hv]
    exact rfo23 r w (by omega) q23
  by_cases q24 : r ≤ 7679
  · have hv : foldR r = [r] := by unfold foldR turnN; rw [if_neg (by omega), if_neg (by omega), if_neg (by omega), if_neg (by omega), if_neg (by omega), if_neg (by omega)]
    rw [hv]
    exact rfo24 r w (by omega) q24
  by_cases q25 : r ≤ 7829
  · by_cases hm : r % 2 = 0
    · have hv : foldR r = [r + 1] := by unfold foldR turnN; rw [if_neg (by omega), if_neg (by omega), if_neg (by omega), if_neg (by omega), if_pos (by omega)]; congr 1; omega
      rw [hv]
      exact rfo25x0 r w (by omega) q25 hm
    · have hv : foldR r = [r] := by unfold foldR turnN; rw [if_neg (by omega), if_neg (by omega), if_neg (by omega), if_neg (by omega), if_pos (by omega)]; congr 1; omega
      rw [hv]
      exact rfo25x1 r w (by omega) q25 (by omega)
  by_cases q26 : r ≤ 7837
  · have hv : foldR r = [r] := by unfold foldR turnN; rw [if_neg (by omega), if_neg (by omega), if_neg (by omega), if_neg (by omega), if_neg (by omega), if_neg (by omega)]
    rw [hv]
    exact rfo26 r w (by omega) q26
  by_cases q27 : r ≤ 7838
  · have hv : foldR r = [115, 115] := by unfold foldR; rw [if_pos (by omega)]
    rw [hv]
    exact rfo27 r w (by omega) q27
  have hv : foldR r = [r] := by unfold foldR turnN; rw [if_neg (by omega), if_neg (by omega), if_neg (by omega), if_neg (by omega), if_neg (by omega), if_neg (by omega)]
  rw [hv]
  exact rfo28 r w (by omega) (by omega)
end Go.Proofs.YtbcfhpomclkccaaDoor
