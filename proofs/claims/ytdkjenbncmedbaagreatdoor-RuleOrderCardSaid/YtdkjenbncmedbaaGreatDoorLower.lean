/- class.Lower: the text with small letters. -/
import Derived.Test.YtdkjenbncmedbaaGreatDoorAcc
namespace Go.Proofs.YtdkjenbncmedbaaGreatDoor
open Go.RowKit

theorem lt_blk {w : World} {B : Nat} {o : Obj} (h : w.heap[B]? = some o) : B < w.heap.size := (Array.getElem?_eq_some_iff.1 h).1
theorem set_blk {w : World} {B : Nat} {cs : Array Value} {t : TypeId} {fr : Nat × Nat} (h : w.heap[B]? = some (.cells cs t fr)) (i : Nat) (u : Value) : (w.setCell ⟨B, i, none⟩ u).heap[B]? = some (.cells (cs.setIfInBounds i u) t fr) := by
  simp [World.setCell, Array.getElem?_modify, h]
def LowW (w : World) (l : List UInt8) (i : Value) (wr : World) : Prop :=
  ∃ (k : Nat) (C : Array Value), i = .int .i64 k ∧ k ≤ l.length ∧ wr.heap[w.heap.size]? = some (.cells C 5 (C.size, C.size + 1)) ∧ l.length ≤ C.size ∧ (∀ j (hj : j < l.length), C[j]? = some (if j < k then u8c (small l[j]) else u8c l[j])) ∧ Below w.heap.size w wr

set_option maxHeartbeats 2000000 in
theorem lower_any (s : ByteArray) (w : World) (hs : s.size ≤ 1099511627776) : Calls Tryz.prog 56 #[.string s] w (StrR w (lowerL s.data.toList)) := by
  have hsl : s.data.toList.length = s.size := Array.length_toList
  have HSL := Lib.hid hsl
  clear hsl
  have hcb := fun W => run_bytes_of_string (P := Tryz.prog) W 9 105 5 s Tryz.underlying9 Tryz.underlying105 Tryz.underlying5
  have hsm : ∀ (b : UInt8) (w : World), Calls Tryz.prog 83 #[.int .u8 (b.toNat : Int)] w fun e w' => e = .returned (.int .u8 ((small b).toNat : Int)) ∧ w = w' := small_any
  have HSM := Lib.hid hsm
  clear hsm
  go_enter Tryz.func56, Tryz.ntmps56
  go_wp2_with fail
  go_loopw [10] (fun i wr => LowW w s.data.toList i wr) (fun i _ => s.size - (intOf i).toNat)
  case atStart =>
    refine ⟨0, bytesRow s (grownCap w s.size 0 5), rfl, Nat.zero_le _, heap_alloc_new w _, ?_, ?_, (Below.refl _ w).alloc (Nat.le_refl _) _ |>.drew⟩
    · rw [HSL.out]; unfold bytesRow; rw [Array.size_append, Array.size_map]; exact Nat.le_add_right _ _
    · intro j hj
      rw [if_neg (by omega)]
      exact bytesRow_at s _ j (by rw [Array.length_toList] at hj; exact hj)
  case round =>
    obtain ⟨k, C, rfl, hk, hb, hC, hcs, hbl⟩ := hrel
    rw [HSL.out] at hk hC
    by_cases hlt : k < s.size
    · have hlt' : k < s.data.toList.length := by rw [HSL.out]; exact hlt
      obtain ⟨x, hx⟩ : ∃ x, s.data.toList[k] = x := ⟨_, rfl⟩
      have hki : (k : Int) < (s.size : Int) := by omega
      have c1 : wr.cell? ⟨w.heap.size, k, none⟩ = some (.int .u8 (x.toNat : Int)) := by
        rw [cell_of_row wr _ k C _ _ hb, hcs k hlt', if_neg (by omega), hx]
        rfl
      have c2 : wr.frozen? ⟨w.heap.size, k, none⟩ = false := by
        have h1 : ¬ C.size ≤ k := by omega
        simp [World.frozen?, hb, h1]
      have HB := Lib.hid hb
      have HCS := Lib.hid hcs
      have HBL := Lib.hid hbl
      have HX := Lib.hid hx
      clear hb hcs hbl hx
      go_wp2_with fail
      refine Calls.mono (HSM.out x _) ?_
      rintro e w' ⟨rfl, rfl⟩
      go_wp2
      go_roundw
      case rel =>
        refine ⟨k + 1, C.setIfInBounds k (.int .u8 ((small x).toNat : Int)), by go_num, by rw [HSL.out]; omega, ?_, by rw [HSL.out]; simp; exact hC, ?_, HBL.out.setCell (Nat.le_refl _) _⟩
        · have h := set_blk HB.out k (.int .u8 ((small x).toNat : Int))
          simpa using h
        · intro j hj
          have hjs : j < s.size := by rw [HSL.out] at hj; exact hj
          by_cases hjk : j = k
          · subst hjk
            rw [Array.getElem?_setIfInBounds_self_of_lt (by omega), if_pos (by omega), HX.out]
            rfl
          · rw [Array.getElem?_setIfInBounds_ne (by omega), HCS.out j hj]
            by_cases hjl : j < k
            · rw [if_pos hjl, if_pos (by omega)]
            · rw [if_neg hjl, if_neg (by omega)]
      case measure => simp [intOf]; omega
    · obtain rfl : k = s.size := by omega
      have hcv : ∀ c, (convert 105 9 (.slice (some ⟨w.heap.size, 0, none⟩) s.size c)).run Tryz.prog wr = .ok (.string ⟨(lowerL s.data.toList).toArray⟩) wr := by
        intro c
        have h := run_convert_bytes_back (P := Tryz.prog) wr 105 9 5 ⟨w.heap.size, 0, none⟩ c (lowerL s.data.toList) Tryz.underlying105 Tryz.underlying5 Tryz.underlying9 (fun j hj => by
          have hj' : j < s.data.toList.length := by unfold lowerL at hj; rw [List.length_map] at hj; exact hj
          have e : (⟨w.heap.size, 0, none⟩ : Addr).add j = ⟨w.heap.size, j, none⟩ := by unfold Addr.add; split <;> simp_all
          rw [e, cell_of_row wr _ j C _ _ hb, hcs j hj', if_pos (by rw [HSL.out] at hj'; exact hj')]
          simp only [lowerL, List.getElem_map]
          rfl)
        have e : (lowerL s.data.toList).length = s.size := by unfold lowerL; rw [List.length_map, HSL.out]
        rw [e] at h
        exact h
      have HBL := Lib.hid hbl
      clear hb hcs hbl
      go_wp2
      go_ret
      exact ⟨rfl, HBL.out⟩
end Go.Proofs.YtdkjenbncmedbaaGreatDoor
