/- (with 500) tympanref00.Policy: how much a policy is, no further than some; tympanlaw05.much. -/
import Derived.Test.YtdkjenbncmedbaaGreatDoorBase
import Derived.WalkArith
namespace Go.Proofs.YtdkjenbncmedbaaGreatDoor
open Go.RowKit

def CntW5 (W : World) (lo : Int) (len : Nat) (v5 i : Value) (wr : World) : Prop := ∃ (k : Nat) (n : Int), i = .int .i64 k ∧ v5 = .int .i64 n ∧ k ≤ len ∧ lo ≤ n ∧ n ≤ 4611686018427387904 ∧ ∃ d, wr = W.drewN d
def CntR5 (w : World) (lo : Int) (e : Ending) (w' : World) : Prop := ∃ n : Int, e = .returned (.int .i64 n) ∧ lo ≤ n ∧ n ≤ 4611686018427387904 ∧ Below w.heap.size w w'
theorem quo165 (n : Nat) : 0 ≤ (n : Int).tdiv 16 ∧ (n : Int).tdiv 16 ≤ (n : Int) := by
  rw [Int.tdiv_eq_ediv_of_nonneg (by omega)]
  omega
def capN5 (n : Nat) : Nat := min n 501
set_option maxHeartbeats 4000000 in
set_option maxRecDepth 100000 in
theorem polcnt_any5 (v : Value) (E : List ByteArray) (A : Prs) (S : List ByteArray) (w : World) (hp : PolAt w v E A S) (lo : Int) (hlo1 : lo = min (E.length : Int) 501 + min (A.length : Int) 501 + min (S.length : Int) 501) : Calls Tryz.prog 25 #[v, .int .i64 500] w (CntR5 w lo) := by
  obtain ⟨⟨vE, vA, vS, rfl, hE, hA, hS⟩, lE, lA, lS, sE, sA, sS⟩ := hp
  obtain ⟨a1, c1, rfl, _, kE⟩ := hE.open
  obtain ⟨a2, c2, rfl, _, kA⟩ := hA.open
  obtain ⟨a3, c3, rfl, _, kS⟩ := hS.open
  obtain ⟨W, hW⟩ : ∃ W, w.alloc (.cells #[.slice a1 E.length c1, .slice a2 A.length c2, .slice a3 S.length c3] 25) = W := ⟨_, rfl⟩
  have hb0 : Below w.heap.size w W := by rw [← hW]; exact (Below.refl _ w).alloc (Nat.le_refl _) _
  have g0 : W.heap[w.heap.size]? = some (.cells #[.slice a1 E.length c1, .slice a2 A.length c2, .slice a3 S.length c3] 25 (0, 0)) := by rw [← hW]; exact heap_alloc_new w _
  have q0 := fun i => cell_of_row W w.heap.size i _ _ _ g0
  have q0w := q0
  rw [← hW] at q0w
  have KE := Lib.hid kE
  have KA := Lib.hid kA
  have KS := Lib.hid kS
  have HSE := Lib.hid sE
  have HSA := Lib.hid sA
  have HSS := Lib.hid sS
  have HB0 := Lib.hid hb0
  have HW := Lib.hid hW
  clear hE hA hS sE sA sS kE kA kS hb0 hW g0
  go_enter Tryz.func25, Tryz.ntmps25
  go_wp2_with fail
  rw [HW.out]
  go_loopw [5, 6] (fun v5 v wr => CntW5 W lo E.length v5 v wr) (fun _ v _ => E.length - (intOf v).toNat)
  case atStart => exact ⟨0, _, rfl, rfl, Nat.zero_le _, by omega, by omega, 0, rfl⟩
  case round =>
    obtain ⟨k, n, rfl, rfl, hk, hlo, hhi, d, rfl⟩ := hrel
    have q1 : ∀ i, (W.drewN d).cell? ⟨w.heap.size, i, none⟩ = _ := q0
    by_cases hlt : k < E.length
    · have hki : (k : Int) < (E.length : Int) := by omega
      by_cases hn : n ≤ 500
      · obtain ⟨b, off, hA, hbl, c0, c0'⟩ := KE.out k hlt
        subst hA
        have hz := HSE.out _ (List.getElem_mem hlt)
        obtain ⟨y, hy⟩ : ∃ y, E[k] = y := ⟨_, rfl⟩
        rw [hy] at c0 c0' hz
        have t1 := quo165 y.size
        have e0 := cell_later (row_drewN HB0.out d) c0
        have e0x := cell_later (row_drewN HB0.out d) c0'
        unfold maxLen at hz
        clear hy
        go_wp2
  
        go_roundw
        case rel => exact ⟨k + 1, _, by go_num, rfl, hlt, by omega, by omega, _, rfl⟩
        case measure => simp [intOf]; omega
      · have hnf : decide (n ≤ 500) = false := by simpa using hn
        clear q1
        go_wp2
        go_loopw [5, 7] (fun v5 v wr => CntW5 W lo A.length v5 v wr) (fun _ v _ => A.length - (intOf v).toNat)
        case atStart => exact ⟨0, _, rfl, rfl, Nat.zero_le _, by omega, by omega, _, rfl⟩
        case round =>
          obtain ⟨k, n, rfl, rfl, hk, hlo, hhi, d, rfl⟩ := hrel
          have q1 : ∀ i, (W.drewN d).cell? ⟨w.heap.size, i, none⟩ = _ := q0
          by_cases hlt : k < A.length
          · have hki : (k : Int) < (A.length : Int) := by omega
            by_cases hn : n ≤ 500
            · obtain ⟨b, off, hA, hbl, c0, c0', c1, c1'⟩ := KA.out k hlt
              subst hA
              have hz := HSA.out _ (List.getElem_mem hlt)
              obtain ⟨y, hy⟩ : ∃ y, A[k] = y := ⟨_, rfl⟩
              rw [hy] at c0 c0' c1 c1' hz
              obtain ⟨y1, y2⟩ := y
              simp only at c0 c0' c1 c1' hz
              have t1 := quo165 y1.size
              have t2 := quo165 y2.size
              have f0 := cell_later HB0.out c0
              have f0x := cell_later HB0.out c0'
              have f1 := cell_later HB0.out c1
              have f1x := cell_later HB0.out c1'
              have q2 := q0
              unfold maxLen at hz
              clear hy
              go_wp2
              go_quiet (fail)
              go_wp2
              go_roundw
              case rel => exact ⟨k + 1, _, by go_num, rfl, hlt, by omega, by omega, _, rfl⟩
              case measure => simp [intOf]; omega
            · have hnf : decide (n ≤ 500) = false := by simpa using hn
              clear q1
              go_wp2
              go_loopw [5, 8] (fun v5 v wr => CntW5 W lo S.length v5 v wr) (fun _ v _ => S.length - (intOf v).toNat)
              case atStart => exact ⟨0, _, rfl, rfl, Nat.zero_le _, by omega, by omega, _, rfl⟩
              case round =>
                obtain ⟨k, n, rfl, rfl, hk, hlo, hhi, d, rfl⟩ := hrel
                have q1 : ∀ i, (W.drewN d).cell? ⟨w.heap.size, i, none⟩ = _ := q0
                by_cases hlt : k < S.length
                · have hki : (k : Int) < (S.length : Int) := by omega
                  by_cases hn : n ≤ 500
                  · obtain ⟨b, off, hA, hbl, c0, c0'⟩ := KS.out k hlt
                    subst hA
                    have hz := HSS.out _ (List.getElem_mem hlt)
                    obtain ⟨y, hy⟩ : ∃ y, S[k] = y := ⟨_, rfl⟩
                    rw [hy] at c0 c0' hz
                    have t1 := quo165 y.size
                    have e0 := cell_later (row_drewN HB0.out d) c0
                    have e0x := cell_later (row_drewN HB0.out d) c0'
                    unfold maxLen at hz
                    clear hy
                    go_wp2
              
                    go_roundw
                    case rel => exact ⟨k + 1, _, by go_num, rfl, hlt, by omega, by omega, _, rfl⟩
                    case measure => simp [intOf]; omega
                  · have hnf : decide (n ≤ 500) = false := by simpa using hn
                    go_wp2
                    go_ret
                    exact ⟨n, rfl, by omega, by omega, row_drewN HB0.out d⟩
                · have hkf : decide ((k : Int) < (S.length : Int)) = false := by simp; omega
                  go_wp2
                  go_ret
                  exact ⟨n, rfl, by omega, by omega, row_drewN HB0.out d⟩
          · have hkf : decide ((k : Int) < (A.length : Int)) = false := by simp; omega
            clear q1
            go_wp2
            go_loopw [5, 8] (fun v5 v wr => CntW5 W lo S.length v5 v wr) (fun _ v _ => S.length - (intOf v).toNat)
            case atStart => exact ⟨0, _, rfl, rfl, Nat.zero_le _, by omega, by omega, _, rfl⟩
            case round =>
              obtain ⟨k, n, rfl, rfl, hk, hlo, hhi, d, rfl⟩ := hrel
              have q1 : ∀ i, (W.drewN d).cell? ⟨w.heap.size, i, none⟩ = _ := q0
              by_cases hlt : k < S.length
              · have hki : (k : Int) < (S.length : Int) := by omega
                by_cases hn : n ≤ 500
                · obtain ⟨b, off, hA, hbl, c0, c0'⟩ := KS.out k hlt
                  subst hA
                  have hz := HSS.out _ (List.getElem_mem hlt)
                  obtain ⟨y, hy⟩ : ∃ y, S[k] = y := ⟨_, rfl⟩
                  rw [hy] at c0 c0' hz
                  have t1 := quo165 y.size
                  have e0 := cell_later (row_drewN HB0.out d) c0
                  have e0x := cell_later (row_drewN HB0.out d) c0'
                  unfold maxLen at hz
                  clear hy
                  go_wp2
            
                  go_roundw
                  case rel => exact ⟨k + 1, _, by go_num, rfl, hlt, by omega, by omega, _, rfl⟩
                  case measure => simp [intOf]; omega
                · have hnf : decide (n ≤ 500) = false := by simpa using hn
                  go_wp2
                  go_ret
                  exact ⟨n, rfl, by omega, by omega, row_drewN HB0.out d⟩
              · have hkf : decide ((k : Int) < (S.length : Int)) = false := by simp; omega
                go_wp2
                go_ret
                exact ⟨n, rfl, by omega, by omega, row_drewN HB0.out d⟩
    · have hkf : decide ((k : Int) < (E.length : Int)) = false := by simp; omega
      clear q1
      go_wp2
      go_loopw [5, 7] (fun v5 v wr => CntW5 W lo A.length v5 v wr) (fun _ v _ => A.length - (intOf v).toNat)
      case atStart => exact ⟨0, _, rfl, rfl, Nat.zero_le _, by omega, by omega, _, rfl⟩
      case round =>
        obtain ⟨k, n, rfl, rfl, hk, hlo, hhi, d, rfl⟩ := hrel
        have q1 : ∀ i, (W.drewN d).cell? ⟨w.heap.size, i, none⟩ = _ := q0
        by_cases hlt : k < A.length
        · have hki : (k : Int) < (A.length : Int) := by omega
          by_cases hn : n ≤ 500
          · obtain ⟨b, off, hA, hbl, c0, c0', c1, c1'⟩ := KA.out k hlt
            subst hA
            have hz := HSA.out _ (List.getElem_mem hlt)
            obtain ⟨y, hy⟩ : ∃ y, A[k] = y := ⟨_, rfl⟩
            rw [hy] at c0 c0' c1 c1' hz
            obtain ⟨y1, y2⟩ := y
            simp only at c0 c0' c1 c1' hz
            have t1 := quo165 y1.size
            have t2 := quo165 y2.size
            have f0 := cell_later HB0.out c0
            have f0x := cell_later HB0.out c0'
            have f1 := cell_later HB0.out c1
            have f1x := cell_later HB0.out c1'
            have q2 := q0
            unfold maxLen at hz
            clear hy
            go_wp2
            go_quiet (fail)
            go_wp2
            go_roundw
            case rel => exact ⟨k + 1, _, by go_num, rfl, hlt, by omega, by omega, _, rfl⟩
            case measure => simp [intOf]; omega
          · have hnf : decide (n ≤ 500) = false := by simpa using hn
            clear q1
            go_wp2
            go_loopw [5, 8] (fun v5 v wr => CntW5 W lo S.length v5 v wr) (fun _ v _ => S.length - (intOf v).toNat)
            case atStart => exact ⟨0, _, rfl, rfl, Nat.zero_le _, by omega, by omega, _, rfl⟩
            case round =>
              obtain ⟨k, n, rfl, rfl, hk, hlo, hhi, d, rfl⟩ := hrel
              have q1 : ∀ i, (W.drewN d).cell? ⟨w.heap.size, i, none⟩ = _ := q0
              by_cases hlt : k < S.length
              · have hki : (k : Int) < (S.length : Int) := by omega
                by_cases hn : n ≤ 500
                · obtain ⟨b, off, hA, hbl, c0, c0'⟩ := KS.out k hlt
                  subst hA
                  have hz := HSS.out _ (List.getElem_mem hlt)
                  obtain ⟨y, hy⟩ : ∃ y, S[k] = y := ⟨_, rfl⟩
                  rw [hy] at c0 c0' hz
                  have t1 := quo165 y.size
                  have e0 := cell_later (row_drewN HB0.out d) c0
                  have e0x := cell_later (row_drewN HB0.out d) c0'
                  unfold maxLen at hz
                  clear hy
                  go_wp2
            
                  go_roundw
                  case rel => exact ⟨k + 1, _, by go_num, rfl, hlt, by omega, by omega, _, rfl⟩
                  case measure => simp [intOf]; omega
                · have hnf : decide (n ≤ 500) = false := by simpa using hn
                  go_wp2
                  go_ret
                  exact ⟨n, rfl, by omega, by omega, row_drewN HB0.out d⟩
              · have hkf : decide ((k : Int) < (S.length : Int)) = false := by simp; omega
                go_wp2
                go_ret
                exact ⟨n, rfl, by omega, by omega, row_drewN HB0.out d⟩
        · have hkf : decide ((k : Int) < (A.length : Int)) = false := by simp; omega
          clear q1
          go_wp2
          go_loopw [5, 8] (fun v5 v wr => CntW5 W lo S.length v5 v wr) (fun _ v _ => S.length - (intOf v).toNat)
          case atStart => exact ⟨0, _, rfl, rfl, Nat.zero_le _, by omega, by omega, _, rfl⟩
          case round =>
            obtain ⟨k, n, rfl, rfl, hk, hlo, hhi, d, rfl⟩ := hrel
            have q1 : ∀ i, (W.drewN d).cell? ⟨w.heap.size, i, none⟩ = _ := q0
            by_cases hlt : k < S.length
            · have hki : (k : Int) < (S.length : Int) := by omega
              by_cases hn : n ≤ 500
              · obtain ⟨b, off, hA, hbl, c0, c0'⟩ := KS.out k hlt
                subst hA
                have hz := HSS.out _ (List.getElem_mem hlt)
                obtain ⟨y, hy⟩ : ∃ y, S[k] = y := ⟨_, rfl⟩
                rw [hy] at c0 c0' hz
                have t1 := quo165 y.size
                have e0 := cell_later (row_drewN HB0.out d) c0
                have e0x := cell_later (row_drewN HB0.out d) c0'
                unfold maxLen at hz
                clear hy
                go_wp2
          
                go_roundw
                case rel => exact ⟨k + 1, _, by go_num, rfl, hlt, by omega, by omega, _, rfl⟩
                case measure => simp [intOf]; omega
              · have hnf : decide (n ≤ 500) = false := by simpa using hn
                go_wp2
                go_ret
                exact ⟨n, rfl, by omega, by omega, row_drewN HB0.out d⟩
            · have hkf : decide ((k : Int) < (S.length : Int)) = false := by simp; omega
              go_wp2
              go_ret
              exact ⟨n, rfl, by omega, by omega, row_drewN HB0.out d⟩
end Go.Proofs.YtdkjenbncmedbaaGreatDoor
