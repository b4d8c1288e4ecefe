/- tympanref00.SameStrings and SamePolicy on equal lists: true. -/
import Derived.Test.YtjificnbeaemoaaGreatDoorCheck
import Derived.BigQuiet
namespace Go.Proofs.YtjificnbeaemoaaGreatDoor
open Go.RowKit

def SameW (w : World) (n : Nat) (i : Value) (wr : World) : Prop := ∃ k : Nat, i = .int .i64 k ∧ k ≤ n ∧ ∃ d, wr = w.drewN d
set_option maxHeartbeats 2000000 in
set_option maxRecDepth 100000 in
theorem same_strs (l : List ByteArray) (v1 v2 : Value) (w : World) (h1 : SlS w v1 l) (h2 : SlS w v2 l) (hl : l.length ≤ 9223372036854775807) : Calls Tryz.prog 30 #[v1, v2] w (fun e w' => e = .returned (.bool true) ∧ ∃ d, w' = w.drewN d) := by
  obtain ⟨A1, c1, rfl, _, hk1⟩ := h1.open
  obtain ⟨A2, c2, rfl, _, hk2⟩ := h2.open
  have HK1 := Lib.hid hk1
  have HK2 := Lib.hid hk2
  clear hk1 hk2 h1 h2
  go_enter Tryz.func30, Tryz.ntmps30
  go_wp2_with fail
  go_loopw [5] (fun v wr => SameW w l.length v wr) (fun v _ => l.length - (intOf v).toNat)
  case atStart => exact ⟨0, rfl, Nat.zero_le _, 0, rfl⟩
  case round =>
    obtain ⟨k, rfl, hk, d, rfl⟩ := hrel
    by_cases hlt : k < l.length
    · have hki : (k : Int) < (l.length : Int) := by omega
      obtain ⟨b1, o1, hA1, hb1, g1, g1'⟩ := HK1.out k hlt
      obtain ⟨b2, o2, hA2, hb2, g2, g2'⟩ := HK2.out k hlt
      subst hA1
      subst hA2
      obtain ⟨y, hy⟩ : ∃ y, l[k] = y := ⟨_, rfl⟩
      rw [hy] at g1 g1' g2 g2'
      clear hy
      go_wp2
      go_quiet (fail)
      go_wp2
      go_roundw
      case rel => exact ⟨k + 1, by go_num, hlt, _, rfl⟩
      case measure => simp [intOf]; omega
    · obtain rfl : k = l.length := by omega
      go_wp2
      go_ret
      exact ⟨rfl, d, rfl⟩
set_option maxHeartbeats 4000000 in
set_option maxRecDepth 100000 in
theorem same_pol (v1 v2 : Value) (E : List ByteArray) (A : Prs) (S : List ByteArray) (w : World) (h1 : PolAt w v1 E A S) (h2 : PolAt w v2 E A S) : Calls Tryz.prog 12 #[v1, v2] w (BoolR w true) := by
  obtain ⟨⟨vE1, vA1, vS1, rfl, e1, a1, s1⟩, lE, lA, lS, _⟩ := h1
  obtain ⟨⟨vE2, vA2, vS2, rfl, e2, a2, s2⟩, _⟩ := h2
  obtain ⟨A1, c1, rfl, _, hk1⟩ := a1.open
  obtain ⟨A2, c2, rfl, _, hk2⟩ := a2.open
  obtain ⟨W, hW⟩ : ∃ W, (w.alloc (.cells #[vE1, .slice A1 A.length c1, vS1] 25)).alloc (.cells #[vE2, .slice A2 A.length c2, vS2] 25) = W := ⟨_, rfl⟩
  have hb0 : Below w.heap.size w W := by rw [← hW]; exact ((Below.refl _ w).alloc (Nat.le_refl _) _).alloc (by simp) _
  have B0 := Lib.hid hb0
  have G0 := Lib.hid (show W.heap[w.heap.size]? = some (.cells #[vE1, .slice A1 A.length c1, vS1] 25 (0, 0)) by rw [← hW]; exact (Below.heap_alloc _ _ _ (by simp)).trans (heap_alloc_new w _))
  have G1 := Lib.hid (show W.heap[w.heap.size + 1]? = some (.cells #[vE2, .slice A2 A.length c2, vS2] 25 (0, 0)) by rw [← hW, show w.heap.size + 1 = (w.alloc (.cells #[vE1, .slice A1 A.length c1, vS1] 25)).heap.size by simp]; exact heap_alloc_new _ _)
  have p0 := fun i => cell_of_row W w.heap.size i _ _ _ G0.out
  have p1 := fun i => cell_of_row W (w.heap.size + 1) i _ _ _ G1.out
  have q : ∀ (b o : Nat), b < w.heap.size → W.cell? ⟨b, o, none⟩ = w.cell? ⟨b, o, none⟩ := fun b o hb => by simp only [World.cell?, hb0.block b hb]
  have HQ := Lib.hid q
  have HK1 := Lib.hid hk1
  have HK2 := Lib.hid hk2
  have HE1 := Lib.hid e1; have HE2 := Lib.hid e2; have HS1 := Lib.hid s1; have HS2 := Lib.hid s2
  have HW := Lib.hid hW
  clear hk1 hk2 e1 e2 s1 s2 a1 a2 hW hb0 q
  go_enter Tryz.func12, Tryz.ntmps12
  go_upto_region 1 with fail
  rw [HW.out]
  go_wp2_with fail
  go_loopw [5] (fun v wr => SameW W A.length v wr) (fun v _ => A.length - (intOf v).toNat)
  case atStart => exact ⟨0, rfl, Nat.zero_le _, 0, rfl⟩
  case round =>
    obtain ⟨k, rfl, hk, d, rfl⟩ := hrel
    by_cases hlt : k < A.length
    · have hki : (k : Int) < (A.length : Int) := by omega
      obtain ⟨b1, o1, hA1, hb1, g0, g0', g1, g1'⟩ := HK1.out k hlt
      obtain ⟨b2, o2, hA2, hb2, f0, f0', f1, f1'⟩ := HK2.out k hlt
      subst hA1
      subst hA2
      obtain ⟨y, hy⟩ : ∃ y, A[k] = y := ⟨_, rfl⟩
      rw [hy] at g0 g0' g1 g1' f0 f0' f1 f1'
      have q1 := fun o => HQ.out b1 o hb1
      have q2 := fun o => HQ.out b2 o hb2
      clear hy
      go_wp2
      go_quiet (fail)
      go_wp2
      go_roundw
      case rel => exact ⟨k + 1, by go_num, hlt, _, rfl⟩
      case measure => simp [intOf]; omega
    · obtain rfl : k = A.length := by omega
      have b1 : Below w.heap.size w (W.drewN d) := row_drewN B0.out d
      have H1 := Lib.hid (same_strs E vE1 vE2 (W.drewN d) (HE1.out.later b1) (HE2.out.later b1) lE)
      have H2 := Lib.hid fun w' (hb : Below w.heap.size w w') => same_strs S vS1 vS2 w' (HS1.out.later hb) (HS2.out.later hb) lS
      clear b1
      go_wp2_with fail
      refine Calls.mono H1.out ?_
      rintro e w1 ⟨rfl, d1, rfl⟩
      go_wp2_with fail
      refine Calls.mono (H2.out _ (row_drewN B0.out _)) ?_
      rintro e w2 ⟨rfl, d2, rfl⟩
      go_wp2
      go_ret
      exact ⟨rfl, row_drewN B0.out _⟩
end Go.Proofs.YtjificnbeaemoaaGreatDoor
