/- leaf.Under. -/
import Derived.Test.YtjhfmdfihbkcaaaGreatDoorLfCols
import Derived.Lib.SlBytesConst
namespace Go.Proofs.YtjhfmdfihbkcaaaGreatDoor
open Go.RowKit

/-- Is it drawn under with a byte? -/
def underB (l : List UInt8) (c : UInt8) : Bool := decide (0 < frontN l c) && (blankT (l.drop (frontN l c))).isEmpty
def underN (l : List UInt8) : Nat := if underB l 61 = true then 1 else if underB l 45 = true then 2 else 0
theorem underN_one {l : List UInt8} (h : underN l = 1) : l.head? = some 61 := by
  unfold underN at h
  split at h
  · rename_i hu
    unfold underB at hu
    simp only [Bool.and_eq_true, decide_eq_true_eq] at hu
    exact frontN_pos hu.1
  · split at h
    · cases h
    · cases h
def signOf (k : Nat) : UInt8 := if k = 0 then 61 else 45
def UnderW (w : World) (l : List UInt8) (i : Value) (wr : World) : Prop := ∃ k : Nat, i = .int .i64 k ∧ k ≤ 2 ∧ (0 < k → underB l 61 = false) ∧ (1 < k → underB l 45 = false) ∧ (∀ j : Nat, j < 2 → wr.cell? ⟨w.heap.size, j, none⟩ = some (.int .u8 ((signOf j).toNat : Int))) ∧ Below w.heap.size w wr
theorem ext_at (s : ByteArray) (n : Nat) (hn : n ≤ s.size) : (s.extract n s.size).data.toList = s.data.toList.drop n ∧ (s.extract n s.size).size ≤ s.size := by
  have hsl : s.data.toList.length = s.size := Array.length_toList
  have hXl : (s.extract n s.size).data.toList = s.data.toList.drop n := by
    rw [Lib.extract_data, ← hsl]
    exact List.take_of_length_le (by rw [List.length_drop]; omega)
  refine ⟨hXl, ?_⟩
  have := congrArg List.length hXl
  rw [Array.length_toList, List.length_drop] at this
  have : (s.extract n s.size).size = _ := this
  omega
set_option maxHeartbeats 2000000 in
set_option maxRecDepth 100000 in
theorem under_any (s : ByteArray) (w : World) (hs : s.size ≤ 1099511627) : Calls Tryz.prog 8 #[.string s] w (RIb w (underN s.data.toList : Nat)) := by
  have HF := Lib.hid fun c (hc : c.toNat < 128) w' => front_any s c w' hs hc
  have HLE := Lib.hid fun c => show frontN s.data.toList c ≤ s.size by have := frontN_le s.data.toList c; rw [show s.data.toList.length = s.size from Array.length_toList] at this; exact this
  have HBK := Lib.hid fun n (hn : n ≤ s.size) w' => show Calls Tryz.prog 20 #[.string (s.extract n s.size)] w' (RBw w' (blankT (s.data.toList.drop n)).isEmpty) by
    rw [← (ext_at s n hn).1]
    exact colsBlank_any _ w' (by have := (ext_at s n hn).2; omega)
  have kc := fun (w : World) (C : Array Value) (n c : Nat) => Lib.run_convert_bytes_const (P := Tryz.prog) w 42 5 C n c Tryz.underlying42 Tryz.underlying5
  go_enter Tryz.func8, Tryz.ntmps8
  go_wp2_with fail
  go_loopw [9] (fun v wr => UnderW w s.data.toList v wr) (fun v _ => 2 - (intOf v).toNat)
  case atStart =>
    refine ⟨0, rfl, by omega, by omega, by omega, ?_, (Below.refl _ w).alloc (Nat.le_refl _) _⟩
    intro j hj
    have h : (w.alloc (.cells #[.int .u8 61, .int .u8 45] 5 (2, 3))).heap[w.heap.size]? = some (.cells #[.int .u8 61, .int .u8 45] 5 (2, 3)) := heap_alloc_new w _
    rw [cell_of_row _ _ j _ _ _ h]
    obtain rfl | rfl : j = 0 ∨ j = 1 := by omega
    · rfl
    · rfl
  case round =>
    obtain ⟨k, rfl, hk, hu1, hu2, hcs, hb⟩ := hrel
    have HB := Lib.hid hb
    have HU1 := Lib.hid hu1
    have HU2 := Lib.hid hu2
    clear hb hu1 hu2
    by_cases hlt : k < 2
    · have hki : (k : Int) < 2 := by omega
      have x1 := hcs k hlt
      obtain ⟨c, hc⟩ : ∃ c, signOf k = c := ⟨_, rfl⟩
      have hc128 : c.toNat < 128 := by rw [← hc]; unfold signOf; split <;> decide
      rw [hc] at x1
      have HCS := Lib.hid hcs
      have HF1 := Lib.hid fun w' => HF.out c hc128 w'
      have hle := HLE.out c
      obtain ⟨n, hn⟩ : ∃ n, frontN s.data.toList c = n := ⟨_, rfl⟩
      rw [hn] at HF1 hle
      have hki2 : (n : Int) ≤ (s.size : Int) := by omega
      have HN := Lib.hid hn
      have HC := Lib.hid hc
      clear hcs hn hc
      go_wp2_with fail
      refine Calls.mono (HF1.out _) ?_
      rintro e w1 ⟨rfl, rfl⟩
      by_cases h0 : 0 < n
      · have z0 : (0 : Int) < (n : Int) := by omega
        have HBL := Lib.hid fun w' => HBK.out n hle w'
        cases hbl : (blankT (s.data.toList.drop n)).isEmpty with
        | true =>
          rw [hbl] at HBL
          have hyes : underB s.data.toList c = true := by unfold underB; rw [HN.out, hbl]; simpa using h0
          have hv : underN s.data.toList = k + 1 := by
            unfold underN
            obtain rfl | rfl : k = 0 ∨ k = 1 := by omega
            · rw [show (61 : UInt8) = c from HC.out, if_pos hyes]
            · rw [if_neg (by rw [HU1.out (by omega)]; simp), show (45 : UInt8) = c from HC.out, if_pos hyes]
          have HV := Lib.hid hv
          clear hv hyes hbl
          go_wp2_with fail
          refine Calls.mono (HBL.out _) ?_
          rintro e w2 ⟨rfl, b2⟩
          have b2 := HB.out.trans (b2.mono HB.out.size)
          go_wp2
          go_ret
          rw [HV.out]
          exact ⟨by rfl, b2⟩
        | false =>
          rw [hbl] at HBL
          have hno : underB s.data.toList c = false := by unfold underB; rw [HN.out, hbl, Bool.and_false]
          have HNO := Lib.hid hno
          clear hno hbl
          go_wp2_with fail
          refine Calls.mono (HBL.out _) ?_
          rintro e w2 ⟨rfl, b2⟩
          have HB2 := Lib.hid b2
          clear b2
          go_wp2
          go_roundw
          case rel =>
            refine ⟨k + 1, by go_num, hlt, ?_, ?_, ?_, HB.out.trans (HB2.out.mono HB.out.size)⟩
            · intro _
              by_cases hk0 : k = 0
              · subst hk0; rw [← HC.out] at HNO; exact HNO.out
              · exact HU1.out (by omega)
            · intro _
              have hk1 : k = 1 := by omega
              subst hk1
              rw [← HC.out] at HNO
              exact HNO.out
            · intro j hj
              have h1 := HCS.out j hj
              exact (HB2.out.cell (World.block_lt_of_cell? wr _ h1)).trans h1
          case measure => simp [intOf]; omega
      · have z0 : ¬ (0 : Int) < (n : Int) := by omega
        have hno : underB s.data.toList c = false := by unfold underB; rw [HN.out, show decide (0 < n) = false by simpa using h0, Bool.false_and]
        have HNO := Lib.hid hno
        clear hno
        go_wp2
        go_roundw
        case rel =>
          refine ⟨k + 1, by go_num, hlt, ?_, ?_, HCS.out, HB.out⟩
          · intro _
            by_cases hk0 : k = 0
            · subst hk0; rw [← HC.out] at HNO; exact HNO.out
            · exact HU1.out (by omega)
          · intro _
            have hk1 : k = 1 := by omega
            subst hk1
            rw [← HC.out] at HNO
            exact HNO.out
        case measure => simp [intOf]; omega
    · obtain rfl : k = 2 := by omega
      have hv : underN s.data.toList = 0 := by
        unfold underN
        rw [if_neg (by rw [HU1.out (by omega)]; simp), if_neg (by rw [HU2.out (by omega)]; simp)]
      have HV := Lib.hid hv
      clear hv hcs
      go_wp2
      go_ret
      rw [HV.out]
      exact ⟨rfl, HB.out⟩
end Go.Proofs.YtjhfmdfihbkcaaaGreatDoor
