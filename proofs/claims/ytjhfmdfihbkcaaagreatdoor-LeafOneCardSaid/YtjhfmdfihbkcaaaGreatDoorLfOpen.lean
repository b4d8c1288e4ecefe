/- leaf.Open. -/
import Derived.Test.YtjhfmdfihbkcaaaGreatDoorLfUnder
import Derived.Test.YtjhfmdfihbkcaaaGreatDoorAtCodeP
import Derived.Lib.SmallJoins
import Derived.Laws.ResultCell
import Derived.Laws.Rows
import Derived.Lib.SlBytesConst
namespace Go.Proofs.YtjhfmdfihbkcaaaGreatDoor
open Go.RowKit

/-- Is it a fence of a byte? -/
def fenceB (l : List UInt8) (c : UInt8) : Bool := decide (3 ≤ frontN l c) && (c == 126 || decide (Lib.indexByte (l.drop (frontN l c)) c < 0))
def openB (l : List UInt8) : Bool := fenceB l 96 || fenceB l 126
theorem openB_head {l : List UInt8} (h : openB l = true) : l.head? = some 96 ∨ l.head? = some 126 := by
  unfold openB fenceB at h
  simp only [Bool.or_eq_true, Bool.and_eq_true, decide_eq_true_eq] at h
  rcases h with h | h
  · exact .inl (frontN_pos (by omega))
  · exact .inr (frontN_pos (by omega))
def fenceOf (k : Nat) : UInt8 := if k = 0 then 96 else 126
def OpenR (w : World) (b : Bool) (e : Ending) (w' : World) : Prop := (∃ (a n : Int) (t : ByteArray), e = .returned (.tuple #[.agg #[.int .u8 a, .int .i64 n, .string t], .bool b])) ∧ Below w.heap.size w w'
def OpenW (W : World) (l : List UInt8) (i : Value) (wr : World) : Prop := ∃ k : Nat, i = .int .i64 k ∧ k ≤ 2 ∧ (0 < k → fenceB l 96 = false) ∧ (1 < k → fenceB l 126 = false) ∧ wr = W
theorem fence_end (w w2 : World) (a b c : Value) (hb : Below w.heap.size w w2) (h : w2.heap[w.heap.size]? = some (.cells #[.int .u8 0, .int .i64 0, .string ⟨#[]⟩] 27 (0, 0))) :
    (((w2.setCell ⟨w.heap.size, 0, none⟩ a).setCell ⟨w.heap.size, 1, none⟩ b).setCell ⟨w.heap.size, 2, none⟩ c).heap[w.heap.size]? = some (.cells #[a, b, c] 27 (0, 0)) ∧ Below w.heap.size w (((w2.setCell ⟨w.heap.size, 0, none⟩ a).setCell ⟨w.heap.size, 1, none⟩ b).setCell ⟨w.heap.size, 2, none⟩ c) := by
  have h1 := Joins.block_setCell h (i := 0) a
  have h2 := Joins.block_setCell h1 (i := 1) b
  have h3 := Joins.block_setCell h2 (i := 2) c
  exact ⟨by simpa using h3, ((hb.setCell (Nat.le_refl _) _).setCell (Nat.le_refl _) _).setCell (Nat.le_refl _) _⟩
theorem results_row_tmp {P : Program} {fn : Func} {p u : Tmp} {ty : TypeId} (h : fn.results = #[.cell p ty, .tmp u]) (tmps : Array Value) (w : World) (g : Nat) (t : TypeId) (cs : Array Value) (fr : Nat × Nat) (d : TypeDesc)
    (hp : tmps.getD p undef = .pointer (some ⟨g, 0, none⟩)) (hg : w.heap[g]? = some (.cells cs t fr))
    (hu : P.underlying ty = some d) (hd : (match d with | .struct _ | .array _ _ => true | _ => false) = true) (hi : (P.info? ty).map (·.size) = some cs.size) :
    (results fn tmps).run P w = .ok (.tuple #[.agg cs, tmps.getD u undef]) w := by
  rw [results_cell_tmp h, hp]
  simp [asAddr, run_loadVar_row w g t ty cs fr d hg hu hd hi, Result.andThen]
set_option maxHeartbeats 2000000 in
set_option maxRecDepth 100000 in
theorem open_any (s : ByteArray) (w : World) (hs : s.size ≤ 1099511627) : Calls Tryz.prog 7 #[.string s] w (OpenR w (openB s.data.toList)) := by
  have HF := Lib.hid fun c (hc : c.toNat < 128) w' => front_any s c w' hs hc
  have HLE := Lib.hid fun c => show frontN s.data.toList c ≤ s.size by have := frontN_le s.data.toList c; rw [show s.data.toList.length = s.size from Array.length_toList] at this; exact this
  have HTR := Lib.hid fun n (hn : n ≤ s.size) w' => show Calls Tryz.prog 18 #[.string (s.extract n s.size)] w' (StrB w' (blankT (s.extract n s.size).data.toList)) from colsTrim_any (s.extract n s.size) w' (by have := (ext_at s n hn).2; omega)
  have HIB := Lib.hid fun n (hn : n ≤ s.size) (c : UInt8) w' => show Calls Tryz.prog 13 #[.string (s.extract n s.size), .int .u8 (c.toNat : Int)] w' (fun e w'' => e = .returned (.int .i64 (Lib.indexByte (s.data.toList.drop n) c)) ∧ w' = w'') by
    rw [← (ext_at s n hn).1]
    exact indexByte_any (s.extract n s.size) c w'
  have kc := fun (w : World) (C : Array Value) (n c g : Nat) (hg : g = w.heap.size) => Joins.run_convert_bytes_const_at (P := Tryz.prog) w 42 5 C n c g hg Tryz.underlying42 Tryz.underlying5
  have kc1 := kc (w.alloc (.cells #[.int .u8 0, .int .i64 0, .string ⟨#[]⟩] 27)) #[.int .u8 96, .int .u8 126] 2 2 (w.heap.size + 1) (by simp)
  have ax : ∀ (n k : Nat), ((⟨n, 0, none⟩ : Addr).add k) = ⟨n, k, none⟩ := fun n k => by unfold Addr.add; split <;> simp_all
  go_enter Tryz.func7, Tryz.ntmps7
  go_wp2_with fail
  obtain ⟨W, hW⟩ : ∃ W, (w.alloc (.cells #[.int .u8 0, .int .i64 0, .string ⟨#[]⟩] 27)).alloc (.cells #[.int .u8 96, .int .u8 126] 5 (2, 3)) = W := ⟨_, rfl⟩
  have hWB : Below w.heap.size w W := by rw [← hW]; exact ((Below.refl _ w).alloc (Nat.le_refl _) _).alloc (by simp) _
  have hWF : W.heap[w.heap.size]? = some (.cells #[.int .u8 0, .int .i64 0, .string ⟨#[]⟩] 27 (0, 0)) := by
    rw [← hW]
    show ((w.heap.push _).push _)[w.heap.size]? = _
    rw [Array.getElem?_push, if_neg (by rw [Array.size_push]; omega), Array.getElem?_push, if_pos rfl]
  have hWS : W.heap[w.heap.size + 1]? = some (.cells #[.int .u8 96, .int .u8 126] 5 (2, 3)) := by
    rw [← hW]
    show ((w.heap.push _).push _)[w.heap.size + 1]? = _
    rw [Array.getElem?_push, if_pos (by rw [Array.size_push])]
  rw [hW]
  have HWB := Lib.hid hWB
  have HWF := Lib.hid hWF
  have HWS := Lib.hid hWS
  clear hW hWB hWF hWS kc kc1
  go_loopw [10] (fun v wr => OpenW W s.data.toList v wr) (fun v _ => 2 - (intOf v).toNat)
  case atStart => exact ⟨0, rfl, by omega, by omega, by omega, rfl⟩
  case round =>
    obtain ⟨k, rfl, hk, hu1, hu2, rfl⟩ := hrel
    have HU1 := Lib.hid hu1
    have HU2 := Lib.hid hu2
    clear hu1 hu2
    by_cases hlt : k < 2
    · have hki : (k : Int) < 2 := by omega
      obtain ⟨c, hc⟩ : ∃ c, fenceOf k = c := ⟨_, rfl⟩
      have x1 : wr.cell? ⟨w.heap.size + 1, k, none⟩ = some (.int .u8 (c.toNat : Int)) := by
        rw [cell_of_row _ _ k _ _ _ HWS.out, ← hc]
        obtain rfl | rfl : k = 0 ∨ k = 1 := by omega
        · rfl
        · rfl
      have hc128 : c.toNat < 128 := by rw [← hc]; unfold fenceOf; split <;> decide
      have HF1 := Lib.hid fun w' => HF.out c hc128 w'
      have hle := HLE.out c
      obtain ⟨n, hn⟩ : ∃ n, frontN s.data.toList c = n := ⟨_, rfl⟩
      rw [hn] at HF1 hle
      have hki2 : (n : Int) ≤ (s.size : Int) := by omega
      have HN := Lib.hid hn
      have HC := Lib.hid hc
      have HNext := Lib.hid fun (hno : fenceB s.data.toList c = false) => show OpenW wr s.data.toList (.int .i64 ((k : Int) + 1)) wr by
        refine ⟨k + 1, by go_num, hlt, fun _ => ?_, fun h => ?_, rfl⟩
        · by_cases hk0 : k = 0
          · subst hk0; rw [← hc] at hno; exact hno
          · exact HU1.out (by omega)
        · have hk1 : k = 1 := by omega
          subst hk1
          rw [← hc] at hno
          exact hno
      clear hn hc
      go_wp2_with fail
      refine Calls.mono (HF1.out _) ?_
      rintro e w1 ⟨rfl, rfl⟩
      by_cases h0 : 3 ≤ n
      · have z0 : (3 : Int) ≤ (n : Int) := by omega
        have HIBn := Lib.hid fun w' => HIB.out n hle c w'
        have hTR := fun w' => HTR.out n hle w'
        unfold StrB at hTR
        obtain ⟨T, hT⟩ : ∃ T : ByteArray, (⟨(blankT (s.extract n s.size).data.toList).toArray⟩ : ByteArray) = T := ⟨_, rfl⟩
        rw [hT] at hTR
        have HTRn := Lib.hid hTR
        clear hT hTR
        by_cases hc126 : c = 126
        · have z1 : ((c.toNat : Int) == 126) = true := by rw [hc126]; rfl
          have hyes : openB s.data.toList = true := by
            unfold openB fenceB
            rw [← hc126, HN.out, show decide (3 ≤ n) = true by simpa using h0]
            simp
          have HY := Lib.hid hyes
          clear hyes hc126
          go_wp2_with fail
          refine Calls.mono (HTRn.out _) ?_
          rintro e w2 ⟨rfl, b2⟩
          have g2 : w2.heap[w.heap.size]? = some (.cells #[.int .u8 0, .int .i64 0, .string ⟨#[]⟩] 27 (0, 0)) := (b2.block _ (by have := (Array.getElem?_eq_some_iff.1 HWF.out).1; omega)).trans HWF.out
          have q0 := fun i => cell_of_row w2 w.heap.size i _ _ _ g2
          have f0 : ∀ i, w2.frozen? ⟨w.heap.size, i, none⟩ = false := fun i => by simp [World.frozen?, g2]
          go_wp2
          have HE := Lib.hid (fence_end w w2 (.int .u8 (c.toNat : Int)) (.int .i64 (n : Int)) (.string T) (HWB.out.trans (b2.mono HWB.out.size)) g2)
          obtain ⟨W3, hW3⟩ : ∃ W3, ((w2.setCell ⟨w.heap.size, 0, none⟩ (.int .u8 (c.toNat : Int))).setCell ⟨w.heap.size, 1, none⟩ (.int .i64 (n : Int))).setCell ⟨w.heap.size, 2, none⟩ (.string T) = W3 := ⟨_, rfl⟩
          rw [hW3] at HE ⊢
          (try simp only [Exit.inBlock, Exit.then])
          refine bodyPost_ret (results_row_tmp rfl _ W3 w.heap.size _ _ _ _ rfl HE.out.1 Tryz.underlying27 rfl (by kernel_rfl)) rfl ?_
          rw [HY.out]
          exact ⟨⟨_, _, _, rfl⟩, HE.out.2⟩
        · have z1 : ((c.toNat : Int) == 126) = false := by
            have : c.toNat ≠ 126 := fun h => hc126 (UInt8.toNat_inj.1 (by rw [h]; rfl))
            simp; omega
          obtain ⟨q, hq⟩ : ∃ q, Lib.indexByte (s.data.toList.drop n) c = q := ⟨_, rfl⟩
          have HI := Lib.hid (show ∀ w', Calls Tryz.prog 13 #[.string (s.extract n s.size), .int .u8 (c.toNat : Int)] w' (fun e w'' => e = .returned (.int .i64 q) ∧ w' = w'') from fun w' => (HIBn.out w').mono fun _ _ h => by rw [← hq]; exact h)
          have HQ := Lib.hid hq
          clear hq
          by_cases hq0 : q < 0
          · have hyes : openB s.data.toList = true := by
              have hf : fenceB s.data.toList c = true := by
                unfold fenceB
                rw [HN.out, show decide (3 ≤ n) = true by simpa using h0, HQ.out, show decide (q < 0) = true by simpa using hq0]
                simp
              unfold openB
              obtain rfl | rfl : k = 0 ∨ k = 1 := by omega
              · rw [show (96 : UInt8) = c from HC.out, hf, Bool.true_or]
              · rw [show (126 : UInt8) = c from HC.out, hf, Bool.or_true]
            have HY := Lib.hid hyes
            clear hyes hc126
            go_wp2_with fail
            refine Calls.mono (HI.out _) ?_
            rintro e w1 ⟨rfl, rfl⟩
            go_wp2_with fail
            refine Calls.mono (HTRn.out _) ?_
            rintro e w2 ⟨rfl, b2⟩
            have g2 : w2.heap[w.heap.size]? = some (.cells #[.int .u8 0, .int .i64 0, .string ⟨#[]⟩] 27 (0, 0)) := (b2.block _ (by have := (Array.getElem?_eq_some_iff.1 HWF.out).1; omega)).trans HWF.out
            have q0 := fun i => cell_of_row w2 w.heap.size i _ _ _ g2
            have f0 : ∀ i, w2.frozen? ⟨w.heap.size, i, none⟩ = false := fun i => by simp [World.frozen?, g2]
            go_wp2
            have HE := Lib.hid (fence_end w w2 (.int .u8 (c.toNat : Int)) (.int .i64 (n : Int)) (.string T) (HWB.out.trans (b2.mono HWB.out.size)) g2)
            obtain ⟨W3, hW3⟩ : ∃ W3, ((w2.setCell ⟨w.heap.size, 0, none⟩ (.int .u8 (c.toNat : Int))).setCell ⟨w.heap.size, 1, none⟩ (.int .i64 (n : Int))).setCell ⟨w.heap.size, 2, none⟩ (.string T) = W3 := ⟨_, rfl⟩
            rw [hW3] at HE ⊢
            (try simp only [Exit.inBlock, Exit.then])
            refine bodyPost_ret (results_row_tmp rfl _ W3 w.heap.size _ _ _ _ rfl HE.out.1 Tryz.underlying27 rfl (by kernel_rfl)) rfl ?_
            rw [HY.out]
            exact ⟨⟨_, _, _, rfl⟩, HE.out.2⟩
          · have hno : fenceB s.data.toList c = false := by
              unfold fenceB
              rw [HN.out, HQ.out, show decide (q < 0) = false by simpa using hq0, show (c == 126) = false by simpa using hc126]
              simp
            have HNO := Lib.hid (HNext.out hno)
            clear hno hc126
            go_wp2_with fail
            refine Calls.mono (HI.out _) ?_
            rintro e w1 ⟨rfl, rfl⟩
            go_wp2
            go_roundw
            case rel => exact HNO.out
            case measure => simp [intOf]; omega
      · have z0 : ¬ (3 : Int) ≤ (n : Int) := by omega
        have hno : fenceB s.data.toList c = false := by unfold fenceB; rw [HN.out, show decide (3 ≤ n) = false by simpa using h0, Bool.false_and]
        have HNO := Lib.hid (HNext.out hno)
        clear hno
        go_wp2
        go_roundw
        case rel => exact HNO.out
        case measure => simp [intOf]; omega
    · obtain rfl : k = 2 := by omega
      have hv : openB s.data.toList = false := by
        unfold openB
        rw [HU1.out (by omega), HU2.out (by omega)]
        rfl
      have HV := Lib.hid hv
      clear hv
      have g2 := HWF.out
      have q0 := fun i => cell_of_row wr w.heap.size i _ _ _ g2
      have f0 : ∀ i, wr.frozen? ⟨w.heap.size, i, none⟩ = false := fun i => by simp [World.frozen?, g2]
      go_wp2
      have HE := Lib.hid (fence_end w wr (.int .u8 0) (.int .i64 0) (.string ⟨#[]⟩) HWB.out g2)
      obtain ⟨W3, hW3⟩ : ∃ W3, ((wr.setCell ⟨w.heap.size, 0, none⟩ (.int .u8 0)).setCell ⟨w.heap.size, 1, none⟩ (.int .i64 0)).setCell ⟨w.heap.size, 2, none⟩ (.string ⟨#[]⟩) = W3 := ⟨_, rfl⟩
      rw [hW3] at HE ⊢
      (try simp only [Exit.inBlock, Exit.then])
      refine bodyPost_ret (results_row_tmp rfl _ W3 w.heap.size _ _ _ _ rfl HE.out.1 Tryz.underlying27 rfl (by kernel_rfl)) rfl ?_
      rw [HV.out]
      exact ⟨⟨_, _, _, rfl⟩, HE.out.2⟩
end Go.Proofs.YtjhfmdfihbkcaaaGreatDoor
