/- The references' blanks; a text with backslashes. -/
import Derived.Test.YtbcfhpomclkccaaDoorRsKn
import Derived.Test.YtbcfhpomclkccaaDoorTxt4
namespace Go.Proofs.YtbcfhpomclkccaaDoor
open Go.RowKit

theorem rb_any (b : UInt8) (w : World) : Calls Tryd.prog 95 #[.int .u8 (b.toNat : Int)] w (RB w (wsB b)) := by
  obtain ⟨q, hq⟩ : ∃ q, (b == 32) = q := ⟨_, rfl⟩
  obtain ⟨r, hr⟩ : ∃ r, (b == 9) = r := ⟨_, rfl⟩
  have hv : wsB b = (q || r) := by unfold wsB; rw [hq, hr]
  rw [hv]
  have hq2 : ((b.toNat : Int) == 32) = q := by rw [show ((b.toNat : Int) == 32) = (b == 32) from beqc b 32]; exact hq
  have hr2 : ((b.toNat : Int) == 9) = r := by rw [show ((b.toNat : Int) == 9) = (b == 9) from beqc b 9]; exact hr
  clear hq hr hv
  cases q
  · go_enter Tryd.func95, Tryd.ntmps95
    go_wp2
    go_ret
    exact ⟨rfl, rfl⟩
  · go_enter Tryd.func95, Tryd.ntmps95
    go_wp2
    go_ret
    exact ⟨rfl, rfl⟩
set_option maxRecDepth 100000 in
/-- One byte: is it a blank? -/
theorem rblank1 (x : ByteArray) (c : UInt8) (h : x = ⟨#[c]⟩) (w : World) : Calls Tryd.prog 43 #[.string x] w (RB w (wsB c)) := by
  have hz : x.size = 1 := by rw [h]; rfl
  have h0 : x[0]'(by omega) = c := by subst h; rfl
  clear h
  have HB := Lib.hid fun w' => rb_any c w'
  have hf : Calls Tryd.prog 74 #[.string x] w (IntR w (if wsB c then 1 else 0 : Nat)) := by
    obtain ⟨q, hq⟩ : ∃ q, wsB c = q := ⟨_, rfl⟩
    rw [hq] at HB ⊢
    cases q with
    | false =>
      show Calls _ _ _ _ (IntR w ((0 : Nat) : Int))
      go_enter Tryd.func74, Tryd.ntmps74
      go_wp2
      refine wp_loop_rounds 1 ?_
      rw [rounds_succ]
      go_wp2_with fail
      (try rw [h0])
      refine Calls.mono (HB.out _) ?_
      rintro e w' ⟨rfl, rfl⟩
      go_wp2
      go_ret
      exact ⟨rfl, rfl⟩
    | true =>
      show Calls _ _ _ _ (IntR w ((1 : Nat) : Int))
      go_enter Tryd.func74, Tryd.ntmps74
      go_wp2
      refine wp_loop_rounds 2 ?_
      rw [rounds_succ]
      go_wp2_with fail
      (try rw [h0])
      refine Calls.mono (HB.out _) ?_
      rintro e w' ⟨rfl, rfl⟩
      go_wp2_with fail
      rw [rounds_succ]
      go_wp2_with fail
      go_ret
      exact ⟨rfl, rfl⟩
  have HF := Lib.hid hf
  clear hf
  cases hq : wsB c with
  | false =>
    rw [hq, if_neg Bool.false_ne_true] at HF
    go_enter Tryd.func43, Tryd.ntmps43
    go_wp2_with fail
    refine Calls.mono HF.out ?_
    rintro e w' ⟨rfl, rfl⟩
    go_wp2
    go_ret
    exact ⟨rfl, rfl⟩
  | true =>
    rw [hq, if_pos rfl] at HF
    go_enter Tryd.func43, Tryd.ntmps43
    go_wp2_with fail
    refine Calls.mono HF.out ?_
    rintro e w' ⟨rfl, rfl⟩
    go_wp2
    go_ret
    exact ⟨rfl, rfl⟩
def blankL (l : List UInt8) : Bool := l.all fun c => c == 10 || wsB c
set_option maxRecDepth 100000 in
theorem refblank_any (s : ByteArray) (w : World) (hs : s.size ≤ 1099511627776) : Calls Tryd.prog 16 #[.string s] w (RB w (blankL s.data.toList)) := by
  have hl : s.data.toList.length = s.size := Array.length_toList
  obtain ⟨Q, hQ⟩ : ∃ Q, blankL s.data.toList = Q := ⟨_, rfl⟩
  rw [hQ]
  have H0 := Lib.hid (show blankL (s.data.toList.drop 0) = Q by rw [List.drop_zero]; exact hQ)
  clear hQ
  go_enter Tryd.func16, Tryd.ntmps16
  go_wp2
  go_loopw [3] (fun v wr => ∃ k : Nat, v = .int .i64 (k : Int) ∧ k ≤ s.size ∧ Hid (blankL (s.data.toList.drop k) = Q) ∧ wr = w) (fun v _ => s.size - (intOf v).toNat)
  case atStart => exact ⟨0, rfl, Nat.zero_le _, H0, rfl⟩
  case round =>
    obtain ⟨k, rfl, hk, HQ, hwr⟩ := hrel
    have hwr2 := hwr.symm
    subst hwr2
    clear hwr
    by_cases hlt : k < s.size
    · have hki : (k : Int) < (s.size : Int) := by omega
      have hki1 : (k : Int) + 1 ≤ (s.size : Int) := by omega
      have hdr : s.data.toList.drop k = s[k] :: s.data.toList.drop (k + 1) := by
        rw [List.drop_eq_getElem_cons (by omega)]; rfl
      have hx := ext_one s k hlt
      obtain ⟨c, hc⟩ : ∃ c, s[k] = c := ⟨_, rfl⟩
      rw [hc] at hdr hx
      obtain ⟨x, hxe⟩ : ∃ x, s.extract k (k + 1) = x := ⟨_, rfl⟩
      rw [hxe] at hx
      have HX := Lib.hid hxe
      have hq := HQ.out
      rw [hdr] at hq
      have HR := Lib.hid fun w' => rblank1 x c hx w'
      by_cases h10 : c = 10
      · have i10 : ((c.toNat : Int) != 10) = false := by rw [show ((c.toNat : Int) != 10) = (c != 10) from bnec c 10, h10]; rfl
        have HN := Lib.hid (show blankL (s.data.toList.drop (k + 1)) = Q by rw [← hq, h10]; unfold blankL; simp)
        clear hq hdr HQ hxe hx
        go_wp2_with fail
        (try rw [hc])
        go_wp2_with fail
        go_roundw
        case rel => exact ⟨k + 1, rfl, by omega, HN, by first | rfl | trivial⟩
        case measure => simp [intOf]; omega
      · have i10 : ((c.toNat : Int) != 10) = true := by rw [show ((c.toNat : Int) != 10) = (c != 10) from bnec c 10]; simpa using h10
        cases hb : wsB c with
        | true =>
          rw [hb] at HR
          have HN := Lib.hid (show blankL (s.data.toList.drop (k + 1)) = Q by rw [← hq]; unfold blankL; simp [hb])
          clear hq hdr HQ hxe hx hb
          go_wp2_with fail
          (try rw [hc])
          go_wp2_with fail
          rw [HX.out]
          refine Calls.mono (HR.out _) ?_
          rintro e w' ⟨rfl, rfl⟩
          go_wp2_with fail
          go_roundw
          case rel => exact ⟨k + 1, rfl, by omega, HN, by first | rfl | trivial⟩
          case measure => simp [intOf]; omega
        | false =>
          rw [hb] at HR
          have HN := Lib.hid (show false = Q by rw [← hq]; unfold blankL; simp [hb, h10])
          clear hq hdr HQ hxe hx hb
          go_wp2_with fail
          (try rw [hc])
          go_wp2_with fail
          rw [HX.out]
          refine Calls.mono (HR.out _) ?_
          rintro e w' ⟨rfl, rfl⟩
          go_wp2
          go_ret
          rw [← HN.out]
          exact ⟨rfl, rfl⟩
    · have hk2 : k = s.size := by omega
      have HN := Lib.hid (show true = Q by
        rw [← HQ.out, hk2, List.drop_eq_nil_of_le (by omega)]; rfl)
      clear hk2
      go_wp2
      go_ret
      rw [← HN.out]
      exact ⟨rfl, rfl⟩
/-- A byte with a backslash ahead, if it is one of the signs g. -/
def escC (g : List UInt8) (c : UInt8) : List UInt8 := List.replicate (g.count c) 92 ++ [c]
def escL (g l : List UInt8) : List UInt8 := l.flatMap (escC g)
theorem escL_len (g : List UInt8) : ∀ l : List UInt8, (escL g l).length ≤ (g.length + 1) * l.length
  | [] => by simp [escL]
  | c :: l => by
    have h1 := escL_len g l
    have h2 : (escC g c).length ≤ g.length + 1 := by
      have : g.count c ≤ g.length := List.count_le_length
      unfold escC
      rw [List.length_append, List.length_replicate, List.length_singleton]
      omega
    have h3 : escL g (c :: l) = escC g c ++ escL g l := List.flatMap_cons
    rw [h3, List.length_append, List.length_cons, Nat.mul_succ]
    omega
def EscO (g l : List UInt8) (w : World) (v5 v6 : Value) (wr : World) : Prop := ∃ (i d : Nat) (x : ByteArray), v6 = .int .i64 (i : Int) ∧ v5 = .string x ∧ i ≤ l.length ∧ x.data.toList = escL g (l.take i) ∧ wr = w.drewN d
def EscI (g acc : List UInt8) (c : UInt8) (w : World) (v5 v7 : Value) (wr : World) : Prop := ∃ (k d : Nat) (x : ByteArray), v7 = .int .i64 (k : Int) ∧ v5 = .string x ∧ k ≤ g.length ∧ x.data.toList = acc ++ List.replicate ((g.take k).count c) 92 ∧ wr = w.drewN d
set_option maxHeartbeats 2000000 in
set_option maxRecDepth 100000 in
theorem escaped_any (s g : ByteArray) (w : World) (hs : s.size ≤ 1000000) (hg : g.size ≤ 8) : Calls Tryd.prog 15 #[.string s, .string g] w (FoldR w (escL g.data.toList s.data.toList)) := by
  have hl : s.data.toList.length = s.size := Array.length_toList
  have hgl : g.data.toList.length = g.size := Array.length_toList
  have HL := Lib.hid hl
  have HGL := Lib.hid hgl
  clear hl hgl
  go_enter Tryd.func15, Tryd.ntmps15
  go_wp2
  go_loopw [5, 6, 7] (fun v5 v6 _ wr => EscO g.data.toList s.data.toList w v5 v6 wr) (fun _ v6 _ _ => s.size - (intOf v6).toNat)
  case atStart => exact ⟨0, 0, ⟨#[]⟩, rfl, rfl, Nat.zero_le _, by simp [escL], rfl⟩
  case round =>
    obtain ⟨i, d, x, rfl, rfl, hi, hx, hwr⟩ := hrel
    rw [HL.out] at hi
    subst hwr
    have hxl : x.data.toList.length = x.size := Array.length_toList
    have hln := escL_len g.data.toList (s.data.toList.take i)
    rw [List.length_take, HL.out, HGL.out] at hln
    have hmul : (g.size + 1) * min i s.size ≤ 9 * 1000000 := Nat.mul_le_mul (by omega) (by omega)
    have hxz : x.size ≤ 9000000 := by rw [← hxl, hx]; omega
    have HX := Lib.hid hx
    clear hx hxl hln hmul
    by_cases hlt : i < s.size
    · have hii : (i : Int) < (s.size : Int) := by omega
      have hii1 : (i : Int) + 1 ≤ (s.size : Int) := by omega
      obtain ⟨c, hc⟩ : ∃ c, s[i] = c := ⟨_, rfl⟩
      have hex := ext_list s i hlt
      rw [hc] at hex
      obtain ⟨y, hy⟩ : ∃ y, s.extract i (i + 1) = y := ⟨_, rfl⟩
      rw [hy] at hex
      have hyz : y.size = 1 := by rw [← hy, ByteArray.size_extract]; omega
      have htk : s.data.toList.take (i + 1) = s.data.toList.take i ++ [c] := by
        have hlt' : i < s.data.toList.length := by rw [HL.out]; exact hlt
        rw [List.take_succ_eq_append_getElem hlt', ← hc]; rfl
      have HTK := Lib.hid htk
      have HEX := Lib.hid hex
      have HY := Lib.hid hy
      have HC := Lib.hid hc
      clear hex hy htk hc
      go_wp2_with fail
      go_loopw [5, 7] (fun v5 v7 wx => EscI g.data.toList (escL g.data.toList (s.data.toList.take i)) c w v5 v7 wx) (fun _ v7 _ => g.size - (intOf v7).toNat)
      case atStart => exact ⟨0, d, x, rfl, rfl, Nat.zero_le _, by rw [HX.out]; simp, rfl⟩
      case round =>
        obtain ⟨k, d2, z, rfl, rfl, hk, hz, hwx⟩ := hrel
        rw [HGL.out] at hk
        subst hwx
        have hzl : z.data.toList.length = z.size := Array.length_toList
        have hcl : ((g.data.toList.take k).count c) ≤ 8 := Nat.le_trans List.count_le_length (by rw [List.length_take]; omega)
        have hxl : x.data.toList.length = x.size := Array.length_toList
        have hzz : z.size ≤ 9000008 := by
          rw [← hzl, hz, List.length_append, List.length_replicate, ← HX.out]; omega
        have HZ := Lib.hid hz
        clear hz hzl hcl hxl
        by_cases hkt : k < g.size
        · have hki : (k : Int) < (g.size : Int) := by omega
          have hk1 : k < g.data.toList.length := by rw [HGL.out]; exact hkt
          obtain ⟨b, hb⟩ : ∃ b, g[k] = b := ⟨_, rfl⟩
          have htk : g.data.toList.take (k + 1) = g.data.toList.take k ++ [b] := by rw [List.take_succ_eq_append_getElem hk1, ← hb]; rfl
          have HT2 := Lib.hid htk
          clear htk
          by_cases hbc : c = b
          · have ibc : ((c.toNat : Int) == (b.toNat : Int)) = true := by rw [beqc]; simpa using hbc
            have HBC := Lib.hid hbc
            clear hbc
            go_wp2_with fail
            go_quiet (fail)
            (try rw [HC.out])
            (try rw [hb])
            go_wp2_with fail
            go_roundw
            case rel =>
              refine ⟨k + 1, _, z ++ ⟨#[92]⟩, rfl, rfl, by rw [HGL.out]; omega, ?_, rfl⟩
              rw [HT2.out, List.count_append, ByteArray.data_append, Array.toList_append, HZ.out, List.append_assoc, ← List.replicate_append_replicate, HBC.out]
              simp
            case measure => simp [intOf]; omega
          · have ibc : ((c.toNat : Int) == (b.toNat : Int)) = false := by rw [beqc]; exact beq_no hbc
            have HBC := Lib.hid hbc
            clear hbc
            go_wp2_with fail
            go_quiet (fail)
            (try rw [HC.out])
            (try rw [hb])
            go_wp2_with fail
            go_roundw
            case rel =>
              refine ⟨k + 1, _, z, rfl, rfl, by rw [HGL.out]; omega, ?_, rfl⟩
              rw [HT2.out, List.count_append, HZ.out, List.count_singleton, if_neg (by simpa using fun e : b = c => HBC.out e.symm)]
              simp
            case measure => simp [intOf]; omega
        · have hkg : g.data.toList.take k = g.data.toList := List.take_of_length_le (by rw [HGL.out]; omega)
          have HK := Lib.hid hkg
          clear hkg
          go_wp2_with fail
          (try rw [HY.out])
          go_wp2_with fail
          go_roundw
          case rel =>
            refine ⟨i + 1, _, z ++ y, rfl, rfl, by rw [HL.out]; omega, ?_, rfl⟩
            rw [HTK.out, ByteArray.data_append, Array.toList_append, HZ.out, HEX.out, HK.out]
            simp [escL, escC]
          case measure => simp [intOf]; omega
    · have hk2 : s.data.toList.take i = s.data.toList := List.take_of_length_le (by rw [HL.out]; omega)
      have HK := Lib.hid hk2
      clear hk2
      go_wp2
      go_ret
      refine ⟨?_, below_drewN (Below.refl _ _) _⟩
      exact congrArg (fun l : List UInt8 => Ending.returned (Value.string ⟨l.toArray⟩)) (HX.out.trans (by rw [HK.out]))
end Go.Proofs.YtbcfhpomclkccaaDoor
