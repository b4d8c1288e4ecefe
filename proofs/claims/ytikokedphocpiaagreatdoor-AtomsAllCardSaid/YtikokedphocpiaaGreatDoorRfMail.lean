/- The reference's in, alnum, address, mail. -/
import Derived.Test.YtikokedphocpiaaGreatDoorRfAttr
import Derived.Test.YtikokedphocpiaaGreatDoorAtAuto
namespace Go.Proofs.YtikokedphocpiaaGreatDoor
open Go.RowKit

def InW (w : World) (x : ByteArray) (c : UInt8) (v : Value) (wr : World) : Prop := ∃ k : Nat, v = .int .i64 k ∧ k ≤ x.size ∧ (∀ j (h : j < x.size), j < k → x[j] ≠ c) ∧ wr = w
set_option maxHeartbeats 1000000 in
set_option maxRecDepth 100000 in
theorem refin_any (c : UInt8) (x : ByteArray) (w : World) (hx : x.size ≤ 1000) : Calls Tryz.prog 63 #[.int .u8 (c.toNat : Int), .string x] w (RB w (decide (0 ≤ Lib.indexByte x.data.toList c))) := by
  obtain ⟨B, hB⟩ : ∃ B, decide (0 ≤ Lib.indexByte x.data.toList c) = B := ⟨_, rfl⟩
  rw [hB]
  have hBm : B = decide (c ∈ x.data.toList) := by rw [← hB]; exact decide_eq_decide.2 (indexByte_has _ _)
  have HBM := Lib.hid hBm
  clear hB hBm
  go_enter Tryz.func63, Tryz.ntmps63
  go_wp2_with fail
  go_loopw [5] (fun v wr => InW w x c v wr) (fun v _ => x.size - (intOf v).toNat)
  case atStart => exact ⟨0, rfl, Nat.zero_le _, fun j _ h => by omega, rfl⟩
  case round =>
    obtain ⟨k, rfl, hk, hj, rfl⟩ := hrel
    have HJ := Lib.hid hj
    clear hj
    by_cases h2 : k < x.size
    · have z2 : (k : Int) < (x.size : Int) := by omega
      obtain ⟨y, hy⟩ : ∃ y, x[k] = y := ⟨_, rfl⟩
      have HY := Lib.hid hy
      have yc : ((x[k].toNat : Int) == (c.toNat : Int)) = (y == c) := by rw [hy]; exact beqc y c
      cases hyc : (y == c) with
      | true =>
        rw [hyc] at yc
        have hB1 : B = true := by
          rw [HBM.out, decide_eq_true_iff]
          have e : y = c := by simpa using hyc
          rw [← e, ← hy]
          exact List.getElem_mem (by rw [Array.length_toList]; exact h2)
        subst hB1
        clear hyc hy
        go_wp2
        go_ret
        exact ⟨rfl, rfl⟩
      | false =>
        rw [hyc] at yc
        have HC := Lib.hid hyc
        clear hyc hy
        go_wp2
        exact ⟨⟨k + 1, by go_num, h2, fun j h h3 => by
          rcases Nat.lt_or_ge j k with h4 | h4
          · exact HJ.out j h h4
          · have e : j = k := by omega
            subst e
            rw [HY.out]
            intro e2
            have := HC.out
            rw [e2] at this
            simp at this, rfl⟩, by simp [intOf]; omega⟩
    · have z2 : ¬ (k : Int) < (x.size : Int) := by omega
      have hB1 : B = false := by
        rw [HBM.out, decide_eq_false_iff_not]
        intro hm
        obtain ⟨j, hj, e⟩ := List.getElem_of_mem hm
        have hjs : j < x.size := by rw [Array.length_toList] at hj; exact hj
        exact HJ.out j hjs (by omega) e
      subst hB1
      clear h2
      go_wp2
      go_ret
      exact ⟨rfl, rfl⟩
theorem refalnum_any (b : UInt8) (w : World) : Calls Tryz.prog 62 #[.int .u8 (b.toNat : Int)] w (RB w (wordB b)) := by
  unfold wordB
  cases hl : letter b with
  | true =>
    have HL := Lib.hid hl
    clear hl
    go_enter Tryz.func62, Tryz.ntmps62
    go_wp2_with fail
    refine Calls.mono (refletter_any b _) ?_
    rintro e w' ⟨rfl, rfl⟩
    rw [HL.out]
    go_wp2
    go_ret
    exact ⟨rfl, rfl⟩
  | false =>
    have HL := Lib.hid hl
    obtain ⟨B, hB⟩ : ∃ B, digit b = B := ⟨_, rfl⟩
    rw [hB]
    have HB := Lib.hid hB
    clear hl hB
    go_enter Tryz.func62, Tryz.ntmps62
    go_wp2_with fail
    refine Calls.mono (refletter_any b _) ?_
    rintro e w' ⟨rfl, rfl⟩
    rw [HL.out]
    go_wp2_with fail
    refine Calls.mono (refdigit_any b _) ?_
    rintro e w' ⟨rfl, rfl⟩
    rw [HB.out]
    go_wp2
    go_ret
    exact ⟨rfl, rfl⟩
def refAddrB (l : List UInt8) : Bool := decide (2 ≤ run (inB (⟨#[43, 46, 45]⟩ : ByteArray).data.toList) l 0) && decide (run (inB (⟨#[43, 46, 45]⟩ : ByteArray).data.toList) l 0 ≤ 32) && headB l && condR l (fun b => b == 58) (run (inB (⟨#[43, 46, 45]⟩ : ByteArray).data.toList) l 0)
set_option maxHeartbeats 4000000 in
set_option maxRecDepth 100000 in
theorem refaddr_any (s : ByteArray) (w : World) (hs : s.size ≤ 1099511627) : Calls Tryz.prog 29 #[.string s] w (RB w (refAddrB s.data.toList)) := by
  have hsl : s.data.toList.length = s.size := Array.length_toList
  obtain ⟨l, hl⟩ : ∃ l, s.data.toList = l := ⟨_, rfl⟩
  rw [hl] at hsl ⊢
  have hget : ∀ (k : Nat) (h : k < s.size), l[k]? = some s[k] := fun k h => by rw [← hl]; exact get_list s k h
  have HSL := Lib.hid hsl
  have HGET := Lib.hid hget
  obtain ⟨p, hp⟩ : ∃ p, inB (⟨#[43, 46, 45]⟩ : ByteArray).data.toList = p := ⟨_, rfl⟩
  have hpx : ∀ b, p b = (wordB b || decide (0 ≤ Lib.indexByte (⟨#[43, 46, 45]⟩ : ByteArray).data.toList b)) := fun b => by rw [← hp]; rfl
  obtain ⟨E, hE⟩ : ∃ E, refAddrB l = E := ⟨_, rfl⟩
  rw [hE]
  unfold refAddrB at hE
  rw [hp] at hE
  have HE := Lib.hid hE
  have HPX := Lib.hid hpx
  clear hsl hget hE hp hpx hl
  go_enter Tryz.func29, Tryz.ntmps29
  go_wp2_with fail
  go_loopw [3] (fun v wr => RunW w p l 0 v wr) (fun v _ => s.size - (intOf v).toNat)
  case atStart => exact ⟨0, rfl, Nat.zero_le _, rfl, rfl⟩
  case round =>
    obtain ⟨k, rfl, hk, hrr, rfl⟩ := hrel
    have hks : k ≤ s.size := by have := HSL.out; omega
    have HR := Lib.hid hrr
    clear hrr hk
    obtain ⟨C, hC⟩ : ∃ C, condR l p k = C := ⟨_, rfl⟩
    have HC := Lib.hid hC
    clear hC
    go_upto_region 2 with fail
    go_cut [19] (fun st wx => st = .bool C ∧ wx = wr)
    case first =>
      by_cases h2 : k < s.size
      · have z2 : decide (k < s.size) = true := by simp; omega
        have z3 : (k : Int) < (s.size : Int) := by omega
        have hc := condR_some (p := p) (HGET.out k h2)
        rw [HC.out, HPX.out] at hc
        obtain ⟨x, hx⟩ : ∃ x, s[k] = x := ⟨_, rfl⟩
        have HX := Lib.hid hx
        rw [hx] at hc
        clear hx
        cases hl : wordB x with
        | true =>
          have hc2 : C = true := by rw [hc, hl]; rfl
          have HL := Lib.hid hl
          subst hc2
          clear hc hl
          go_wp2_with fail
          rw [HX.out]
          refine Calls.mono (refalnum_any x _) ?_
          rintro e w' ⟨rfl, rfl⟩
          rw [HL.out]
          go_wp2_with fail
          go_meet
          exact ⟨rfl, rfl⟩
        | false =>
          have hc2 : decide (0 ≤ Lib.indexByte (⟨#[43, 46, 45]⟩ : ByteArray).data.toList x) = C := by rw [hc, hl]; rfl
          have hI := fun w' => refin_any x ⟨#[43, 46, 45]⟩ w' (by decide)
          rw [hc2] at hI
          have HI := Lib.hid hI
          have HL := Lib.hid hl
          clear hc hl hc2 hI
          go_wp2_with fail
          rw [HX.out]
          refine Calls.mono (refalnum_any x _) ?_
          rintro e w' ⟨rfl, rfl⟩
          rw [HL.out]
          go_wp2_with fail
          rw [HX.out]
          refine Calls.mono (HI.out _) ?_
          rintro e w' ⟨rfl, rfl⟩
          go_wp2_with fail
          go_meet
          exact ⟨rfl, rfl⟩
      · have z2 : decide (k < s.size) = false := by simp; omega
        have z3 : ¬ (k : Int) < (s.size : Int) := by omega
        have hc2 : C = false := by rw [← HC.out, condR_none (by rw [HSL.out]; omega)]
        subst hc2
        clear h2
        go_wp2_with fail
        go_meet
        exact ⟨rfl, rfl⟩
    case rest =>
      obtain ⟨rfl, rfl⟩ := hcut
      cases hCv : C with
      | true =>
        have hy := run_cond_yes (HC.out.trans hCv)
        have HY := Lib.hid hy
        clear hCv hy
        go_wp2
        exact ⟨⟨k + 1, by go_num, HY.out.1, by rw [HR.out, HY.out.2], rfl⟩, by have := HY.out.1; have := HSL.out; simp [intOf]; omega⟩
      | false =>
        have hy := run_cond_no (HC.out.trans hCv)
        have hrun : run p l 0 = k := by rw [HR.out, hy]
  
        have hEk := HE.out
        rw [hrun] at hEk
        have HEK := Lib.hid hEk
        clear hCv hy hrun hEk HE HC HR
        by_cases g1 : 2 ≤ k
        · by_cases g2 : k ≤ 32
          · have y1 : (2 : Int) ≤ (k : Int) := by omega
            have y2 : (k : Int) ≤ 32 := by omega
            have y0 : (0 : Int) < (s.size : Int) := by omega
            have hh : headB l = letter (s[0]'(by omega)) := by
              have := HGET.out 0 (by omega)
              cases l with
              | nil => cases this
              | cons a r => exact congrArg letter (Option.some.inj this)
            have hE2 : E = (letter (s[0]'(by omega)) && condR l (fun b => b == 58) k) := by rw [← HEK.out, hh, decide_eq_true g1, decide_eq_true g2]; rfl
            cases hl0 : letter (s[0]'(by omega)) with
            | true =>
              rw [hl0, Bool.true_and] at hE2
              have HL0 := Lib.hid hl0
              by_cases g3 : k < s.size
              · have y3 : decide (k < s.size) = true := by simp; omega
                have y4 : (k : Int) < (s.size : Int) := by omega
                obtain ⟨x, hx⟩ : ∃ x, s[k] = x := ⟨_, rfl⟩
                have hE3 : E = (x == 58) := by rw [hE2, condR_some (HGET.out k g3), hx]
                have y58 : ((s[k].toNat : Int) == 58) = (x == 58) := by rw [hx]; exact beqc x 58
                rw [← hE3] at y58
                clear hE2 hE3 hx hh hl0
                go_wp2_with fail
                refine Calls.mono (refletter_any _ _) ?_
                rintro e w' ⟨rfl, rfl⟩
                rw [HL0.out]
                go_wp2
                go_ret
                exact ⟨rfl, rfl⟩
              · have y3 : decide (k < s.size) = false := by simp; omega
                have y4 : ¬ (k : Int) < (s.size : Int) := by omega
                have hE3 : E = false := by rw [hE2, condR_none (by rw [HSL.out]; omega)]
                subst hE3
                clear hE2 g3 hh hl0
                go_wp2_with fail
                refine Calls.mono (refletter_any _ _) ?_
                rintro e w' ⟨rfl, rfl⟩
                rw [HL0.out]
                go_wp2
                go_ret
                exact ⟨rfl, rfl⟩
            | false =>
              have hE3 : E = false := by rw [hE2, hl0]; rfl
              have HL0 := Lib.hid hl0
              subst hE3
              clear hE2 hh hl0
              go_wp2_with fail
              refine Calls.mono (refletter_any _ _) ?_
              rintro e w' ⟨rfl, rfl⟩
              rw [HL0.out]
              go_wp2
              go_ret
              exact ⟨rfl, rfl⟩
          · have y1 : (2 : Int) ≤ (k : Int) := by omega
            have y2 : ¬ (k : Int) ≤ 32 := by omega
            have y2d : decide (k ≤ 32) = false := by simp; omega
            have hE3 : E = false := by rw [← HEK.out, decide_eq_false g2, Bool.and_false]; rfl
            subst hE3
            clear g1 g2
            go_wp2
            go_ret
            exact ⟨rfl, rfl⟩
        · have y1 : ¬ (2 : Int) ≤ (k : Int) := by omega
          have y1d : decide (2 ≤ k) = false := by simp; omega
          have hE3 : E = false := by rw [← HEK.out, decide_eq_false g1]; rfl
          subst hE3
          clear g1
          go_wp2
          go_ret
          exact ⟨rfl, rfl⟩
def okP (p : List UInt8) : Bool := !p.isEmpty && decide (p.length ≤ 63) && !(p.head? == some 45) && !(p.getLast? == some 45)
def hostL : List UInt8 → List UInt8 → Bool
  | _, [] => true
  | p, c :: r => if c = 46 then (if okP p = true then hostL [] r else false) else (if hostB c = true then hostL (p ++ [c]) r else false)
def refMailB (l : List UInt8) : Bool := if run (inB (⟨#[46, 33, 35, 36, 37, 38, 39, 42, 43, 47, 61, 63, 94, 95, 123, 124, 125, 126, 45, 96]⟩ : ByteArray).data.toList) l 0 = 0 then false else if condR l (fun b => b == 64) (run (inB (⟨#[46, 33, 35, 36, 37, 38, 39, 42, 43, 47, 61, 63, 94, 95, 123, 124, 125, 126, 45, 96]⟩ : ByteArray).data.toList) l 0) = true then hostL [] (l.drop (run (inB (⟨#[46, 33, 35, 36, 37, 38, 39, 42, 43, 47, 61, 63, 94, 95, 123, 124, 125, 126, 45, 96]⟩ : ByteArray).data.toList) l 0 + 1) ++ [46]) else false
theorem app_list (a b : ByteArray) : (a ++ b).data.toList = a.data.toList ++ b.data.toList := by rw [ByteArray.data_append, Array.toList_append]
def HostW (w : World) (T : ByteArray) (E : Bool) (v4 v5 : Value) (wr : World) : Prop := ∃ (k : Nat) (P : ByteArray), v4 = .string P ∧ v5 = .int .i64 (k : Int) ∧ k ≤ T.size ∧ P.size ≤ k ∧ hostL P.data.toList (T.data.toList.drop k) = E ∧ wr = w
set_option maxHeartbeats 8000000 in
set_option maxRecDepth 100000 in
theorem refmail_any (s : ByteArray) (w : World) (hs : s.size ≤ 1099511627) : Calls Tryz.prog 30 #[.string s] w (RB w (refMailB s.data.toList)) := by
  have hsl : s.data.toList.length = s.size := Array.length_toList
  obtain ⟨l, hl⟩ : ∃ l, s.data.toList = l := ⟨_, rfl⟩
  rw [hl] at hsl ⊢
  have hget : ∀ (k : Nat) (h : k < s.size), l[k]? = some s[k] := fun k h => by rw [← hl]; exact get_list s k h
  have HSL := Lib.hid hsl
  have HGET := Lib.hid hget
  obtain ⟨p, hp⟩ : ∃ p, inB (⟨#[46, 33, 35, 36, 37, 38, 39, 42, 43, 47, 61, 63, 94, 95, 123, 124, 125, 126, 45, 96]⟩ : ByteArray).data.toList = p := ⟨_, rfl⟩
  have hpx : ∀ b, p b = (wordB b || decide (0 ≤ Lib.indexByte (⟨#[46, 33, 35, 36, 37, 38, 39, 42, 43, 47, 61, 63, 94, 95, 123, 124, 125, 126, 45, 96]⟩ : ByteArray).data.toList b)) := fun b => by rw [← hp]; rfl
  obtain ⟨E, hE⟩ : ∃ E, refMailB l = E := ⟨_, rfl⟩
  rw [hE]
  unfold refMailB at hE
  rw [hp] at hE
  have HE := Lib.hid hE
  have HPX := Lib.hid hpx
  have HL := Lib.hid hl
  clear hsl hget hE hp hpx hl
  go_enter Tryz.func30, Tryz.ntmps30
  go_wp2_with fail
  go_loopw [3] (fun v wr => RunW w p l 0 v wr) (fun v _ => s.size - (intOf v).toNat)
  case atStart => exact ⟨0, rfl, Nat.zero_le _, rfl, rfl⟩
  case round =>
    obtain ⟨k, rfl, hk, hrr, rfl⟩ := hrel
    have hks : k ≤ s.size := by have := HSL.out; omega
    have HR := Lib.hid hrr
    clear hrr hk
    obtain ⟨C, hC⟩ : ∃ C, condR l p k = C := ⟨_, rfl⟩
    have HC := Lib.hid hC
    clear hC
    go_upto_region 2 with fail
    go_cut [23] (fun st wx => st = .bool C ∧ wx = wr)
    case first =>
      by_cases h2 : k < s.size
      · have z2 : decide (k < s.size) = true := by simp; omega
        have z3 : (k : Int) < (s.size : Int) := by omega
        have hc := condR_some (p := p) (HGET.out k h2)
        rw [HC.out, HPX.out] at hc
        obtain ⟨x, hx⟩ : ∃ x, s[k] = x := ⟨_, rfl⟩
        have HX := Lib.hid hx
        rw [hx] at hc
        clear hx
        cases hl : wordB x with
        | true =>
          have hc2 : C = true := by rw [hc, hl]; rfl
          have HL := Lib.hid hl
          subst hc2
          clear hc hl
          go_wp2_with fail
          rw [HX.out]
          refine Calls.mono (refalnum_any x _) ?_
          rintro e w' ⟨rfl, rfl⟩
          rw [HL.out]
          go_wp2_with fail
          go_meet
          exact ⟨rfl, rfl⟩
        | false =>
          have hc2 : decide (0 ≤ Lib.indexByte (⟨#[46, 33, 35, 36, 37, 38, 39, 42, 43, 47, 61, 63, 94, 95, 123, 124, 125, 126, 45, 96]⟩ : ByteArray).data.toList x) = C := by rw [hc, hl]; rfl
          have hI := fun w' => refin_any x ⟨#[46, 33, 35, 36, 37, 38, 39, 42, 43, 47, 61, 63, 94, 95, 123, 124, 125, 126, 45, 96]⟩ w' (by decide)
          rw [hc2] at hI
          have HI := Lib.hid hI
          have HL := Lib.hid hl
          clear hc hl hc2 hI
          go_wp2_with fail
          rw [HX.out]
          refine Calls.mono (refalnum_any x _) ?_
          rintro e w' ⟨rfl, rfl⟩
          rw [HL.out]
          go_wp2_with fail
          rw [HX.out]
          refine Calls.mono (HI.out _) ?_
          rintro e w' ⟨rfl, rfl⟩
          go_wp2_with fail
          go_meet
          exact ⟨rfl, rfl⟩
      · have z2 : decide (k < s.size) = false := by simp; omega
        have z3 : ¬ (k : Int) < (s.size : Int) := by omega
        have hc2 : C = false := by rw [← HC.out, condR_none (by rw [HSL.out]; omega)]
        subst hc2
        clear h2
        go_wp2_with fail
        go_meet
        exact ⟨rfl, rfl⟩
    case rest =>
      obtain ⟨rfl, rfl⟩ := hcut
      cases hCv : C with
      | true =>
        have hy := run_cond_yes (HC.out.trans hCv)
        have HY := Lib.hid hy
        clear hCv hy
        go_wp2
        exact ⟨⟨k + 1, by go_num, HY.out.1, by rw [HR.out, HY.out.2], rfl⟩, by have := HY.out.1; have := HSL.out; simp [intOf]; omega⟩
      | false =>
        have hy := run_cond_no (HC.out.trans hCv)
        have hrun : run p l 0 = k := by rw [HR.out, hy]
  
        have hEk := HE.out
        rw [hrun] at hEk
        have HEK := Lib.hid hEk
        clear hCv hy hrun hEk HE HC HR
        by_cases g1 : k = 0
        · have hE3 : E = false := by rw [← HEK.out, if_pos g1]
          subst hE3
          subst g1
          go_wp2
          go_ret
          exact ⟨rfl, rfl⟩
        · have y1 : ((k : Int) == 0) = false := by rw [beq_eq_false_iff_ne]; omega
          have hE1 := HEK.out
          rw [if_neg g1] at hE1
          by_cases g3 : k < s.size
          · have y3 : decide (s.size ≤ k) = false := by simp; omega
            have y4 : (k : Int) < (s.size : Int) := by omega
            obtain ⟨x, hx⟩ : ∃ x, s[k] = x := ⟨_, rfl⟩
            rw [condR_some (HGET.out k g3), hx] at hE1
            have y64 : ((s[k].toNat : Int) != 64) = (x != 64) := by rw [hx]; exact bnec x 64
            cases h64 : (x == 64) with
            | false =>
              have hE3 : E = false := by rw [← hE1, h64]; rfl
              rw [show (x != 64) = true by unfold bne; rw [h64]; rfl] at y64
              subst hE3
              clear hE1 hx h64 HEK
              go_wp2
              go_ret
              exact ⟨rfl, rfl⟩
            | true =>
              rw [h64, if_pos rfl] at hE1
              rw [show (x != 64) = false by unfold bne; rw [h64]; rfl] at y64
              obtain ⟨X, hX⟩ : ∃ X, s.extract (k + 1) s.size = X := ⟨_, rfl⟩
              have hXl : X.data.toList = l.drop (k + 1) := by rw [← hX, ext_drop, HL.out]
              have hXs : X.size ≤ s.size := by rw [← hX, ByteArray.size_extract]; omega
              obtain ⟨T, hT⟩ : ∃ T, X ++ ⟨#[46]⟩ = T := ⟨_, rfl⟩
              have hTl : T.data.toList = l.drop (k + 1) ++ [46] := by rw [← hT, app_list, hXl]
              have hTs : T.size = X.size + 1 := by rw [← hT, ByteArray.size_append]; rfl
              rw [← hTl] at hE1
              have HE1 := Lib.hid hE1
              have HX := Lib.hid hX
              have HT := Lib.hid hT
              have HTL := Lib.hid (show T.data.toList.length = T.size from Array.length_toList)
              have hTb : T.size ≤ 1099511628 := by omega
              have hs1 : ¬ (9223372036854775807 < X.size + (⟨#[46]⟩ : ByteArray).size) := by show ¬ (_ < X.size + 1); omega
              have yk1 : (k : Int) + 1 ≤ (s.size : Int) := by omega
              clear hE1 hx h64 HEK hX hXl hXs hT hTl hTs
              go_wp2_with fail
              rw [HX.out, HT.out]
              go_loopw [4, 5, 6, 7] (fun v4 v5 _ _ wx => HostW wc T E v4 v5 wx) (fun _ v5 _ _ _ => T.size - (intOf v5).toNat)
              case atStart => exact ⟨0, _, rfl, rfl, Nat.zero_le _, Nat.le_refl _, by rw [List.drop_zero]; exact HE1.out, rfl⟩
              case round =>
                obtain ⟨j, P, rfl, rfl, hj, hP, hE2, rfl⟩ := hrel
                by_cases h2 : j < T.size
                · have z3 : (j : Int) < (T.size : Int) := by omega
                  have hjl : j < T.data.toList.length := by rw [HTL.out]; exact h2
                  obtain ⟨c, hc⟩ : ∃ c, T[j] = c := ⟨_, rfl⟩
                  have hex := ext_one T j h2
                  rw [hc] at hex
                  rw [List.drop_eq_getElem_cons hjl, show T.data.toList[j] = c from hc, hostL] at hE2
                  have hPl : P.data.toList.length = P.size := Array.length_toList
                  have y46 : ((T[j].toNat : Int) == 46) = (c == 46) := by rw [hc]; exact beqc c 46
                  have HC := Lib.hid hc
                  by_cases h46 : c = 46
                  · rw [if_pos h46] at hE2
                    rw [beq_yes h46] at y46
                    clear hc hex h46
                    by_cases p0 : P.size = 0
                    · have hE3 : E = false := by
                        rw [← hE2, if_neg]
                        have : P.data.toList = [] := List.eq_nil_of_length_eq_zero (by omega)
                        rw [this]
                        decide
                      have zp : ((P.size : Int) == 0) = true := by rw [p0]; rfl
                      subst hE3
                      clear hE2 hPl p0
                      go_wp2
                      go_ret
                      exact ⟨rfl, rfl⟩
                    · have zp : ((P.size : Int) == 0) = false := by rw [beq_eq_false_iff_ne]; omega
                      by_cases p1 : P.size ≤ 63
                      · have zq : decide ((63 : Int) < (P.size : Int)) = false := by simp; omega
                        have zq2 : decide (63 < P.size) = false := by simp; omega
                        have zi : (0 : Int) < (P.size : Int) := by omega
                        have hi0 : 0 < P.size := by clear hPl; omega
                        have hi1 : P.size - 1 < P.size := by clear hPl; omega
                        have hh : P.data.toList.head? = some (P[0]'hi0) := by rw [List.head?_eq_getElem?]; exact get_list P 0 hi0
                        have hla : P.data.toList.getLast? = some (P[P.size - 1]'hi1) := by rw [List.getLast?_eq_getElem?, hPl]; exact get_list P (P.size - 1) hi1
                        obtain ⟨a, ha⟩ : ∃ a, P[0]'hi0 = a := ⟨_, rfl⟩
                        obtain ⟨b, hb⟩ : ∃ b, P[P.size - 1]'hi1 = b := ⟨_, rfl⟩
                        rw [ha] at hh
                        rw [hb] at hla
                        have hok : okP P.data.toList = (!(a == 45) && !(b == 45)) := by
                          unfold okP
                          rw [hh, hla, hPl, decide_eq_true p1]
                          have : P.data.toList.isEmpty = false := by
                            cases hq : P.data.toList with
                            | nil => rw [hq] at hh; cases hh
                            | cons _ _ => rfl
                          rw [this]
                          rfl
                        have ya : (((P[0]'hi0).toNat : Int) == 45) = (a == 45) := by rw [ha]; exact beqc a 45
                        have hsub : ((P.size : Int) - 1).toNat = P.size - 1 := by omega
                        have hsub2 : (P.size : Int) - 1 < (P.size : Int) := by omega
                        have hsub3 : (0 : Int) ≤ (P.size : Int) - 1 := by omega
                        have yb : (((P[P.size - 1]'hi1).toNat : Int) == 45) = (b == 45) := by rw [hb]; exact beqc b 45
                        cases h45 : (a == 45) with
                        | true =>
                          have hE3 : E = false := by rw [← hE2, hok, h45]; rfl
                          rw [h45] at ya
                          subst hE3
                          clear hE2 hPl hh hla hok ha hb h45
                          go_wp2
                          go_ret
                          exact ⟨rfl, rfl⟩
                        | false =>
                          rw [h45] at ya
                          cases h45b : (b == 45) with
                          | true =>
                            have hE3 : E = false := by rw [← hE2, hok, h45, h45b]; rfl
                            rw [h45b] at yb
                            subst hE3
                            clear hE2 hPl hh hla hok ha hb h45 h45b
                            go_wp2
                            go_ret
                            exact ⟨rfl, rfl⟩
                          | false =>
                            rw [h45b] at yb
                            have HE3 := Lib.hid (show hostL [] (T.data.toList.drop (j + 1)) = E by rw [← hE2, hok, h45, h45b]; rfl)
                            clear hE2 hPl hh hla hok ha hb h45 h45b
                            go_wp2
                            exact ⟨⟨j + 1, _, rfl, by go_num, h2, Nat.zero_le _, HE3.out, rfl⟩, by simp [intOf]; omega⟩
                      · have hE3 : E = false := by
                          rw [← hE2, if_neg]
                          unfold okP
                          rw [hPl, decide_eq_false p1, Bool.and_false]
                          simp
                        have zq : (63 : Int) < (P.size : Int) := by omega
                        subst hE3
                        clear hE2 hPl p1
                        go_wp2
                        go_ret
                        exact ⟨rfl, rfl⟩
                  · rw [if_neg h46] at hE2
                    rw [beq_no h46] at y46
                    have hs2 : ¬ (9223372036854775807 < P.size + (⟨#[c]⟩ : ByteArray).size) := by show ¬ (_ < P.size + 1); omega
                    have hPs : (P ++ ⟨#[c]⟩).size = P.size + 1 := by rw [ByteArray.size_append]; rfl
                    have hPl2 : (P ++ ⟨#[c]⟩).data.toList = P.data.toList ++ [c] := by rw [app_list]
                    have y45 : ((c.toNat : Int) == 45) = (c == 45) := beqc c 45
                    have HPS := Lib.hid hPs
                    have HPL2 := Lib.hid hPl2
                    have HEX := Lib.hid hex
                    have HE2 := Lib.hid hE2
                    clear hPs hPl2 hE2 hPl hc hex h46
                    have hHB : hostB c = (wordB c || (c == 45)) := rfl
                    cases hw : wordB c with
                    | true =>
                      have HW := Lib.hid hw
                      have HE3 := Lib.hid (show hostL (P.data.toList ++ [c]) (T.data.toList.drop (j + 1)) = E by rw [← HE2.out, hHB, hw]; rfl)
                      clear hw hHB
                      go_wp2_with fail
                      rw [HC.out]
                      refine Calls.mono (refalnum_any c _) ?_
                      rintro e w' ⟨rfl, rfl⟩
                      rw [HW.out]
                      go_wp2
                      rw [HEX.out]
                      exact ⟨⟨j + 1, _, rfl, by go_num, h2, by rw [HPS.out]; omega, by rw [HPL2.out]; exact HE3.out, rfl⟩, by simp [intOf]; omega⟩
                    | false =>
                      have HW := Lib.hid hw
                      cases h45 : (c == 45) with
                      | true =>
                        rw [h45] at y45
                        have HE3 := Lib.hid (show hostL (P.data.toList ++ [c]) (T.data.toList.drop (j + 1)) = E by rw [← HE2.out, hHB, hw, h45]; rfl)
                        clear hw hHB h45
                        go_wp2_with fail
                        rw [HC.out]
                        refine Calls.mono (refalnum_any c _) ?_
                        rintro e w' ⟨rfl, rfl⟩
                        rw [HW.out]
                        go_wp2
                        rw [HEX.out]
                        exact ⟨⟨j + 1, _, rfl, by go_num, h2, by rw [HPS.out]; omega, by rw [HPL2.out]; exact HE3.out, rfl⟩, by simp [intOf]; omega⟩
                      | false =>
                        rw [h45] at y45
                        have hE3 : E = false := by rw [← HE2.out, hHB, hw, h45]; rfl
                        subst hE3
                        clear hw hHB h45 HE2
                        go_wp2_with fail
                        rw [HC.out]
                        refine Calls.mono (refalnum_any c _) ?_
                        rintro e w' ⟨rfl, rfl⟩
                        rw [HW.out]
                        go_wp2
                        go_ret
                        exact ⟨rfl, rfl⟩
                · have z3 : ¬ (j : Int) < (T.size : Int) := by omega
                  have hE3 : E = true := by rw [← hE2, List.drop_eq_nil_of_le (by rw [HTL.out]; omega)]; rfl
                  subst hE3
                  clear hE2 h2
                  go_wp2
                  go_ret
                  exact ⟨rfl, rfl⟩
          · have y3 : decide (s.size ≤ k) = true := by simp; omega
            have hE3 : E = false := by rw [← hE1, condR_none (by rw [HSL.out]; omega)]; rfl
            subst hE3
            clear hE1 g3 HEK
            go_wp2
            go_ret
            exact ⟨rfl, rfl⟩
end Go.Proofs.YtikokedphocpiaaGreatDoor
