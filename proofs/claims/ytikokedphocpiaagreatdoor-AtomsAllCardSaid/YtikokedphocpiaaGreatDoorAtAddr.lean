/- atoms.address: does a text begin with a scheme, and go on without blanks? -/
import Derived.Test.YtikokedphocpiaaGreatDoorAtAll
import Derived.Test.YtikokedphocpiaaGreatDoorShelf
namespace Go.Proofs.YtikokedphocpiaaGreatDoor
open Go.RowKit

def RBd (w : World) (v : Bool) (e : Ending) (w' : World) : Prop := e = .returned (.bool v) ∧ ∃ d, w' = w.drewN d
def headB (l : List UInt8) : Bool := match l with
  | [] => false
  | b :: _ => letter b
def addrC (c : List UInt8 × List UInt8 × Bool) : Bool := c.2.2 && decide (2 ≤ c.1.length) && decide (c.1.length ≤ 32) && headB c.1 && allB (inB (⟨#[43, 46, 45]⟩ : ByteArray).data.toList) c.1 && allB restB c.2.1
def addrB (l : List UInt8) : Bool := addrC (Lib.cut l [58])
theorem cut_le (l sep : List UInt8) : (Lib.cut l sep).1.length ≤ l.length ∧ (Lib.cut l sep).2.1.length ≤ l.length := by
  unfold Lib.cut
  split
  · exact ⟨by rw [List.length_take]; omega, by rw [List.length_drop]; omega⟩
  · exact ⟨Nat.le_refl _, Nat.zero_le _⟩
theorem RBd.mk' {w : World} {v : Bool} {e : Ending} {w' : World} (h : e = .returned (.bool v)) (d : Nat) (hw : w' = w.drewN d) : RBd w v e w' := ⟨h, d, hw⟩

set_option maxHeartbeats 4000000 in
set_option maxRecDepth 100000 in
theorem address_any (s : ByteArray) (m : Int) (w : World) (hs : s.size < 4294967281) (hm : w.cell? ⟨0, 0, none⟩ = some (.int .i64 m)) : Calls Tryz.prog 27 #[.string s] w (RBd w (addrB s.data.toList)) := by
  have hc := Tryz.strings_Cut s ⟨#[58]⟩ m w hs hm
  have hle := cut_le s.data.toList [58]
  unfold addrB
  rw [show (⟨#[58]⟩ : ByteArray).data.toList = [58] from rfl] at hc
  obtain ⟨c, hcc⟩ : ∃ c, Lib.cut s.data.toList [58] = c := ⟨_, rfl⟩
  rw [hcc] at hc hle ⊢
  obtain ⟨sc, rc, ib⟩ := c
  obtain ⟨S, hS⟩ : ∃ S : ByteArray, (⟨sc.toArray⟩ : ByteArray) = S := ⟨_, rfl⟩
  obtain ⟨R, hR⟩ : ∃ R : ByteArray, (⟨rc.toArray⟩ : ByteArray) = R := ⟨_, rfl⟩
  obtain rfl : S.data.toList = sc := by rw [← hS]
  obtain rfl : R.data.toList = rc := by rw [← hR]
  clear hS hR
  have hSs : S.size ≤ 4294967281 := by have := hle.1; have e : S.data.toList.length = S.size := Array.length_toList; have e2 : s.data.toList.length = s.size := Array.length_toList; simp only at this; omega
  have hRs : R.size ≤ 4294967281 := by have := hle.2; have e : R.data.toList.length = R.size := Array.length_toList; have e2 : s.data.toList.length = s.size := Array.length_toList; simp only at this; omega
  have hSl : S.data.toList.length = S.size := Array.length_toList
  have hc2 : Calls Tryz.prog 26 #[.string s, .string ⟨#[58]⟩] w fun e w' => e = .returned (.tuple #[.string S, .string R, .bool ib]) ∧ ∃ n, w' = w.drewN n := hc
  have HC := Lib.hid hc2
  have HSL := Lib.hid hSl
  clear hc hc2 hle hcc hSl hm
  cases ib with
  | false =>
    have hv : addrC (S.data.toList, R.data.toList, false) = false := by unfold addrC; simp []
    rw [hv]
    clear hv 
    go_enter Tryz.func27, Tryz.ntmps27
    go_wp2_with fail
    refine Calls.mono HC.out ?_
    rintro e w1 ⟨rfl, d, rfl⟩
    go_wp2
    go_ret
    exact ⟨rfl, _, rfl⟩
  | true =>
    by_cases h2 : 2 ≤ S.size
    · have z2 : decide ((2 : Int) ≤ (S.size : Int)) = true := by simp; omega
      by_cases h32 : S.size ≤ 32
      · have z3 : decide ((S.size : Int) ≤ 32) = true := by simp; omega
        have h0 : 0 < S.size := by omega
        have hhd : headB S.data.toList = letter S[0] := by
          have e : S.data.toList = S[0] :: S.data.toList.drop 1 := by
            have := List.drop_eq_getElem_cons (l := S.data.toList) (i := 0) (by rw [HSL.out]; exact h0)
            rw [List.drop_zero] at this
            exact this
          rw [e]
          rfl
        have e2 : 2 ≤ S.data.toList.length := by rw [HSL.out]; exact h2
        have e3 : S.data.toList.length ≤ 32 := by rw [HSL.out]; exact h32
        cases hlt : letter S[0] with
        | false =>
          rw [hlt] at hhd
          have HLT := Lib.hid hlt
          have hv : addrC (S.data.toList, R.data.toList, true) = false := by unfold addrC; simp [hhd]
          rw [hv]
          clear hv hhd hlt e2 e3 h2 h32
          go_enter Tryz.func27, Tryz.ntmps27
          go_wp2_with fail
          refine Calls.mono HC.out ?_
          rintro e w1 ⟨rfl, d, rfl⟩
          go_wp2_with fail
          refine Calls.mono (letter_any _ _) ?_
          rintro e w' ⟨rfl, rfl⟩
          rw [HLT.out]
          go_wp2
          go_ret
          exact ⟨rfl, _, rfl⟩
        | true =>
          rw [hlt] at hhd
          have HLT := Lib.hid hlt
          cases ha1 : allB (inB (⟨#[43, 46, 45]⟩ : ByteArray).data.toList) S.data.toList with
          | false =>
            have HA1 := Lib.hid ha1
            have hv : addrC (S.data.toList, R.data.toList, true) = false := by unfold addrC; simp [hhd, ha1]
            rw [hv]
            clear hv hhd hlt ha1 e2 e3 h2 h32
            go_enter Tryz.func27, Tryz.ntmps27
            go_wp2_with fail
            refine Calls.mono HC.out ?_
            rintro e w1 ⟨rfl, d, rfl⟩
            go_wp2_with fail
            refine Calls.mono (letter_any _ _) ?_
            rintro e w' ⟨rfl, rfl⟩
            rw [HLT.out]
            go_wp2_with fail
            refine Calls.mono (all_any 56 (enters_of Tryz.func56 (by kernel_rfl) rfl) _ says_scheme S _ (by omega)) ?_
            rintro e w' ⟨rfl, rfl⟩
            rw [HA1.out]
            go_wp2
            go_ret
            exact ⟨rfl, _, rfl⟩
          | true =>
            have HA1 := Lib.hid ha1
            have hv : addrC (S.data.toList, R.data.toList, true) = allB restB R.data.toList := by unfold addrC; rw [ha1, hhd, decide_eq_true e2, decide_eq_true e3]; rfl
            rw [hv]
            clear hv hhd hlt ha1 e2 e3 h2 h32
            go_enter Tryz.func27, Tryz.ntmps27
            go_wp2_with fail
            refine Calls.mono HC.out ?_
            rintro e w1 ⟨rfl, d, rfl⟩
            go_wp2_with fail
            refine Calls.mono (letter_any _ _) ?_
            rintro e w' ⟨rfl, rfl⟩
            rw [HLT.out]
            go_wp2_with fail
            refine Calls.mono (all_any 56 (enters_of Tryz.func56 (by kernel_rfl) rfl) _ says_scheme S _ (by omega)) ?_
            rintro e w' ⟨rfl, rfl⟩
            rw [HA1.out]
            go_wp2_with fail
            refine Calls.mono (all_any 58 (enters_of Tryz.func58 (by kernel_rfl) rfl) _ says_rest R _ (by omega)) ?_
            rintro e w' ⟨rfl, rfl⟩
            go_wp2
            go_ret
            exact ⟨rfl, _, rfl⟩
      · have z3 : decide ((S.size : Int) ≤ 32) = false := by simp; omega
        have e3 : ¬ S.data.toList.length ≤ 32 := by rw [HSL.out]; exact h32
        have hv : addrC (S.data.toList, R.data.toList, true) = false := by unfold addrC; rw [decide_eq_false e3]; simp
        rw [hv]
        clear hv e3 h2 h32
        go_enter Tryz.func27, Tryz.ntmps27
        go_wp2_with fail
        refine Calls.mono HC.out ?_
        rintro e w1 ⟨rfl, d, rfl⟩
        go_wp2
        go_ret
        exact ⟨rfl, _, rfl⟩
    · have z2 : decide ((2 : Int) ≤ (S.size : Int)) = false := by simp; omega
      have e2 : ¬ 2 ≤ S.data.toList.length := by rw [HSL.out]; exact h2
      have hv : addrC (S.data.toList, R.data.toList, true) = false := by unfold addrC; rw [decide_eq_false e2]; simp
      rw [hv]
      clear hv e2 h2
      go_enter Tryz.func27, Tryz.ntmps27
      go_wp2_with fail
      refine Calls.mono HC.out ?_
      rintro e w1 ⟨rfl, d, rfl⟩
      go_wp2
      go_ret
      exact ⟨rfl, _, rfl⟩
end Go.Proofs.YtikokedphocpiaaGreatDoor
