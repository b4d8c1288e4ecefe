/- The reference's gap and name: the place behind blanks, and behind a name. -/
import Derived.Test.YtikokedphocpiaaGreatDoorAtLeaf
import Derived.Test.YtikokedphocpiaaGreatDoorAtVal
namespace Go.Proofs.YtikokedphocpiaaGreatDoor
open Go.RowKit

theorem beqc (x c : UInt8) : ((x.toNat : Int) == (c.toNat : Int)) = (x == c) := by
  rw [Bool.eq_iff_iff, beq_iff_eq, beq_iff_eq]
  exact ⟨fun e => UInt8.toNat_inj.1 (by omega), fun e => by rw [e]⟩
theorem bnec (x c : UInt8) : ((x.toNat : Int) != (c.toNat : Int)) = (x != c) := by
  unfold bne
  rw [beqc]
theorem beq_no {x c : UInt8} (h : ¬ x = c) : (x == c) = false := by simpa using h
theorem beq_yes {x c : UInt8} (h : x = c) : (x == c) = true := by simpa using h
set_option maxHeartbeats 4000000 in
set_option maxRecDepth 100000 in
theorem refgap_any (s : ByteArray) (i : Nat) (w : World) (hs : s.size ≤ 1099511627) (hi : i ≤ s.size) : Calls Tryz.prog 71 #[.string s, .int .i64 (i : Int)] w (RI w (gapN s.data.toList i : Nat)) := by
  have hsl : s.data.toList.length = s.size := Array.length_toList
  have HSL := Lib.hid hsl
  unfold gapN
  obtain ⟨p, hp⟩ : ∃ p, (fun b : UInt8 => ([32, 9, 10] : List UInt8).contains b) = p := ⟨_, rfl⟩
  have hpx : ∀ b, p b = ((b == 32) || ((b == 9) || ((b == 10) || false))) := fun b => by rw [← hp]; rfl
  rw [hp]
  have HPX := Lib.hid hpx
  clear hp hpx hsl
  go_enter Tryz.func71, Tryz.ntmps71
  go_wp2_with fail
  go_loopw [1] (fun v wr => RunW w p s.data.toList i v wr) (fun v _ => s.size - (intOf v).toNat)
  case atStart => exact ⟨i, rfl, by rw [HSL.out]; exact hi, rfl, rfl⟩
  case round =>
    obtain ⟨k, rfl, hk, hrr, rfl⟩ := hrel
    rw [HSL.out] at hk
    have HR := Lib.hid hrr
    clear hrr
    by_cases hlt2 : k < s.size
    · have hki2 : (k : Int) < (s.size : Int) := by omega
      obtain ⟨x, hx⟩ : ∃ x, s[k] = x := ⟨_, rfl⟩
      have hge : s.data.toList[k]'(by rw [HSL.out]; exact hlt2) = x := hx
      by_cases n32 : x = 32
      · have y32 : ((x.toNat : Int) == 32) = true := (beqc x 32).trans (beq_yes n32)
        have hq : p x = true := by rw [HPX.out, n32]; rfl
        have hr2 := run_yes (by rw [HSL.out]; exact hlt2) ((congrArg p hge).trans hq)
        have HR2 := Lib.hid hr2
        clear hge hq hr2 n32
        go_wp2
        go_roundw
        case rel => exact ⟨k + 1, by go_num, by rw [HSL.out]; exact hlt2, by rw [HR.out, HR2.out], rfl⟩
        case measure => simp [intOf]; omega
      · by_cases n9 : x = 9
        · have y32 : ((x.toNat : Int) == 32) = false := (beqc x 32).trans (beq_no n32)
          have y9 : ((x.toNat : Int) == 9) = true := (beqc x 9).trans (beq_yes n9)
          have hq : p x = true := by rw [HPX.out, n9]; rfl
          have hr2 := run_yes (by rw [HSL.out]; exact hlt2) ((congrArg p hge).trans hq)
          have HR2 := Lib.hid hr2
          clear hge hq hr2 n32 n9
          go_wp2
          go_roundw
          case rel => exact ⟨k + 1, by go_num, by rw [HSL.out]; exact hlt2, by rw [HR.out, HR2.out], rfl⟩
          case measure => simp [intOf]; omega
        · by_cases n10 : x = 10
          · have y32 : ((x.toNat : Int) == 32) = false := (beqc x 32).trans (beq_no n32)
            have y9 : ((x.toNat : Int) == 9) = false := (beqc x 9).trans (beq_no n9)
            have y10 : ((x.toNat : Int) == 10) = true := (beqc x 10).trans (beq_yes n10)
            have hq : p x = true := by rw [HPX.out, n10]; rfl
            have hr2 := run_yes (by rw [HSL.out]; exact hlt2) ((congrArg p hge).trans hq)
            have HR2 := Lib.hid hr2
            clear hge hq hr2 n32 n9 n10
            go_wp2
            go_roundw
            case rel => exact ⟨k + 1, by go_num, by rw [HSL.out]; exact hlt2, by rw [HR.out, HR2.out], rfl⟩
            case measure => simp [intOf]; omega
          · have y32 : ((x.toNat : Int) == 32) = false := (beqc x 32).trans (beq_no n32)
            have y9 : ((x.toNat : Int) == 9) = false := (beqc x 9).trans (beq_no n9)
            have y10 : ((x.toNat : Int) == 10) = false := (beqc x 10).trans (beq_no n10)
            have hq : p x = false := by rw [HPX.out, beq_no n32, beq_no n9, beq_no n10]; rfl
            have hr2 := run_not (by rw [HSL.out]; exact hlt2) ((congrArg p hge).trans hq)
            have hv : ((run p s.data.toList i : Nat) : Int) = (k : Int) := by rw [HR.out, hr2]
            have HV := Lib.hid hv
            clear hge hq hr2 hv n32 n9 n10
            go_wp2
            go_ret
            rw [HV.out]
            exact ⟨rfl, rfl⟩
    · obtain rfl : k = s.size := by omega
      have he : run p s.data.toList s.size = s.size := run_end (by rw [HSL.out]; exact Nat.le_refl _)
      have hv : ((run p s.data.toList i : Nat) : Int) = (s.size : Int) := by rw [HR.out, he]
      have HV := Lib.hid hv
      clear he hv HR
      go_wp2
      go_ret
      rw [HV.out]
      exact ⟨rfl, rfl⟩
theorem index_one' (a x : UInt8) : decide (0 ≤ Lib.indexByte [a] x) = (x == a) := by
  by_cases h : x = a
  · rw [beq_yes h, decide_eq_true ((indexByte_has _ _).2 (by rw [h]; simp))]
  · rw [beq_no h, decide_eq_false]
    intro h2
    have := (indexByte_has _ _).1 h2
    simp at this
    exact h this
theorem one_none (b : UInt8) : oneB ⟨#[]⟩ b = letter b := by
  unfold oneB
  rw [show ((⟨#[]⟩ : ByteArray).data.toList) = [] from rfl]
  show (letter b || decide ((0 : Int) ≤ -1)) = letter b
  simp
theorem word_dash (b : UInt8) : wordP ⟨#[45]⟩ b = (letter b || (digit b || (b == 45))) := by
  unfold wordP oneB
  rw [show ((⟨#[45]⟩ : ByteArray).data.toList) = [45] from rfl, index_one', Bool.or_assoc, Bool.or_comm (b == 45) (digit b)]
set_option maxHeartbeats 4000000 in
set_option maxRecDepth 100000 in
theorem refname_any (s : ByteArray) (i : Nat) (w : World) (hs : s.size ≤ 1099511627) (hi : i ≤ s.size) : Calls Tryz.prog 70 #[.string s, .int .i64 (i : Int)] w (RI w (optI (wordN s.data.toList ⟨#[]⟩ ⟨#[45]⟩ i))) := by
  have hsl : s.data.toList.length = s.size := Array.length_toList
  by_cases hlt : i < s.size
  · have z1 : decide (s.size ≤ i) = false := by simp; omega
    have hki : (i : Int) < (s.size : Int) := by omega
    have hgi : s.data.toList[i]'(by rw [hsl]; exact hlt) = s[i] := rfl
    cases ho : letter s[i] with
    | false =>
      have hv : wordN s.data.toList ⟨#[]⟩ ⟨#[45]⟩ i = none := by unfold wordN; rw [dif_pos (by rw [hsl]; exact hlt), if_neg (by rw [hgi, one_none, ho]; simp)]
      rw [hv]
      have HO := Lib.hid ho
      clear hv ho hsl hgi
      go_enter Tryz.func70, Tryz.ntmps70
      go_wp2_with fail
      refine Calls.mono (refletter_any s[i] _) ?_
      rintro e w' ⟨rfl, rfl⟩
      rw [HO.out]
      go_wp2
      go_ret
      exact ⟨rfl, rfl⟩
    | true =>
      obtain ⟨p, hp⟩ : ∃ p, wordP ⟨#[45]⟩ = p := ⟨_, rfl⟩
      have hpx : ∀ b, p b = (letter b || (digit b || (b == 45))) := fun b => by rw [← hp]; exact word_dash b
      have hv : wordN s.data.toList ⟨#[]⟩ ⟨#[45]⟩ i = some (run p s.data.toList i) := by
        unfold wordN
        rw [dif_pos (by rw [hsl]; exact hlt), if_pos (by rw [hgi, one_none, ho]), hp]
        congr 1
        exact (run_yes (by rw [hsl]; exact hlt) (by rw [hgi, hpx, ho]; rfl)).symm
      rw [hv]
      have HO := Lib.hid ho
      have HSL := Lib.hid hsl
      have HPX := Lib.hid hpx
      clear hv ho hsl hgi hp hpx
      go_enter Tryz.func70, Tryz.ntmps70
      go_wp2_with fail
      refine Calls.mono (refletter_any s[i] _) ?_
      rintro e w' ⟨rfl, rfl⟩
      rw [HO.out]
      go_wp2_with fail
      go_loopw [1] (fun v wr => RunW w p s.data.toList i v wr) (fun v _ => s.size - (intOf v).toNat)
      case atStart => exact ⟨i, rfl, by rw [HSL.out]; exact hi, rfl, rfl⟩
      case round =>
        obtain ⟨k, rfl, hk, hrr, rfl⟩ := hrel
        rw [HSL.out] at hk
        have HR := Lib.hid hrr
        clear hrr
        by_cases hlt2 : k < s.size
        · have hki2 : (k : Int) < (s.size : Int) := by omega
          have hki3 : decide ((k : Int) < (s.size : Int)) = true := by simp; omega
          have hge : s.data.toList[k]'(by rw [HSL.out]; exact hlt2) = s[k] := rfl
          obtain ⟨x, hx⟩ : ∃ x, s[k] = x := ⟨_, rfl⟩
          have HX := Lib.hid hx
          rw [hx] at hge
          cases hl : letter x with
          | true =>
            have hq : p x = true := by rw [HPX.out, hl]; rfl
            have hr2 := run_yes (by rw [HSL.out]; exact hlt2) ((congrArg p hge).trans hq)
            have HR2 := Lib.hid hr2
            have HL := Lib.hid hl
            clear hge hq hr2 hl hx
            go_wp2_with fail
            rw [HX.out]
            refine Calls.mono (refletter_any x _) ?_
            rintro e w' ⟨rfl, rfl⟩
            rw [HL.out]
            go_wp2
            go_roundw
            case rel => exact ⟨k + 1, by go_num, by rw [HSL.out]; exact hlt2, by rw [HR.out, HR2.out], rfl⟩
            case measure => simp [intOf]; omega
          | false =>
            cases hd : digit x with
            | true =>
              have hq : p x = true := by rw [HPX.out, hl, hd]; rfl
              have hr2 := run_yes (by rw [HSL.out]; exact hlt2) ((congrArg p hge).trans hq)
              have HR2 := Lib.hid hr2
              have HL := Lib.hid hl
              have HD := Lib.hid hd
              clear hge hq hr2 hl hx hd
              go_wp2_with fail
              rw [HX.out]
              refine Calls.mono (refletter_any x _) ?_
              rintro e w' ⟨rfl, rfl⟩
              rw [HL.out]
              go_wp2_with fail
              rw [HX.out]
              refine Calls.mono (refdigit_any x _) ?_
              rintro e w' ⟨rfl, rfl⟩
              rw [HD.out]
              go_wp2
              go_roundw
              case rel => exact ⟨k + 1, by go_num, by rw [HSL.out]; exact hlt2, by rw [HR.out, HR2.out], rfl⟩
              case measure => simp [intOf]; omega
            | false =>
              have hq : p x = (x == 45) := by rw [HPX.out, hl, hd]; rfl
              have y45 : ((s[k].toNat : Int) == 45) = (x == 45) := by rw [hx]; exact beqc x 45
              have HL := Lib.hid hl
              have HD := Lib.hid hd
              cases h45 : (x == 45) with
              | true =>
                rw [h45] at hq y45
                have hr2 := run_yes (by rw [HSL.out]; exact hlt2) ((congrArg p hge).trans hq)
                have HR2 := Lib.hid hr2
                clear hge hq hr2 hl hx hd h45
                go_wp2_with fail
                rw [HX.out]
                refine Calls.mono (refletter_any x _) ?_
                rintro e w' ⟨rfl, rfl⟩
                rw [HL.out]
                go_wp2_with fail
                rw [HX.out]
                refine Calls.mono (refdigit_any x _) ?_
                rintro e w' ⟨rfl, rfl⟩
                rw [HD.out]
                go_wp2
                go_roundw
                case rel => exact ⟨k + 1, by go_num, by rw [HSL.out]; exact hlt2, by rw [HR.out, HR2.out], rfl⟩
                case measure => simp [intOf]; omega
              | false =>
                rw [h45] at hq y45
                have hr2 := run_not (by rw [HSL.out]; exact hlt2) ((congrArg p hge).trans hq)
                have hv : optI (some (run p s.data.toList i)) = (k : Int) := by rw [HR.out, hr2]; rfl
                have HV := Lib.hid hv
                clear hge hq hr2 hl hx hd h45 hv
                go_wp2_with fail
                rw [HX.out]
                refine Calls.mono (refletter_any x _) ?_
                rintro e w' ⟨rfl, rfl⟩
                rw [HL.out]
                go_wp2_with fail
                rw [HX.out]
                refine Calls.mono (refdigit_any x _) ?_
                rintro e w' ⟨rfl, rfl⟩
                rw [HD.out]
                go_wp2
                go_ret
                rw [HV.out]
                exact ⟨rfl, rfl⟩
        · obtain rfl : k = s.size := by omega
          have he : run p s.data.toList s.size = s.size := run_end (by rw [HSL.out]; exact Nat.le_refl _)
          have hv : optI (some (run p s.data.toList i)) = (s.size : Int) := by rw [HR.out, he]; rfl
          have HV := Lib.hid hv
          clear he hv HR
          go_wp2
          go_ret
          rw [HV.out]
          exact ⟨rfl, rfl⟩
  · obtain rfl : i = s.size := by omega
    have z1 : decide ((s.size : Int) ≤ (s.size : Int)) = true := by simp
    have hv : wordN s.data.toList ⟨#[]⟩ ⟨#[45]⟩ s.size = none := by unfold wordN; rw [dif_neg (by rw [hsl]; omega)]
    rw [hv]
    clear hv hsl
    go_enter Tryz.func70, Tryz.ntmps70
    go_wp2
    go_ret
    exact ⟨rfl, rfl⟩
end Go.Proofs.YtikokedphocpiaaGreatDoor
