/- refs.sign; small facts on bytes. -/
import Derived.Test.YtbcfhpomclkccaaDoorByte
import Derived.BigQuiet
import Derived.WalkSpells
import Derived.Lib.Hide
namespace Go.Proofs.YtbcfhpomclkccaaDoor
open Go.RowKit

def signB (b : UInt8) : Bool := decide (32 < b.toNat) && decide (b.toNat < 127) && !letter b && !digit b
theorem sign_any (b : UInt8) (w : World) : Calls Tryd.prog 30 #[.int .u8 (b.toNat : Int)] w (RB w (signB b)) := by
  have hb := UInt8.toNat_lt b
  by_cases h1 : 32 < b.toNat
  · have z1 : decide ((32 : Int) < (b.toNat : Int)) = true := by simp; omega
    by_cases h2 : b.toNat < 127
    · have z2 : decide ((b.toNat : Int) < 127) = true := by simp; omega
      cases hl : letter b with
      | true =>
        have hs : signB b = false := by unfold signB; rw [hl]; simp
        rw [hs]
        have HL := Lib.hid hl
        clear hs hl h1 h2
        go_enter Tryd.func30, Tryd.ntmps30
        go_wp2_with fail
        refine Calls.mono (letter_any b _) ?_
        rintro e w' ⟨rfl, rfl⟩
        rw [HL.out]
        go_wp2
        go_ret
        exact ⟨rfl, rfl⟩
      | false =>
        cases hd : digit b with
        | true =>
          have hs : signB b = false := by unfold signB; rw [hl, hd]; simp
          rw [hs]
          have HL := Lib.hid hl
          have HD := Lib.hid hd
          clear hs hl hd h1 h2
          go_enter Tryd.func30, Tryd.ntmps30
          go_wp2_with fail
          refine Calls.mono (letter_any b _) ?_
          rintro e w' ⟨rfl, rfl⟩
          rw [HL.out]
          go_wp2_with fail
          refine Calls.mono (digit_any b _) ?_
          rintro e w' ⟨rfl, rfl⟩
          rw [HD.out]
          go_wp2
          go_ret
          exact ⟨rfl, rfl⟩
        | false =>
          have hs : signB b = true := by unfold signB; rw [hl, hd]; simp; omega
          rw [hs]
          have HL := Lib.hid hl
          have HD := Lib.hid hd
          clear hs hl hd h1 h2
          go_enter Tryd.func30, Tryd.ntmps30
          go_wp2_with fail
          refine Calls.mono (letter_any b _) ?_
          rintro e w' ⟨rfl, rfl⟩
          rw [HL.out]
          go_wp2_with fail
          refine Calls.mono (digit_any b _) ?_
          rintro e w' ⟨rfl, rfl⟩
          rw [HD.out]
          go_wp2
          go_ret
          exact ⟨rfl, rfl⟩
    · have z2 : decide ((b.toNat : Int) < 127) = false := by simp; omega
      have hs : signB b = false := by unfold signB; simp [h2]
      rw [hs]
      clear hs h1 h2
      go_enter Tryd.func30, Tryd.ntmps30
      go_wp2
      go_ret
      exact ⟨rfl, rfl⟩
  · have z1 : decide ((32 : Int) < (b.toNat : Int)) = false := by simp; omega
    have hs : signB b = false := by unfold signB; simp [h1]
    rw [hs]
    clear hs h1
    go_enter Tryd.func30, Tryd.ntmps30
    go_wp2
    go_ret
    exact ⟨rfl, rfl⟩

theorem ext_list (s : ByteArray) (k : Nat) (h : k < s.size) : (s.extract k (k + 1)).data.toList = [s[k]] := by
  have hl : s.data.toList.length = s.size := Array.length_toList
  rw [Lib.extract_data, Nat.add_sub_cancel_left, List.drop_eq_getElem_cons (by omega)]
  rfl
theorem str_mk (X : ByteArray) (l : List UInt8) (h : X.data.toList = l) : X = ⟨l.toArray⟩ := by
  subst h
  rfl
theorem ext_one (s : ByteArray) (k : Nat) (h : k < s.size) : s.extract k (k + 1) = ⟨#[s[k]]⟩ := str_mk _ _ (ext_list s k h)
theorem get_list (s : ByteArray) (k : Nat) (h : k < s.size) : s.data.toList[k]? = some s[k] := by
  rw [List.getElem?_eq_getElem (by simpa using h)]; rfl
theorem get_none (s : ByteArray) (k : Nat) (h : ¬ k < s.size) : s.data.toList[k]? = none := List.getElem?_eq_none (by simpa using h)
theorem beqc (x c : UInt8) : ((x.toNat : Int) == (c.toNat : Int)) = (x == c) := by
  rw [Bool.eq_iff_iff, beq_iff_eq, beq_iff_eq]
  exact ⟨fun e => UInt8.toNat_inj.1 (by omega), fun e => by rw [e]⟩
theorem bnec (x c : UInt8) : ((x.toNat : Int) != (c.toNat : Int)) = (x != c) := by
  unfold bne
  rw [beqc]
theorem beq_no {x c : UInt8} (h : ¬ x = c) : (x == c) = false := by simpa using h
theorem beq_yes {x c : UInt8} (h : x = c) : (x == c) = true := by simpa using h
end Go.Proofs.YtbcfhpomclkccaaDoor
