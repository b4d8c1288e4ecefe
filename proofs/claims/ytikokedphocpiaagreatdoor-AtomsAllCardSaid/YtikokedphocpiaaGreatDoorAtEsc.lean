/- atoms.Escape: what a backslash at a place stands for. -/
import Derived.Test.YtikokedphocpiaaGreatDoorByte
import Derived.BigQuiet
import Derived.WalkSpells
import Derived.Lib.Hide
namespace Go.Proofs.YtikokedphocpiaaGreatDoor
open Go.RowKit

def signB (b : UInt8) : Bool := decide (32 < b.toNat) && decide (b.toNat < 127) && !letter b && !digit b
theorem sign_any (b : UInt8) (w : World) : Calls Tryz.prog 16 #[.int .u8 (b.toNat : Int)] w (RB w (signB b)) := by
  have hb := UInt8.toNat_lt b
  by_cases h1 : 32 < b.toNat
  · have z1 : decide ((32 : Int) < (b.toNat : Int)) = true := by simp; omega
    by_cases h2 : b.toNat < 127
    · have z2 : decide ((b.toNat : Int) < 127) = true := by simp; omega
      cases hl : letter b with
      | true =>
        have hs : signB b = false := by unfold signB; rw [hl]; simp
        rw [hs]
        have HL := Lib.hid hl
        clear hs hl h1 h2
        go_enter Tryz.func16, Tryz.ntmps16
        go_wp2_with fail
        refine Calls.mono (letter_any b _) ?_
        rintro e w' ⟨rfl, rfl⟩
        rw [HL.out]
        go_wp2
        go_ret
        exact ⟨rfl, rfl⟩
      | false =>
        cases hd : digit b with
        | true =>
          have hs : signB b = false := by unfold signB; rw [hl, hd]; simp
          rw [hs]
          have HL := Lib.hid hl
          have HD := Lib.hid hd
          clear hs hl hd h1 h2
          go_enter Tryz.func16, Tryz.ntmps16
          go_wp2_with fail
          refine Calls.mono (letter_any b _) ?_
          rintro e w' ⟨rfl, rfl⟩
          rw [HL.out]
          go_wp2_with fail
          refine Calls.mono (digit_any b _) ?_
          rintro e w' ⟨rfl, rfl⟩
          rw [HD.out]
          go_wp2
          go_ret
          exact ⟨rfl, rfl⟩
        | false =>
          have hs : signB b = true := by unfold signB; rw [hl, hd]; simp; omega
          rw [hs]
          have HL := Lib.hid hl
          have HD := Lib.hid hd
          clear hs hl hd h1 h2
          go_enter Tryz.func16, Tryz.ntmps16
          go_wp2_with fail
          refine Calls.mono (letter_any b _) ?_
          rintro e w' ⟨rfl, rfl⟩
          rw [HL.out]
          go_wp2_with fail
          refine Calls.mono (digit_any b _) ?_
          rintro e w' ⟨rfl, rfl⟩
          rw [HD.out]
          go_wp2
          go_ret
          exact ⟨rfl, rfl⟩
    · have z2 : decide ((b.toNat : Int) < 127) = false := by simp; omega
      have hs : signB b = false := by unfold signB; simp [h2]
      rw [hs]
      clear hs h1 h2
      go_enter Tryz.func16, Tryz.ntmps16
      go_wp2
      go_ret
      exact ⟨rfl, rfl⟩
  · have z1 : decide ((32 : Int) < (b.toNat : Int)) = false := by simp; omega
    have hs : signB b = false := by unfold signB; simp [h1]
    rw [hs]
    clear hs h1
    go_enter Tryz.func16, Tryz.ntmps16
    go_wp2
    go_ret
    exact ⟨rfl, rfl⟩

/-- What a backslash at i stands for. -/
def escAt (l : List UInt8) (i : Int) : Option UInt8 := if 0 ≤ i then (if l[i.toNat]? = some 92 then (match l[i.toNat + 1]? with
    | some c => if signB c || c == 10 then some c else none
    | none => none) else none) else none
theorem ext_list (s : ByteArray) (k : Nat) (h : k < s.size) : (s.extract k (k + 1)).data.toList = [s[k]] := by
  have hl : s.data.toList.length = s.size := Array.length_toList
  rw [Lib.extract_data, Nat.add_sub_cancel_left, List.drop_eq_getElem_cons (by omega)]
  rfl
theorem str_mk (X : ByteArray) (l : List UInt8) (h : X.data.toList = l) : X = ⟨l.toArray⟩ := by
  subst h
  rfl
theorem ext_one (s : ByteArray) (k : Nat) (h : k < s.size) : s.extract k (k + 1) = ⟨#[s[k]]⟩ := str_mk _ _ (ext_list s k h)
theorem get_list (s : ByteArray) (k : Nat) (h : k < s.size) : s.data.toList[k]? = some s[k] := by
  rw [List.getElem?_eq_getElem (by simpa using h)]; rfl
theorem get_none (s : ByteArray) (k : Nat) (h : ¬ k < s.size) : s.data.toList[k]? = none := List.getElem?_eq_none (by simpa using h)

def SN (w : World) (x : ByteArray) (n : Int) (e : Ending) (w' : World) : Prop := e = .returned (.tuple #[.string x, .int .i64 n]) ∧ w = w'
set_option maxHeartbeats 400000 in
set_option maxRecDepth 100000 in
theorem escape_yes (s : ByteArray) (k : Nat) (c : UInt8) (w : World) (hs : s.size ≤ 1099511627776) (hk : k + 1 < s.size) (h92 : s[k] = 92) (hc : s[k + 1] = c) (hsg : (signB c || c == 10) = true) :
    Calls Tryz.prog 6 #[.string s, .int .i64 (k : Int)] w (SN w ⟨#[c]⟩ 2) := by
  have hex : s.extract (k + 1) (k + 2) = (⟨#[c]⟩ : ByteArray) := by rw [← hc]; exact ext_one s (k + 1) hk
  have z0 : decide ((k : Int) < 0) = false := by simp
  have z1 : decide ((s.size : Int) - 1 ≤ (k : Int)) = false := by simp; omega
  have hki : (k : Int) < (s.size : Int) := by omega
  have hki1 : (k : Int) + 1 < (s.size : Int) := by omega
  have hki2 : (k : Int) + 2 ≤ (s.size : Int) := by omega
  have z92 : ((s[k].toNat : Int) != 92) = false := by rw [h92]; rfl
  have HEX := Lib.hid hex
  clear h92 hex
  cases hs1 : signB c with
  | true =>
    have HSG := Lib.hid hs1
    clear hs1 hsg
    go_enter Tryz.func6, Tryz.ntmps6
    go_wp2_with fail
    refine Calls.mono (sign_any _ _) ?_
    rintro e w' ⟨rfl, rfl⟩
    rw [HSG.out]
    go_wp2
    go_ret2
    rw [HEX.out]
    exact ⟨rfl, rfl⟩
  | false =>
    have h10 : c = 10 := by simpa [hs1] using hsg
    have z10 : ((c.toNat : Int) != 10) = false := by rw [h10]; rfl
    have HSG := Lib.hid hs1
    clear hs1 hsg h10
    go_enter Tryz.func6, Tryz.ntmps6
    go_wp2_with fail
    refine Calls.mono (sign_any _ _) ?_
    rintro e w' ⟨rfl, rfl⟩
    rw [HSG.out]
    go_wp2
    go_ret2
    rw [HEX.out]
    exact ⟨rfl, rfl⟩
set_option maxHeartbeats 400000 in
set_option maxRecDepth 100000 in
theorem escape_no (s : ByteArray) (k : Nat) (c : UInt8) (w : World) (hs : s.size ≤ 1099511627776) (hk : k + 1 < s.size) (h92 : s[k] = 92) (hc : s[k + 1] = c) (hsg : (signB c || c == 10) = false) :
    Calls Tryz.prog 6 #[.string s, .int .i64 (k : Int)] w (SN w ⟨#[]⟩ 0) := by
  have z0 : decide ((k : Int) < 0) = false := by simp
  have z1 : decide ((s.size : Int) - 1 ≤ (k : Int)) = false := by simp; omega
  have hki : (k : Int) < (s.size : Int) := by omega
  have hki1 : (k : Int) + 1 < (s.size : Int) := by omega
  have z92 : ((s[k].toNat : Int) != 92) = false := by rw [h92]; rfl
  simp only [Bool.or_eq_false_iff, beq_eq_false_iff_ne] at hsg
  obtain ⟨hs1, h10⟩ := hsg
  have z10 : ((c.toNat : Int) != 10) = true := by simp; intro e; exact h10 (UInt8.toNat_inj.1 (by show c.toNat = 10; omega))
  have HSG := Lib.hid hs1
  clear h92 hs1 h10
  go_enter Tryz.func6, Tryz.ntmps6
  go_wp2_with fail
  refine Calls.mono (sign_any _ _) ?_
  rintro e w' ⟨rfl, rfl⟩
  rw [HSG.out]
  go_wp2
  go_ret2
  exact ⟨rfl, rfl⟩
set_option maxHeartbeats 400000 in
set_option maxRecDepth 100000 in
theorem escape_else (s : ByteArray) (i : Int) (w : World) (hs : s.size ≤ 1099511627776) (hi : -9223372036854775808 ≤ i ∧ i ≤ 9223372036854775807) (h : i < 0 ∨ (s.size : Int) - 1 ≤ i ∨ ∃ (k : Nat) (hk : k + 1 < s.size), i = k ∧ s[k] ≠ 92) :
    Calls Tryz.prog 6 #[.string s, .int .i64 i] w (SN w ⟨#[]⟩ 0) := by
  by_cases h0 : i < 0
  · have z0 : decide (i < 0) = true := by simpa using h0
    clear h h0
    go_enter Tryz.func6, Tryz.ntmps6
    go_wp2
    go_ret2
    exact ⟨rfl, rfl⟩
  · have z0 : decide (i < 0) = false := by simpa using h0
    by_cases h1 : (s.size : Int) - 1 ≤ i
    · have z1 : decide ((s.size : Int) - 1 ≤ i) = true := by simpa using h1
      clear h h0 h1
      go_enter Tryz.func6, Tryz.ntmps6
      go_wp2
      go_ret2
      exact ⟨rfl, rfl⟩
    · rcases h with h | h | ⟨k, hk, rfl, h92⟩
      · exact absurd h h0
      · exact absurd h h1
      have z1 : decide ((s.size : Int) - 1 ≤ (k : Int)) = false := by simpa using h1
      have hki : (k : Int) < (s.size : Int) := by omega
      have z92 : ((s[k].toNat : Int) != 92) = true := by simp; intro e; exact h92 (UInt8.toNat_inj.1 (by show s[k].toNat = 92; omega))
      clear h0 h1 h92
      go_enter Tryz.func6, Tryz.ntmps6
      go_wp2
      go_ret2
      exact ⟨rfl, rfl⟩
/-- atoms.Escape. -/
def escOut (o : Option UInt8) : ByteArray × Int := match o with
  | some c => (⟨#[c]⟩, 2)
  | none => (⟨#[]⟩, 0)
theorem escape_any (s : ByteArray) (i : Int) (w : World) (hs : s.size ≤ 1099511627776) (hi : -9223372036854775808 ≤ i ∧ i ≤ 9223372036854775807) :
    Calls Tryz.prog 6 #[.string s, .int .i64 i] w (SN w (escOut (escAt s.data.toList i)).1 (escOut (escAt s.data.toList i)).2) := by
  by_cases h0 : 0 ≤ i
  · obtain ⟨k, rfl⟩ : ∃ k : Nat, i = k := ⟨i.toNat, by omega⟩
    by_cases h1 : k + 1 < s.size
    · by_cases h92 : s[k]'(by omega) = 92
      · have ho : escAt s.data.toList (k : Int) = if signB s[k + 1] || s[k + 1] == 10 then some s[k + 1] else none := by
          unfold escAt
          rw [if_pos (by omega), Int.toNat_natCast, get_list s k (by omega), h92, if_pos rfl, get_list s (k + 1) h1]
        rw [ho]
        by_cases hsg : (signB s[k + 1] || s[k + 1] == 10) = true
        · rw [if_pos hsg]
          exact escape_yes s k _ w hs h1 h92 rfl hsg
        · rw [if_neg hsg]
          exact escape_no s k _ w hs h1 h92 rfl (by simpa using hsg)
      · have ho : escAt s.data.toList (k : Int) = none := by
          unfold escAt
          rw [if_pos (by omega), Int.toNat_natCast, get_list s k (by omega), if_neg (by simpa using h92)]
        rw [ho]
        exact escape_else s k w hs hi (.inr (.inr ⟨k, h1, rfl, h92⟩))
    · have ho : escAt s.data.toList (k : Int) = none := by
        unfold escAt
        rw [if_pos (by omega), Int.toNat_natCast, get_none s (k + 1) h1]
        simp
      rw [ho]
      exact escape_else s k w hs hi (.inr (.inl (by omega)))
  · have ho : escAt s.data.toList i = none := if_neg h0
    rw [ho]
    exact escape_else s i w hs hi (.inl (by omega))
end Go.Proofs.YtikokedphocpiaaGreatDoor
