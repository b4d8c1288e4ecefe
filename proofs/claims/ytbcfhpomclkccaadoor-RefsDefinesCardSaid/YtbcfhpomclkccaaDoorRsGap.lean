/- refs.blanks, Gap, line. -/
import Derived.Test.YtbcfhpomclkccaaDoorRsCur
import Derived.Test.YtbcfhpomclkccaaDoorShelfA
import Derived.Lib.SlTrimSet
namespace Go.Proofs.YtbcfhpomclkccaaDoor
open Go.RowKit

def wsB (b : UInt8) : Bool := b == 32 || b == 9
/-- Where blanks end. -/
def blk (l : List UInt8) (i : Nat) : Nat := i + ((l.drop i).takeWhile wsB).length
theorem blk_in (l : List UInt8) (i : Nat) (h : i ≤ l.length) : i ≤ blk l i ∧ blk l i ≤ l.length := by
  unfold blk
  have h1 := (List.takeWhile_prefix (p := wsB) (l := l.drop i)).length_le
  rw [List.length_drop] at h1
  omega
theorem blk_drop (l : List UInt8) (i : Nat) (h : i ≤ l.length) : ((l.drop i).dropWhile wsB).length + blk l i = l.length := by
  unfold blk
  have h1 : ((l.drop i).takeWhile wsB ++ (l.drop i).dropWhile wsB).length = (l.drop i).length := by rw [List.takeWhile_append_dropWhile]
  rw [List.length_append, List.length_drop] at h1
  omega
def gapN (l : List UInt8) (i : Nat) : Nat := if l[blk l i]? == some 10 then blk l (blk l i + 1) else blk l i
def gapI (l : List UInt8) (i : Int) : Int := if i < 0 ∨ (l.length : Int) < i then i else (gapN l i.toNat : Nat)
theorem gapN_in (l : List UInt8) (i : Nat) (h : i ≤ l.length) : i ≤ gapN l i ∧ gapN l i ≤ l.length := by
  have h1 := blk_in l i h
  unfold gapN
  split
  · rename_i hc
    have h2 : l[blk l i]? = some 10 := by simpa using hc
    have h3 := (List.getElem?_eq_some_iff.1 h2).1
    have h4 := blk_in l (blk l i + 1) (by omega)
    omega
  · exact h1
def lineN (l : List UInt8) (i : Nat) : Option Nat := match l[blk l i]? with
  | none => some (min (blk l i + 1) l.length)
  | some b => if b == 10 then some (min (blk l i + 1) l.length) else none
def IntB (w : World) (n : Int) (e : Ending) (w' : World) : Prop := e = .returned (.int .i64 n) ∧ Below w.heap.size w w'
theorem trimL_any (s : ByteArray) (w : World) : Calls Tryd.prog 85 #[.string s, .string ⟨#[32, 9]⟩] w fun e w' => e = .returned (.string ⟨(Lib.trimLeftS s.data.toList [32, 9]).toArray⟩) ∧ Below w.heap.size w w' :=
  Any.strings_TrimLeft_laid Tryd.lays161 (by kernel_rfl) s ⟨#[32, 9]⟩ w (by decide) (ascii_of_all (by decide))
theorem trimL_ws (l : List UInt8) : Lib.trimLeftS l [32, 9] = l.dropWhile wsB := by
  unfold Lib.trimLeftS
  congr 1
  funext b
  unfold wsB
  simp only [List.contains_cons, List.contains_nil, Bool.or_false]
theorem ret_int {k : IntKind} {a b : Int} (h : a = b) : Ending.returned (.int k a) = .returned (.int k b) := by rw [h]
theorem ret_ib {a b : Int} {x y : Bool} (h : a = b) (k : x = y) : Ending.returned (.tuple #[.int .i64 a, .bool x]) = .returned (.tuple #[.int .i64 b, .bool y]) := by rw [h, k]
theorem blanks_any (s : ByteArray) (i : Nat) (w : World) (hs : s.size ≤ 1099511627776) (hi : i ≤ s.size) : Calls Tryd.prog 53 #[.string s, .int .i64 (i : Int)] w (IntB w (blk s.data.toList i : Nat)) := by
  have hl : s.data.toList.length = s.size := Array.length_toList
  have hT := trimL_any (s.extract i s.size) w
  rw [trimL_ws, Lib.extract_data, List.take_of_length_le (by rw [List.length_drop]; omega)] at hT
  have hd := blk_drop s.data.toList i (by omega)
  obtain ⟨T, hTe⟩ : ∃ T : ByteArray, (⟨((s.data.toList.drop i).dropWhile wsB).toArray⟩ : ByteArray) = T := ⟨_, rfl⟩
  have hTs : T.size = ((s.data.toList.drop i).dropWhile wsB).length := by rw [← hTe]; show (List.toArray _).size = _; simp
  rw [hTe] at hT
  rw [← hTs] at hd
  obtain ⟨n, hn⟩ : ∃ n, blk s.data.toList i = n := ⟨_, rfl⟩
  rw [hn] at hd ⊢
  have HT := Lib.hid hT
  have hd2 : T.size + n ≤ s.size := by omega
  have HD := Lib.hid hd
  have hii : (i : Int) ≤ (s.size : Int) := by omega
  clear hT hTe hTs hn hd
  go_enter Tryd.func53, Tryd.ntmps53
  go_wp2_with fail
  refine Calls.mono HT.out ?_
  rintro e w1 ⟨rfl, b1⟩
  have HB := Lib.hid b1
  clear b1
  go_wp2
  go_ret
  exact ⟨ret_int (by have := HD.out; omega), HB.out⟩
theorem prefix_one (l : List UInt8) (c : UInt8) : Lib.hasPrefix l [c] = (l[0]? == some c) := by
  unfold Lib.hasPrefix
  cases l with
  | nil => rfl
  | cons a l =>
    show ((c == a) && List.isPrefixOf [] _) = _
    rw [List.isPrefixOf_nil_left, Bool.and_true, Bool.beq_comm]
    rfl
theorem prefix_at (s : ByteArray) (k : Nat) (c : UInt8) (h : k ≤ s.size) : Lib.hasPrefix (s.extract k s.size).data.toList [c] = (s.data.toList[k]? == some c) := by
  have hl : s.data.toList.length = s.size := Array.length_toList
  rw [prefix_one, Lib.extract_data, List.take_of_length_le (by rw [List.length_drop]; omega), List.getElem?_drop]
  rfl
set_option maxRecDepth 100000 in
theorem gap_any (s : ByteArray) (i : Int) (w : World) (hs : s.size ≤ 1099511627776) (hi : -9223372036854775808 ≤ i ∧ i ≤ 9223372036854775807) : Calls Tryd.prog 24 #[.string s, .int .i64 i] w (IntB w (gapI s.data.toList i)) := by
  have hl : s.data.toList.length = s.size := Array.length_toList
  by_cases h0 : i < 0
  · have hv : gapI s.data.toList i = i := by unfold gapI; rw [if_pos (.inl h0)]
    rw [hv]
    clear hv
    go_enter Tryd.func24, Tryd.ntmps24
    go_wp2
    go_ret
    exact ⟨rfl, Below.refl _ _⟩
  · obtain ⟨k, rfl⟩ : ∃ k : Nat, i = k := ⟨i.toNat, by omega⟩
    by_cases h1 : s.size < k
    · have hv : gapI s.data.toList (k : Int) = k := by unfold gapI; rw [if_pos (.inr (by omega))]
      rw [hv]
      clear hv
      go_enter Tryd.func24, Tryd.ntmps24
      go_wp2
      go_ret
      exact ⟨rfl, Below.refl _ _⟩
    · have hv : gapI s.data.toList (k : Int) = (gapN s.data.toList k : Nat) := by unfold gapI; rw [if_neg (by omega), Int.toNat_natCast]
      rw [hv]
      have hk : k ≤ s.size := by omega
      have hB := blanks_any s k w hs hk
      have hin := blk_in s.data.toList k (by omega)
      have hg : gapN s.data.toList k = if s.data.toList[blk s.data.toList k]? == some 10 then blk s.data.toList (blk s.data.toList k + 1) else blk s.data.toList k := rfl
      obtain ⟨j, hj⟩ : ∃ j, blk s.data.toList k = j := ⟨_, rfl⟩
      rw [hj] at hB hin hg
      have hpre := prefix_at s j 10 (by omega)
      obtain ⟨q, hq⟩ : ∃ q, (s.data.toList[j]? == some 10) = q := ⟨_, rfl⟩
      rw [hq] at hpre hg
      have HB := Lib.hid hB; have HG := Lib.hid hg
      have HP := Lib.hid fun (w' : World) => Tryd.strings_HasPrefix (s.extract j s.size) ⟨#[10]⟩ w'
      have hj1 : q = true → j + 1 ≤ s.size := fun h => by
        subst h
        have h2 : s.data.toList[j]? = some 10 := by simpa using hq
        have := (List.getElem?_eq_some_iff.1 h2).1
        omega
      have HQ := Lib.hid hpre
      have hjs : j ≤ s.size := by omega
      have hji : (j : Int) ≤ (s.size : Int) := by omega
      clear hB hg hpre hq hj hv hin
      go_enter Tryd.func24, Tryd.ntmps24
      go_wp2_with fail
      refine Calls.mono HB.out ?_
      rintro e w1 ⟨rfl, b1⟩
      have HB1 := Lib.hid b1
      clear b1
      go_wp2_with fail
      refine Calls.mono (HP.out _) ?_
      rintro e w2 ⟨rfl, rfl⟩
      rw [show Lib.hasPrefix (s.extract j s.size).data.toList (⟨#[10]⟩ : ByteArray).data.toList = q from HQ.out]
      cases q with
      | false =>
        go_wp2
        go_ret
        exact ⟨by rw [HG.out]; rfl, HB1.out⟩
      | true =>
        have hj2 := hj1 rfl
        go_wp2_with fail
        refine Calls.mono (blanks_any s (j + 1) _ hs hj2) ?_
        rintro e w3 ⟨rfl, b3⟩
        have HB3 := Lib.hid b3
        clear b3
        go_wp2
        go_ret
        exact ⟨by rw [HG.out]; rfl, HB1.out.trans (HB3.out.mono HB1.out.size)⟩
def LineR (w : World) (o : Option Nat) (e : Ending) (w' : World) : Prop := e = .returned (.tuple #[.int .i64 (o.getD 0 : Nat), .bool o.isSome]) ∧ Below w.heap.size w w'
set_option maxRecDepth 100000 in
theorem line_any (s : ByteArray) (i : Nat) (w : World) (hs : s.size ≤ 1099511627776) (hi : i ≤ s.size) : Calls Tryd.prog 37 #[.string s, .int .i64 (i : Int)] w (LineR w (lineN s.data.toList i)) := by
  have hl : s.data.toList.length = s.size := Array.length_toList
  have hB := blanks_any s i w hs hi
  have hin := blk_in s.data.toList i (by omega)
  obtain ⟨o, ho⟩ : ∃ o, lineN s.data.toList i = o := ⟨_, rfl⟩
  rw [ho]
  unfold lineN at ho
  rw [hl] at ho
  obtain ⟨j, hj⟩ : ∃ j, blk s.data.toList i = j := ⟨_, rfl⟩
  rw [hj] at hB hin ho
  have HB := Lib.hid hB
  have hjs : j ≤ s.size := by omega
  by_cases hlt : j < s.size
  · rw [get_list s j hlt] at ho
    simp only at ho
    obtain ⟨q, hq⟩ : ∃ q, (s[j] == 10) = q := ⟨_, rfl⟩
    have hq2 : ((s[j].toNat : Int) != 10) = !q := by rw [show ((s[j].toNat : Int) != 10) = (s[j] != 10) from bnec s[j] 10, ← hq]; rfl
    rw [hq] at ho
    have hjj : (j : Int) + 1 ≤ (s.size : Int) := by omega
    cases q with
    | true =>
      have HO := Lib.hid (show some (j + 1) = o by rw [← ho, if_pos rfl, Nat.min_eq_left (by omega)])
      have HM := Lib.hid (show min ((j : Int) + 1) (s.size : Int) = ((j + 1 : Nat) : Int) by omega)
      simp only [Bool.not_true] at hq2
      clear hB hin ho hj hq
      go_enter Tryd.func37, Tryd.ntmps37
      go_wp2_with fail
      refine Calls.mono HB.out ?_
      rintro e w1 ⟨rfl, b1⟩
      have HB1 := Lib.hid b1
      clear b1
      go_wp2
      go_ret2
      exact ⟨by rw [← HO.out]; exact ret_ib HM.out rfl, HB1.out⟩
    | false =>
      have HO := Lib.hid (show none = o by rw [← ho]; rfl)
      simp only [Bool.not_false] at hq2
      clear hB hin ho hj hq
      go_enter Tryd.func37, Tryd.ntmps37
      go_wp2_with fail
      refine Calls.mono HB.out ?_
      rintro e w1 ⟨rfl, b1⟩
      have HB1 := Lib.hid b1
      clear b1
      go_wp2
      go_ret2
      exact ⟨by rw [← HO.out]; rfl, HB1.out⟩
  · obtain rfl : j = s.size := by omega
    rw [get_none s s.size hlt] at ho
    simp only at ho
    have HO := Lib.hid (show some s.size = o by rw [← ho, Nat.min_eq_right (by omega)])
    have HM := Lib.hid (show min ((s.size : Int) + 1) (s.size : Int) = ((s.size : Nat) : Int) by omega)
    have hjj : ¬ (s.size : Int) + 1 ≤ (s.size : Int) := by omega
    clear hB hin ho hj
    go_enter Tryd.func37, Tryd.ntmps37
    go_wp2_with fail
    refine Calls.mono HB.out ?_
    rintro e w1 ⟨rfl, b1⟩
    have HB1 := Lib.hid b1
    clear b1
    go_wp2
    go_ret2
    exact ⟨by rw [← HO.out]; exact ret_ib HM.out rfl, HB1.out⟩
end Go.Proofs.YtbcfhpomclkccaaDoor
