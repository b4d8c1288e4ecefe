/- tympanlaw26.AtomsEnds answers true for every input. -/
import Derived.Test.YtikokedphocpiaaDoorAtEnds2
import Derived.Test.YtikokedphocpiaaDoorKnown26
import Derived.Test.YtikokedphocpiaaDoorTxt3
namespace Go.Proofs.YtikokedphocpiaaDoor
open Go.RowKit

theorem SlU8.later {w w' : World} {v : Value} {l : List UInt8} (h : SlU8 w v l) (hb : Below w.heap.size w w') : SlU8 w' v l := by
  obtain ⟨A, m, c, rfl, hm, hc, h⟩ := h
  refine ⟨A, m, c, rfl, hm, hc, fun h0 => ?_⟩
  obtain ⟨b, off, e, hlt, hbo⟩ := h h0
  exact ⟨b, off, e, Nat.lt_of_lt_of_le hlt hb.size, fun j hj => (hb.cell (p := ⟨b, off + j, none⟩) hlt).trans (hbo j hj)⟩
theorem get_of {s : ByteArray} {q : Nat} {c : UInt8} (h : s.data.toList[q]? = some c) : ∃ hq : q < s.size, s[q] = c := by
  obtain ⟨h1, h2⟩ := List.getElem?_eq_some_iff.1 h
  rw [Array.length_toList] at h1
  exact ⟨h1, h2⟩
def StrE (w : World) (x : ByteArray) (e : Ending) (w' : World) : Prop := e = .returned (.string x) ∧ Below w.heap.size w w'
set_option maxHeartbeats 4000000 in
set_option maxRecDepth 100000 in
theorem ends_w0 (A : Option Addr) (m c : Nat) (T : ByteArray) (i : Int) (w : World) (hm : m ≤ 2500) (_ : T.size ≤ 7500) (hM : MaxB w) (x1 x2 x3 y3 : ByteArray) (_ : -9223372036854775808 ≤ i ∧ i ≤ 9223372036854775807) (n2 : Nat)
    (E0 : ∀ w', Below w.heap.size w w' → Calls Tryd.prog 6 #[.slice A m c] w' (StrE w' T))
    (E1 : ∀ w', Calls Tryd.prog 8 #[.string T, .int .i64 i] w' (SN w' x1 0))
    (E2 : ∀ w', MaxB w' → Calls Tryd.prog 7 #[.string T, .int .i64 i] w' (Tup3 w' x2 (n2 : Int) false))
    (E3 : ∀ w', MaxB w' → Calls Tryd.prog 9 #[.string T, .int .i64 i] w' (Tup3s w' x3 y3 0))
    (E4 : ∀ w', MaxB w' → Calls Tryd.prog 10 #[.string T, .int .i64 i] w' (RIb w' 0)) :
    Calls Tryd.prog 4 #[.slice A m c, .int .i64 i] w (Yes w) := by
  have z : decide ((2500 : Int) < (m : Int)) = false := by simp; omega
  have HM := Lib.hid hM
  have F0 := Lib.hid E0
  have F1 := Lib.hid E1
  have F2 := Lib.hid E2
  have F3 := Lib.hid E3
  have F4 := Lib.hid E4
  clear E0 E1 E2 E3 E4 hM
  go_enter Tryd.func4, Tryd.ntmps4
  go_wp2_with fail
  refine Calls.mono (known_any _ HM.out) ?_
  rintro e w1 ⟨rfl, b1⟩
  go_wp2_with fail
  refine Calls.mono (F0.out _ b1) ?_
  rintro e w2 ⟨rfl, b2⟩
  have b2 := below_on b1 b2
  go_wp2_with fail
  refine Calls.mono (F1.out _) ?_
  rintro e w3 ⟨rfl, rfl⟩
  go_wp2_with fail
  refine Calls.mono (F2.out _ (HM.out.later b2)) ?_
  rintro e w4 ⟨rfl, b4⟩
  have b4 := below_on b2 b4
  go_wp2_with fail
  refine Calls.mono (F3.out _ (HM.out.later b4)) ?_
  rintro e w5 ⟨rfl, b5⟩
  have b5 := below_on b4 b5
  go_wp2_with fail
  refine Calls.mono (F4.out _ (HM.out.later b5)) ?_
  rintro e w6 ⟨rfl, b6⟩
  have b6 := below_on b5 b6
  have HB := Lib.hid b6
  clear b1 b2 b4 b5 b6
  go_wp2
  go_ret
  exact ⟨rfl, HB.out⟩
set_option maxHeartbeats 4000000 in
set_option maxRecDepth 100000 in
theorem ends_w1 (A : Option Addr) (m c : Nat) (T : ByteArray) (i : Int) (w : World) (hm : m ≤ 2500) (hT : T.size ≤ 7500) (hM : MaxB w) (x1 x2 x3 y3 : ByteArray) (hi : -9223372036854775808 ≤ i ∧ i ≤ 9223372036854775807) (i0 : 0 ≤ i) (i1 : i + 2 ≤ T.size) (n2 : Nat)
    (E0 : ∀ w', Below w.heap.size w w' → Calls Tryd.prog 6 #[.slice A m c] w' (StrE w' T))
    (E1 : ∀ w', Calls Tryd.prog 8 #[.string T, .int .i64 i] w' (SN w' x1 2))
    (E2 : ∀ w', MaxB w' → Calls Tryd.prog 7 #[.string T, .int .i64 i] w' (Tup3 w' x2 (n2 : Int) false))
    (E3 : ∀ w', MaxB w' → Calls Tryd.prog 9 #[.string T, .int .i64 i] w' (Tup3s w' x3 y3 0))
    (E4 : ∀ w', MaxB w' → Calls Tryd.prog 10 #[.string T, .int .i64 i] w' (RIb w' 0)) :
    Calls Tryd.prog 4 #[.slice A m c, .int .i64 i] w (Yes w) := by
  have z : decide ((2500 : Int) < (m : Int)) = false := by simp; omega
  have ze : decide ((T.size : Int) < i + 2) = false := by simp; omega
  have hi7 : i ≤ 7500 := by omega
  have HM := Lib.hid hM
  have F0 := Lib.hid E0
  have F1 := Lib.hid E1
  have F2 := Lib.hid E2
  have F3 := Lib.hid E3
  have F4 := Lib.hid E4
  clear E0 E1 E2 E3 E4 hM i1
  go_enter Tryd.func4, Tryd.ntmps4
  go_wp2_with fail
  refine Calls.mono (known_any _ HM.out) ?_
  rintro e w1 ⟨rfl, b1⟩
  go_wp2_with fail
  refine Calls.mono (F0.out _ b1) ?_
  rintro e w2 ⟨rfl, b2⟩
  have b2 := below_on b1 b2
  go_wp2_with fail
  refine Calls.mono (F1.out _) ?_
  rintro e w3 ⟨rfl, rfl⟩
  go_wp2_with fail
  refine Calls.mono (F2.out _ (HM.out.later b2)) ?_
  rintro e w4 ⟨rfl, b4⟩
  have b4 := below_on b2 b4
  go_wp2_with fail
  refine Calls.mono (F3.out _ (HM.out.later b4)) ?_
  rintro e w5 ⟨rfl, b5⟩
  have b5 := below_on b4 b5
  go_wp2_with fail
  refine Calls.mono (F4.out _ (HM.out.later b5)) ?_
  rintro e w6 ⟨rfl, b6⟩
  have b6 := below_on b5 b6
  have HB := Lib.hid b6
  clear b1 b2 b4 b5 b6
  go_wp2
  go_ret
  exact ⟨rfl, HB.out⟩
set_option maxHeartbeats 4000000 in
set_option maxRecDepth 100000 in
theorem ends_w2 (A : Option Addr) (m c : Nat) (T : ByteArray) (i : Int) (w : World) (hm : m ≤ 2500) (hT : T.size ≤ 7500) (hM : MaxB w) (x1 x2 x3 y3 : ByteArray) (hi : -9223372036854775808 ≤ i ∧ i ≤ 9223372036854775807) (q2 : Nat) (c1 : i + 1 < q2 + 1) (c2 : q2 < T.size) (c3 : T[q2] = 96) (i0 : 0 ≤ i)
    (E0 : ∀ w', Below w.heap.size w w' → Calls Tryd.prog 6 #[.slice A m c] w' (StrE w' T))
    (E1 : ∀ w', Calls Tryd.prog 8 #[.string T, .int .i64 i] w' (SN w' x1 0))
    (E2 : ∀ w', MaxB w' → Calls Tryd.prog 7 #[.string T, .int .i64 i] w' (Tup3 w' x2 ((q2 + 1 : Nat) : Int) true))
    (E3 : ∀ w', MaxB w' → Calls Tryd.prog 9 #[.string T, .int .i64 i] w' (Tup3s w' x3 y3 0))
    (E4 : ∀ w', MaxB w' → Calls Tryd.prog 10 #[.string T, .int .i64 i] w' (RIb w' 0)) :
    Calls Tryd.prog 4 #[.slice A m c, .int .i64 i] w (Yes w) := by
  have z : decide ((2500 : Int) < (m : Int)) = false := by simp; omega
  have zc1 : decide ((q2 : Int) ≤ i) = false := by simp; omega
  have zc2 : decide ((T.size : Int) < (q2 : Int) + 1) = false := by simp; omega
  have zc3 : (q2 : Int) < (T.size : Int) := by omega
  have zc4 : ((T[q2].toNat : Int) != 96) = false := by rw [c3]; rfl
  have hi7 : i ≤ 7500 := by omega
  have HM := Lib.hid hM
  have F0 := Lib.hid E0
  have F1 := Lib.hid E1
  have F2 := Lib.hid E2
  have F3 := Lib.hid E3
  have F4 := Lib.hid E4
  clear E0 E1 E2 E3 E4 hM c3 c1
  go_enter Tryd.func4, Tryd.ntmps4
  go_wp2_with fail
  refine Calls.mono (known_any _ HM.out) ?_
  rintro e w1 ⟨rfl, b1⟩
  go_wp2_with fail
  refine Calls.mono (F0.out _ b1) ?_
  rintro e w2 ⟨rfl, b2⟩
  have b2 := below_on b1 b2
  go_wp2_with fail
  refine Calls.mono (F1.out _) ?_
  rintro e w3 ⟨rfl, rfl⟩
  go_wp2_with fail
  refine Calls.mono (F2.out _ (HM.out.later b2)) ?_
  rintro e w4 ⟨rfl, b4⟩
  have b4 := below_on b2 b4
  go_wp2_with fail
  refine Calls.mono (F3.out _ (HM.out.later b4)) ?_
  rintro e w5 ⟨rfl, b5⟩
  have b5 := below_on b4 b5
  go_wp2_with fail
  refine Calls.mono (F4.out _ (HM.out.later b5)) ?_
  rintro e w6 ⟨rfl, b6⟩
  have b6 := below_on b5 b6
  have HB := Lib.hid b6
  clear b1 b2 b4 b5 b6
  go_wp2
  go_ret
  exact ⟨rfl, HB.out⟩
set_option maxHeartbeats 4000000 in
set_option maxRecDepth 100000 in
theorem ends_w3 (A : Option Addr) (m c : Nat) (T : ByteArray) (i : Int) (w : World) (hm : m ≤ 2500) (hT : T.size ≤ 7500) (hM : MaxB w) (x1 x2 x3 y3 : ByteArray) (hi : -9223372036854775808 ≤ i ∧ i ≤ 9223372036854775807) (i0 : 0 ≤ i) (i1 : i + 2 ≤ T.size) (q2 : Nat) (c1 : i + 1 < q2 + 1) (c2 : q2 < T.size) (c3 : T[q2] = 96)
    (E0 : ∀ w', Below w.heap.size w w' → Calls Tryd.prog 6 #[.slice A m c] w' (StrE w' T))
    (E1 : ∀ w', Calls Tryd.prog 8 #[.string T, .int .i64 i] w' (SN w' x1 2))
    (E2 : ∀ w', MaxB w' → Calls Tryd.prog 7 #[.string T, .int .i64 i] w' (Tup3 w' x2 ((q2 + 1 : Nat) : Int) true))
    (E3 : ∀ w', MaxB w' → Calls Tryd.prog 9 #[.string T, .int .i64 i] w' (Tup3s w' x3 y3 0))
    (E4 : ∀ w', MaxB w' → Calls Tryd.prog 10 #[.string T, .int .i64 i] w' (RIb w' 0)) :
    Calls Tryd.prog 4 #[.slice A m c, .int .i64 i] w (Yes w) := by
  have z : decide ((2500 : Int) < (m : Int)) = false := by simp; omega
  have ze : decide ((T.size : Int) < i + 2) = false := by simp; omega
  have zc1 : decide ((q2 : Int) ≤ i) = false := by simp; omega
  have zc2 : decide ((T.size : Int) < (q2 : Int) + 1) = false := by simp; omega
  have zc3 : (q2 : Int) < (T.size : Int) := by omega
  have zc4 : ((T[q2].toNat : Int) != 96) = false := by rw [c3]; rfl
  have hi7 : i ≤ 7500 := by omega
  have HM := Lib.hid hM
  have F0 := Lib.hid E0
  have F1 := Lib.hid E1
  have F2 := Lib.hid E2
  have F3 := Lib.hid E3
  have F4 := Lib.hid E4
  clear E0 E1 E2 E3 E4 hM c3 c1 i1
  go_enter Tryd.func4, Tryd.ntmps4
  go_wp2_with fail
  refine Calls.mono (known_any _ HM.out) ?_
  rintro e w1 ⟨rfl, b1⟩
  go_wp2_with fail
  refine Calls.mono (F0.out _ b1) ?_
  rintro e w2 ⟨rfl, b2⟩
  have b2 := below_on b1 b2
  go_wp2_with fail
  refine Calls.mono (F1.out _) ?_
  rintro e w3 ⟨rfl, rfl⟩
  go_wp2_with fail
  refine Calls.mono (F2.out _ (HM.out.later b2)) ?_
  rintro e w4 ⟨rfl, b4⟩
  have b4 := below_on b2 b4
  go_wp2_with fail
  refine Calls.mono (F3.out _ (HM.out.later b4)) ?_
  rintro e w5 ⟨rfl, b5⟩
  have b5 := below_on b4 b5
  go_wp2_with fail
  refine Calls.mono (F4.out _ (HM.out.later b5)) ?_
  rintro e w6 ⟨rfl, b6⟩
  have b6 := below_on b5 b6
  have HB := Lib.hid b6
  clear b1 b2 b4 b5 b6
  go_wp2
  go_ret
  exact ⟨rfl, HB.out⟩
set_option maxHeartbeats 4000000 in
set_option maxRecDepth 100000 in
theorem ends_w4 (A : Option Addr) (m c : Nat) (T : ByteArray) (i : Int) (w : World) (hm : m ≤ 2500) (hT : T.size ≤ 7500) (hM : MaxB w) (x1 x2 x3 y3 : ByteArray) (hi : -9223372036854775808 ≤ i ∧ i ≤ 9223372036854775807) (n2 : Nat) (q3 : Nat) (a1 : (q3 : Int) + 1 = i + x3.size + 2) (a2 : q3 < T.size) (a3 : T[q3] = 62) (i0 : 0 ≤ i)
    (E0 : ∀ w', Below w.heap.size w w' → Calls Tryd.prog 6 #[.slice A m c] w' (StrE w' T))
    (E1 : ∀ w', Calls Tryd.prog 8 #[.string T, .int .i64 i] w' (SN w' x1 0))
    (E2 : ∀ w', MaxB w' → Calls Tryd.prog 7 #[.string T, .int .i64 i] w' (Tup3 w' x2 (n2 : Int) false))
    (E3 : ∀ w', MaxB w' → Calls Tryd.prog 9 #[.string T, .int .i64 i] w' (Tup3s w' x3 y3 ((q3 + 1 : Nat) : Int)))
    (E4 : ∀ w', MaxB w' → Calls Tryd.prog 10 #[.string T, .int .i64 i] w' (RIb w' 0)) :
    Calls Tryd.prog 4 #[.slice A m c, .int .i64 i] w (Yes w) := by
  have z : decide ((2500 : Int) < (m : Int)) = false := by simp; omega
  have hx3 : x3.size ≤ 7500 := by omega
  have za1 : ((q3 : Int) + 1 != i + (x3.size : Int) + 2) = false := by rw [← a1]; simp
  have za0 : ((q3 : Int) + 1 != 0) = true := by simp; omega
  have za2 : decide ((T.size : Int) < (q3 : Int) + 1) = false := by simp; omega
  have za3 : (q3 : Int) < (T.size : Int) := by omega
  have za4 : ((T[q3].toNat : Int) != 62) = false := by rw [a3]; rfl
  have hi7 : i ≤ 7500 := by omega
  have HM := Lib.hid hM
  have F0 := Lib.hid E0
  have F1 := Lib.hid E1
  have F2 := Lib.hid E2
  have F3 := Lib.hid E3
  have F4 := Lib.hid E4
  clear E0 E1 E2 E3 E4 hM a3 a1
  go_enter Tryd.func4, Tryd.ntmps4
  go_wp2_with fail
  refine Calls.mono (known_any _ HM.out) ?_
  rintro e w1 ⟨rfl, b1⟩
  go_wp2_with fail
  refine Calls.mono (F0.out _ b1) ?_
  rintro e w2 ⟨rfl, b2⟩
  have b2 := below_on b1 b2
  go_wp2_with fail
  refine Calls.mono (F1.out _) ?_
  rintro e w3 ⟨rfl, rfl⟩
  go_wp2_with fail
  refine Calls.mono (F2.out _ (HM.out.later b2)) ?_
  rintro e w4 ⟨rfl, b4⟩
  have b4 := below_on b2 b4
  go_wp2_with fail
  refine Calls.mono (F3.out _ (HM.out.later b4)) ?_
  rintro e w5 ⟨rfl, b5⟩
  have b5 := below_on b4 b5
  go_wp2_with fail
  refine Calls.mono (F4.out _ (HM.out.later b5)) ?_
  rintro e w6 ⟨rfl, b6⟩
  have b6 := below_on b5 b6
  have HB := Lib.hid b6
  clear b1 b2 b4 b5 b6
  go_wp2
  go_ret
  exact ⟨rfl, HB.out⟩
set_option maxHeartbeats 4000000 in
set_option maxRecDepth 100000 in
theorem ends_w5 (A : Option Addr) (m c : Nat) (T : ByteArray) (i : Int) (w : World) (hm : m ≤ 2500) (hT : T.size ≤ 7500) (hM : MaxB w) (x1 x2 x3 y3 : ByteArray) (hi : -9223372036854775808 ≤ i ∧ i ≤ 9223372036854775807) (i0 : 0 ≤ i) (i1 : i + 2 ≤ T.size) (n2 : Nat) (q3 : Nat) (a1 : (q3 : Int) + 1 = i + x3.size + 2) (a2 : q3 < T.size) (a3 : T[q3] = 62)
    (E0 : ∀ w', Below w.heap.size w w' → Calls Tryd.prog 6 #[.slice A m c] w' (StrE w' T))
    (E1 : ∀ w', Calls Tryd.prog 8 #[.string T, .int .i64 i] w' (SN w' x1 2))
    (E2 : ∀ w', MaxB w' → Calls Tryd.prog 7 #[.string T, .int .i64 i] w' (Tup3 w' x2 (n2 : Int) false))
    (E3 : ∀ w', MaxB w' → Calls Tryd.prog 9 #[.string T, .int .i64 i] w' (Tup3s w' x3 y3 ((q3 + 1 : Nat) : Int)))
    (E4 : ∀ w', MaxB w' → Calls Tryd.prog 10 #[.string T, .int .i64 i] w' (RIb w' 0)) :
    Calls Tryd.prog 4 #[.slice A m c, .int .i64 i] w (Yes w) := by
  have z : decide ((2500 : Int) < (m : Int)) = false := by simp; omega
  have ze : decide ((T.size : Int) < i + 2) = false := by simp; omega
  have hx3 : x3.size ≤ 7500 := by omega
  have za1 : ((q3 : Int) + 1 != i + (x3.size : Int) + 2) = false := by rw [← a1]; simp
  have za0 : ((q3 : Int) + 1 != 0) = true := by simp; omega
  have za2 : decide ((T.size : Int) < (q3 : Int) + 1) = false := by simp; omega
  have za3 : (q3 : Int) < (T.size : Int) := by omega
  have za4 : ((T[q3].toNat : Int) != 62) = false := by rw [a3]; rfl
  have hi7 : i ≤ 7500 := by omega
  have HM := Lib.hid hM
  have F0 := Lib.hid E0
  have F1 := Lib.hid E1
  have F2 := Lib.hid E2
  have F3 := Lib.hid E3
  have F4 := Lib.hid E4
  clear E0 E1 E2 E3 E4 hM a3 a1 i1
  go_enter Tryd.func4, Tryd.ntmps4
  go_wp2_with fail
  refine Calls.mono (known_any _ HM.out) ?_
  rintro e w1 ⟨rfl, b1⟩
  go_wp2_with fail
  refine Calls.mono (F0.out _ b1) ?_
  rintro e w2 ⟨rfl, b2⟩
  have b2 := below_on b1 b2
  go_wp2_with fail
  refine Calls.mono (F1.out _) ?_
  rintro e w3 ⟨rfl, rfl⟩
  go_wp2_with fail
  refine Calls.mono (F2.out _ (HM.out.later b2)) ?_
  rintro e w4 ⟨rfl, b4⟩
  have b4 := below_on b2 b4
  go_wp2_with fail
  refine Calls.mono (F3.out _ (HM.out.later b4)) ?_
  rintro e w5 ⟨rfl, b5⟩
  have b5 := below_on b4 b5
  go_wp2_with fail
  refine Calls.mono (F4.out _ (HM.out.later b5)) ?_
  rintro e w6 ⟨rfl, b6⟩
  have b6 := below_on b5 b6
  have HB := Lib.hid b6
  clear b1 b2 b4 b5 b6
  go_wp2
  go_ret
  exact ⟨rfl, HB.out⟩
set_option maxHeartbeats 4000000 in
set_option maxRecDepth 100000 in
theorem ends_w6 (A : Option Addr) (m c : Nat) (T : ByteArray) (i : Int) (w : World) (hm : m ≤ 2500) (hT : T.size ≤ 7500) (hM : MaxB w) (x1 x2 x3 y3 : ByteArray) (hi : -9223372036854775808 ≤ i ∧ i ≤ 9223372036854775807) (q2 : Nat) (c1 : i + 1 < q2 + 1) (c2 : q2 < T.size) (c3 : T[q2] = 96) (i0 : 0 ≤ i) (q3 : Nat) (a1 : (q3 : Int) + 1 = i + x3.size + 2) (a2 : q3 < T.size) (a3 : T[q3] = 62)
    (E0 : ∀ w', Below w.heap.size w w' → Calls Tryd.prog 6 #[.slice A m c] w' (StrE w' T))
    (E1 : ∀ w', Calls Tryd.prog 8 #[.string T, .int .i64 i] w' (SN w' x1 0))
    (E2 : ∀ w', MaxB w' → Calls Tryd.prog 7 #[.string T, .int .i64 i] w' (Tup3 w' x2 ((q2 + 1 : Nat) : Int) true))
    (E3 : ∀ w', MaxB w' → Calls Tryd.prog 9 #[.string T, .int .i64 i] w' (Tup3s w' x3 y3 ((q3 + 1 : Nat) : Int)))
    (E4 : ∀ w', MaxB w' → Calls Tryd.prog 10 #[.string T, .int .i64 i] w' (RIb w' 0)) :
    Calls Tryd.prog 4 #[.slice A m c, .int .i64 i] w (Yes w) := by
  have z : decide ((2500 : Int) < (m : Int)) = false := by simp; omega
  have zc1 : decide ((q2 : Int) ≤ i) = false := by simp; omega
  have zc2 : decide ((T.size : Int) < (q2 : Int) + 1) = false := by simp; omega
  have zc3 : (q2 : Int) < (T.size : Int) := by omega
  have zc4 : ((T[q2].toNat : Int) != 96) = false := by rw [c3]; rfl
  have hx3 : x3.size ≤ 7500 := by omega
  have za1 : ((q3 : Int) + 1 != i + (x3.size : Int) + 2) = false := by rw [← a1]; simp
  have za0 : ((q3 : Int) + 1 != 0) = true := by simp; omega
  have za2 : decide ((T.size : Int) < (q3 : Int) + 1) = false := by simp; omega
  have za3 : (q3 : Int) < (T.size : Int) := by omega
  have za4 : ((T[q3].toNat : Int) != 62) = false := by rw [a3]; rfl
  have hi7 : i ≤ 7500 := by omega
  have HM := Lib.hid hM
  have F0 := Lib.hid E0
  have F1 := Lib.hid E1
  have F2 := Lib.hid E2
  have F3 := Lib.hid E3
  have F4 := Lib.hid E4
  clear E0 E1 E2 E3 E4 hM c3 c1 a3 a1
  go_enter Tryd.func4, Tryd.ntmps4
  go_wp2_with fail
  refine Calls.mono (known_any _ HM.out) ?_
  rintro e w1 ⟨rfl, b1⟩
  go_wp2_with fail
  refine Calls.mono (F0.out _ b1) ?_
  rintro e w2 ⟨rfl, b2⟩
  have b2 := below_on b1 b2
  go_wp2_with fail
  refine Calls.mono (F1.out _) ?_
  rintro e w3 ⟨rfl, rfl⟩
  go_wp2_with fail
  refine Calls.mono (F2.out _ (HM.out.later b2)) ?_
  rintro e w4 ⟨rfl, b4⟩
  have b4 := below_on b2 b4
  go_wp2_with fail
  refine Calls.mono (F3.out _ (HM.out.later b4)) ?_
  rintro e w5 ⟨rfl, b5⟩
  have b5 := below_on b4 b5
  go_wp2_with fail
  refine Calls.mono (F4.out _ (HM.out.later b5)) ?_
  rintro e w6 ⟨rfl, b6⟩
  have b6 := below_on b5 b6
  have HB := Lib.hid b6
  clear b1 b2 b4 b5 b6
  go_wp2
  go_ret
  exact ⟨rfl, HB.out⟩
set_option maxHeartbeats 4000000 in
set_option maxRecDepth 100000 in
theorem ends_w7 (A : Option Addr) (m c : Nat) (T : ByteArray) (i : Int) (w : World) (hm : m ≤ 2500) (hT : T.size ≤ 7500) (hM : MaxB w) (x1 x2 x3 y3 : ByteArray) (hi : -9223372036854775808 ≤ i ∧ i ≤ 9223372036854775807) (i0 : 0 ≤ i) (i1 : i + 2 ≤ T.size) (q2 : Nat) (c1 : i + 1 < q2 + 1) (c2 : q2 < T.size) (c3 : T[q2] = 96) (q3 : Nat) (a1 : (q3 : Int) + 1 = i + x3.size + 2) (a2 : q3 < T.size) (a3 : T[q3] = 62)
    (E0 : ∀ w', Below w.heap.size w w' → Calls Tryd.prog 6 #[.slice A m c] w' (StrE w' T))
    (E1 : ∀ w', Calls Tryd.prog 8 #[.string T, .int .i64 i] w' (SN w' x1 2))
    (E2 : ∀ w', MaxB w' → Calls Tryd.prog 7 #[.string T, .int .i64 i] w' (Tup3 w' x2 ((q2 + 1 : Nat) : Int) true))
    (E3 : ∀ w', MaxB w' → Calls Tryd.prog 9 #[.string T, .int .i64 i] w' (Tup3s w' x3 y3 ((q3 + 1 : Nat) : Int)))
    (E4 : ∀ w', MaxB w' → Calls Tryd.prog 10 #[.string T, .int .i64 i] w' (RIb w' 0)) :
    Calls Tryd.prog 4 #[.slice A m c, .int .i64 i] w (Yes w) := by
  have z : decide ((2500 : Int) < (m : Int)) = false := by simp; omega
  have ze : decide ((T.size : Int) < i + 2) = false := by simp; omega
  have zc1 : decide ((q2 : Int) ≤ i) = false := by simp; omega
  have zc2 : decide ((T.size : Int) < (q2 : Int) + 1) = false := by simp; omega
  have zc3 : (q2 : Int) < (T.size : Int) := by omega
  have zc4 : ((T[q2].toNat : Int) != 96) = false := by rw [c3]; rfl
  have hx3 : x3.size ≤ 7500 := by omega
  have za1 : ((q3 : Int) + 1 != i + (x3.size : Int) + 2) = false := by rw [← a1]; simp
  have za0 : ((q3 : Int) + 1 != 0) = true := by simp; omega
  have za2 : decide ((T.size : Int) < (q3 : Int) + 1) = false := by simp; omega
  have za3 : (q3 : Int) < (T.size : Int) := by omega
  have za4 : ((T[q3].toNat : Int) != 62) = false := by rw [a3]; rfl
  have hi7 : i ≤ 7500 := by omega
  have HM := Lib.hid hM
  have F0 := Lib.hid E0
  have F1 := Lib.hid E1
  have F2 := Lib.hid E2
  have F3 := Lib.hid E3
  have F4 := Lib.hid E4
  clear E0 E1 E2 E3 E4 hM c3 c1 a3 a1 i1
  go_enter Tryd.func4, Tryd.ntmps4
  go_wp2_with fail
  refine Calls.mono (known_any _ HM.out) ?_
  rintro e w1 ⟨rfl, b1⟩
  go_wp2_with fail
  refine Calls.mono (F0.out _ b1) ?_
  rintro e w2 ⟨rfl, b2⟩
  have b2 := below_on b1 b2
  go_wp2_with fail
  refine Calls.mono (F1.out _) ?_
  rintro e w3 ⟨rfl, rfl⟩
  go_wp2_with fail
  refine Calls.mono (F2.out _ (HM.out.later b2)) ?_
  rintro e w4 ⟨rfl, b4⟩
  have b4 := below_on b2 b4
  go_wp2_with fail
  refine Calls.mono (F3.out _ (HM.out.later b4)) ?_
  rintro e w5 ⟨rfl, b5⟩
  have b5 := below_on b4 b5
  go_wp2_with fail
  refine Calls.mono (F4.out _ (HM.out.later b5)) ?_
  rintro e w6 ⟨rfl, b6⟩
  have b6 := below_on b5 b6
  have HB := Lib.hid b6
  clear b1 b2 b4 b5 b6
  go_wp2
  go_ret
  exact ⟨rfl, HB.out⟩
set_option maxHeartbeats 4000000 in
set_option maxRecDepth 100000 in
theorem ends_w8 (A : Option Addr) (m c : Nat) (T : ByteArray) (i : Int) (w : World) (hm : m ≤ 2500) (hT : T.size ≤ 7500) (hM : MaxB w) (x1 x2 x3 y3 : ByteArray) (hi : -9223372036854775808 ≤ i ∧ i ≤ 9223372036854775807) (n2 : Nat) (q4 : Nat) (b1 : i + 2 < q4 + 1) (b2 : q4 < T.size) (b3 : T[q4] = 62) (i0 : 0 ≤ i)
    (E0 : ∀ w', Below w.heap.size w w' → Calls Tryd.prog 6 #[.slice A m c] w' (StrE w' T))
    (E1 : ∀ w', Calls Tryd.prog 8 #[.string T, .int .i64 i] w' (SN w' x1 0))
    (E2 : ∀ w', MaxB w' → Calls Tryd.prog 7 #[.string T, .int .i64 i] w' (Tup3 w' x2 (n2 : Int) false))
    (E3 : ∀ w', MaxB w' → Calls Tryd.prog 9 #[.string T, .int .i64 i] w' (Tup3s w' x3 y3 0))
    (E4 : ∀ w', MaxB w' → Calls Tryd.prog 10 #[.string T, .int .i64 i] w' (RIb w' ((q4 + 1 : Nat) : Int))) :
    Calls Tryd.prog 4 #[.slice A m c, .int .i64 i] w (Yes w) := by
  have z : decide ((2500 : Int) < (m : Int)) = false := by simp; omega
  have zh0 : ((q4 : Int) + 1 == 0) = false := by rw [beq_eq_false_iff_ne]; omega
  have zh1 : decide (i + 2 < (q4 : Int) + 1) = true := by simp; omega
  have zh2 : decide ((q4 : Int) + 1 ≤ (T.size : Int)) = true := by simp; omega
  have zh3 : (q4 : Int) < (T.size : Int) := by omega
  have zh4 : ((T[q4].toNat : Int) == 62) = true := by rw [b3]; rfl
  have hi7 : i ≤ 7500 := by omega
  have HM := Lib.hid hM
  have F0 := Lib.hid E0
  have F1 := Lib.hid E1
  have F2 := Lib.hid E2
  have F3 := Lib.hid E3
  have F4 := Lib.hid E4
  clear E0 E1 E2 E3 E4 hM b3 b1
  go_enter Tryd.func4, Tryd.ntmps4
  go_wp2_with fail
  refine Calls.mono (known_any _ HM.out) ?_
  rintro e w1 ⟨rfl, b1⟩
  go_wp2_with fail
  refine Calls.mono (F0.out _ b1) ?_
  rintro e w2 ⟨rfl, b2⟩
  have b2 := below_on b1 b2
  go_wp2_with fail
  refine Calls.mono (F1.out _) ?_
  rintro e w3 ⟨rfl, rfl⟩
  go_wp2_with fail
  refine Calls.mono (F2.out _ (HM.out.later b2)) ?_
  rintro e w4 ⟨rfl, b4⟩
  have b4 := below_on b2 b4
  go_wp2_with fail
  refine Calls.mono (F3.out _ (HM.out.later b4)) ?_
  rintro e w5 ⟨rfl, b5⟩
  have b5 := below_on b4 b5
  go_wp2_with fail
  refine Calls.mono (F4.out _ (HM.out.later b5)) ?_
  rintro e w6 ⟨rfl, b6⟩
  have b6 := below_on b5 b6
  have HB := Lib.hid b6
  clear b1 b2 b4 b5 b6
  go_wp2
  go_ret
  exact ⟨rfl, HB.out⟩
set_option maxHeartbeats 4000000 in
set_option maxRecDepth 100000 in
theorem ends_w9 (A : Option Addr) (m c : Nat) (T : ByteArray) (i : Int) (w : World) (hm : m ≤ 2500) (hT : T.size ≤ 7500) (hM : MaxB w) (x1 x2 x3 y3 : ByteArray) (hi : -9223372036854775808 ≤ i ∧ i ≤ 9223372036854775807) (i0 : 0 ≤ i) (i1 : i + 2 ≤ T.size) (n2 : Nat) (q4 : Nat) (b1 : i + 2 < q4 + 1) (b2 : q4 < T.size) (b3 : T[q4] = 62)
    (E0 : ∀ w', Below w.heap.size w w' → Calls Tryd.prog 6 #[.slice A m c] w' (StrE w' T))
    (E1 : ∀ w', Calls Tryd.prog 8 #[.string T, .int .i64 i] w' (SN w' x1 2))
    (E2 : ∀ w', MaxB w' → Calls Tryd.prog 7 #[.string T, .int .i64 i] w' (Tup3 w' x2 (n2 : Int) false))
    (E3 : ∀ w', MaxB w' → Calls Tryd.prog 9 #[.string T, .int .i64 i] w' (Tup3s w' x3 y3 0))
    (E4 : ∀ w', MaxB w' → Calls Tryd.prog 10 #[.string T, .int .i64 i] w' (RIb w' ((q4 + 1 : Nat) : Int))) :
    Calls Tryd.prog 4 #[.slice A m c, .int .i64 i] w (Yes w) := by
  have z : decide ((2500 : Int) < (m : Int)) = false := by simp; omega
  have ze : decide ((T.size : Int) < i + 2) = false := by simp; omega
  have zh0 : ((q4 : Int) + 1 == 0) = false := by rw [beq_eq_false_iff_ne]; omega
  have zh1 : decide (i + 2 < (q4 : Int) + 1) = true := by simp; omega
  have zh2 : decide ((q4 : Int) + 1 ≤ (T.size : Int)) = true := by simp; omega
  have zh3 : (q4 : Int) < (T.size : Int) := by omega
  have zh4 : ((T[q4].toNat : Int) == 62) = true := by rw [b3]; rfl
  have hi7 : i ≤ 7500 := by omega
  have HM := Lib.hid hM
  have F0 := Lib.hid E0
  have F1 := Lib.hid E1
  have F2 := Lib.hid E2
  have F3 := Lib.hid E3
  have F4 := Lib.hid E4
  clear E0 E1 E2 E3 E4 hM b3 b1 i1
  go_enter Tryd.func4, Tryd.ntmps4
  go_wp2_with fail
  refine Calls.mono (known_any _ HM.out) ?_
  rintro e w1 ⟨rfl, b1⟩
  go_wp2_with fail
  refine Calls.mono (F0.out _ b1) ?_
  rintro e w2 ⟨rfl, b2⟩
  have b2 := below_on b1 b2
  go_wp2_with fail
  refine Calls.mono (F1.out _) ?_
  rintro e w3 ⟨rfl, rfl⟩
  go_wp2_with fail
  refine Calls.mono (F2.out _ (HM.out.later b2)) ?_
  rintro e w4 ⟨rfl, b4⟩
  have b4 := below_on b2 b4
  go_wp2_with fail
  refine Calls.mono (F3.out _ (HM.out.later b4)) ?_
  rintro e w5 ⟨rfl, b5⟩
  have b5 := below_on b4 b5
  go_wp2_with fail
  refine Calls.mono (F4.out _ (HM.out.later b5)) ?_
  rintro e w6 ⟨rfl, b6⟩
  have b6 := below_on b5 b6
  have HB := Lib.hid b6
  clear b1 b2 b4 b5 b6
  go_wp2
  go_ret
  exact ⟨rfl, HB.out⟩
set_option maxHeartbeats 4000000 in
set_option maxRecDepth 100000 in
theorem ends_w10 (A : Option Addr) (m c : Nat) (T : ByteArray) (i : Int) (w : World) (hm : m ≤ 2500) (hT : T.size ≤ 7500) (hM : MaxB w) (x1 x2 x3 y3 : ByteArray) (hi : -9223372036854775808 ≤ i ∧ i ≤ 9223372036854775807) (q2 : Nat) (c1 : i + 1 < q2 + 1) (c2 : q2 < T.size) (c3 : T[q2] = 96) (i0 : 0 ≤ i) (q4 : Nat) (b1 : i + 2 < q4 + 1) (b2 : q4 < T.size) (b3 : T[q4] = 62)
    (E0 : ∀ w', Below w.heap.size w w' → Calls Tryd.prog 6 #[.slice A m c] w' (StrE w' T))
    (E1 : ∀ w', Calls Tryd.prog 8 #[.string T, .int .i64 i] w' (SN w' x1 0))
    (E2 : ∀ w', MaxB w' → Calls Tryd.prog 7 #[.string T, .int .i64 i] w' (Tup3 w' x2 ((q2 + 1 : Nat) : Int) true))
    (E3 : ∀ w', MaxB w' → Calls Tryd.prog 9 #[.string T, .int .i64 i] w' (Tup3s w' x3 y3 0))
    (E4 : ∀ w', MaxB w' → Calls Tryd.prog 10 #[.string T, .int .i64 i] w' (RIb w' ((q4 + 1 : Nat) : Int))) :
    Calls Tryd.prog 4 #[.slice A m c, .int .i64 i] w (Yes w) := by
  have z : decide ((2500 : Int) < (m : Int)) = false := by simp; omega
  have zc1 : decide ((q2 : Int) ≤ i) = false := by simp; omega
  have zc2 : decide ((T.size : Int) < (q2 : Int) + 1) = false := by simp; omega
  have zc3 : (q2 : Int) < (T.size : Int) := by omega
  have zc4 : ((T[q2].toNat : Int) != 96) = false := by rw [c3]; rfl
  have zh0 : ((q4 : Int) + 1 == 0) = false := by rw [beq_eq_false_iff_ne]; omega
  have zh1 : decide (i + 2 < (q4 : Int) + 1) = true := by simp; omega
  have zh2 : decide ((q4 : Int) + 1 ≤ (T.size : Int)) = true := by simp; omega
  have zh3 : (q4 : Int) < (T.size : Int) := by omega
  have zh4 : ((T[q4].toNat : Int) == 62) = true := by rw [b3]; rfl
  have hi7 : i ≤ 7500 := by omega
  have HM := Lib.hid hM
  have F0 := Lib.hid E0
  have F1 := Lib.hid E1
  have F2 := Lib.hid E2
  have F3 := Lib.hid E3
  have F4 := Lib.hid E4
  clear E0 E1 E2 E3 E4 hM c3 c1 b3 b1
  go_enter Tryd.func4, Tryd.ntmps4
  go_wp2_with fail
  refine Calls.mono (known_any _ HM.out) ?_
  rintro e w1 ⟨rfl, b1⟩
  go_wp2_with fail
  refine Calls.mono (F0.out _ b1) ?_
  rintro e w2 ⟨rfl, b2⟩
  have b2 := below_on b1 b2
  go_wp2_with fail
  refine Calls.mono (F1.out _) ?_
  rintro e w3 ⟨rfl, rfl⟩
  go_wp2_with fail
  refine Calls.mono (F2.out _ (HM.out.later b2)) ?_
  rintro e w4 ⟨rfl, b4⟩
  have b4 := below_on b2 b4
  go_wp2_with fail
  refine Calls.mono (F3.out _ (HM.out.later b4)) ?_
  rintro e w5 ⟨rfl, b5⟩
  have b5 := below_on b4 b5
  go_wp2_with fail
  refine Calls.mono (F4.out _ (HM.out.later b5)) ?_
  rintro e w6 ⟨rfl, b6⟩
  have b6 := below_on b5 b6
  have HB := Lib.hid b6
  clear b1 b2 b4 b5 b6
  go_wp2
  go_ret
  exact ⟨rfl, HB.out⟩
set_option maxHeartbeats 4000000 in
set_option maxRecDepth 100000 in
theorem ends_w11 (A : Option Addr) (m c : Nat) (T : ByteArray) (i : Int) (w : World) (hm : m ≤ 2500) (hT : T.size ≤ 7500) (hM : MaxB w) (x1 x2 x3 y3 : ByteArray) (hi : -9223372036854775808 ≤ i ∧ i ≤ 9223372036854775807) (i0 : 0 ≤ i) (i1 : i + 2 ≤ T.size) (q2 : Nat) (c1 : i + 1 < q2 + 1) (c2 : q2 < T.size) (c3 : T[q2] = 96) (q4 : Nat) (b1 : i + 2 < q4 + 1) (b2 : q4 < T.size) (b3 : T[q4] = 62)
    (E0 : ∀ w', Below w.heap.size w w' → Calls Tryd.prog 6 #[.slice A m c] w' (StrE w' T))
    (E1 : ∀ w', Calls Tryd.prog 8 #[.string T, .int .i64 i] w' (SN w' x1 2))
    (E2 : ∀ w', MaxB w' → Calls Tryd.prog 7 #[.string T, .int .i64 i] w' (Tup3 w' x2 ((q2 + 1 : Nat) : Int) true))
    (E3 : ∀ w', MaxB w' → Calls Tryd.prog 9 #[.string T, .int .i64 i] w' (Tup3s w' x3 y3 0))
    (E4 : ∀ w', MaxB w' → Calls Tryd.prog 10 #[.string T, .int .i64 i] w' (RIb w' ((q4 + 1 : Nat) : Int))) :
    Calls Tryd.prog 4 #[.slice A m c, .int .i64 i] w (Yes w) := by
  have z : decide ((2500 : Int) < (m : Int)) = false := by simp; omega
  have ze : decide ((T.size : Int) < i + 2) = false := by simp; omega
  have zc1 : decide ((q2 : Int) ≤ i) = false := by simp; omega
  have zc2 : decide ((T.size : Int) < (q2 : Int) + 1) = false := by simp; omega
  have zc3 : (q2 : Int) < (T.size : Int) := by omega
  have zc4 : ((T[q2].toNat : Int) != 96) = false := by rw [c3]; rfl
  have zh0 : ((q4 : Int) + 1 == 0) = false := by rw [beq_eq_false_iff_ne]; omega
  have zh1 : decide (i + 2 < (q4 : Int) + 1) = true := by simp; omega
  have zh2 : decide ((q4 : Int) + 1 ≤ (T.size : Int)) = true := by simp; omega
  have zh3 : (q4 : Int) < (T.size : Int) := by omega
  have zh4 : ((T[q4].toNat : Int) == 62) = true := by rw [b3]; rfl
  have hi7 : i ≤ 7500 := by omega
  have HM := Lib.hid hM
  have F0 := Lib.hid E0
  have F1 := Lib.hid E1
  have F2 := Lib.hid E2
  have F3 := Lib.hid E3
  have F4 := Lib.hid E4
  clear E0 E1 E2 E3 E4 hM c3 c1 b3 b1 i1
  go_enter Tryd.func4, Tryd.ntmps4
  go_wp2_with fail
  refine Calls.mono (known_any _ HM.out) ?_
  rintro e w1 ⟨rfl, b1⟩
  go_wp2_with fail
  refine Calls.mono (F0.out _ b1) ?_
  rintro e w2 ⟨rfl, b2⟩
  have b2 := below_on b1 b2
  go_wp2_with fail
  refine Calls.mono (F1.out _) ?_
  rintro e w3 ⟨rfl, rfl⟩
  go_wp2_with fail
  refine Calls.mono (F2.out _ (HM.out.later b2)) ?_
  rintro e w4 ⟨rfl, b4⟩
  have b4 := below_on b2 b4
  go_wp2_with fail
  refine Calls.mono (F3.out _ (HM.out.later b4)) ?_
  rintro e w5 ⟨rfl, b5⟩
  have b5 := below_on b4 b5
  go_wp2_with fail
  refine Calls.mono (F4.out _ (HM.out.later b5)) ?_
  rintro e w6 ⟨rfl, b6⟩
  have b6 := below_on b5 b6
  have HB := Lib.hid b6
  clear b1 b2 b4 b5 b6
  go_wp2
  go_ret
  exact ⟨rfl, HB.out⟩
set_option maxHeartbeats 4000000 in
set_option maxRecDepth 100000 in
theorem ends_w12 (A : Option Addr) (m c : Nat) (T : ByteArray) (i : Int) (w : World) (hm : m ≤ 2500) (hT : T.size ≤ 7500) (hM : MaxB w) (x1 x2 x3 y3 : ByteArray) (hi : -9223372036854775808 ≤ i ∧ i ≤ 9223372036854775807) (n2 : Nat) (q3 : Nat) (a1 : (q3 : Int) + 1 = i + x3.size + 2) (a2 : q3 < T.size) (a3 : T[q3] = 62) (i0 : 0 ≤ i) (q4 : Nat) (b1 : i + 2 < q4 + 1) (b2 : q4 < T.size) (b3 : T[q4] = 62)
    (E0 : ∀ w', Below w.heap.size w w' → Calls Tryd.prog 6 #[.slice A m c] w' (StrE w' T))
    (E1 : ∀ w', Calls Tryd.prog 8 #[.string T, .int .i64 i] w' (SN w' x1 0))
    (E2 : ∀ w', MaxB w' → Calls Tryd.prog 7 #[.string T, .int .i64 i] w' (Tup3 w' x2 (n2 : Int) false))
    (E3 : ∀ w', MaxB w' → Calls Tryd.prog 9 #[.string T, .int .i64 i] w' (Tup3s w' x3 y3 ((q3 + 1 : Nat) : Int)))
    (E4 : ∀ w', MaxB w' → Calls Tryd.prog 10 #[.string T, .int .i64 i] w' (RIb w' ((q4 + 1 : Nat) : Int))) :
    Calls Tryd.prog 4 #[.slice A m c, .int .i64 i] w (Yes w) := by
  have z : decide ((2500 : Int) < (m : Int)) = false := by simp; omega
  have hx3 : x3.size ≤ 7500 := by omega
  have za1 : ((q3 : Int) + 1 != i + (x3.size : Int) + 2) = false := by rw [← a1]; simp
  have za0 : ((q3 : Int) + 1 != 0) = true := by simp; omega
  have za2 : decide ((T.size : Int) < (q3 : Int) + 1) = false := by simp; omega
  have za3 : (q3 : Int) < (T.size : Int) := by omega
  have za4 : ((T[q3].toNat : Int) != 62) = false := by rw [a3]; rfl
  have zh0 : ((q4 : Int) + 1 == 0) = false := by rw [beq_eq_false_iff_ne]; omega
  have zh1 : decide (i + 2 < (q4 : Int) + 1) = true := by simp; omega
  have zh2 : decide ((q4 : Int) + 1 ≤ (T.size : Int)) = true := by simp; omega
  have zh3 : (q4 : Int) < (T.size : Int) := by omega
  have zh4 : ((T[q4].toNat : Int) == 62) = true := by rw [b3]; rfl
  have hi7 : i ≤ 7500 := by omega
  have HM := Lib.hid hM
  have F0 := Lib.hid E0
  have F1 := Lib.hid E1
  have F2 := Lib.hid E2
  have F3 := Lib.hid E3
  have F4 := Lib.hid E4
  clear E0 E1 E2 E3 E4 hM a3 a1 b3 b1
  go_enter Tryd.func4, Tryd.ntmps4
  go_wp2_with fail
  refine Calls.mono (known_any _ HM.out) ?_
  rintro e w1 ⟨rfl, b1⟩
  go_wp2_with fail
  refine Calls.mono (F0.out _ b1) ?_
  rintro e w2 ⟨rfl, b2⟩
  have b2 := below_on b1 b2
  go_wp2_with fail
  refine Calls.mono (F1.out _) ?_
  rintro e w3 ⟨rfl, rfl⟩
  go_wp2_with fail
  refine Calls.mono (F2.out _ (HM.out.later b2)) ?_
  rintro e w4 ⟨rfl, b4⟩
  have b4 := below_on b2 b4
  go_wp2_with fail
  refine Calls.mono (F3.out _ (HM.out.later b4)) ?_
  rintro e w5 ⟨rfl, b5⟩
  have b5 := below_on b4 b5
  go_wp2_with fail
  refine Calls.mono (F4.out _ (HM.out.later b5)) ?_
  rintro e w6 ⟨rfl, b6⟩
  have b6 := below_on b5 b6
  have HB := Lib.hid b6
  clear b1 b2 b4 b5 b6
  go_wp2
  go_ret
  exact ⟨rfl, HB.out⟩
set_option maxHeartbeats 4000000 in
set_option maxRecDepth 100000 in
theorem ends_w13 (A : Option Addr) (m c : Nat) (T : ByteArray) (i : Int) (w : World) (hm : m ≤ 2500) (hT : T.size ≤ 7500) (hM : MaxB w) (x1 x2 x3 y3 : ByteArray) (hi : -9223372036854775808 ≤ i ∧ i ≤ 9223372036854775807) (i0 : 0 ≤ i) (i1 : i + 2 ≤ T.size) (n2 : Nat) (q3 : Nat) (a1 : (q3 : Int) + 1 = i + x3.size + 2) (a2 : q3 < T.size) (a3 : T[q3] = 62) (q4 : Nat) (b1 : i + 2 < q4 + 1) (b2 : q4 < T.size) (b3 : T[q4] = 62)
    (E0 : ∀ w', Below w.heap.size w w' → Calls Tryd.prog 6 #[.slice A m c] w' (StrE w' T))
    (E1 : ∀ w', Calls Tryd.prog 8 #[.string T, .int .i64 i] w' (SN w' x1 2))
    (E2 : ∀ w', MaxB w' → Calls Tryd.prog 7 #[.string T, .int .i64 i] w' (Tup3 w' x2 (n2 : Int) false))
    (E3 : ∀ w', MaxB w' → Calls Tryd.prog 9 #[.string T, .int .i64 i] w' (Tup3s w' x3 y3 ((q3 + 1 : Nat) : Int)))
    (E4 : ∀ w', MaxB w' → Calls Tryd.prog 10 #[.string T, .int .i64 i] w' (RIb w' ((q4 + 1 : Nat) : Int))) :
    Calls Tryd.prog 4 #[.slice A m c, .int .i64 i] w (Yes w) := by
  have z : decide ((2500 : Int) < (m : Int)) = false := by simp; omega
  have ze : decide ((T.size : Int) < i + 2) = false := by simp; omega
  have hx3 : x3.size ≤ 7500 := by omega
  have za1 : ((q3 : Int) + 1 != i + (x3.size : Int) + 2) = false := by rw [← a1]; simp
  have za0 : ((q3 : Int) + 1 != 0) = true := by simp; omega
  have za2 : decide ((T.size : Int) < (q3 : Int) + 1) = false := by simp; omega
  have za3 : (q3 : Int) < (T.size : Int) := by omega
  have za4 : ((T[q3].toNat : Int) != 62) = false := by rw [a3]; rfl
  have zh0 : ((q4 : Int) + 1 == 0) = false := by rw [beq_eq_false_iff_ne]; omega
  have zh1 : decide (i + 2 < (q4 : Int) + 1) = true := by simp; omega
  have zh2 : decide ((q4 : Int) + 1 ≤ (T.size : Int)) = true := by simp; omega
  have zh3 : (q4 : Int) < (T.size : Int) := by omega
  have zh4 : ((T[q4].toNat : Int) == 62) = true := by rw [b3]; rfl
  have hi7 : i ≤ 7500 := by omega
  have HM := Lib.hid hM
  have F0 := Lib.hid E0
  have F1 := Lib.hid E1
  have F2 := Lib.hid E2
  have F3 := Lib.hid E3
  have F4 := Lib.hid E4
  clear E0 E1 E2 E3 E4 hM a3 a1 b3 b1 i1
  go_enter Tryd.func4, Tryd.ntmps4
  go_wp2_with fail
  refine Calls.mono (known_any _ HM.out) ?_
  rintro e w1 ⟨rfl, b1⟩
  go_wp2_with fail
  refine Calls.mono (F0.out _ b1) ?_
  rintro e w2 ⟨rfl, b2⟩
  have b2 := below_on b1 b2
  go_wp2_with fail
  refine Calls.mono (F1.out _) ?_
  rintro e w3 ⟨rfl, rfl⟩
  go_wp2_with fail
  refine Calls.mono (F2.out _ (HM.out.later b2)) ?_
  rintro e w4 ⟨rfl, b4⟩
  have b4 := below_on b2 b4
  go_wp2_with fail
  refine Calls.mono (F3.out _ (HM.out.later b4)) ?_
  rintro e w5 ⟨rfl, b5⟩
  have b5 := below_on b4 b5
  go_wp2_with fail
  refine Calls.mono (F4.out _ (HM.out.later b5)) ?_
  rintro e w6 ⟨rfl, b6⟩
  have b6 := below_on b5 b6
  have HB := Lib.hid b6
  clear b1 b2 b4 b5 b6
  go_wp2
  go_ret
  exact ⟨rfl, HB.out⟩
set_option maxHeartbeats 4000000 in
set_option maxRecDepth 100000 in
theorem ends_w14 (A : Option Addr) (m c : Nat) (T : ByteArray) (i : Int) (w : World) (hm : m ≤ 2500) (hT : T.size ≤ 7500) (hM : MaxB w) (x1 x2 x3 y3 : ByteArray) (hi : -9223372036854775808 ≤ i ∧ i ≤ 9223372036854775807) (q2 : Nat) (c1 : i + 1 < q2 + 1) (c2 : q2 < T.size) (c3 : T[q2] = 96) (i0 : 0 ≤ i) (q3 : Nat) (a1 : (q3 : Int) + 1 = i + x3.size + 2) (a2 : q3 < T.size) (a3 : T[q3] = 62) (q4 : Nat) (b1 : i + 2 < q4 + 1) (b2 : q4 < T.size) (b3 : T[q4] = 62)
    (E0 : ∀ w', Below w.heap.size w w' → Calls Tryd.prog 6 #[.slice A m c] w' (StrE w' T))
    (E1 : ∀ w', Calls Tryd.prog 8 #[.string T, .int .i64 i] w' (SN w' x1 0))
    (E2 : ∀ w', MaxB w' → Calls Tryd.prog 7 #[.string T, .int .i64 i] w' (Tup3 w' x2 ((q2 + 1 : Nat) : Int) true))
    (E3 : ∀ w', MaxB w' → Calls Tryd.prog 9 #[.string T, .int .i64 i] w' (Tup3s w' x3 y3 ((q3 + 1 : Nat) : Int)))
    (E4 : ∀ w', MaxB w' → Calls Tryd.prog 10 #[.string T, .int .i64 i] w' (RIb w' ((q4 + 1 : Nat) : Int))) :
    Calls Tryd.prog 4 #[.slice A m c, .int .i64 i] w (Yes w) := by
  have z : decide ((2500 : Int) < (m : Int)) = false := by simp; omega
  have zc1 : decide ((q2 : Int) ≤ i) = false := by simp; omega
  have zc2 : decide ((T.size : Int) < (q2 : Int) + 1) = false := by simp; omega
  have zc3 : (q2 : Int) < (T.size : Int) := by omega
  have zc4 : ((T[q2].toNat : Int) != 96) = false := by rw [c3]; rfl
  have hx3 : x3.size ≤ 7500 := by omega
  have za1 : ((q3 : Int) + 1 != i + (x3.size : Int) + 2) = false := by rw [← a1]; simp
  have za0 : ((q3 : Int) + 1 != 0) = true := by simp; omega
  have za2 : decide ((T.size : Int) < (q3 : Int) + 1) = false := by simp; omega
  have za3 : (q3 : Int) < (T.size : Int) := by omega
  have za4 : ((T[q3].toNat : Int) != 62) = false := by rw [a3]; rfl
  have zh0 : ((q4 : Int) + 1 == 0) = false := by rw [beq_eq_false_iff_ne]; omega
  have zh1 : decide (i + 2 < (q4 : Int) + 1) = true := by simp; omega
  have zh2 : decide ((q4 : Int) + 1 ≤ (T.size : Int)) = true := by simp; omega
  have zh3 : (q4 : Int) < (T.size : Int) := by omega
  have zh4 : ((T[q4].toNat : Int) == 62) = true := by rw [b3]; rfl
  have hi7 : i ≤ 7500 := by omega
  have HM := Lib.hid hM
  have F0 := Lib.hid E0
  have F1 := Lib.hid E1
  have F2 := Lib.hid E2
  have F3 := Lib.hid E3
  have F4 := Lib.hid E4
  clear E0 E1 E2 E3 E4 hM c3 c1 a3 a1 b3 b1
  go_enter Tryd.func4, Tryd.ntmps4
  go_wp2_with fail
  refine Calls.mono (known_any _ HM.out) ?_
  rintro e w1 ⟨rfl, b1⟩
  go_wp2_with fail
  refine Calls.mono (F0.out _ b1) ?_
  rintro e w2 ⟨rfl, b2⟩
  have b2 := below_on b1 b2
  go_wp2_with fail
  refine Calls.mono (F1.out _) ?_
  rintro e w3 ⟨rfl, rfl⟩
  go_wp2_with fail
  refine Calls.mono (F2.out _ (HM.out.later b2)) ?_
  rintro e w4 ⟨rfl, b4⟩
  have b4 := below_on b2 b4
  go_wp2_with fail
  refine Calls.mono (F3.out _ (HM.out.later b4)) ?_
  rintro e w5 ⟨rfl, b5⟩
  have b5 := below_on b4 b5
  go_wp2_with fail
  refine Calls.mono (F4.out _ (HM.out.later b5)) ?_
  rintro e w6 ⟨rfl, b6⟩
  have b6 := below_on b5 b6
  have HB := Lib.hid b6
  clear b1 b2 b4 b5 b6
  go_wp2
  go_ret
  exact ⟨rfl, HB.out⟩
set_option maxHeartbeats 4000000 in
set_option maxRecDepth 100000 in
theorem ends_w15 (A : Option Addr) (m c : Nat) (T : ByteArray) (i : Int) (w : World) (hm : m ≤ 2500) (hT : T.size ≤ 7500) (hM : MaxB w) (x1 x2 x3 y3 : ByteArray) (hi : -9223372036854775808 ≤ i ∧ i ≤ 9223372036854775807) (i0 : 0 ≤ i) (i1 : i + 2 ≤ T.size) (q2 : Nat) (c1 : i + 1 < q2 + 1) (c2 : q2 < T.size) (c3 : T[q2] = 96) (q3 : Nat) (a1 : (q3 : Int) + 1 = i + x3.size + 2) (a2 : q3 < T.size) (a3 : T[q3] = 62) (q4 : Nat) (b1 : i + 2 < q4 + 1) (b2 : q4 < T.size) (b3 : T[q4] = 62)
    (E0 : ∀ w', Below w.heap.size w w' → Calls Tryd.prog 6 #[.slice A m c] w' (StrE w' T))
    (E1 : ∀ w', Calls Tryd.prog 8 #[.string T, .int .i64 i] w' (SN w' x1 2))
    (E2 : ∀ w', MaxB w' → Calls Tryd.prog 7 #[.string T, .int .i64 i] w' (Tup3 w' x2 ((q2 + 1 : Nat) : Int) true))
    (E3 : ∀ w', MaxB w' → Calls Tryd.prog 9 #[.string T, .int .i64 i] w' (Tup3s w' x3 y3 ((q3 + 1 : Nat) : Int)))
    (E4 : ∀ w', MaxB w' → Calls Tryd.prog 10 #[.string T, .int .i64 i] w' (RIb w' ((q4 + 1 : Nat) : Int))) :
    Calls Tryd.prog 4 #[.slice A m c, .int .i64 i] w (Yes w) := by
  have z : decide ((2500 : Int) < (m : Int)) = false := by simp; omega
  have ze : decide ((T.size : Int) < i + 2) = false := by simp; omega
  have zc1 : decide ((q2 : Int) ≤ i) = false := by simp; omega
  have zc2 : decide ((T.size : Int) < (q2 : Int) + 1) = false := by simp; omega
  have zc3 : (q2 : Int) < (T.size : Int) := by omega
  have zc4 : ((T[q2].toNat : Int) != 96) = false := by rw [c3]; rfl
  have hx3 : x3.size ≤ 7500 := by omega
  have za1 : ((q3 : Int) + 1 != i + (x3.size : Int) + 2) = false := by rw [← a1]; simp
  have za0 : ((q3 : Int) + 1 != 0) = true := by simp; omega
  have za2 : decide ((T.size : Int) < (q3 : Int) + 1) = false := by simp; omega
  have za3 : (q3 : Int) < (T.size : Int) := by omega
  have za4 : ((T[q3].toNat : Int) != 62) = false := by rw [a3]; rfl
  have zh0 : ((q4 : Int) + 1 == 0) = false := by rw [beq_eq_false_iff_ne]; omega
  have zh1 : decide (i + 2 < (q4 : Int) + 1) = true := by simp; omega
  have zh2 : decide ((q4 : Int) + 1 ≤ (T.size : Int)) = true := by simp; omega
  have zh3 : (q4 : Int) < (T.size : Int) := by omega
  have zh4 : ((T[q4].toNat : Int) == 62) = true := by rw [b3]; rfl
  have hi7 : i ≤ 7500 := by omega
  have HM := Lib.hid hM
  have F0 := Lib.hid E0
  have F1 := Lib.hid E1
  have F2 := Lib.hid E2
  have F3 := Lib.hid E3
  have F4 := Lib.hid E4
  clear E0 E1 E2 E3 E4 hM c3 c1 a3 a1 b3 b1 i1
  go_enter Tryd.func4, Tryd.ntmps4
  go_wp2_with fail
  refine Calls.mono (known_any _ HM.out) ?_
  rintro e w1 ⟨rfl, b1⟩
  go_wp2_with fail
  refine Calls.mono (F0.out _ b1) ?_
  rintro e w2 ⟨rfl, b2⟩
  have b2 := below_on b1 b2
  go_wp2_with fail
  refine Calls.mono (F1.out _) ?_
  rintro e w3 ⟨rfl, rfl⟩
  go_wp2_with fail
  refine Calls.mono (F2.out _ (HM.out.later b2)) ?_
  rintro e w4 ⟨rfl, b4⟩
  have b4 := below_on b2 b4
  go_wp2_with fail
  refine Calls.mono (F3.out _ (HM.out.later b4)) ?_
  rintro e w5 ⟨rfl, b5⟩
  have b5 := below_on b4 b5
  go_wp2_with fail
  refine Calls.mono (F4.out _ (HM.out.later b5)) ?_
  rintro e w6 ⟨rfl, b6⟩
  have b6 := below_on b5 b6
  have HB := Lib.hid b6
  clear b1 b2 b4 b5 b6
  go_wp2
  go_ret
  exact ⟨rfl, HB.out⟩
theorem EndOk.get {T : ByteArray} {c : UInt8} {lo h : Nat} (e : EndOk T.data.toList c lo h) : ∃ q, h = q + 1 ∧ lo < q + 1 ∧ ∃ hq : q < T.size, T[q] = c := by
  obtain ⟨q, rfl, h1, _, h3⟩ := e
  exact ⟨q, rfl, h1, get_of h3⟩
set_option maxHeartbeats 4000000 in
theorem ends_law (v : Value) (l : List UInt8) (i : Int) (w : World) (hi : -9223372036854775808 ≤ i ∧ i ≤ 9223372036854775807) (hm : MaxB w) (hv : SlU8 w v l) (hl : l.length ≤ 9223372036854775807) :
    Calls Tryd.prog 4 #[v, .int .i64 i] w (Yes w) := by
  have hv0 := hv
  obtain ⟨A, m, c, rfl, hml, hmc, _⟩ := hv
  by_cases hbig : 2500 < m
  · have z : decide ((2500 : Int) < (m : Int)) = true := by simp; omega
    have HM := Lib.hid hm
    clear hl hml hmc hv0 hm
    go_enter Tryd.func4, Tryd.ntmps4
    go_wp2_with fail
    refine Calls.mono (known_any _ HM.out) ?_
    rintro e w1 ⟨rfl, b1⟩
    go_wp2
    go_ret
    exact ⟨rfl, b1⟩
  · have htl := textL_len l
    obtain ⟨T, hT⟩ : ∃ T : ByteArray, T = ⟨(textL l).toArray⟩ := ⟨_, rfl⟩
    have hTs : T.size ≤ 7500 := by rw [hT]; show (textL l).length ≤ 7500; omega
    have E0 : ∀ w', Below w.heap.size w w' → Calls Tryd.prog 6 #[.slice A m c] w' (StrE w' T) := fun w' hb => (reftext_any (.slice A m c) l w' (by omega) (hv0.later hb)).mono fun _ _ h => by rw [hT]; exact h
    have he := esc_ends T.data.toList i
    have hc := code_ends T.data.toList i
    have ha := auto_ends T.data.toList i
    have hh := html_ends T.data.toList i
    have E1 := fun w' => escape_any T i w' (by omega) hi
    have E2 := fun w' h => code_any T i w' (by omega) hi h
    have E3 := fun w' h => auto_any T i w' (by omega) hi h
    have E4 := fun w' h => html_any T i w' (by omega) hi h
    have hTl : T.data.toList.length = T.size := Array.length_toList
    have hm2 : m ≤ 2500 := by omega
    obtain ⟨eo, heo⟩ : ∃ eo, escAt T.data.toList i = eo := ⟨_, rfl⟩
    obtain ⟨co, hco⟩ : ∃ co, codeAt T.data.toList i = co := ⟨_, rfl⟩
    obtain ⟨ao, hao⟩ : ∃ ao, autoAt T.data.toList i = ao := ⟨_, rfl⟩
    obtain ⟨ho, hho⟩ : ∃ ho, htmlAt T.data.toList i = ho := ⟨_, rfl⟩
    rw [heo] at he E1
    rw [hco] at hc E2
    rw [hao] at ha E3
    rw [hho] at hh E4
    clear heo hco hao hho hT
    obtain ⟨ct, cs, cb⟩ := co
    obtain ⟨at1, at2, an⟩ := ao
    simp only at hc ha
    have hc' : cb = false ∨ cb = true := by cases cb <;> simp
    rcases he with rfl | ⟨ke, ce, hie, rfl, hke⟩ <;> rcases hc' with rfl | rfl <;> rcases ha with rfl | ⟨ka, hia, hae, ha⟩ <;> rcases hh with rfl | ⟨kh, hih, hh⟩
    · exact ends_w0 A m c T i w hm2 hTs hm _ _ _ _ hi cs E0 E1 E2 E3 E4
    · obtain ⟨q4, rfl, g4, l4, e4⟩ := hh.get
      exact ends_w8 A m c T i w hm2 hTs hm _ _ _ _ hi cs q4 (by omega) l4 e4 (by omega) E0 E1 E2 E3 E4
    · obtain ⟨q3, rfl, g3, l3, e3⟩ := ha.get
      have hsz : (⟨at1.toArray⟩ : ByteArray).size = at1.length := rfl
      exact ends_w4 A m c T i w hm2 hTs hm _ _ ⟨at1.toArray⟩ _ hi cs q3 (by omega) l3 e3 (by omega) E0 E1 E2 E3 E4
    · obtain ⟨q3, rfl, g3, l3, e3⟩ := ha.get
      have hsz : (⟨at1.toArray⟩ : ByteArray).size = at1.length := rfl
      obtain ⟨q4, rfl, g4, l4, e4⟩ := hh.get
      exact ends_w12 A m c T i w hm2 hTs hm _ _ ⟨at1.toArray⟩ _ hi cs q3 (by omega) l3 e3 (by omega) q4 (by omega) l4 e4 E0 E1 E2 E3 E4
    · obtain ⟨kc, hic, hc⟩ := hc rfl
      obtain ⟨q2, rfl, g2, l2, e2⟩ := hc.get
      exact ends_w2 A m c T i w hm2 hTs hm _ _ _ _ hi q2 (by omega) l2 e2 (by omega) E0 E1 E2 E3 E4
    · obtain ⟨kc, hic, hc⟩ := hc rfl
      obtain ⟨q2, rfl, g2, l2, e2⟩ := hc.get
      obtain ⟨q4, rfl, g4, l4, e4⟩ := hh.get
      exact ends_w10 A m c T i w hm2 hTs hm _ _ _ _ hi q2 (by omega) l2 e2 (by omega) q4 (by omega) l4 e4 E0 E1 E2 E3 E4
    · obtain ⟨kc, hic, hc⟩ := hc rfl
      obtain ⟨q2, rfl, g2, l2, e2⟩ := hc.get
      obtain ⟨q3, rfl, g3, l3, e3⟩ := ha.get
      have hsz : (⟨at1.toArray⟩ : ByteArray).size = at1.length := rfl
      exact ends_w6 A m c T i w hm2 hTs hm _ _ ⟨at1.toArray⟩ _ hi q2 (by omega) l2 e2 (by omega) q3 (by omega) l3 e3 E0 E1 E2 E3 E4
    · obtain ⟨kc, hic, hc⟩ := hc rfl
      obtain ⟨q2, rfl, g2, l2, e2⟩ := hc.get
      obtain ⟨q3, rfl, g3, l3, e3⟩ := ha.get
      have hsz : (⟨at1.toArray⟩ : ByteArray).size = at1.length := rfl
      obtain ⟨q4, rfl, g4, l4, e4⟩ := hh.get
      exact ends_w14 A m c T i w hm2 hTs hm _ _ ⟨at1.toArray⟩ _ hi q2 (by omega) l2 e2 (by omega) q3 (by omega) l3 e3 q4 (by omega) l4 e4 E0 E1 E2 E3 E4
    · exact ends_w1 A m c T i w hm2 hTs hm _ _ _ _ hi (by omega) (by omega) cs E0 E1 E2 E3 E4
    · obtain ⟨q4, rfl, g4, l4, e4⟩ := hh.get
      exact ends_w9 A m c T i w hm2 hTs hm _ _ _ _ hi (by omega) (by omega) cs q4 (by omega) l4 e4 E0 E1 E2 E3 E4
    · obtain ⟨q3, rfl, g3, l3, e3⟩ := ha.get
      have hsz : (⟨at1.toArray⟩ : ByteArray).size = at1.length := rfl
      exact ends_w5 A m c T i w hm2 hTs hm _ _ ⟨at1.toArray⟩ _ hi (by omega) (by omega) cs q3 (by omega) l3 e3 E0 E1 E2 E3 E4
    · obtain ⟨q3, rfl, g3, l3, e3⟩ := ha.get
      have hsz : (⟨at1.toArray⟩ : ByteArray).size = at1.length := rfl
      obtain ⟨q4, rfl, g4, l4, e4⟩ := hh.get
      exact ends_w13 A m c T i w hm2 hTs hm _ _ ⟨at1.toArray⟩ _ hi (by omega) (by omega) cs q3 (by omega) l3 e3 q4 (by omega) l4 e4 E0 E1 E2 E3 E4
    · obtain ⟨kc, hic, hc⟩ := hc rfl
      obtain ⟨q2, rfl, g2, l2, e2⟩ := hc.get
      exact ends_w3 A m c T i w hm2 hTs hm _ _ _ _ hi (by omega) (by omega) q2 (by omega) l2 e2 E0 E1 E2 E3 E4
    · obtain ⟨kc, hic, hc⟩ := hc rfl
      obtain ⟨q2, rfl, g2, l2, e2⟩ := hc.get
      obtain ⟨q4, rfl, g4, l4, e4⟩ := hh.get
      exact ends_w11 A m c T i w hm2 hTs hm _ _ _ _ hi (by omega) (by omega) q2 (by omega) l2 e2 q4 (by omega) l4 e4 E0 E1 E2 E3 E4
    · obtain ⟨kc, hic, hc⟩ := hc rfl
      obtain ⟨q2, rfl, g2, l2, e2⟩ := hc.get
      obtain ⟨q3, rfl, g3, l3, e3⟩ := ha.get
      have hsz : (⟨at1.toArray⟩ : ByteArray).size = at1.length := rfl
      exact ends_w7 A m c T i w hm2 hTs hm _ _ ⟨at1.toArray⟩ _ hi (by omega) (by omega) q2 (by omega) l2 e2 q3 (by omega) l3 e3 E0 E1 E2 E3 E4
    · obtain ⟨kc, hic, hc⟩ := hc rfl
      obtain ⟨q2, rfl, g2, l2, e2⟩ := hc.get
      obtain ⟨q3, rfl, g3, l3, e3⟩ := ha.get
      have hsz : (⟨at1.toArray⟩ : ByteArray).size = at1.length := rfl
      obtain ⟨q4, rfl, g4, l4, e4⟩ := hh.get
      exact ends_w15 A m c T i w hm2 hTs hm _ _ ⟨at1.toArray⟩ _ hi (by omega) (by omega) q2 (by omega) l2 e2 q3 (by omega) l3 e3 q4 (by omega) l4 e4 E0 E1 E2 E3 E4
end Go.Proofs.YtikokedphocpiaaDoor
