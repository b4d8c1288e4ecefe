/- tympanlaw26.AtomsDoes answers true for every input. -/
import Derived.Test.YtikokedphocpiaaGreatDoorRfMark
import Derived.Test.YtikokedphocpiaaGreatDoorRfCode
import Derived.Test.YtikokedphocpiaaGreatDoorRfAuto
import Derived.Test.YtikokedphocpiaaGreatDoorRfHtml
import Derived.Test.YtikokedphocpiaaGreatDoorKnown26
import Derived.Test.YtikokedphocpiaaGreatDoorTxt4
namespace Go.Proofs.YtikokedphocpiaaGreatDoor
open Go.RowKit

set_option maxHeartbeats 4000000 in
set_option maxRecDepth 100000 in
theorem does_walk (A : Option Addr) (m c : Nat) (T : ByteArray) (i : Int) (w : World) (hm : m ≤ 2500) (hM : MaxB w) (x1 x2 x3 y3 : ByteArray) (n1 n2 n3 n4 : Int) (b2 : Bool)
    (E0 : ∀ w', Below w.heap.size w w' → Calls Tryz.prog 5 #[.slice A m c] w' (StrE w' T))
    (E1 : ∀ w', Calls Tryz.prog 6 #[.string T, .int .i64 i] w' (SN w' x1 n1))
    (R1 : ∀ w', Calls Tryz.prog 7 #[.string T, .int .i64 i] w' (SNb w' x1 n1))
    (E2 : ∀ w', MaxB w' → Calls Tryz.prog 8 #[.string T, .int .i64 i] w' (Tup3 w' x2 n2 b2))
    (R2 : ∀ w', Calls Tryz.prog 9 #[.string T, .int .i64 i] w' (Tup3 w' x2 n2 b2))
    (E3 : ∀ w', MaxB w' → Calls Tryz.prog 10 #[.string T, .int .i64 i] w' (Tup3s w' x3 y3 n3))
    (R3 : ∀ w', Calls Tryz.prog 11 #[.string T, .int .i64 i] w' (Tup3s w' x3 y3 n3))
    (E4 : ∀ w', MaxB w' → Calls Tryz.prog 13 #[.string T, .int .i64 i] w' (RIb w' n4))
    (R4 : ∀ w', Calls Tryz.prog 14 #[.string T, .int .i64 i] w' (IntD w' n4)) :
    Calls Tryz.prog 3 #[.slice A m c, .int .i64 i] w (Yes w) := by
  have z : decide ((2500 : Int) < (m : Int)) = false := by simp; omega
  have HM := Lib.hid hM
  have F0 := Lib.hid E0
  have F1 := Lib.hid E1
  have F2 := Lib.hid E2
  have F3 := Lib.hid E3
  have F4 := Lib.hid E4
  have G1 := Lib.hid R1
  have G2 := Lib.hid R2
  have G3 := Lib.hid R3
  have G4 := Lib.hid R4
  clear E0 E1 E2 E3 E4 R1 R2 R3 R4 hM
  go_enter Tryz.func3, Tryz.ntmps3
  go_wp2_with fail
  refine Calls.mono (F0.out _ (Below.refl _ _)) ?_
  rintro e w1 ⟨rfl, b1⟩
  go_wp2_with fail
  refine Calls.mono (F1.out _) ?_
  rintro e w2 ⟨rfl, rfl⟩
  go_wp2_with fail
  refine Calls.mono (G1.out _) ?_
  rintro e w2 ⟨rfl, b2'⟩
  have b2' := below_on b1 b2'
  go_wp2_with fail
  refine Calls.mono (F2.out _ (HM.out.later b2')) ?_
  rintro e w3 ⟨rfl, b3⟩
  have b3 := below_on b2' b3
  go_wp2_with fail
  refine Calls.mono (G2.out _) ?_
  rintro e w4 ⟨rfl, b4⟩
  have b4 := below_on b3 b4
  go_wp2_with fail
  refine Calls.mono (F3.out _ (HM.out.later b4)) ?_
  rintro e w5 ⟨rfl, b5⟩
  have b5 := below_on b4 b5
  go_wp2_with fail
  refine Calls.mono (G3.out _) ?_
  rintro e w6 ⟨rfl, b6⟩
  have b6 := below_on b5 b6
  go_wp2_with fail
  refine Calls.mono (known_any _ (HM.out.later b6)) ?_
  rintro e w7 ⟨rfl, b7⟩
  have b7 := below_on b6 b7
  go_wp2_with fail
  refine Calls.mono (F4.out _ (HM.out.later b7)) ?_
  rintro e w8 ⟨rfl, b8⟩
  have b8 := below_on b7 b8
  go_wp2_with fail
  refine Calls.mono (G4.out _) ?_
  rintro e w9 ⟨rfl, d, rfl⟩
  go_wp2
  go_ret
  exact ⟨rfl, row_drewN b8 d⟩
set_option maxHeartbeats 4000000 in
theorem does_law (v : Value) (l : List UInt8) (i : Int) (w : World) (hi : -9223372036854775808 ≤ i ∧ i ≤ 9223372036854775807) (hm : MaxB w) (hv : SlU8 w v l) (hl : l.length ≤ 9223372036854775807) :
    Calls Tryz.prog 3 #[v, .int .i64 i] w (Yes w) := by
  have hv0 := hv
  obtain ⟨A, m, c, rfl, hml, hmc, _⟩ := hv
  by_cases hbig : 2500 < m
  · have z : decide ((2500 : Int) < (m : Int)) = true := by simp; omega
    clear hl hml hmc hv0 hm
    go_enter Tryz.func3, Tryz.ntmps3
    go_wp2
    go_ret
    exact ⟨rfl, Below.refl _ _⟩
  · have htl := textL_len l
    obtain ⟨T, hT⟩ : ∃ T : ByteArray, T = ⟨(textL l).toArray⟩ := ⟨_, rfl⟩
    have hTs : T.size ≤ 7500 := by rw [hT]; show (textL l).length ≤ 7500; omega
    have E0 : ∀ w', Below w.heap.size w w' → Calls Tryz.prog 5 #[.slice A m c] w' (StrE w' T) := fun w' hb => (reftext_any (.slice A m c) l w' (by omega) (hv0.later hb)).mono fun _ _ h => by rw [hT]; exact h
    have hs : T.size ≤ 1099511627 := by omega
    exact does_walk A m c T i w (by omega) hm _ _ _ _ _ _ _ _ _ E0 (fun w' => escape_any T i w' (by omega) hi) (fun w' => refesc_any T i w' hs hi) (fun w' h => code_any T i w' hs hi h) (fun w' => refcode_any T i w' hs hi) (fun w' h => auto_any T i w' hs hi h) (fun w' => refauto_any T i w' hs hi) (fun w' h => html_any T i w' hs hi h) (fun w' => refhtml_any T i w' hs hi)
end Go.Proofs.YtikokedphocpiaaGreatDoor
