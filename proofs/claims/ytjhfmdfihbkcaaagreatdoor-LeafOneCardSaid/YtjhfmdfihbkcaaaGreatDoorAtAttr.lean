/- leaf.attr: an attribute. -/
import Derived.Test.YtjhfmdfihbkcaaaGreatDoorAtVal
namespace Go.Proofs.YtjhfmdfihbkcaaaGreatDoor
open Go.RowKit

def attr2 (l : List UInt8) (j : Nat) : Option Nat := if Lib.hasPrefix (l.drop (gapN l j)) [61] = true then valN l (gapN l (gapN l j + 1)) else some j
def attrN (l : List UInt8) (i : Nat) : Option Nat := if gapN l i = i then none else (wordN l ⟨#[95, 58]⟩ ⟨#[95, 46, 58, 45]⟩ (gapN l i)).bind (attr2 l)
theorem gapN_le (l : List UInt8) (i : Nat) (h : i ≤ l.length) : gapN l i ≤ l.length := run_le _ l i h
theorem wordN_le (l : List UInt8) (f r : ByteArray) (i j : Nat) (h : wordN l f r i = some j) : j ≤ l.length := by
  unfold wordN at h
  split at h
  · split at h
    · cases h
      exact run_le _ l _ (by omega)
    · cases h
  · cases h
theorem prefix_lt {l : List UInt8} {k : Nat} (h : Lib.hasPrefix (l.drop k) [61] = true) : k < l.length := by
  rcases Nat.lt_or_ge k l.length with h2 | h2
  · exact h2
  · rw [List.drop_eq_nil_of_le h2] at h
    cases h

set_option maxHeartbeats 4000000 in
set_option maxRecDepth 100000 in
theorem attr_any (s : ByteArray) (i : Nat) (w : World) (hs : s.size ≤ 1099511627) (hi : i ≤ s.size) : Calls Tryz.prog 25 #[.string s, .int .i64 (i : Int)] w (RIb w (optI (attrN s.data.toList i))) := by
  have hsl : s.data.toList.length = s.size := Array.length_toList
  have hG1 := gap_any s i w hs hi
  have hgl := gapN_le s.data.toList i (by omega)
  unfold attrN
  obtain ⟨j, hj⟩ : ∃ j, gapN s.data.toList i = j := ⟨_, rfl⟩
  rw [hj] at hG1 hgl ⊢
  rw [hsl] at hgl
  have HG1 := Lib.hid hG1
  clear hG1 hj
  by_cases hij : j = i
  · subst hij
    rw [if_pos rfl]
    have hr : optI none = -1 := rfl
    rw [hr]
    clear hr
    go_enter Tryz.func25, Tryz.ntmps25
    go_wp2_with fail
    refine Calls.mono HG1.out ?_
    rintro e w1 ⟨rfl, b1⟩
    go_wp2
    go_ret
    exact ⟨rfl, b1⟩
  · have zij : ((j : Int) == (i : Int)) = false := by simp; omega
    rw [if_neg hij]
    have hN := fun w' => name_any s j ⟨#[95, 58]⟩ ⟨#[95, 46, 58, 45]⟩ w' hs hgl
    cases hw : wordN s.data.toList ⟨#[95, 58]⟩ ⟨#[95, 46, 58, 45]⟩ j with
    | none =>
      rw [hw] at hN
      have HN := Lib.hid hN
      have hr : optI ((none : Option Nat).bind (attr2 s.data.toList)) = -1 := rfl
      rw [hr]
      clear hN hw hr hij
      go_enter Tryz.func25, Tryz.ntmps25
      go_wp2_with fail
      refine Calls.mono HG1.out ?_
      rintro e w1 ⟨rfl, b1⟩
      go_wp2_with fail
      refine Calls.mono (HN.out _) ?_
      rintro e w2 ⟨rfl, rfl⟩
      rw [show optI none = -1 from rfl]
      go_wp2
      go_ret
      exact ⟨rfl, b1⟩
    | some j2 =>
      rw [hw] at hN
      have hj2 := wordN_le _ _ _ _ _ hw
      have hG2 := fun w' => gap_any s j2 w' hs (by omega)
      have hgl2 := gapN_le s.data.toList j2 hj2
      have hr : (some j2).bind (attr2 s.data.toList) = attr2 s.data.toList j2 := rfl
      rw [hr]
      unfold attr2
      obtain ⟨k, hk⟩ : ∃ k, gapN s.data.toList j2 = k := ⟨_, rfl⟩
      rw [hk] at hG2 hgl2 ⊢
      rw [hsl] at hgl2 hj2
      have hki : (k : Int) ≤ (s.size : Int) := by omega
      obtain ⟨X, hX⟩ : ∃ X, s.extract k s.size = X := ⟨_, rfl⟩
      have hex := ext_drop s k
      rw [hX] at hex
      rw [← hex]
      have HX := Lib.hid hX
      have HN := Lib.hid hN
      have HG2 := Lib.hid hG2
      cases hp : Lib.hasPrefix X.data.toList [61] with
      | false =>
        rw [if_neg (by simp)]
        have HP := Lib.hid hp
        have hop : optI (some j2) = (j2 : Int) := rfl
        rw [hop] at hN ⊢
        have HN2 := Lib.hid hN
        clear hN hw hr hij hp hX hex hG2 hk hop HN
        go_enter Tryz.func25, Tryz.ntmps25
        go_wp2_with fail
        refine Calls.mono HG1.out ?_
        rintro e w1 ⟨rfl, b1⟩
        go_wp2_with fail
        refine Calls.mono (HN2.out _) ?_
        rintro e w2 ⟨rfl, rfl⟩
        go_wp2_with fail
        refine Calls.mono (HG2.out _) ?_
        rintro e w3 ⟨rfl, b3⟩
        go_wp2_with fail
        rw [HX.out]
        refine Calls.mono (Tryz.strings_HasPrefix X ⟨#[61]⟩ _) ?_
        rintro e w4 ⟨rfl, rfl⟩
        rw [show (⟨#[61]⟩ : ByteArray).data.toList = [61] from rfl, HP.out]
        go_wp2
        go_ret
        exact ⟨rfl, b1.trans (b3.mono b1.size)⟩
      | true =>
        rw [if_pos rfl]
        have HP := Lib.hid hp
        have hop : optI (some j2) = (j2 : Int) := rfl
        rw [hop] at hN
        have HN2 := Lib.hid hN
        have hlt : k < s.size := by rw [hex] at hp; have := prefix_lt hp; omega
        have hG3 := fun w' => gap_any s (k + 1) w' hs hlt
        have hgl3 := gapN_le s.data.toList (k + 1) (by omega)
        obtain ⟨m, hm⟩ : ∃ m, gapN s.data.toList (k + 1) = m := ⟨_, rfl⟩
        rw [hm] at hG3 hgl3 ⊢
        rw [hsl] at hgl3
        have hV := fun w' => value_any s m w' hs hgl3
        have HG3 := Lib.hid hG3
        have HV := Lib.hid hV
        clear hN hw hr hij hp hX hex hG2 hk hop HN hG3 hm hV
        go_enter Tryz.func25, Tryz.ntmps25
        go_wp2_with fail
        refine Calls.mono HG1.out ?_
        rintro e w1 ⟨rfl, b1⟩
        go_wp2_with fail
        refine Calls.mono (HN2.out _) ?_
        rintro e w2 ⟨rfl, rfl⟩
        go_wp2_with fail
        refine Calls.mono (HG2.out _) ?_
        rintro e w3 ⟨rfl, b3⟩
        go_wp2_with fail
        rw [HX.out]
        refine Calls.mono (Tryz.strings_HasPrefix X ⟨#[61]⟩ _) ?_
        rintro e w4 ⟨rfl, rfl⟩
        rw [show (⟨#[61]⟩ : ByteArray).data.toList = [61] from rfl, HP.out]
        go_wp2_with fail
        refine Calls.mono (HG3.out _) ?_
        rintro e w5 ⟨rfl, b5⟩
        go_wp2_with fail
        refine Calls.mono (HV.out _) ?_
        rintro e w6 ⟨rfl, rfl⟩
        go_wp2
        go_ret
        exact ⟨rfl, (b1.trans (b3.mono b1.size)).trans (b5.mono (b1.trans (b3.mono b1.size)).size)⟩
end Go.Proofs.YtjhfmdfihbkcaaaGreatDoor
