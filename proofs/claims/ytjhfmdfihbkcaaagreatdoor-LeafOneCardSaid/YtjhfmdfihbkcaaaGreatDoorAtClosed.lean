/- leaf.closed: which of some signs stands at a place? -/
import Derived.Test.YtjhfmdfihbkcaaaGreatDoorAtAttr
import Derived.Test.YtjhfmdfihbkcaaaGreatDoorRow
namespace Go.Proofs.YtjhfmdfihbkcaaaGreatDoor
open Go.RowKit

def closedN (l : List UInt8) (i : Nat) : List ByteArray → Nat
  | [] => 0
  | x :: xs => if Lib.hasPrefix (l.drop i) x.data.toList = true then i + x.size else closedN l i xs
def ClosedW (w : World) (l : List UInt8) (i : Nat) (xs : List ByteArray) (v : Value) (wr : World) : Prop := ∃ k : Nat, v = .int .i64 k ∧ k ≤ xs.length ∧ closedN l i xs = closedN l i (xs.drop k) ∧ wr = w
set_option maxHeartbeats 4000000 in
set_option maxRecDepth 100000 in
theorem closed_any (s : ByteArray) (i : Nat) (g : Nat) (xs : List ByteArray) (w : World) (hs : s.size ≤ 1099511627) (hi : i ≤ s.size) (hb : Box w g 9 (xs.map Value.string).toArray) (hx : ∀ x ∈ xs, x.size ≤ 100) (hn : xs.length ≤ 100) :
    Calls Tryz.prog 23 #[.string s, .int .i64 (i : Int), .slice (some ⟨g, 0, none⟩) xs.length xs.length] w (RI w (closedN s.data.toList i xs : Nat)) := by
  have hki : (i : Int) ≤ (s.size : Int) := by omega
  obtain ⟨X, hX⟩ : ∃ X, s.extract i s.size = X := ⟨_, rfl⟩
  have hex := ext_drop s i
  rw [hX] at hex
  have HEX := Lib.hid hex
  have HX := Lib.hid hX
  have HB := Lib.hid hb
  have HXS := Lib.hid hx
  clear hX hex hb hx
  go_enter Tryz.func23, Tryz.ntmps23
  go_wp2_with fail
  go_loopw [11] (fun v wr => ClosedW w s.data.toList i xs v wr) (fun v _ => xs.length - (intOf v).toNat)
  case atStart => exact ⟨0, rfl, Nat.zero_le _, rfl, rfl⟩
  case round =>
    obtain ⟨k, rfl, hk, hrr, rfl⟩ := hrel
    have HR := Lib.hid hrr
    clear hrr
    by_cases hlt : k < xs.length
    · have hkn : (k : Int) < (xs.length : Int) := by omega
      have x1 := box_lie HB.out k (.string xs[k]) (by simp)
      have x2 := HB.out.cell k
      rw [show (xs.map Value.string).toArray[k]? = some (.string xs[k]) by simp] at x2
      have hd : xs.drop k = xs[k] :: xs.drop (k + 1) := List.drop_eq_getElem_cons hlt
      have hsz := HXS.out _ (List.getElem_mem hlt)
      obtain ⟨p, hp⟩ : ∃ p, xs[k] = p := ⟨_, rfl⟩
      rw [hp] at x1 x2 hd hsz
      clear hp
      cases ho : Lib.hasPrefix X.data.toList p.data.toList with
      | true =>
        have hv : ((closedN s.data.toList i xs : Nat) : Int) = (i : Int) + (p.size : Int) := by
          rw [HR.out, hd]
          unfold closedN
          rw [if_pos (by rw [← HEX.out]; exact ho)]
          omega
        have HV := Lib.hid hv
        have HO := Lib.hid ho
        clear hv ho hd
        go_wp2_with fail
        rw [HX.out]
        refine Calls.mono (Tryz.strings_HasPrefix X p _) ?_
        rintro e w4 ⟨rfl, rfl⟩
        rw [HO.out]
        go_wp2
        go_ret
        rw [HV.out]
        exact ⟨rfl, rfl⟩
      | false =>
        have hv : closedN s.data.toList i (xs.drop k) = closedN s.data.toList i (xs.drop (k + 1)) := by
          rw [hd]
          show (if _ then _ else _) = _
          rw [if_neg (by rw [← HEX.out, ho]; simp)]
        have HV := Lib.hid hv
        have HO := Lib.hid ho
        clear hv ho hd
        go_wp2_with fail
        rw [HX.out]
        refine Calls.mono (Tryz.strings_HasPrefix X p _) ?_
        rintro e w4 ⟨rfl, rfl⟩
        rw [HO.out]
        go_wp2
        go_roundw
        case rel => exact ⟨k + 1, by go_num, hlt, by rw [HR.out, HV.out], rfl⟩
        case measure => simp [intOf]; omega
    · obtain rfl : k = xs.length := by omega
      have hv : closedN s.data.toList i xs = 0 := by rw [HR.out, List.drop_length]; rfl
      have HV := Lib.hid hv
      clear hv HR
      go_wp2
      go_ret
      rw [HV.out]
      exact ⟨rfl, rfl⟩
end Go.Proofs.YtjhfmdfihbkcaaaGreatDoor
