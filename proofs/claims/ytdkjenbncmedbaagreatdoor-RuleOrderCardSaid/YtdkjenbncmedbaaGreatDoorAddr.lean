/- rule.address: is an element's attribute an address? -/
import Derived.Test.YtdkjenbncmedbaaGreatDoorCheck
namespace Go.Proofs.YtdkjenbncmedbaaGreatDoor
open Go.RowKit

def isT (x c : ByteArray) : Bool := x.toList == c.toList
/-- Is it an address? -/
def addressB (el nm : ByteArray) : Bool := isT nm ⟨#[104, 114, 101, 102]⟩ || (isT nm ⟨#[115, 114, 99]⟩ || (isT nm ⟨#[99, 105, 116, 101]⟩ && (isT el ⟨#[98, 108, 111, 99, 107, 113, 117, 111, 116, 101]⟩ || (isT el ⟨#[100, 101, 108]⟩ || (isT el ⟨#[105, 110, 115]⟩ || isT el ⟨#[113]⟩)))))
theorem isT_yes {x c : ByteArray} (h : isT x c = true) : x = c := bytes_eq (beq_iff_eq.1 h)
set_option maxHeartbeats 2000000 in
set_option maxRecDepth 100000 in
theorem address_any (el nm : ByteArray) (w : World) : Calls Tryz.prog 30 #[.string el, .string nm] w (RB w (addressB el nm)) := by
  cases hn0 : isT nm ⟨#[104, 114, 101, 102]⟩ with
  | true =>
    obtain rfl := isT_yes hn0
    have hv : addressB el ⟨#[104, 114, 101, 102]⟩ = true := by unfold addressB; rw [hn0]; rfl
    rw [hv]
    clear hv hn0
    go_enter Tryz.func30, Tryz.ntmps30
    go_wp2
    go_ret
    exact ⟨rfl, rfl⟩
  | false =>
    cases hn1 : isT nm ⟨#[115, 114, 99]⟩ with
    | true =>
      obtain rfl := isT_yes hn1
      have hv : addressB el ⟨#[115, 114, 99]⟩ = true := by unfold addressB; rw [hn1]; simp
      rw [hv]
      clear hv hn1 hn0
      go_enter Tryz.func30, Tryz.ntmps30
      go_wp2
      go_ret
      exact ⟨rfl, rfl⟩
    | false =>
      cases hn2 : isT nm ⟨#[99, 105, 116, 101]⟩ with
      | false =>
        have hv : addressB el nm = false := by unfold addressB; rw [hn0, hn1, hn2]; rfl
        rw [hv]
        have a0 : (nm.toList == [104, 114, 101, 102]) = false := by rw [← hn0]; unfold isT; rw [Lib.toList_data ⟨#[104, 114, 101, 102]⟩]
        have b0 : ¬ nm.toList = [104, 114, 101, 102] := by simpa using a0
        have a1 : (nm.toList == [115, 114, 99]) = false := by rw [← hn1]; unfold isT; rw [Lib.toList_data ⟨#[115, 114, 99]⟩]
        have b1 : ¬ nm.toList = [115, 114, 99] := by simpa using a1
        have a2 : (nm.toList == [99, 105, 116, 101]) = false := by rw [← hn2]; unfold isT; rw [Lib.toList_data ⟨#[99, 105, 116, 101]⟩]
        have b2 : ¬ nm.toList = [99, 105, 116, 101] := by simpa using a2
        clear hv hn0 hn1 hn2
        go_enter Tryz.func30, Tryz.ntmps30
        go_wp2
        go_ret
        exact ⟨rfl, rfl⟩
      | true =>
        obtain rfl := isT_yes hn2
        clear hn0 hn1
        cases he0 : isT el ⟨#[98, 108, 111, 99, 107, 113, 117, 111, 116, 101]⟩ with
        | true =>
          obtain rfl := isT_yes he0
          have hv : addressB ⟨#[98, 108, 111, 99, 107, 113, 117, 111, 116, 101]⟩ ⟨#[99, 105, 116, 101]⟩ = true := by decide +kernel
          rw [hv]
          clear hv hn2 he0
          go_enter Tryz.func30, Tryz.ntmps30
          go_wp2
          go_ret
          exact ⟨rfl, rfl⟩
        | false =>
          cases he1 : isT el ⟨#[100, 101, 108]⟩ with
          | true =>
            obtain rfl := isT_yes he1
            have hv : addressB ⟨#[100, 101, 108]⟩ ⟨#[99, 105, 116, 101]⟩ = true := by decide +kernel
            rw [hv]
            clear hv hn2 he0 he1
            go_enter Tryz.func30, Tryz.ntmps30
            go_wp2
            go_ret
            exact ⟨rfl, rfl⟩
          | false =>
            cases he2 : isT el ⟨#[105, 110, 115]⟩ with
            | true =>
              obtain rfl := isT_yes he2
              have hv : addressB ⟨#[105, 110, 115]⟩ ⟨#[99, 105, 116, 101]⟩ = true := by decide +kernel
              rw [hv]
              clear hv hn2 he0 he1 he2
              go_enter Tryz.func30, Tryz.ntmps30
              go_wp2
              go_ret
              exact ⟨rfl, rfl⟩
            | false =>
              cases he3 : isT el ⟨#[113]⟩ with
              | true =>
                obtain rfl := isT_yes he3
                have hv : addressB ⟨#[113]⟩ ⟨#[99, 105, 116, 101]⟩ = true := by decide +kernel
                rw [hv]
                clear hv hn2 he0 he1 he2 he3
                go_enter Tryz.func30, Tryz.ntmps30
                go_wp2
                go_ret
                exact ⟨rfl, rfl⟩
              | false =>
                have hv : addressB el ⟨#[99, 105, 116, 101]⟩ = false := by unfold addressB; rw [he0, he1, he2, he3, show isT ⟨#[99, 105, 116, 101]⟩ ⟨#[104, 114, 101, 102]⟩ = false by decide +kernel, show isT ⟨#[99, 105, 116, 101]⟩ ⟨#[115, 114, 99]⟩ = false by decide +kernel]; simp
                rw [hv]
                have a0 : (el.toList == [98, 108, 111, 99, 107, 113, 117, 111, 116, 101]) = false := by rw [← he0]; unfold isT; rw [Lib.toList_data ⟨#[98, 108, 111, 99, 107, 113, 117, 111, 116, 101]⟩]
                have b0 : ¬ el.toList = [98, 108, 111, 99, 107, 113, 117, 111, 116, 101] := by simpa using a0
                have a1 : (el.toList == [100, 101, 108]) = false := by rw [← he1]; unfold isT; rw [Lib.toList_data ⟨#[100, 101, 108]⟩]
                have b1 : ¬ el.toList = [100, 101, 108] := by simpa using a1
                have a2 : (el.toList == [105, 110, 115]) = false := by rw [← he2]; unfold isT; rw [Lib.toList_data ⟨#[105, 110, 115]⟩]
                have b2 : ¬ el.toList = [105, 110, 115] := by simpa using a2
                have a3 : (el.toList == [113]) = false := by rw [← he3]; unfold isT; rw [Lib.toList_data ⟨#[113]⟩]
                have b3 : ¬ el.toList = [113] := by simpa using a3
                clear hv hn2 he0 he1 he2 he3
                go_enter Tryz.func30, Tryz.ntmps30
                go_wp2
                go_ret
                exact ⟨rfl, rfl⟩
end Go.Proofs.YtdkjenbncmedbaaGreatDoor
