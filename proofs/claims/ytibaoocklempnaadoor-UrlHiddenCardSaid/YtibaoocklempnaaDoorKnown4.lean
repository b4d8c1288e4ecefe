/- tympanlaw04.known: the chapter's example holds. -/
import Derived.Test.YtibaoocklempnaaDoorSafe
namespace Go.Proofs.YtibaoocklempnaaDoor
open Go.RowKit

def Yes (w : World) (e : Ending) (w' : World) : Prop := e = .returned (.bool true) ∧ Below w.heap.size w w'
def TupR (w : World) (x : ByteArray) (b : Bool) (e : Ending) (w' : World) : Prop := e = .returned (.tuple #[.string x, .bool b]) ∧ Below w.heap.size w w'
def StrE (w : World) (x : ByteArray) (e : Ending) (w' : World) : Prop := e = .returned (.string x) ∧ Below w.heap.size w w'
theorem ex_scheme1 : scheme [106, 97, 118, 97, 10, 115, 99, 114, 105, 112, 116, 58, 120] = some [106, 97, 118, 97, 115, 99, 114, 105, 112, 116] := by decide +kernel
theorem ex_scheme2 : scheme [47, 97, 58, 98] = none := by decide +kernel
theorem ex_escape : escape [97, 32, 195, 169, 34, 91] = [97, 37, 50, 48, 37, 67, 51, 37, 65, 57, 37, 50, 50, 37, 53, 66] := by decide +kernel
theorem ex_safe1 : safe [47, 47, 97] [] = true := by decide +kernel
theorem ex_safe2 : safe [120, 58] [] = false := by decide +kernel
theorem kn_scheme1 (w : World) (hG : Glob w) : Calls Tryd.prog 4 #[.string ⟨#[106, 97, 118, 97, 10, 115, 99, 114, 105, 112, 116, 58, 120]⟩] w (TupR w ⟨#[106, 97, 118, 97, 115, 99, 114, 105, 112, 116]⟩ true) := by
  refine (scheme_any ⟨#[106, 97, 118, 97, 10, 115, 99, 114, 105, 112, 116, 58, 120]⟩ w hG (by decide)).mono ?_
  rintro e w' ⟨rfl, hb⟩
  rw [show (⟨#[106, 97, 118, 97, 10, 115, 99, 114, 105, 112, 116, 58, 120]⟩ : ByteArray).data.toList = [106, 97, 118, 97, 10, 115, 99, 114, 105, 112, 116, 58, 120] from rfl, ex_scheme1]
  exact ⟨rfl, hb⟩
theorem kn_scheme2 (w : World) (hG : Glob w) : Calls Tryd.prog 4 #[.string ⟨#[47, 97, 58, 98]⟩] w (TupR w ⟨#[]⟩ false) := by
  refine (scheme_any ⟨#[47, 97, 58, 98]⟩ w hG (by decide)).mono ?_
  rintro e w' ⟨rfl, hb⟩
  rw [show (⟨#[47, 97, 58, 98]⟩ : ByteArray).data.toList = [47, 97, 58, 98] from rfl, ex_scheme2]
  exact ⟨rfl, hb⟩
theorem kn_escape (w : World) : Calls Tryd.prog 13 #[.string ⟨#[97, 32, 195, 169, 34, 91]⟩] w (StrE w ⟨#[97, 37, 50, 48, 37, 67, 51, 37, 65, 57, 37, 50, 50, 37, 53, 66]⟩) := by
  refine (escape_any ⟨#[97, 32, 195, 169, 34, 91]⟩ w (by decide)).mono ?_
  rintro e w' ⟨rfl, hb⟩
  rw [show (⟨#[97, 32, 195, 169, 34, 91]⟩ : ByteArray).data.toList = [97, 32, 195, 169, 34, 91] from rfl, ex_escape]
  exact ⟨rfl, hb⟩
theorem strs_nil (S : Nat → Prop) (w : World) (c : Nat) : StrsAt S w (.slice none 0 c) [] := ⟨none, c, rfl, fun h => absurd h (Nat.lt_irrefl 0)⟩
theorem kn_safe1 (w : World) (hG : Glob w) : Calls Tryd.prog 14 #[.string ⟨#[47, 47, 97]⟩, .slice none 0 0] w (Yes w) := by
  refine (safe_any ⟨#[47, 47, 97]⟩ (.slice none 0 0) [] w hG (by decide) (strs_nil _ w 0) (by decide)).mono ?_
  rintro e w' ⟨rfl, hb⟩
  rw [show (⟨#[47, 47, 97]⟩ : ByteArray).data.toList = [47, 47, 97] from rfl, ex_safe1]
  exact ⟨rfl, hb⟩
theorem kn_safe2 (w : World) (hG : Glob w) : Calls Tryd.prog 14 #[.string ⟨#[120, 58]⟩, .slice none 0 0] w (BoolR w false) := by
  refine (safe_any ⟨#[120, 58]⟩ (.slice none 0 0) [] w hG (by decide) (strs_nil _ w 0) (by decide)).mono ?_
  rintro e w' ⟨rfl, hb⟩
  rw [show (⟨#[120, 58]⟩ : ByteArray).data.toList = [120, 58] from rfl, ex_safe2]
  exact ⟨rfl, hb⟩

theorem strs_on {w w' : World} {v : Value} {l : List ByteArray} (h : StrsAt (fun k => k < w.heap.size) w v l) (hb : Below w.heap.size w w') : StrsAt (fun k => k < w'.heap.size) w' v l := by
  obtain ⟨A, c, e, hc⟩ := h.keep (fun k hk => hb.block k hk)
  refine ⟨A, c, e, fun h0 => ?_⟩
  obtain ⟨b, off, hA, hS, hj⟩ := hc h0
  exact ⟨b, off, hA, Nat.lt_of_lt_of_le hS hb.size, hj⟩
theorem below_on {w a b : World} (h : Below w.heap.size w a) (k : Below a.heap.size a b) : Below w.heap.size w b := h.trans (k.mono h.size)
set_option maxHeartbeats 2000000 in
set_option maxRecDepth 100000 in
theorem known_any (w : World) (hG : Glob w) : Calls Tryd.prog 5 #[] w (Yes w) := by
  have HG := Lib.hid hG
  clear hG
  go_enter Tryd.func5, Tryd.ntmps5
  go_wp2_with fail
  refine Calls.mono (kn_scheme1 _ HG.out) ?_
  rintro e w1 ⟨rfl, b1⟩
  go_wp2_with fail
  refine Calls.mono (kn_scheme2 _ (HG.out.later b1)) ?_
  rintro e w2 ⟨rfl, b2⟩
  have b2 := below_on b1 b2
  go_wp2_with fail
  refine Calls.mono (kn_escape _) ?_
  rintro e w3 ⟨rfl, b3⟩
  have b3 := below_on b2 b3
  go_wp2_with fail
  refine Calls.mono (kn_safe1 _ (HG.out.later b3)) ?_
  rintro e w4 ⟨rfl, b4⟩
  have b4 := below_on b3 b4
  go_wp2_with fail
  refine Calls.mono (kn_safe2 _ (HG.out.later b4)) ?_
  rintro e w5 ⟨rfl, b5⟩
  have b5 := below_on b4 b5
  go_wp2
  go_ret
  exact ⟨rfl, b5⟩

theorem fine_hex : ∀ n : Fin 16, fineB (hexU n.val) = true := by decide +kernel
theorem esc1_again (b : UInt8) : escape (esc1 b) = esc1 b := by
  have hb := UInt8.toNat_lt b
  unfold esc1
  by_cases h : fineB b = true
  · rw [if_pos h]
    show esc1 b ++ [] = _
    unfold esc1
    rw [if_pos h]
    rfl
  · rw [if_neg h]
    have h1 := fine_hex ⟨b.toNat / 16, by omega⟩
    have h2 := fine_hex ⟨b.toNat % 16, by omega⟩
    have h3 : fineB 37 = true := by decide +kernel
    show esc1 37 ++ (esc1 (hexU (b.toNat / 16)) ++ (esc1 (hexU (b.toNat % 16)) ++ [])) = _
    unfold esc1
    rw [if_pos h1, if_pos h2, if_pos h3]
    rfl
theorem escape_append (a b : List UInt8) : escape (a ++ b) = escape a ++ escape b := by
  unfold escape; rw [List.map_append, List.flatten_append]
theorem escape_again : ∀ l : List UInt8, escape (escape l) = escape l
  | [] => rfl
  | b :: l => by
    have e : escape (b :: l) = esc1 b ++ escape l := rfl
    rw [e, escape_append, esc1_again, escape_again l]
end Go.Proofs.YtibaoocklempnaaDoor
