/- tympanlaw26.known: the chapter's examples hold. -/
import Derived.Test.YtikokedphocpiaaGreatDoorAtHtmn
import Derived.Test.YtikokedphocpiaaGreatDoorAtAuto
import Derived.Test.YtikokedphocpiaaGreatDoorAtCode
namespace Go.Proofs.YtikokedphocpiaaGreatDoor
open Go.RowKit

def Yes (w : World) (e : Ending) (w' : World) : Prop := e = .returned (.bool true) ∧ Below w.heap.size w w'
theorem below_on {w a b : World} (h : Below w.heap.size w a) (k : Below a.heap.size a b) : Below w.heap.size w b := h.trans (k.mono h.size)
def Tup3 (w : World) (x : ByteArray) (n : Int) (b : Bool) (e : Ending) (w' : World) : Prop := e = .returned (.tuple #[.string x, .int .i64 n, .bool b]) ∧ Below w.heap.size w w'
def Tup3s (w : World) (x y : ByteArray) (n : Int) (e : Ending) (w' : World) : Prop := e = .returned (.tuple #[.string x, .string y, .int .i64 n]) ∧ Below w.heap.size w w'
theorem ex_code1 : (codeAt [32, 96, 96, 32, 97, 96, 98, 32, 96, 96, 32] 1).text = [97, 96, 98] := by decide +kernel
theorem ex_code2 : (codeAt [32, 96, 96, 32, 97, 96, 98, 32, 96, 96, 32] 1).stop = 10 := by decide +kernel
theorem ex_code3 : (codeAt [32, 96, 96, 32, 97, 96, 98, 32, 96, 96, 32] 1).is = true := by decide +kernel
theorem ex_auto : autoAt [60, 120, 64, 121, 46, 122, 62] 0 = ([120, 64, 121, 46, 122], [109, 97, 105, 108, 116, 111, 58, 120, 64, 121, 46, 122], 7) := by decide +kernel
theorem ex_html : htmlAt [60, 33, 45, 45, 32, 97, 32, 45, 45, 32, 98, 32, 45, 45, 62, 99] 0 = 15 := by decide +kernel
theorem ex_esc : escOut (escAt [92, 42] 0) = (⟨#[42]⟩, 2) := by decide +kernel
theorem kn_code (w : World) (hm : MaxB w) : Calls Tryz.prog 8 #[.string ⟨#[32, 96, 96, 32, 97, 96, 98, 32, 96, 96, 32]⟩, .int .i64 1] w (Tup3 w ⟨#[97, 96, 98]⟩ 10 true) := by
  refine (code_any ⟨#[32, 96, 96, 32, 97, 96, 98, 32, 96, 96, 32]⟩ 1 w (by decide) (by omega) hm).mono ?_
  rintro e w' ⟨rfl, hb⟩
  rw [show (⟨#[32, 96, 96, 32, 97, 96, 98, 32, 96, 96, 32]⟩ : ByteArray).data.toList = [32, 96, 96, 32, 97, 96, 98, 32, 96, 96, 32] from rfl, ex_code1, ex_code2, ex_code3]
  exact ⟨rfl, hb⟩
theorem kn_auto (w : World) (hm : MaxB w) : Calls Tryz.prog 10 #[.string ⟨#[60, 120, 64, 121, 46, 122, 62]⟩, .int .i64 0] w (Tup3s w ⟨#[120, 64, 121, 46, 122]⟩ ⟨#[109, 97, 105, 108, 116, 111, 58, 120, 64, 121, 46, 122]⟩ 7) := by
  refine (auto_any ⟨#[60, 120, 64, 121, 46, 122, 62]⟩ 0 w (by decide) (by omega) hm).mono ?_
  rintro e w' ⟨rfl, hb⟩
  rw [show (⟨#[60, 120, 64, 121, 46, 122, 62]⟩ : ByteArray).data.toList = [60, 120, 64, 121, 46, 122, 62] from rfl, ex_auto]
  exact ⟨rfl, hb⟩
theorem kn_html (w : World) (hm : MaxB w) : Calls Tryz.prog 13 #[.string ⟨#[60, 33, 45, 45, 32, 97, 32, 45, 45, 32, 98, 32, 45, 45, 62, 99]⟩, .int .i64 0] w (RIb w 15) := by
  refine (html_any ⟨#[60, 33, 45, 45, 32, 97, 32, 45, 45, 32, 98, 32, 45, 45, 62, 99]⟩ 0 w (by decide) (by omega) hm).mono ?_
  rintro e w' ⟨rfl, hb⟩
  rw [show (⟨#[60, 33, 45, 45, 32, 97, 32, 45, 45, 32, 98, 32, 45, 45, 62, 99]⟩ : ByteArray).data.toList = [60, 33, 45, 45, 32, 97, 32, 45, 45, 32, 98, 32, 45, 45, 62, 99] from rfl, ex_html]
  exact ⟨rfl, hb⟩
theorem kn_esc (w : World) : Calls Tryz.prog 6 #[.string ⟨#[92, 42]⟩, .int .i64 0] w (SN w ⟨#[42]⟩ 2) := by
  refine (escape_any ⟨#[92, 42]⟩ 0 w (by decide) (by omega)).mono ?_
  rintro e w' ⟨rfl, hb⟩
  rw [show (⟨#[92, 42]⟩ : ByteArray).data.toList = [92, 42] from rfl, ex_esc]
  exact ⟨rfl, hb⟩
set_option maxHeartbeats 2000000 in
set_option maxRecDepth 100000 in
theorem known_any (w : World) (hm : MaxB w) : Calls Tryz.prog 12 #[] w (Yes w) := by
  have HM := Lib.hid hm
  clear hm
  go_enter Tryz.func12, Tryz.ntmps12
  go_wp2_with fail
  refine Calls.mono (kn_code _ HM.out) ?_
  rintro e w1 ⟨rfl, b1⟩
  go_wp2_with fail
  refine Calls.mono (kn_auto _ (HM.out.later b1)) ?_
  rintro e w2 ⟨rfl, b2⟩
  have b2 := below_on b1 b2
  go_wp2_with fail
  refine Calls.mono (kn_esc _) ?_
  rintro e w3 ⟨rfl, rfl⟩
  go_wp2_with fail
  refine Calls.mono (kn_html _ (HM.out.later b2)) ?_
  rintro e w4 ⟨rfl, b4⟩
  have b4 := below_on b2 b4
  go_wp2
  go_ret
  exact ⟨rfl, b4⟩
end Go.Proofs.YtikokedphocpiaaGreatDoor
