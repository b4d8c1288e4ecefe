/- url.Escape: an address with percent signs. -/
import Derived.Test.YtibaoocklempnaaGreatDoorScheme
import Derived.Test.YtibaoocklempnaaGreatDoorBld
namespace Go.Proofs.YtibaoocklempnaaGreatDoor
open Go.RowKit

def fineL : List UInt8 := [45, 95, 46, 43, 33, 42, 39, 40, 41, 44, 37, 35, 64, 63, 61, 59, 58, 47, 38, 36, 126]
def hexL : List UInt8 := [48, 49, 50, 51, 52, 53, 54, 55, 56, 57, 65, 66, 67, 68, 69, 70]
def fineB (b : UInt8) : Bool := letter b || digit b || fineL.contains b
def hexU (n : Nat) : UInt8 := hexL.getD n 0
def esc1 (b : UInt8) : List UInt8 := if fineB b then [b] else [37, hexU (b.toNat / 16), hexU (b.toNat % 16)]
def escape (l : List UInt8) : List UInt8 := (l.map esc1).flatten
theorem escape_take (l : List UInt8) (k : Nat) (hk : k < l.length) : escape (l.take (k + 1)) = escape (l.take k) ++ esc1 l[k] := by
  unfold escape
  rw [List.take_succ_eq_append_getElem hk, List.map_append, List.flatten_append]
  simp
theorem esc1_le (b : UInt8) : (esc1 b).length ≤ 3 := by unfold esc1; split <;> simp
theorem escape_le : ∀ l : List UInt8, (escape l).length ≤ 3 * l.length
  | [] => Nat.le_refl _
  | b :: l => by
    have := escape_le l
    have := esc1_le b
    have e : escape (b :: l) = esc1 b ++ escape l := rfl
    rw [e, List.length_append, List.length_cons]
    omega

theorem fine_mem (b : UInt8) : (0 ≤ Lib.indexByte (⟨#[45, 95, 46, 43, 33, 42, 39, 40, 41, 44, 37, 35, 64, 63, 61, 59, 58, 47, 38, 36, 126]⟩ : ByteArray).data.toList b) ↔ fineL.contains b = true := by
  rw [indexByte_has, List.contains_iff_mem]
  exact Iff.rfl
theorem fine_any (b : UInt8) (w : World) : Calls Tryz.prog 59 #[.int .u8 (b.toNat : Int)] w (RB w (fineB b)) := by
  have hL := letter_any b w
  have hD := digit_any b w
  have hI := indexByte_any ⟨#[45, 95, 46, 43, 33, 42, 39, 40, 41, 44, 37, 35, 64, 63, 61, 59, 58, 47, 38, 36, 126]⟩ b w
  have hp := fine_mem b
  obtain ⟨i, hi⟩ : ∃ i, Lib.indexByte (⟨#[45, 95, 46, 43, 33, 42, 39, 40, 41, 44, 37, 35, 64, 63, 61, 59, 58, 47, 38, 36, 126]⟩ : ByteArray).data.toList b = i := ⟨_, rfl⟩
  rw [hi] at hI hp
  have hms : fineB b = (letter b || digit b || fineL.contains b) := rfl
  obtain ⟨p, hpe⟩ : ∃ p, fineL.contains b = p := ⟨_, rfl⟩
  rw [hpe] at hp hms
  have HL := Lib.hid hL
  have HD := Lib.hid hD
  have HI := Lib.hid hI
  have HM := Lib.hid hms
  clear hL hD hI hms hpe hi
  cases hl : letter b with
  | true =>
    rw [hl] at HL HM
    clear hp
    go_enter Tryz.func59, Tryz.ntmps59
    go_wp2_with fail
    refine Calls.mono HL.out ?_
    rintro e w1 ⟨rfl, rfl⟩
    go_wp2
    go_ret
    exact ⟨by rw [HM.out]; rfl, rfl⟩
  | false =>
    rw [hl] at HL HM
    cases hd : digit b with
    | true =>
      rw [hd] at HD HM
      clear hp
      go_enter Tryz.func59, Tryz.ntmps59
      go_wp2_with fail
      refine Calls.mono HL.out ?_
      rintro e w1 ⟨rfl, rfl⟩
      go_wp2_with fail
      refine Calls.mono HD.out ?_
      rintro e w1 ⟨rfl, rfl⟩
      go_wp2
      go_ret
      exact ⟨by rw [HM.out]; rfl, rfl⟩
    | false =>
      rw [hd] at HD HM
      have hpd : decide ((0 : Int) ≤ i) = p := by rw [Bool.eq_iff_iff, decide_eq_true_iff]; exact hp
      clear hp
      go_enter Tryz.func59, Tryz.ntmps59
      go_wp2_with fail
      refine Calls.mono HL.out ?_
      rintro e w1 ⟨rfl, rfl⟩
      go_wp2_with fail
      refine Calls.mono HD.out ?_
      rintro e w1 ⟨rfl, rfl⟩
      go_wp2_with fail
      refine Calls.mono HI.out ?_
      rintro e w1 ⟨rfl, rfl⟩
      go_wp2
      go_ret
      exact ⟨by rw [HM.out]; rfl, rfl⟩

set_option maxRecDepth 100000 in
theorem and15 : ∀ x : Fin 256, bits .and .u8 ((x.val : Nat) : Int) 15 = ((x.val % 16 : Nat) : Int) := by decide
theorem hex_at (p : Nat) (h : p < (⟨#[48, 49, 50, 51, 52, 53, 54, 55, 56, 57, 65, 66, 67, 68, 69, 70]⟩ : ByteArray).size) : (⟨#[48, 49, 50, 51, 52, 53, 54, 55, 56, 57, 65, 66, 67, 68, 69, 70]⟩ : ByteArray)[p]'h = hexU p := by
  have h' : p < hexL.length := h
  have e : hexU p = hexL[p] := by unfold hexU; rw [List.getD, List.getElem?_eq_getElem h']; rfl
  rw [e]
  rfl
theorem conv3 (a b : UInt8) (W : World) (g c : Nat) (h0 : W.cell? ⟨g, 0, none⟩ = some (.int .u8 37)) (h1 : W.cell? ⟨g, 1, none⟩ = some (.int .u8 (a.toNat : Int))) (h2 : W.cell? ⟨g, 2, none⟩ = some (.int .u8 (b.toNat : Int))) :
    (convert 30 9 (.slice (some ⟨g, 0, none⟩) 3 c)).run Tryz.prog W = .ok (.string ⟨#[37, a, b]⟩) W := by
  refine run_convert_bytes_back (P := Tryz.prog) W 30 9 5 ⟨g, 0, none⟩ c [37, a, b] Tryz.underlying30 Tryz.underlying5 Tryz.underlying9 ?_
  intro j hj
  have e : (⟨g, 0, none⟩ : Addr).add j = ⟨g, j, none⟩ := by unfold Addr.add; split <;> simp_all
  rw [e]
  have hj3 : j = 0 ∨ j = 1 ∨ j = 2 := by simp at hj; omega
  rcases hj3 with rfl | rfl | rfl
  · exact h0
  · exact h1
  · exact h2
theorem bld_drew {T B b : Nat} {l : List UInt8} {w : World} (h : Bld T B b l w) : Bld T B b l w.drew := h
theorem bldB : BldT 70 := ⟨by kernel_rfl, by decide⟩
def EscW (l : List UInt8) (w : World) (i : Value) (wr : World) : Prop := ∃ k : Nat, i = .int .i64 k ∧ k ≤ l.length ∧ Bld 70 w.heap.size w.heap.size (escape (l.take k)) wr ∧ Below w.heap.size w wr

set_option maxHeartbeats 2000000 in
set_option maxRecDepth 100000 in
theorem escape_any (s : ByteArray) (w : World) (hs : s.size ≤ 1099511627776) : Calls Tryz.prog 20 #[.string s] w (StrR w (escape s.data.toList)) := by
  have hsl : s.data.toList.length = s.size := Array.length_toList
  have HSL := Lib.hid hsl
  have hf := fine_any
  have HF := Lib.hid hf
  have em := enters_of Tryz.func59 (by kernel_rfl) rfl
  clear hsl hf
  go_enter Tryz.func20, Tryz.ntmps20
  go_wp2_with fail
  go_loopw [9] (fun i wr => EscW s.data.toList w i wr) (fun i _ => s.size - (intOf i).toNat)
  case atStart => exact ⟨0, rfl, Nat.zero_le _, Bld.fresh 70 w, (Below.refl _ w).alloc (Nat.le_refl _) _⟩
  case round =>
    obtain ⟨k, rfl, hk, hbd, hbl⟩ := hrel
    have hks : k ≤ s.size := by rw [HSL.out] at hk; exact hk
    have HBD := Lib.hid hbd
    have HBL := Lib.hid hbl
    have hwz := hbl.size
    clear hbd hbl hk
    by_cases hlt : k < s.size
    · obtain ⟨x, hx⟩ : ∃ x, s[k] = x := ⟨_, rfl⟩
      have hki : (k : Int) < (s.size : Int) := by omega
      have hlt' : k < s.data.toList.length := by rw [HSL.out]; exact hlt
      have hxl : s.data.toList[k] = x := by rw [← hx]; rfl
      have htk := escape_take s.data.toList k hlt'
      rw [hxl] at htk
      have hll : (escape (s.data.toList.take k)).length ≤ 3 * 1099511627776 := by
        have h1 := escape_le (s.data.toList.take k)
        have h2 := List.length_take_le k s.data.toList
        omega
      have hfx := HF.out x
      have HTK := Lib.hid htk
      have HLL := Lib.hid hll
      have hx9 : x.toNat < 256 := UInt8.toNat_lt x
      clear htk hxl hll
      cases hv : fineB x with
      | true =>
        rw [hv] at hfx
        have he : esc1 x = [x] := by unfold esc1; rw [hv]; rfl
        have HFX := Lib.hid hfx
        have HE := Lib.hid he
        clear hfx he hv
        go_wp2_with fail
        refine Calls.mono (HFX.out _) ?_
        rintro e w4 ⟨rfl, rfl⟩
        go_wp2_with fail
        refine Calls.mono (bld_WriteByte bldB w.heap.size w.heap.size _ x _ HBD.out (by have := HLL.out; omega) hwz) ?_
        rintro e w5 ⟨rfl, b1, b2, b3⟩
        have HB1 := Lib.hid b1
        have HB2 := Lib.hid b2
        clear b1 b2 b3
        go_wp2
        go_roundw
        case rel => exact ⟨k + 1, by go_num, by rw [HSL.out]; omega, by rw [HTK.out, HE.out]; exact HB1.out, HBL.out.trans HB2.out⟩
        case measure => simp [intOf]; omega
      | false =>
        rw [hv] at hfx
        have HFX := Lib.hid hfx
        clear hfx
        go_wp2_with fail
        refine Calls.mono (HFX.out _) ?_
        rintro e w4 ⟨rfl, rfl⟩
        go_upto_region 9 with fail
        obtain ⟨p, hp⟩ : ∃ p, x.toNat / 16 = p := ⟨_, rfl⟩
        obtain ⟨q, hq⟩ : ∃ q, x.toNat % 16 = q := ⟨_, rfl⟩
        have hpI : ((x.toNat : Nat) : Int) / 16 = (p : Int) := by omega
        have hqI : bits .and .u8 ((x.toNat : Nat) : Int) 15 = (q : Int) := by rw [← hq]; exact and15 ⟨x.toNat, hx9⟩
        have hp16 : p < 16 := by omega
        have hq16 : q < 16 := by omega
        have hpl : (p : Int) < 16 := by omega
        have hql : (q : Int) < 16 := by omega
        have hcp : ∀ h, (⟨#[48, 49, 50, 51, 52, 53, 54, 55, 56, 57, 65, 66, 67, 68, 69, 70]⟩ : ByteArray)[p]'h = hexU p := fun h => hex_at p h
        have hcq : ∀ h, (⟨#[48, 49, 50, 51, 52, 53, 54, 55, 56, 57, 65, 66, 67, 68, 69, 70]⟩ : ByteArray)[q]'h = hexU q := fun h => hex_at q h
        have hcv := conv3 (hexU p) (hexU q)
        have he : esc1 x = [37, hexU p, hexU q] := by unfold esc1; rw [hv, hp, hq]; rfl
        have HE := Lib.hid he
        clear he hp hq hv
        have hbd2 := bld_drew (HBD.out.alloc (.cells #[.int .u8 37, .int .u8 ((hexU p).toNat : Int), .int .u8 ((hexU q).toNat : Int)] 5))
        have hl3 : (escape (s.data.toList.take k)).length + (⟨#[37, hexU p, hexU q]⟩ : ByteArray).size ≤ 140737488355328 := by
          have h1 := HLL.out
          have h2 : (⟨#[37, hexU p, hexU q]⟩ : ByteArray).size = 3 := rfl
          omega
        have HBD2 := Lib.hid hbd2
        have HL3 := Lib.hid hl3
        have hbl3 : Below w.heap.size w (wr.alloc (.cells #[.int .u8 37, .int .u8 ((hexU p).toNat : Int), .int .u8 ((hexU q).toNat : Int)] 5)).drew := (HBL.out.alloc hwz _).drew
        have HBL3 := Lib.hid hbl3
        clear hbd2 hl3 hbl3
        go_region_with (go_at_call 61; refine Calls.mono (bld_WriteString bldB w.heap.size w.heap.size _ ⟨#[37, hexU p, hexU q]⟩ _ HBD2.out HL3.out (by simp; omega)) ?_; rintro e w5 ⟨rfl, b1, b2, b3⟩)
        all_goals
          have HB1 := Lib.hid b1
          have HB2 := Lib.hid b2
          clear b1 b2 b3
          go_wp2
          go_roundw
          case rel => exact ⟨k + 1, by go_num, by rw [HSL.out]; omega, by rw [HTK.out, HE.out]; exact HB1.out, HBL3.out.trans HB2.out⟩
          case measure => simp [intOf]; omega
    · obtain rfl : k = s.size := by omega
      go_wp2_with fail
      refine Calls.mono (bld_String 70 w.heap.size w.heap.size _ _ HBD.out hwz) ?_
      rintro e w5 ⟨rfl, b1, b2, b3⟩
      have HB2 := Lib.hid b2
      clear b1 b2 b3
      go_wp2
      go_ret
      refine ⟨?_, HBL.out.trans HB2.out⟩
      rw [List.take_of_length_le (by rw [HSL.out]; exact Nat.le_refl _)]
      rfl
end Go.Proofs.YtibaoocklempnaaGreatDoor
