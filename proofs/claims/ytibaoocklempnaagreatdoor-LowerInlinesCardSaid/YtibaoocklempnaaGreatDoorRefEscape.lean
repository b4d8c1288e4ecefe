/- The reference's Escape. -/
import Derived.Test.YtibaoocklempnaaGreatDoorEscape
import Derived.Test.YtibaoocklempnaaGreatDoorAcc2
import Derived.Test.YtibaoocklempnaaGreatDoorRefScheme
namespace Go.Proofs.YtibaoocklempnaaGreatDoor
open Go.RowKit

def fineB0 (b : UInt8) : Bool := letter b || digit b
theorem fineB_eq (b : UInt8) : fineB b = (fineB0 b || fineL.contains b) := rfl
theorem fine_take (x : UInt8) (k : Nat) (hk : k < fineL.length) : (fineL.take (k + 1)).contains x = ((fineL.take k).contains x || fineL[k] == x) := by
  rw [List.take_succ_eq_append_getElem hk]
  rw [Bool.eq_iff_iff]
  simp only [List.contains_iff_mem, List.mem_append, List.mem_singleton, Bool.or_eq_true, beq_iff_eq]
  constructor
  · rintro (h | h)
    · exact .inl h
    · exact .inr h.symm
  · rintro (h | h)
    · exact .inl h
    · exact .inr h.symm
theorem fine_at (k : Nat) (h : k < (⟨#[45, 95, 46, 43, 33, 42, 39, 40, 41, 44, 37, 35, 64, 63, 61, 59, 58, 47, 38, 36, 126]⟩ : ByteArray).size) (h' : k < fineL.length) : (⟨#[45, 95, 46, 43, 33, 42, 39, 40, 41, 44, 37, 35, 64, 63, 61, 59, 58, 47, 38, 36, 126]⟩ : ByteArray)[k]'h = fineL[k] := rfl
theorem three_new (w : World) (a b : UInt8) : ∀ j u, ([37, a, b].map u8c)[j]? = some u → (w.alloc (.cells #[.int .u8 37, .int .u8 (a.toNat : Int), .int .u8 (b.toNat : Int)] 5)).drew.cell? ((⟨w.heap.size, 0, none⟩ : Addr).add j) = some u := by
  intro j u hu
  have e : (⟨w.heap.size, 0, none⟩ : Addr).add j = ⟨w.heap.size, j, none⟩ := by unfold Addr.add; split <;> simp_all
  have h : (w.alloc (.cells #[.int .u8 37, .int .u8 (a.toNat : Int), .int .u8 (b.toNat : Int)] 5)).drew.heap[w.heap.size]? = some (.cells ([37, a, b].map u8c).toArray 5 (0, 0)) := heap_alloc_new w _
  rw [e, cell_of_row _ _ j _ _ _ h, List.getElem?_toArray]
  exact hu
theorem u8_beq_iff (a b : UInt8) : ((a.toNat : Int) == (b.toNat : Int)) = (a == b) := by
  rw [Bool.eq_iff_iff, beq_iff_eq, beq_iff_eq]
  constructor
  · intro h; exact UInt8.toNat_inj.1 (by omega)
  · intro h; rw [h]

set_option maxHeartbeats 4000000 in
set_option maxRecDepth 100000 in
theorem refescape_any (s : ByteArray) (w : World) (hs : s.size ≤ 1099511627776) : Calls Tryz.prog 21 #[.string s] w (StrR w (escape s.data.toList)) := by
  have hsl : s.data.toList.length = s.size := Array.length_toList
  have HSL := Lib.hid hsl
  have hL := refletter_any
  have hD := refdigit_any
  have HL := Lib.hid hL
  have HD := Lib.hid hD
  clear hsl hL hD
  go_enter Tryz.func21, Tryz.ntmps21
  go_wp2_with fail
  go_loopw [3, 4] (fun v i wr => AccW w (fun k => escape (s.data.toList.take k)) s.size v i wr) (fun _ i _ => s.size - (intOf i).toNat)
  case atStart => exact ⟨0, rfl, Nat.zero_le _, Acc.start w⟩
  case round =>
    obtain ⟨k, rfl, hk, hacc⟩ := hrel
    have hacc' : Acc w _ (escape (s.data.toList.take k)) wr := hacc
    obtain ⟨A, m, c, rfl⟩ := hacc.slice
    have HA := Lib.hid hacc'
    clear hacc hacc'
    by_cases hlt : k < s.size
    · obtain ⟨x, hx⟩ : ∃ x, s[k] = x := ⟨_, rfl⟩
      have hki : (k : Int) < (s.size : Int) := by omega
      have hlt' : k < s.data.toList.length := by rw [HSL.out]; exact hlt
      have hxl : s.data.toList[k] = x := by rw [← hx]; rfl
      have htk := escape_take s.data.toList k hlt'
      rw [hxl] at htk
      have hll : (escape (s.data.toList.take k)).length ≤ 3 * 1099511627776 := by
        have h1 := escape_le (s.data.toList.take k)
        have h2 := List.length_take_le k s.data.toList
        omega
      have HTK := Lib.hid htk
      have HLL := Lib.hid hll
      have hx9 : x.toNat < 256 := UInt8.toNat_lt x
      clear htk hxl hll
      have hLx := HL.out x
      have hDx := HD.out x
      obtain ⟨wo, rfl⟩ : ∃ wo : World, wo = wr := ⟨_, rfl⟩
      cases hl : letter x with
      | true =>
        rw [hl] at hLx
        have HLX := Lib.hid hLx
        have HF0 : Hid (fineB0 x = true) := Lib.hid (by unfold fineB0; rw [hl]; rfl)
        clear hLx hDx hl
        go_wp2_with fail
        refine Calls.mono (HLX.out _) ?_
        rintro e w4 ⟨rfl, rfl⟩
        go_wp2_with fail
        go_loop [6, 7] (fun ok kk => ∃ (j : Nat) (b : Bool), kk = .int .i64 j ∧ j ≤ 21 ∧ ok = .bool b ∧ Hid (b = (fineB0 x || (fineL.take j).contains x))) (fun _ kk => 21 - (intOf kk).toNat)
        case atStart => exact ⟨0, true, rfl, by omega, rfl, Lib.hid (by rw [HF0.out]; simp)⟩
        case round =>
          obtain ⟨j, b, rfl, hj, rfl, HB⟩ := hrel
          by_cases hj21 : j < 21
          · have hjl : j < fineL.length := hj21
            have hft := fine_take x j hjl
            have HFT := Lib.hid hft
            have hji : (j : Int) < 21 := by omega
            have hidx : ∀ h, (⟨#[45, 95, 46, 43, 33, 42, 39, 40, 41, 44, 37, 35, 64, 63, 61, 59, 58, 47, 38, 36, 126]⟩ : ByteArray)[j]'h = fineL[j] := fun h => fine_at j h hjl
            clear hft
            cases b with
            | true =>
              go_wp2
              go_round
              case rel => exact ⟨j + 1, true, by go_num, by omega, rfl, by
                show true = _
                rw [HFT.out, ← Bool.or_assoc, ← HB.out]; rfl⟩
              case measure => simp [intOf]; omega
            | false =>
              go_wp2
              go_round
              case rel => exact ⟨j + 1, _, by go_num, by omega, rfl, by
                show _ = _
                rw [HFT.out, ← Bool.or_assoc, ← HB.out, u8_beq_iff]; rfl⟩
              case measure => simp [intOf]; omega
          · obtain rfl : j = 21 := by omega
            have hbf : b = fineB x := HB.out
            clear HB
            cases b with
            | true =>
              have he : esc1 x = [x] := by unfold esc1; rw [← hbf]; rfl
              have HE := Lib.hid he
              clear he hbf
              go_wp2_with (at_builtin; refine wpList_acc rfl (.tmp 35) (.tmp 37) rfl _ _ rfl (HA.out.alloc (.cells #[.int .u8 (x.toNat : Int)] 5)) ⟨wo.heap.size, 0, none⟩ 1 1 [x] rfl rfl (one_new _ _) (by have := HLL.out; simp; omega) ?_)
              intro v' W1 hst
              have HST := Lib.hid hst
              clear hst
              go_wp2
              go_roundw
              case rel =>
                refine ⟨k + 1, by go_num, by omega, ?_⟩
                show Acc w _ (escape (s.data.toList.take (k + 1))) _
                rw [HTK.out, HE.out]
                exact HST.out
              case measure => simp [intOf]; omega
            | false =>
              obtain ⟨p, hp⟩ : ∃ p, x.toNat / 16 = p := ⟨_, rfl⟩
              obtain ⟨q, hq⟩ : ∃ q, x.toNat % 16 = q := ⟨_, rfl⟩
              have hpI : ((x.toNat : Nat) : Int) / 16 = (p : Int) := by omega
              have hqI : ((x.toNat : Nat) : Int).tmod 16 = (q : Int) := by rw [Int.tmod_eq_emod_of_nonneg (by omega)]; omega
              have hwp : IntKind.u8.wrap (p : Int) = (p : Int) := by rw [IntKind.wrap_u8]; omega
              have hp16 : p < 16 := by omega
              have hq16 : q < 16 := by omega
              have hpl : (p : Int) < 16 := by omega
              have hql : (q : Int) < 16 := by omega
              have hcp : ∀ h, (⟨#[48, 49, 50, 51, 52, 53, 54, 55, 56, 57, 65, 66, 67, 68, 69, 70]⟩ : ByteArray)[p]'h = hexU p := fun h => hex_at p h
              have hcq : ∀ h, (⟨#[48, 49, 50, 51, 52, 53, 54, 55, 56, 57, 65, 66, 67, 68, 69, 70]⟩ : ByteArray)[q]'h = hexU q := fun h => hex_at q h
              have he : esc1 x = [37, hexU p, hexU q] := by unfold esc1; rw [← hbf, hp, hq]; rfl
              have HE := Lib.hid he
              clear he hp hq hbf
              have hac := (HA.out.alloc (.cells #[.int .u8 37, .int .u8 ((hexU p).toNat : Int), .int .u8 ((hexU q).toNat : Int)] 5)).drew
              have HAC := Lib.hid hac
              have hnew := three_new wo (hexU p) (hexU q)
              have HNEW := Lib.hid hnew
              clear hac hnew
              go_wp2_with fail
              go_region_law (refine step_acc rfl (.tmp 39) (.tmp 46) rfl _ _ rfl HAC.out ⟨wo.heap.size, 0, none⟩ 3 3 [37, hexU p, hexU q] rfl rfl HNEW.out (by have := HLL.out; simp; omega) ?_; intro v' W1 hst)
              all_goals
                have HST := Lib.hid hst
                clear hst
                go_wp2
                go_roundw
                case rel =>
                  refine ⟨k + 1, by go_num, by omega, ?_⟩
                  show Acc w _ (escape (s.data.toList.take (k + 1))) _
                  rw [HTK.out, HE.out]
                  exact HST.out
                case measure => simp [intOf]; omega
      | false =>
        rw [hl] at hLx
        have HLX := Lib.hid hLx
        have HF0 : Hid (fineB0 x = digit x) := Lib.hid (by unfold fineB0; rw [hl]; rfl)
        have HDX := Lib.hid hDx
        clear hLx hDx hl
        go_wp2_with fail
        refine Calls.mono (HLX.out _) ?_
        rintro e w4 ⟨rfl, rfl⟩
        go_wp2_with fail
        refine Calls.mono (HDX.out _) ?_
        rintro e w4 ⟨rfl, rfl⟩
        obtain ⟨dg, hdg⟩ : ∃ dg, digit x = dg := ⟨_, rfl⟩
        rw [hdg] at HF0
        rw [hdg]
        clear hdg HDX
        go_wp2_with fail
        go_loop [6, 7] (fun ok kk => ∃ (j : Nat) (b : Bool), kk = .int .i64 j ∧ j ≤ 21 ∧ ok = .bool b ∧ Hid (b = (fineB0 x || (fineL.take j).contains x))) (fun _ kk => 21 - (intOf kk).toNat)
        case atStart => exact ⟨0, dg, rfl, by omega, rfl, Lib.hid (by rw [HF0.out]; simp)⟩
        case round =>
          obtain ⟨j, b, rfl, hj, rfl, HB⟩ := hrel
          by_cases hj21 : j < 21
          · have hjl : j < fineL.length := hj21
            have hft := fine_take x j hjl
            have HFT := Lib.hid hft
            have hji : (j : Int) < 21 := by omega
            have hidx : ∀ h, (⟨#[45, 95, 46, 43, 33, 42, 39, 40, 41, 44, 37, 35, 64, 63, 61, 59, 58, 47, 38, 36, 126]⟩ : ByteArray)[j]'h = fineL[j] := fun h => fine_at j h hjl
            clear hft
            cases b with
            | true =>
              go_wp2
              go_round
              case rel => exact ⟨j + 1, true, by go_num, by omega, rfl, by
                show true = _
                rw [HFT.out, ← Bool.or_assoc, ← HB.out]; rfl⟩
              case measure => simp [intOf]; omega
            | false =>
              go_wp2
              go_round
              case rel => exact ⟨j + 1, _, by go_num, by omega, rfl, by
                show _ = _
                rw [HFT.out, ← Bool.or_assoc, ← HB.out, u8_beq_iff]; rfl⟩
              case measure => simp [intOf]; omega
          · obtain rfl : j = 21 := by omega
            have hbf : b = fineB x := HB.out
            clear HB
            cases b with
            | true =>
              have he : esc1 x = [x] := by unfold esc1; rw [← hbf]; rfl
              have HE := Lib.hid he
              clear he hbf
              go_wp2_with (at_builtin; refine wpList_acc rfl (.tmp 35) (.tmp 37) rfl _ _ rfl (HA.out.alloc (.cells #[.int .u8 (x.toNat : Int)] 5)) ⟨wo.heap.size, 0, none⟩ 1 1 [x] rfl rfl (one_new _ _) (by have := HLL.out; simp; omega) ?_)
              intro v' W1 hst
              have HST := Lib.hid hst
              clear hst
              go_wp2
              go_roundw
              case rel =>
                refine ⟨k + 1, by go_num, by omega, ?_⟩
                show Acc w _ (escape (s.data.toList.take (k + 1))) _
                rw [HTK.out, HE.out]
                exact HST.out
              case measure => simp [intOf]; omega
            | false =>
              obtain ⟨p, hp⟩ : ∃ p, x.toNat / 16 = p := ⟨_, rfl⟩
              obtain ⟨q, hq⟩ : ∃ q, x.toNat % 16 = q := ⟨_, rfl⟩
              have hpI : ((x.toNat : Nat) : Int) / 16 = (p : Int) := by omega
              have hqI : ((x.toNat : Nat) : Int).tmod 16 = (q : Int) := by rw [Int.tmod_eq_emod_of_nonneg (by omega)]; omega
              have hwp : IntKind.u8.wrap (p : Int) = (p : Int) := by rw [IntKind.wrap_u8]; omega
              have hp16 : p < 16 := by omega
              have hq16 : q < 16 := by omega
              have hpl : (p : Int) < 16 := by omega
              have hql : (q : Int) < 16 := by omega
              have hcp : ∀ h, (⟨#[48, 49, 50, 51, 52, 53, 54, 55, 56, 57, 65, 66, 67, 68, 69, 70]⟩ : ByteArray)[p]'h = hexU p := fun h => hex_at p h
              have hcq : ∀ h, (⟨#[48, 49, 50, 51, 52, 53, 54, 55, 56, 57, 65, 66, 67, 68, 69, 70]⟩ : ByteArray)[q]'h = hexU q := fun h => hex_at q h
              have he : esc1 x = [37, hexU p, hexU q] := by unfold esc1; rw [← hbf, hp, hq]; rfl
              have HE := Lib.hid he
              clear he hp hq hbf
              have hac := (HA.out.alloc (.cells #[.int .u8 37, .int .u8 ((hexU p).toNat : Int), .int .u8 ((hexU q).toNat : Int)] 5)).drew
              have HAC := Lib.hid hac
              have hnew := three_new wo (hexU p) (hexU q)
              have HNEW := Lib.hid hnew
              clear hac hnew
              go_wp2_with fail
              go_region_law (refine step_acc rfl (.tmp 39) (.tmp 46) rfl _ _ rfl HAC.out ⟨wo.heap.size, 0, none⟩ 3 3 [37, hexU p, hexU q] rfl rfl HNEW.out (by have := HLL.out; simp; omega) ?_; intro v' W1 hst)
              all_goals
                have HST := Lib.hid hst
                clear hst
                go_wp2
                go_roundw
                case rel =>
                  refine ⟨k + 1, by go_num, by omega, ?_⟩
                  show Acc w _ (escape (s.data.toList.take (k + 1))) _
                  rw [HTK.out, HE.out]
                  exact HST.out
                case measure => simp [intOf]; omega
    · obtain rfl : k = s.size := by omega
      have hcv := HA.out.string
      go_wp2
      go_ret
      refine ⟨?_, HA.out.below⟩
      rw [List.take_of_length_le (by rw [HSL.out]; exact Nat.le_refl _)]
      rfl
end Go.Proofs.YtibaoocklempnaaGreatDoor
