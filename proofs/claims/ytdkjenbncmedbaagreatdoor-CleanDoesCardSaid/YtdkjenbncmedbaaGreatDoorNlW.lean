/- Newlines of one kind: utf.Newlines and the reference's. -/
import Derived.Test.YtdkjenbncmedbaaGreatDoorNlP
import Derived.Test.YtdkjenbncmedbaaGreatDoorAtRepl
import Derived.Test.YtdkjenbncmedbaaGreatDoorAcc2
import Derived.Test.YtdkjenbncmedbaaGreatDoorStrip
namespace Go.Proofs.YtdkjenbncmedbaaGreatDoor
open Go.RowKit

set_option maxHeartbeats 2000000 in
set_option maxRecDepth 100000 in
theorem newlines_any (s : ByteArray) (w : World) (hs : s.size ≤ 1000000000) (hG : Glob w) : Calls Tryz.prog 91 #[.string s] w (StrR w (nlL s.data.toList)) := by
  have hsl : s.data.toList.length = s.size := Array.length_toList
  have hc := Lib.countB_mul_le ⟨#[13, 10]⟩ (by decide) s.size s (Nat.le_refl _)
  rw [show (⟨#[13, 10]⟩ : ByteArray).size = 2 from rfl] at hc
  have h1 := replaceAll_any s ⟨#[13, 10]⟩ ⟨#[10]⟩ w (by omega) hG.maxLen (by decide) (by decide) (by rw [show (⟨#[10]⟩ : ByteArray).size = 1 from rfl]; omega)
  obtain ⟨y, hy⟩ : ∃ y : ByteArray, (⟨(Lib.replaceK [13, 10] [10] (Lib.countB s ⟨#[13, 10]⟩) s.data.toList).toArray⟩ : ByteArray) = y := ⟨_, rfl⟩
  have hyl : y.data.toList = Lib.replaceK [13, 10] [10] (Lib.countB s ⟨#[13, 10]⟩) s.data.toList := by rw [← hy]
  have hyc : Lib.replaceK [13, 10] [10] (Lib.countB s ⟨#[13, 10]⟩) s.data.toList = crL s.data.toList := rep_cr2 _ _ (Nat.le_refl _) _ (Nat.le_refl _)
  have hys : y.size ≤ s.size := by
    have := crL_len s.data.toList
    rw [← hyc, ← hyl] at this
    rw [Array.length_toList, Array.length_toList] at this
    exact this
  have hc2 := Lib.countB_mul_le ⟨#[13]⟩ (by decide) y.size y (Nat.le_refl _)
  rw [show (⟨#[13]⟩ : ByteArray).size = 1 from rfl] at hc2
  have h2 := fun w' (h : Glob w') => replaceAll_any y ⟨#[13]⟩ ⟨#[10]⟩ w' (by omega) h.maxLen (by decide) (by decide) (by rw [show (⟨#[10]⟩ : ByteArray).size = 1 from rfl]; omega)
  have hfin : Lib.replaceK [13] [10] (Lib.countB y ⟨#[13]⟩) y.data.toList = nlL s.data.toList := by
    rw [show Lib.countB y ⟨#[13]⟩ = Lib.count y.data.toList [13] from rfl, hyl]
    exact nl_two s.data.toList _ _ (Nat.le_refl _) (by rw [← hyc]; exact Nat.le_refl _)
  have h1 : Calls Tryz.prog 112 #[.string s, .string ⟨#[13, 10]⟩, .string ⟨#[10]⟩] w (RpR w (Lib.replaceK [13, 10] [10] (Lib.countB s ⟨#[13, 10]⟩) s.data.toList)) := h1
  have h2 : ∀ w', Glob w' → Calls Tryz.prog 112 #[.string y, .string ⟨#[13]⟩, .string ⟨#[10]⟩] w' (RpR w' (Lib.replaceK [13] [10] (Lib.countB y ⟨#[13]⟩) y.data.toList)) := h2
  unfold RpR at h1 h2
  rw [hy] at h1
  rw [hfin] at h2
  have H1 := Lib.hid h1; have H2 := Lib.hid h2; have HG := Lib.hid hG
  clear h1 h2 hfin hc hc2 hys hyc hyl hy hG hsl
  go_enter Tryz.func91, Tryz.ntmps91
  go_wp2_with fail
  refine Calls.mono H1.out ?_
  rintro e w1 ⟨rfl, b1⟩
  have HB1 := Lib.hid b1
  clear b1
  go_wp2_with fail
  refine Calls.mono (H2.out _ (HG.out.later HB1.out)) ?_
  rintro e w2 ⟨rfl, b2⟩
  have HB2 := Lib.hid (HB1.out.trans (b2.mono HB1.out.size))
  clear b2
  go_wp2
  go_ret
  exact ⟨rfl, HB2.out⟩

def NlW (w : World) (l : List UInt8) (v i : Value) (wr : World) : Prop := ∃ (k : Nat) (acc : List UInt8), i = .int .i64 k ∧ k ≤ l.length ∧ Acc w v acc wr ∧ acc ++ nlS false (l.drop k) = nlL l ∧ acc.length ≤ k
set_option maxHeartbeats 4000000 in
set_option maxRecDepth 100000 in
theorem refnewlines_any (s : ByteArray) (w : World) (hs : s.size ≤ 1000000000) : Calls Tryz.prog 95 #[.string s] w (StrR w (nlL s.data.toList)) := by
  have hsl : s.data.toList.length = s.size := Array.length_toList
  have HSL := Lib.hid hsl
  have H0 := Lib.hid (show NlW w s.data.toList (.slice none 0 0) (.int .i64 (0 : Nat)) w from ⟨0, [], rfl, Nat.zero_le _, Acc.start w, rfl, Nat.le_refl _⟩)
  clear hsl
  go_enter Tryz.func95, Tryz.ntmps95
  go_wp2_with fail
  go_loopw [3, 4] (fun v i wr => NlW w s.data.toList v i wr) (fun _ i _ => s.size - (intOf i).toNat)
  case atStart => exact H0.out
  case round =>
    obtain ⟨k, acc, rfl, hk, hacc, hE, hal⟩ := hrel
    obtain ⟨A, m, c, rfl⟩ := hacc.slice
    rw [HSL.out] at hk
    have HA := Lib.hid hacc
    clear hacc H0
    by_cases hlt : k < s.size
    · have hlt' : k < s.data.toList.length := by rw [HSL.out]; exact hlt
      obtain ⟨x, hx⟩ : ∃ x, s[k] = x := ⟨_, rfl⟩
      have hxl : s.data.toList[k] = x := by rw [← hx]; rfl
      rw [List.drop_eq_getElem_cons hlt', hxl] at hE
      have hki : (k : Int) < (s.size : Int) := by omega
      by_cases h13 : x = 13
      · subst h13
        rw [nlS_13] at hE
        have z1 : (((13 : UInt8).toNat : Int) != 13) = false := rfl
        have HE := Lib.hid hE
        clear hE
        by_cases hlt2 : k + 1 < s.size
        · have hlt2' : k + 1 < s.data.toList.length := by rw [HSL.out]; exact hlt2
          obtain ⟨y, hy⟩ : ∃ y, s[k + 1] = y := ⟨_, rfl⟩
          have hyl : s.data.toList[k + 1] = y := by rw [← hy]; rfl
          have hE2 := HE.out
          rw [List.drop_eq_getElem_cons hlt2', hyl] at hE2
          have hki2 : (k : Int) + 1 < (s.size : Int) := by omega
          by_cases h10 : y = 10
          · subst h10
            rw [nlS_10] at hE2
            have z2 : (((10 : UInt8).toNat : Int) == 10) = true := rfl
            have HF := Lib.hid hE2
            clear hE2 HE
            go_wp2_with (at_builtin; refine wpList_acc rfl (.tmp 21) (.tmp 22) rfl _ _ rfl (HA.out.alloc (.cells #[.int .u8 10] 5)) ⟨wr.heap.size, 0, none⟩ 1 1 [10] rfl rfl (one_new wr 10) (by show acc.length + 1 ≤ _; omega) ?_)
            intro v' W1 hst
            have HST := Lib.hid hst
            clear hst
            go_wp2
            go_roundw
            case rel => exact ⟨k + 1 + 1, acc ++ [10], by go_num, by rw [HSL.out]; omega, HST.out, by rw [List.append_assoc]; exact HF.out, by rw [List.length_append]; show acc.length + 1 ≤ _; omega⟩
            case measure => simp [intOf]; omega
          · rw [nlS_any h10, ← hyl, ← List.drop_eq_getElem_cons hlt2'] at hE2
            have z2 : ((y.toNat : Int) == 10) = false := by rw [beq_eq_false_iff_ne]; intro e; exact h10 (UInt8.toNat_inj.1 (by show y.toNat = 10; omega))
            have HF := Lib.hid hE2
            clear hE2 HE h10
            go_wp2_with (at_builtin; refine wpList_acc rfl (.tmp 21) (.tmp 22) rfl _ _ rfl (HA.out.alloc (.cells #[.int .u8 10] 5)) ⟨wr.heap.size, 0, none⟩ 1 1 [10] rfl rfl (one_new wr 10) (by show acc.length + 1 ≤ _; omega) ?_)
            intro v' W1 hst
            have HST := Lib.hid hst
            clear hst
            go_wp2
            go_roundw
            case rel => exact ⟨k + 1, acc ++ [10], by go_num, by rw [HSL.out]; omega, HST.out, by rw [List.append_assoc]; exact HF.out, by rw [List.length_append]; show acc.length + 1 ≤ _; omega⟩
            case measure => simp [intOf]; omega
        · have hE2 := HE.out
          rw [List.drop_of_length_le (by rw [HSL.out]; omega)] at hE2
          have hki2 : ¬ (k : Int) + 1 < (s.size : Int) := by omega
          have HF := Lib.hid hE2
          clear hE2 HE
          go_wp2_with (at_builtin; refine wpList_acc rfl (.tmp 21) (.tmp 22) rfl _ _ rfl (HA.out.alloc (.cells #[.int .u8 10] 5)) ⟨wr.heap.size, 0, none⟩ 1 1 [10] rfl rfl (one_new wr 10) (by show acc.length + 1 ≤ _; omega) ?_)
          intro v' W1 hst
          have HST := Lib.hid hst
          clear hst
          go_wp2
          go_roundw
          case rel => exact ⟨k + 1, acc ++ [10], by go_num, by rw [HSL.out]; omega, HST.out, by rw [List.append_assoc, List.drop_of_length_le (by rw [HSL.out]; omega)]; exact HF.out, by rw [List.length_append]; show acc.length + 1 ≤ _; omega⟩
          case measure => simp [intOf]; omega
      · rw [nlS_else h13 (.inl rfl)] at hE
        have z1 : ((x.toNat : Int) != 13) = true := by simp; intro e; exact h13 (UInt8.toNat_inj.1 (by show x.toNat = 13; omega))
        have HF := Lib.hid hE
        clear hE h13
        go_wp2_with (at_builtin; refine wpList_acc rfl (.tmp 15) (.tmp 19) rfl _ _ rfl (HA.out.alloc (.cells #[.int .u8 (x.toNat : Int)] 5)) ⟨wr.heap.size, 0, none⟩ 1 1 [x] rfl rfl (one_new wr x) (by show acc.length + 1 ≤ _; omega) ?_)
        intro v' W1 hst
        have HST := Lib.hid hst
        clear hst
        go_wp2
        go_roundw
        case rel => exact ⟨k + 1, acc ++ [x], by go_num, by rw [HSL.out]; omega, HST.out, by rw [List.append_assoc]; exact HF.out, by rw [List.length_append]; show acc.length + 1 ≤ _; omega⟩
        case measure => simp [intOf]; omega
    · obtain rfl : k = s.size := by omega
      rw [List.drop_of_length_le (by rw [HSL.out]; exact Nat.le_refl _), nlS, List.append_nil] at hE
      have hcv := HA.out.string
      rw [hE] at hcv
      clear hE
      go_wp2
      go_ret
      exact ⟨rfl, HA.out.below⟩
end Go.Proofs.YtdkjenbncmedbaaGreatDoor
