/- The reference's Newlines. -/
import Derived.Test.YtebfjlfkofibpaaGreatDoorRwC
namespace Go.Proofs.YtebfjlfkofibpaaGreatDoor
set_option maxHeartbeats 4000000
set_option maxRecDepth 100000
open Go.RowKit
def NlW (w : World) (l : List UInt8) (v i : Value) (wr : World) : Prop := ∃ (k : Nat) (acc : List UInt8), i = .int .i64 k ∧ k ≤ l.length ∧ Acc w v acc wr ∧ acc ++ nlS false (l.drop k) = nlL l ∧ acc.length ≤ k
theorem refnewlines_any (s : ByteArray) (w : World) (hs : s.size ≤ 1000000000) : Calls Tryz.prog 11 #[.string s] w (StrR w (nlL s.data.toList)) := by
 have hsl : s.data.toList.length = s.size := lTq;have HSL := hdn hsl;have H0 := hdn (show NlW w s.data.toList (.slice none 0 0) (.int .i64 (0 : Nat)) w from ⟨0, [], rfl, Nat.zero_le _, Acc.start w, rfl, Nat.le_refl _⟩);clear hsl;go_enter Tryz.func11, Tryz.ntmps11;go_wp2_with fail
 go_loopw [3, 4] (fun v i wr => NlW w s.data.toList v i wr) (fun _ i _ => s.size - (intOf i).toNat)
 case atStart => exact H0.out
 case round =>
  obtain ⟨k, acc, rfl, hk, hacc, hE, hal⟩ := hrel;obtain ⟨A, m, c, rfl⟩ := hacc.slice;rw [HSL.out] at hk;have HA := hdn hacc;clear hacc H0
  by_cases hlt : k < s.size
  ·have hlt' : k < s.data.toList.length := by rw [HSL.out]; exact hlt
   obtain ⟨x, hx⟩ : ∃ x, s[k] = x := ⟨_, rfl⟩;have hxl : s.data.toList[k] = x := by rw [<- hx]; rfl
   rw [List.drop_eq_getElem_cons hlt', hxl] at hE;have hki : (k : Int) < (s.size : Int) := by omega
   by_cases h13 : x = 13
   ·subst h13;rw [nlS_13] at hE;have z1 : (((13 : UInt8).toNat : Int) != 13) = false := rfl;have HE := hdn hE;clear hE
    by_cases hlt2 : k + 1 < s.size
    ·have hlt2' : k + 1 < s.data.toList.length := by rw [HSL.out]; exact hlt2
     obtain ⟨y, hy⟩ : ∃ y, s[k + 1] = y := ⟨_, rfl⟩;have hyl : s.data.toList[k + 1] = y := by rw [<- hy]; rfl
     have hE2 := HE.out;rw [List.drop_eq_getElem_cons hlt2', hyl] at hE2;have hki2 : (k : Int) + 1 < (s.size : Int) := by omega
     by_cases h10 : y = 10
     ·subst h10;rw [nlS_10] at hE2;have z2 : (((10 : UInt8).toNat : Int) == 10) = true := rfl;have HF := hdn hE2;clear hE2 HE;go_wp2_with (at_builtin; refine wpList_acc rfl (.tmp 21) (.tmp 22) rfl _ _ rfl (HA.out.alloc (.cells #[.int .u8 10] 5)) ⟨wr.heap.size, 0, none⟩ 1 1 [10] rfl rfl (one_new wr 10) (by show acc.length + 1 ≤ _; omega) ?_);intro v' W1 hst;have HST := hdn hst;clear hst;go_wp2
      go_roundw
      case rel => exact ⟨k + 1 + 1, acc ++ [10], by go_num, by rw [HSL.out]; omega, HST.out, by rw [List.append_assoc]; exact HF.out, by rw [List.length_append]; show acc.length + 1 ≤ _; omega⟩
      case measure => simp [intOf]; omega
     ·rw [nlS_any h10, <- hyl, <- List.drop_eq_getElem_cons hlt2'] at hE2;have z2 : ((y.toNat : Int) == 10) = false := by rw [beq_eq_false_iff_ne]; intro e; exact h10 (UInt8.toNat_inj.1 (by show y.toNat = 10; omega))
      have HF := hdn hE2;clear hE2 HE h10;go_wp2_with (at_builtin; refine wpList_acc rfl (.tmp 21) (.tmp 22) rfl _ _ rfl (HA.out.alloc (.cells #[.int .u8 10] 5)) ⟨wr.heap.size, 0, none⟩ 1 1 [10] rfl rfl (one_new wr 10) (by show acc.length + 1 ≤ _; omega) ?_);intro v' W1 hst;have HST := hdn hst;clear hst;go_wp2
      go_roundw
      case rel => exact ⟨k + 1, acc ++ [10], by go_num, by rw [HSL.out]; omega, HST.out, by rw [List.append_assoc]; exact HF.out, by rw [List.length_append]; show acc.length + 1 ≤ _; omega⟩
      case measure => simp [intOf]; omega
    ·have hE2 := HE.out;rw [List.drop_of_length_le (by rw [HSL.out]; omega)] at hE2;have hki2 : ¬ (k : Int) + 1 < (s.size : Int) := by omega
     have HF := hdn hE2;clear hE2 HE;go_wp2_with (at_builtin; refine wpList_acc rfl (.tmp 21) (.tmp 22) rfl _ _ rfl (HA.out.alloc (.cells #[.int .u8 10] 5)) ⟨wr.heap.size, 0, none⟩ 1 1 [10] rfl rfl (one_new wr 10) (by show acc.length + 1 ≤ _; omega) ?_);intro v' W1 hst;have HST := hdn hst;clear hst;go_wp2
     go_roundw
     case rel => exact ⟨k + 1, acc ++ [10], by go_num, by rw [HSL.out]; omega, HST.out, by rw [List.append_assoc, List.drop_of_length_le (by rw [HSL.out]; omega)]; exact HF.out, by rw [List.length_append]; show acc.length + 1 ≤ _; omega⟩
     case measure => simp [intOf]; omega
   ·rw [nlS_else h13 (.inl rfl)] at hE;have z1 : ((x.toNat : Int) != 13) = true := by simp; intro e; exact h13 (UInt8.toNat_inj.1 (by show x.toNat = 13; omega))
    have HF := hdn hE;clear hE h13;go_wp2_with (at_builtin; refine wpList_acc rfl (.tmp 15) (.tmp 19) rfl _ _ rfl (HA.out.alloc (.cells #[.int .u8 (x.toNat : Int)] 5)) ⟨wr.heap.size, 0, none⟩ 1 1 [x] rfl rfl (one_new wr x) (by show acc.length + 1 ≤ _; omega) ?_);intro v' W1 hst;have HST := hdn hst;clear hst;go_wp2
    go_roundw
    case rel => exact ⟨k + 1, acc ++ [x], by go_num, by rw [HSL.out]; omega, HST.out, by rw [List.append_assoc]; exact HF.out, by rw [List.length_append]; show acc.length + 1 ≤ _; omega⟩
    case measure => simp [intOf]; omega
  ·obtain rfl : k = s.size := by omega
   rw [List.drop_of_length_le (by rw [HSL.out]; exact Nat.le_refl _), nlS, List.append_nil] at hE;have hcv := HA.out.string;rw [hE] at hcv;clear hE;go_wp2;go_ret;exact ⟨rfl, HA.out.below⟩
