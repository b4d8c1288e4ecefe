/- refs.Dest without brackets. -/
import Derived.Test.YtebfjlfkofibpaaGreatDoorRsSq
import Derived.Deep.RegionHeld3
import Derived.WalkMore
import Derived.Laws.ResultCell
import Derived.Laws.Rows
import Derived.Lib.SlBytesConst
namespace Go.Proofs.YtebfjlfkofibpaaGreatDoor
set_option maxHeartbeats 16000000
set_option maxRecDepth 100000
section
open Go.RowKit
theorem quiet_first {P : Program} {f : FuncId} {args : Array Value} {w : World} {n : Nat} {v : Value} (h : Calls P f args (w.drewN n) fun e w' => e = .returned v ∧ w' = w.drewN n) : Calls P f args (w.drewN n) fun e w'' => e = .returned v ∧ ∃ m, w'' = w.drewN m :=
 h.mono fun _ _ ⟨he, hm⟩ => ⟨he, n, hm⟩
def DeW (s : ByteArray) (i cb : Nat) (X : Option (Nat × Nat)) (w : World) (g : Nat) (v : Value) (wr : World) : Prop :=
 ∃ k f o : Nat, v = .int .i64 (o : Int) ∧ k + g = s.size ∧ s.size ≤ k + f ∧ i ≤ k ∧ o ≤ 32 ∧ bareF s.data.toList f k o = X ∧ CurAt wr cb s k ∧ w.grownBy wr (some cb)
def bareV (s : ByteArray) (i : Nat) (X : Option (Nat × Nat)) : ByteArray × Nat × Bool := match X with
 | none => (⟨#[]⟩, i, false)
 | some (k, o) => if k = i ∨ 0 < o then (⟨#[]⟩, i, false) else (unescB (s.extract i k), k, true)
theorem dest_bare (s : ByteArray) (i : Nat) (w : World) (hs : s.size < 4294967281) (hil : i < s.size) (h60 : (s.data.toList[i]? == some 60) = false) : Calls Tryz.prog 105 #[.string s, .int .i64 (i : Int)] w (SIB w (bareV s i (bareF s.data.toList s.size i 0))) := by
 obtain ⟨X, hX⟩ : ∃ X, bareF s.data.toList s.size i 0 = X := ⟨_, rfl⟩;obtain ⟨V, hV⟩ : ∃ V, bareV s i X = V := ⟨_, rfl⟩;rw [hX, hV];have hz1 : ¬ (s.size : Int) ≤ (i : Int) := by omega
 obtain ⟨W, hW⟩ : ∃ W, w.alloc (.cells #[.string s, .int .i64 (i : Int)] 162) = W := ⟨_, rfl⟩;have hbW : Below w.heap.size w W := by rw [<- hW]; exact (Below.refl _ w).alloc (Nat.le_refl _) _
 have hcW : CurAt W w.heap.size s i := by rw [<- hW]; exact heap_alloc_new w _
 have hnc := fun j => cell_of_row W w.heap.size j _ _ _ hcW;have hc0 : W.cell? ⟨w.heap.size, 0, none⟩ = some (.string s) := hnc 0;have HI := hdn (is_any s (i : Int) 60 W (by omega));have hib : isB s.data.toList (i : Int) 60 = false := by unfold isB; rw [decide_eq_true (by omega), Int.toNat_natCast, h60]; rfl
 rw [hib] at HI;have HW := hdn hW;have HBW := hdn hbW;have HV := hdn hV;have H0 := hdn (show DeW s i w.heap.size X W (s.size - i) (.int .i64 0) W from ⟨i, s.size, 0, rfl, by omega, by omega, Nat.le_refl _, by omega, hX, hcW, grown_refl _ _⟩);have HSt := hdn fun (k : Nat) (hk : k ≤ s.size) (w' : World) (d : Nat) => (step_any s k (w'.drewN d) (by omega) (by omega)).mono fun e w2 (h : IntR (w'.drewN d) _ e w2) => (⟨h.1, h.2.symm⟩ : e = .returned (.int .i64 (stepL s.data.toList k : Nat)) ∧ w2 = w'.drewN d);clear hX hV hW hbW hcW hnc hib h60
 go_enter Tryz.func105, Tryz.ntmps105;go_wp2_with fail
 go_step3
 go_wp2_with fail;rw [HW.out];go_wp2_with fail;refine cMq HI.out ?_;rintro e w1 ⟨rfl, rfl⟩;go_wp2_with fail
 go_step3
 go_wp2_with fail
 go_loopg [8, 9, 10] (s.size - i) (fun g v _ _ wr => DeW s i w.heap.size X W g v wr)
 case atStart => exact H0.out
 case round =>
  obtain ⟨k, f, o, rfl, hk, hf, hik, ho, hu, hc, hgr⟩ := hrel;have c01 := fun j => cell_of_row wr w.heap.size j _ _ _ hc;have c0 : wr.cell? ⟨w.heap.size, 0, none⟩ = some (.string s) := c01 0;have c1 : wr.cell? ⟨w.heap.size, 1, none⟩ = some (.int .i64 (k : Int)) := c01 1;have fz : ∀ j, wr.frozen? ⟨w.heap.size, j, none⟩ = false := (fun j => by simp [World.frozen?, show wr.heap[w.heap.size]? = _ from hc]);have HB := hdn (below_cur HBW.out hgr);have hcb' : w.heap.size < wr.heap.size := (gSq.1 (show wr.heap[w.heap.size]? = _ from hc)).1
  have HU := hdn hu; have HC := hdn hc; have HG := hdn hgr; have HK := hdn hk; have HF := hdn hf;have hkz : (k : Int) ≤ (s.size : Int) := by omega
  have hik2 : (i : Int) ≤ (k : Int) := by omega
  clear hu hc hgr c01 H0 hk hf
  by_cases hlt : k < s.size
  ·have hki : (k : Int) < (s.size : Int) := by omega
   have HS1 := hdn fun (w2 : World) d => HSt.out k (by omega) w2 d;obtain ⟨f', hf'⟩ : ∃ f', f = f' + 1 := ⟨f - 1, by have := HK.out; have := HF.out; omega⟩;have hu := HU.out;rw [hf', bareF, get_list s k hlt] at hu;simp only at hu;have hst := stepL_in s.data.toList k;have hsl := stepL_le s.data.toList k (by simpa using hlt);have hsl2 : s.data.toList.length = s.size := lTq;have hsl3 : k + stepL s.data.toList k ≤ s.size := by omega
   obtain ⟨b, hb⟩ : ∃ b, s[k] = b := ⟨_, rfl⟩;rw [hb] at hu;obtain ⟨n, hn⟩ : ∃ n, stepL s.data.toList k = n := ⟨_, rfl⟩;rw [hn] at hu HS1 hst hsl3;have hbl := UInt8.toNat_lt b;have hn1 : n = 1 ∨ n = 2 := by omega
   have HU2 := hdn hu;clear hu hn HU hsl2 hsl;rcases hn1 with rfl | rfl
   ·have hu := HU2.out;rw [if_neg (by decide)] at hu;clear HU2
    by_cases h40 : b = 40
    ·have i40 : ((b.toNat : Int) == 40) = true := by rw [h40]; rfl
     by_cases h32 : o = 32
     ·have HE := hdn (show none = X by rw [<- hu, h40, h32]; rfl);have i32 : ((o : Int) == 32) = true := by rw [h32]; rfl
      have hv : V = (⟨#[]⟩, i, false) := by rw [<- HV.out, <- HE.out]; rfl
      have HVV := hdn hv;clear hu hv h40 h32;go_wp2_with fail
      go_quiet ((go_at_call 151; exact quiet_first (HS1.out _ _)))
      go_wp2_with fail
      (try rw [hb])
      go_wp2_with fail;rw [Exit.noGoto_ret]
      go_ret3
      rw [HVV.out];exact ⟨rfl, below_drewN HB.out _⟩
     ·have HE := hdn (show bareF s.data.toList f' (k + 1) (o + 1) = X by rw [<- hu, h40]; simp [h32]);have i32 : ((o : Int) == 32) = false := by rw [beq_eq_false_iff_ne]; omega
      clear hu h40;go_wp2_with fail
      go_quiet ((go_at_call 151; exact quiet_first (HS1.out _ _)))
      go_wp2_with fail
      (try rw [hb])
      go_wp2_with fail
      go_roundg (s.size - (k + 1))
      case measure => have := HK.out; omega
      case rel => exact ⟨k + 1, f', o + 1, by simp; try omega, by omega, by have := HK.out; have := HF.out; omega, by omega, by omega, HE.out, by first | exact cur_put HC.out | exact cur_put (i := k) HC.out, grown_put (grown_drewN HG.out _) _ _⟩
    ·have i40 : ((b.toNat : Int) == 40) = false := by rw [show ((b.toNat : Int) == 40) = (b == 40) from beqc b 40]; exact beq_no h40
     by_cases h41 : b = 41 ∧ 0 < o
     ·obtain ⟨h41, h0⟩ := h41;have i41 : ((b.toNat : Int) == 41) = true := by rw [h41]; rfl
      have h0i : (0 : Int) < (o : Int) := by omega
      have HE := hdn (show bareF s.data.toList f' (k + 1) (o - 1) = X by rw [<- hu, h41]; simp [h0]);have ho1 : ((o - 1 : Nat) : Int) = (o : Int) - 1 := by omega
      have HO1 := hdn ho1;clear hu h41 h40 ho1;go_wp2_with fail
      go_quiet ((go_at_call 151; exact quiet_first (HS1.out _ _)))
      go_wp2_with fail
      (try rw [hb])
      go_wp2_with fail;rw [<- HO1.out]
      go_roundg (s.size - (k + 1))
      case measure => have := HK.out; omega
      case rel => exact ⟨k + 1, f', o - 1, by simp; try omega, by omega, by have := HK.out; have := HF.out; omega, by omega, by omega, HE.out, by first | exact cur_put HC.out | exact cur_put (i := k) HC.out, grown_put (grown_drewN HG.out _) _ _⟩
     ·have g41 : ((b.toNat : Int) == 41 && decide ((0 : Int) < (o : Int))) = false := by
       rw [show ((b.toNat : Int) == 41) = (b == 41) from beqc b 41, Bool.and_eq_false_iff, beq_eq_false_iff_ne, decide_eq_false_iff_not]
       by_cases h : b = 41
       ·right; have : ¬ 0 < o := fun h0 => h41 ⟨h, h0⟩; omega
       ·left; exact h
      by_cases hst2 : b.toNat ≤ 32 ∨ b = 127 ∨ b = 41
      ·have HE := hdn (show some (k, o) = X by
        rw [<- hu, if_neg (by simp [h40]), if_neg (by simp [h40]), if_neg (by simpa using h41), if_pos];rcases hst2 with h | h | h <;> simp [h])
       have n41 : ¬ (b = 41 ∧ 0 < o) := h41;clear hu
       by_cases j41 : b = 41
       ·have i41 : ((b.toNat : Int) == 41) = true := by rw [j41]; rfl
        have o0 : ¬ (0 : Int) < (o : Int) := by have : ¬ 0 < o := fun h => n41 ⟨j41, h⟩; omega
        have i32 : ¬ (b.toNat : Int) ≤ 32 := by rw [j41]; decide
        have i127 : ((b.toNat : Int) == 127) = false := by rw [j41]; rfl
        clear g41 n41 j41 hst2 h40 h41
        by_cases hX0 : k = i ∨ 0 < o
        ·have hv : V = (⟨#[]⟩, i, false) := by rw [<- HV.out, <- HE.out]; unfold bareV; exact if_pos hX0
         have HVV := hdn hv;clear hv
         by_cases hki2 : k = i
         ·subst hki2;clear hX0;go_wp2_with fail
          go_quiet ((go_at_call 151; exact quiet_first (HS1.out _ _)))
          go_wp2_with fail
          (try rw [hb])
          go_wp2_with fail;rw [Exit.noGoto_ret]
          go_ret3
          rw [HVV.out];exact ⟨rfl, below_drewN HB.out _⟩
         ·have ho2 : (0 : Int) < (o : Int) := by omega
          have hki3 : ((k : Int) == (i : Int)) = false := by rw [beq_eq_false_iff_ne]; omega
          exact absurd ho2 o0
        ·have hv : V = (unescB (s.extract i k), k, true) := by rw [<- HV.out, <- HE.out]; unfold bareV; exact if_neg hX0
         have hki3 : ((k : Int) == (i : Int)) = false := by rw [beq_eq_false_iff_ne]; omega
         obtain rfl : o = 0 := by omega
         obtain ⟨x, hxe⟩ : ∃ x : ByteArray, s.extract i k = x := ⟨_, rfl⟩;have hxs : x.size = k - i := by rw [<- hxe, ByteArray.size_extract]; omega
         rw [hxe] at hv;obtain ⟨Y, hY⟩ : ∃ Y, unescB x = Y := ⟨_, rfl⟩;have HUN := hdn fun w' => unesc_ret x (by omega) Y hY w';rw [hY] at hv;have HVV := hdn hv;have HXE := hdn hxe;have hi0 : (0 : Int) ≤ (i : Int) := by omega
         have hkn : k ≤ s.size := by omega
         have HSI := hdn fun (w' : World) (h : Below wr.heap.size wr w') => (⟨cell_of_row w' w.heap.size 0 _ _ _ ((h.block _ hcb').trans HC.out), cell_of_row w' w.heap.size 1 _ _ _ ((h.block _ hcb').trans HC.out), h⟩ : w'.cell? ⟨w.heap.size, 0, none⟩ = some (.string s) ∧ w'.cell? ⟨w.heap.size, 1, none⟩ = some (.int .i64 (k : Int)) ∧ Below wr.heap.size wr w');clear hv hY hxs hxe hX0;go_wp2_with fail
         go_quiet ((go_at_call 151; exact quiet_first (HS1.out _ _)))
         go_wp2_with fail
         (try rw [hb])
         go_wp2_with fail;have HSN := hdn fun n => HSI.out (wr.drewN n) (below_drewN (Below.refl _ wr) n);obtain ⟨wq, hwq⟩ : ∃ wq, wr.drewN nq = wq := ⟨_, rfl⟩;have HS1 := hdn (hwq ▸ HSN.out nq);rw [hwq];clear hwq
         go_region_held3 (fun w' => w'.cell? ⟨w.heap.size, 0, none⟩ = some (.string s) ∧ w'.cell? ⟨w.heap.size, 1, none⟩ = some (.int .i64 (k : Int)) ∧ Below wr.heap.size wr w') (first | (with_reducible assumption) | (with_reducible exact HS1.out) | (with_reducible exact HSI.out _ (Below.drew (s3_below HS1.out))) | (with_reducible exact HSI.out _ (Below.drew (s3_below (by assumption)))) | (with_reducible exact HSI.out _ (below_on (s3_below (by assumption)) (by assumption)))) (first
          | ((try rw [HXE.out]); (with_reducible refine cMq (HUN.out _) ?_); rintro e w3 ⟨rfl, b3⟩))
         all_goals
          go_wp2_with fail;rw [Exit.noGoto_ret]
          go_ret3
          rw [HVV.out];exact ⟨rfl, below_on HB.out (s3_below (by assumption))⟩
       ·have i41 : ((b.toNat : Int) == 41) = false := by rw [show ((b.toNat : Int) == 41) = (b == 41) from beqc b 41]; exact beq_no j41
        by_cases j32 : b.toNat ≤ 32
        ·have i32 : (b.toNat : Int) ≤ 32 := by omega
         clear g41 n41 j41 hst2 h40 h41 j32
         by_cases hX0 : k = i ∨ 0 < o
         ·have hv : V = (⟨#[]⟩, i, false) := by rw [<- HV.out, <- HE.out]; unfold bareV; exact if_pos hX0
          have HVV := hdn hv;clear hv
          by_cases hki2 : k = i
          ·subst hki2;clear hX0;go_wp2_with fail
           go_quiet ((go_at_call 151; exact quiet_first (HS1.out _ _)))
           go_wp2_with fail
           (try rw [hb])
           go_wp2_with fail;rw [Exit.noGoto_ret]
           go_ret3
           rw [HVV.out];exact ⟨rfl, below_drewN HB.out _⟩
          ·have ho2 : (0 : Int) < (o : Int) := by omega
           have hki3 : ((k : Int) == (i : Int)) = false := by rw [beq_eq_false_iff_ne]; omega
           clear hX0;go_wp2_with fail
           go_quiet ((go_at_call 151; exact quiet_first (HS1.out _ _)))
           go_wp2_with fail
           (try rw [hb])
           go_wp2_with fail;rw [Exit.noGoto_ret]
           go_ret3
           rw [HVV.out];exact ⟨rfl, below_drewN HB.out _⟩
         ·have hv : V = (unescB (s.extract i k), k, true) := by rw [<- HV.out, <- HE.out]; unfold bareV; exact if_neg hX0
          have hki3 : ((k : Int) == (i : Int)) = false := by rw [beq_eq_false_iff_ne]; omega
          obtain rfl : o = 0 := by omega
          obtain ⟨x, hxe⟩ : ∃ x : ByteArray, s.extract i k = x := ⟨_, rfl⟩;have hxs : x.size = k - i := by rw [<- hxe, ByteArray.size_extract]; omega
          rw [hxe] at hv;obtain ⟨Y, hY⟩ : ∃ Y, unescB x = Y := ⟨_, rfl⟩;have HUN := hdn fun w' => unesc_ret x (by omega) Y hY w';rw [hY] at hv;have HVV := hdn hv;have HXE := hdn hxe;have hi0 : (0 : Int) ≤ (i : Int) := by omega
          have hkn : k ≤ s.size := by omega
          have HSI := hdn fun (w' : World) (h : Below wr.heap.size wr w') => (⟨cell_of_row w' w.heap.size 0 _ _ _ ((h.block _ hcb').trans HC.out), cell_of_row w' w.heap.size 1 _ _ _ ((h.block _ hcb').trans HC.out), h⟩ : w'.cell? ⟨w.heap.size, 0, none⟩ = some (.string s) ∧ w'.cell? ⟨w.heap.size, 1, none⟩ = some (.int .i64 (k : Int)) ∧ Below wr.heap.size wr w');clear hv hY hxs hxe hX0;go_wp2_with fail
          go_quiet ((go_at_call 151; exact quiet_first (HS1.out _ _)))
          go_wp2_with fail
          (try rw [hb])
          go_wp2_with fail;have HSN := hdn fun n => HSI.out (wr.drewN n) (below_drewN (Below.refl _ wr) n);obtain ⟨wq, hwq⟩ : ∃ wq, wr.drewN nq = wq := ⟨_, rfl⟩;have HS1 := hdn (hwq ▸ HSN.out nq);rw [hwq];clear hwq
          go_region_held3 (fun w' => w'.cell? ⟨w.heap.size, 0, none⟩ = some (.string s) ∧ w'.cell? ⟨w.heap.size, 1, none⟩ = some (.int .i64 (k : Int)) ∧ Below wr.heap.size wr w') (first | (with_reducible assumption) | (with_reducible exact HS1.out) | (with_reducible exact HSI.out _ (Below.drew (s3_below HS1.out))) | (with_reducible exact HSI.out _ (Below.drew (s3_below (by assumption)))) | (with_reducible exact HSI.out _ (below_on (s3_below (by assumption)) (by assumption)))) (first
           | ((try rw [HXE.out]); (with_reducible refine cMq (HUN.out _) ?_); rintro e w3 ⟨rfl, b3⟩))
          all_goals
           go_wp2_with fail;rw [Exit.noGoto_ret]
           go_ret3
           rw [HVV.out];exact ⟨rfl, below_on HB.out (s3_below (by assumption))⟩
        ·have i32 : ¬ (b.toNat : Int) ≤ 32 := by omega
         have i127 : ((b.toNat : Int) == 127) = true := by rw [show b = 127 from (hst2.resolve_left j32).resolve_right j41]; rfl
         clear g41 n41 j41 hst2 h40 h41 j32
         by_cases hX0 : k = i ∨ 0 < o
         ·have hv : V = (⟨#[]⟩, i, false) := by rw [<- HV.out, <- HE.out]; unfold bareV; exact if_pos hX0
          have HVV := hdn hv;clear hv
          by_cases hki2 : k = i
          ·subst hki2;clear hX0;go_wp2_with fail
           go_quiet ((go_at_call 151; exact quiet_first (HS1.out _ _)))
           go_wp2_with fail
           (try rw [hb])
           go_wp2_with fail;rw [Exit.noGoto_ret]
           go_ret3
           rw [HVV.out];exact ⟨rfl, below_drewN HB.out _⟩
          ·have ho2 : (0 : Int) < (o : Int) := by omega
           have hki3 : ((k : Int) == (i : Int)) = false := by rw [beq_eq_false_iff_ne]; omega
           clear hX0;go_wp2_with fail
           go_quiet ((go_at_call 151; exact quiet_first (HS1.out _ _)))
           go_wp2_with fail
           (try rw [hb])
           go_wp2_with fail;rw [Exit.noGoto_ret]
           go_ret3
           rw [HVV.out];exact ⟨rfl, below_drewN HB.out _⟩
         ·have hv : V = (unescB (s.extract i k), k, true) := by rw [<- HV.out, <- HE.out]; unfold bareV; exact if_neg hX0
          have hki3 : ((k : Int) == (i : Int)) = false := by rw [beq_eq_false_iff_ne]; omega
          obtain rfl : o = 0 := by omega
          obtain ⟨x, hxe⟩ : ∃ x : ByteArray, s.extract i k = x := ⟨_, rfl⟩;have hxs : x.size = k - i := by rw [<- hxe, ByteArray.size_extract]; omega
          rw [hxe] at hv;obtain ⟨Y, hY⟩ : ∃ Y, unescB x = Y := ⟨_, rfl⟩;have HUN := hdn fun w' => unesc_ret x (by omega) Y hY w';rw [hY] at hv;have HVV := hdn hv;have HXE := hdn hxe;have hi0 : (0 : Int) ≤ (i : Int) := by omega
          have hkn : k ≤ s.size := by omega
          have HSI := hdn fun (w' : World) (h : Below wr.heap.size wr w') => (⟨cell_of_row w' w.heap.size 0 _ _ _ ((h.block _ hcb').trans HC.out), cell_of_row w' w.heap.size 1 _ _ _ ((h.block _ hcb').trans HC.out), h⟩ : w'.cell? ⟨w.heap.size, 0, none⟩ = some (.string s) ∧ w'.cell? ⟨w.heap.size, 1, none⟩ = some (.int .i64 (k : Int)) ∧ Below wr.heap.size wr w');clear hv hY hxs hxe hX0;go_wp2_with fail
          go_quiet ((go_at_call 151; exact quiet_first (HS1.out _ _)))
          go_wp2_with fail
          (try rw [hb])
          go_wp2_with fail;have HSN := hdn fun n => HSI.out (wr.drewN n) (below_drewN (Below.refl _ wr) n);obtain ⟨wq, hwq⟩ : ∃ wq, wr.drewN nq = wq := ⟨_, rfl⟩;have HS1 := hdn (hwq ▸ HSN.out nq);rw [hwq];clear hwq
          go_region_held3 (fun w' => w'.cell? ⟨w.heap.size, 0, none⟩ = some (.string s) ∧ w'.cell? ⟨w.heap.size, 1, none⟩ = some (.int .i64 (k : Int)) ∧ Below wr.heap.size wr w') (first | (with_reducible assumption) | (with_reducible exact HS1.out) | (with_reducible exact HSI.out _ (Below.drew (s3_below HS1.out))) | (with_reducible exact HSI.out _ (Below.drew (s3_below (by assumption)))) | (with_reducible exact HSI.out _ (below_on (s3_below (by assumption)) (by assumption)))) (first
           | ((try rw [HXE.out]); (with_reducible refine cMq (HUN.out _) ?_); rintro e w3 ⟨rfl, b3⟩))
          all_goals
           go_wp2_with fail;rw [Exit.noGoto_ret]
           go_ret3
           rw [HVV.out];exact ⟨rfl, below_on HB.out (s3_below (by assumption))⟩
      ·have HE := hdn (show bareF s.data.toList f' (k + 1) o = X by
         rw [<- hu, if_neg (by simp [h40]), if_neg (by simp [h40]), if_neg (by simpa using h41), if_neg];simpa [not_or, and_assoc] using hst2)
       have i41 : ((b.toNat : Int) == 41) = false := by rw [show ((b.toNat : Int) == 41) = (b == 41) from beqc b 41]; exact beq_no (fun h => hst2 (.inr (.inr h)))
       have i127 : ((b.toNat : Int) == 127) = false := by rw [show ((b.toNat : Int) == 127) = (b == 127) from beqc b 127]; exact beq_no (fun h => hst2 (.inr (.inl h)))
       have i32 : ¬ (b.toNat : Int) ≤ 32 := by omega
       clear g41 hst2 h40 h41 hu;go_wp2_with fail
       go_quiet ((go_at_call 151; exact quiet_first (HS1.out _ _)))
       go_wp2_with fail
       (try rw [hb])
       go_wp2_with fail
       go_roundg (s.size - (k + 1))
       case measure => have := HK.out; omega
       case rel => exact ⟨k + 1, f', o, by simp; try omega, by omega, by have := HK.out; have := HF.out; omega, by omega, by omega, HE.out, by first | exact cur_put HC.out | exact cur_put (i := k) HC.out, grown_put (grown_drewN HG.out _) _ _⟩
   ·have HE := hdn (show bareF s.data.toList f' (k + 2) o = X by have := HU2.out; simpa using this);clear HU2;go_wp2_with fail
    go_quiet ((go_at_call 151; exact quiet_first (HS1.out _ _)))
    go_wp2_with fail
    (try rw [hb])
    go_wp2_with fail
    go_roundg (s.size - (k + 2))
    case measure => have := HK.out; omega
    case rel => exact ⟨k + 2, f', o, by simp; try omega, by omega, by have := HK.out; have := HF.out; omega, by omega, by omega, HE.out, by first | exact cur_put HC.out | exact cur_put (i := k) HC.out, grown_put (grown_drewN HG.out _) _ _⟩
  ·have hkk : k = s.size := by have := HK.out; omega
   have HE := hdn (show some (k, o) = X by
    rw [<- HU.out, hkk]
    cases f with
    | zero => rfl
    | succ f => rw [bareF, get_none s s.size (Nat.lt_irrefl _)])
   have hnik : ¬ k = i := by omega
   clear HU hkk
   by_cases hX0 : k = i ∨ 0 < o
   ·have hv : V = (⟨#[]⟩, i, false) := by rw [<- HV.out, <- HE.out]; unfold bareV; exact if_pos hX0
    have HVV := hdn hv;clear hv
    by_cases hki2 : k = i
    ·subst hki2;exact absurd rfl hnik
    ·have ho2 : (0 : Int) < (o : Int) := by omega
     have hki3 : ((k : Int) == (i : Int)) = false := by rw [beq_eq_false_iff_ne]; omega
     clear hX0;go_wp2_with fail;rw [Exit.noGoto_ret]
     go_ret3
     rw [HVV.out];exact ⟨rfl, HB.out⟩
   ·have hv : V = (unescB (s.extract i k), k, true) := by rw [<- HV.out, <- HE.out]; unfold bareV; exact if_neg hX0
    have hki3 : ((k : Int) == (i : Int)) = false := by rw [beq_eq_false_iff_ne]; omega
    obtain rfl : o = 0 := by omega
    obtain ⟨x, hxe⟩ : ∃ x : ByteArray, s.extract i k = x := ⟨_, rfl⟩;have hxs : x.size = k - i := by rw [<- hxe, ByteArray.size_extract]; omega
    rw [hxe] at hv;obtain ⟨Y, hY⟩ : ∃ Y, unescB x = Y := ⟨_, rfl⟩;have HUN := hdn fun w' => unesc_ret x (by omega) Y hY w';rw [hY] at hv;have HVV := hdn hv;have HXE := hdn hxe;have hi0 : (0 : Int) ≤ (i : Int) := by omega
    have hkn : k ≤ s.size := by omega
    have HSI := hdn fun (w' : World) (h : Below wr.heap.size wr w') => (⟨cell_of_row w' w.heap.size 0 _ _ _ ((h.block _ hcb').trans HC.out), cell_of_row w' w.heap.size 1 _ _ _ ((h.block _ hcb').trans HC.out), h⟩ : w'.cell? ⟨w.heap.size, 0, none⟩ = some (.string s) ∧ w'.cell? ⟨w.heap.size, 1, none⟩ = some (.int .i64 (k : Int)) ∧ Below wr.heap.size wr w');clear hv hY hxs hxe hX0;go_wp2_with fail;have HSN := hdn fun n => HSI.out (wr.drewN n) (below_drewN (Below.refl _ wr) n);have HS1 := hdn (HSI.out wr (Below.refl _ wr))
    go_region_held3 (fun w' => w'.cell? ⟨w.heap.size, 0, none⟩ = some (.string s) ∧ w'.cell? ⟨w.heap.size, 1, none⟩ = some (.int .i64 (k : Int)) ∧ Below wr.heap.size wr w') (first | (with_reducible assumption) | (with_reducible exact HS1.out) | (with_reducible exact HSI.out _ (Below.drew (s3_below HS1.out))) | (with_reducible exact HSI.out _ (Below.drew (s3_below (by assumption)))) | (with_reducible exact HSI.out _ (below_on (s3_below (by assumption)) (by assumption)))) (first
     | ((try rw [HXE.out]); (with_reducible refine cMq (HUN.out _) ?_); rintro e w3 ⟨rfl, b3⟩))
    all_goals
     go_wp2_with fail;rw [Exit.noGoto_ret]
     go_ret3
     rw [HVV.out];exact ⟨rfl, below_on HB.out (s3_below (by assumption))⟩
theorem bareV_eq (s : ByteArray) (i : Nat) (h60 : (s.data.toList[i]? == some 60) = false) : destV s i = bareV s i (bareF s.data.toList s.size i 0) := by
 unfold destV destN bareV;rw [h60, if_neg Bool.false_ne_true, show s.data.toList.length = s.size from lTq];rcases bareF s.data.toList s.size i 0 with _ | ⟨k, o⟩
 ·rfl
 ·cases o with
  | zero =>
   by_cases h : k = i
   ·simp [h]
   ·simp [h]
  | succ o =>
   simp
end
section
open Go.RowKit
def defLab (s : ByteArray) : ByteArray := ⟨(normL (labelS s 0).data.toList).toArray⟩
def defTail (s : ByteArray) (e : Nat) : Option (ByteArray × Nat) :=
 match (if e < gapN s.data.toList e ∧ (titleV s (gapN s.data.toList e)).2.2 = true then lineN s.data.toList (titleV s (gapN s.data.toList e)).2.1 else none) with
 | some n => some ((titleV s (gapN s.data.toList e)).1, n)
 | none => (lineN s.data.toList e).map fun n => (⟨#[]⟩, n)
def defN (s : ByteArray) : Option (ByteArray × ByteArray × ByteArray × Nat) :=
 if s.data.toList[labelE s.data.toList 0]? = some 58 ∧ labelE s.data.toList 0 ≠ 0 ∧ (destV s (gapN s.data.toList (labelE s.data.toList 0 + 1))).2.2 = true ∧ (defLab s).data.toList ≠ [] then
  (defTail s (destV s (gapN s.data.toList (labelE s.data.toList 0 + 1))).2.1).map fun x => (defLab s, (destV s (gapN s.data.toList (labelE s.data.toList 0 + 1))).1, x.1, x.2)
 else none
def defV (s : ByteArray) : ByteArray × ByteArray × ByteArray × Nat := (defN s).getD (⟨#[]⟩, ⟨#[]⟩, ⟨#[]⟩, 0)
def DefR (w : World) (x : ByteArray × ByteArray × ByteArray × Nat) (e : Ending) (w' : World) : Prop := e = .returned (.tuple #[.agg #[.string x.1, .string x.2.1, .string x.2.2.1], .int .i64 (x.2.2.2 : Nat)]) ∧ Below w.heap.size w w'
def Row3 (w : World) (b : Nat) (x y z : ByteArray) : Prop := w.heap[b]? = some (.cells #[.string x, .string y, .string z] 43 (0, 0))
theorem Row3.later {w w' : World} {b : Nat} {x y z : ByteArray} (h : Row3 w b x y z) (hb : Below w.heap.size w w') : Row3 w' b x y z := (hb.block b (gSq.1 h).1).trans h
theorem Row3.lt {w : World} {b : Nat} {x y z : ByteArray} (h : Row3 w b x y z) : b < w.heap.size := (gSq.1 h).1
theorem ref_end (w w2 : World) (p q r x y z : ByteArray) (hb : Below w.heap.size w w2) (h : Row3 w2 w.heap.size p q r) :
  Row3 (((w2.setCell ⟨w.heap.size, 0, none⟩ (.string x)).setCell ⟨w.heap.size, 1, none⟩ (.string y)).setCell ⟨w.heap.size, 2, none⟩ (.string z)) w.heap.size x y z ∧ Below w.heap.size w (((w2.setCell ⟨w.heap.size, 0, none⟩ (.string x)).setCell ⟨w.heap.size, 1, none⟩ (.string y)).setCell ⟨w.heap.size, 2, none⟩ (.string z)) := by
 have h1 := Joins.block_setCell (show w2.heap[w.heap.size]? = _ from h) (i := 0) (.string x);have h2 := Joins.block_setCell h1 (i := 1) (.string y);have h3 := Joins.block_setCell h2 (i := 2) (.string z);exact ⟨by simpa [Row3] using h3, ((hb.setCell (p := ⟨w.heap.size, 0, none⟩) (Nat.le_refl _) _).setCell (p := ⟨w.heap.size, 1, none⟩) (Nat.le_refl _) _).setCell (p := ⟨w.heap.size, 2, none⟩) (Nat.le_refl _) _⟩
theorem results_row_tmp {P : Program} {fn : Func} {p u : Tmp} {ty : TypeId} (h : fn.results = #[.cell p ty, .tmp u]) (tmps : Array Value) (w : World) (g : Nat) (t : TypeId) (cs : Array Value) (fr : Nat × Nat) (d : TypeDesc)
  (hp : tmps.getD p undef = .pointer (some ⟨g, 0, none⟩)) (hg : w.heap[g]? = some (.cells cs t fr))
  (hu : P.underlying ty = some d) (hd : (match d with | .struct _ | .array _ _ => true | _ => false) = true) (hi : (P.info? ty).map (·.size) = some cs.size) :
  (results fn tmps).run P w = .ok (.tuple #[.agg cs, tmps.getD u undef]) w := by
 rw [results_cell_tmp h, hp];simp [asAddr, run_loadVar_row w g t ty cs fr d hg hu hd hi, Result.andThen]
theorem labelE_in (l : List UInt8) (i : Nat) (_ : i ≤ l.length) : labelE l i ≤ l.length := by
 unfold labelE;split
 ·rename_i j hj;unfold labelN at hj;split at hj
  ·split at hj
   ·rename_i h1;have := upF_true l 93 noBr l.length (i + 1) (by simp at h1; exact h1.1.1)
    cases hj
    omega
   ·cases hj
  ·cases hj
 ·omega
theorem labelS_len (s : ByteArray) (i : Nat) : (labelS s i).size ≤ 999 := by
 unfold labelS;split
 ·rename_i j hj;unfold labelN at hj;split at hj
  ·split at hj
   ·rename_i h1;simp at h1
    cases hj
    rw [ByteArray.size_extract, show s.data.toList.length = s.size from lTq];omega
   ·cases hj
  ·cases hj
 ·decide
theorem destN_in (l : List UInt8) (i a b e : Nat) (h : destN l i = some (a, b, e)) : e ≤ l.length := by
 unfold destN at h;split at h
 ·split at h
  ·rename_i h1;have := upF_true l 62 noNlLt l.length (i + 1) h1
   cases h
   omega
  ·cases h
 ·split at h
  ·rename_i j hj;split at h
   ·cases h
   ·rename_i hji
    cases h
    have : ∀ (f i o : Nat) (x : Nat × Nat), bareF l f i o = some x -> x.1 ≤ l.length ∨ x.1 = i := by
     intro f
     induction f with
     | zero => intro i o x h; unfold bareF at h; cases h; exact .inr rfl
     | succ f ih =>
      intro i o x h;unfold bareF at h
      cases hg : l[i]? with
      | none => rw [hg] at h; cases h; exact .inr rfl
      | some b =>
       rw [hg] at h;simp only at h;have hlt := (List.getElem?_eq_some_iff.1 hg).1;have hs := stepL_le l i hlt
       repeat' split at h
       all_goals first
        | (cases h; exact .inl (by simp only; omega))
        | (cases h; done)
        | (rcases ih _ _ _ h with h | h
           ·exact .inl h
           ·exact .inl (by omega))
    rcases this _ _ _ _ hj with h | h
    ·exact h
    ·exact absurd h hji
  ·cases h
theorem destV_in (s : ByteArray) (i : Nat) (h : (destV s i).2.2 = true) : (destV s i).2.1 ≤ s.size := by
 unfold destV at h ⊢
 cases hd : destN s.data.toList i with
 | none => rw [hd] at h; cases h
 | some x => have := destN_in _ _ _ _ _ hd; simpa using this
theorem titleV_in (s : ByteArray) (i : Nat) (h : (titleV s i).2.2 = true) : (titleV s i).2.1 ≤ s.size := by
 unfold titleV at h ⊢
 cases hd : titleN s.data.toList i with
 | none => rw [hd] at h; cases h
 | some x =>
  unfold titleN at hd;split at hd
  ·cases hd
  ·split at hd
   ·cases hd
   ·split at hd
    ·rename_i h1;have := upF_true _ _ _ _ _ h1
     cases hd
     have hl : s.data.toList.length = s.size := lTq;simp only;omega
    ·cases hd
theorem dest_any (s : ByteArray) (i : Nat) (w : World) (hs : s.size < 4294967281) (hi : i ≤ s.size) : Calls Tryz.prog 105 #[.string s, .int .i64 (i : Int)] w (SIB w (destV s i)) := by
 by_cases h : s.size ≤ i
 ·have hg : s.data.toList[i]? = none := get_none s i (by omega);have hv : destV s i = (⟨#[]⟩, i, false) := by
   unfold destV destN;rw [hg, if_neg (by decide)];have : bareF s.data.toList s.data.toList.length i 0 = some (i, 0) := by
    cases s.data.toList.length with
    | zero => rfl
    | succ f => rw [bareF, hg]
   rw [this];simp
  rw [hv];exact dest_out s i w hs (by omega) h
 ·cases h60 : (s.data.toList[i]? == some 60) with
  | true => exact dest_br s i w hs (by simpa using h60)
  | false =>
   rw [bareV_eq s i h60];exact dest_bare s i w hs (by omega) h60
end
