/- refs.Dest without brackets. -/
import Derived.Test.YtbcfhpomclkccaaDoorRsDst
import Derived.Test.YtbcfhpomclkccaaDoorRsLab
import Derived.Deep.RegionHeld3
import Derived.WalkMore
namespace Go.Proofs.YtbcfhpomclkccaaDoor
open Go.RowKit

theorem quiet_first {P : Program} {f : FuncId} {args : Array Value} {w : World} {n : Nat} {v : Value} (h : Calls P f args (w.drewN n) fun e w' => e = .returned v ∧ w' = w.drewN n) : Calls P f args (w.drewN n) fun e w'' => e = .returned v ∧ ∃ m, w'' = w.drewN m :=
  h.mono fun _ _ ⟨he, hm⟩ => ⟨he, n, hm⟩
def DeW (s : ByteArray) (i cb : Nat) (X : Option (Nat × Nat)) (w : World) (g : Nat) (v : Value) (wr : World) : Prop :=
  ∃ k f o : Nat, v = .int .i64 (o : Int) ∧ k + g = s.size ∧ s.size ≤ k + f ∧ i ≤ k ∧ o ≤ 32 ∧ bareF s.data.toList f k o = X ∧ CurAt wr cb s k ∧ w.grownBy wr (some cb)
/-- What a bare destination comes to. -/
def bareV (s : ByteArray) (i : Nat) (X : Option (Nat × Nat)) : ByteArray × Nat × Bool := match X with
  | none => (⟨#[]⟩, i, false)
  | some (k, o) => if k = i ∨ 0 < o then (⟨#[]⟩, i, false) else (unescB (s.extract i k), k, true)
set_option maxHeartbeats 16000000 in
set_option maxRecDepth 100000 in
theorem dest_bare (s : ByteArray) (i : Nat) (w : World) (hs : s.size < 4294967281) (hil : i < s.size) (h60 : (s.data.toList[i]? == some 60) = false) : Calls Tryd.prog 23 #[.string s, .int .i64 (i : Int)] w (SIB w (bareV s i (bareF s.data.toList s.size i 0))) := by
  obtain ⟨X, hX⟩ : ∃ X, bareF s.data.toList s.size i 0 = X := ⟨_, rfl⟩
  obtain ⟨V, hV⟩ : ∃ V, bareV s i X = V := ⟨_, rfl⟩
  rw [hX, hV]
  have hz1 : ¬ (s.size : Int) ≤ (i : Int) := by omega
  obtain ⟨W, hW⟩ : ∃ W, w.alloc (.cells #[.string s, .int .i64 (i : Int)] 63) = W := ⟨_, rfl⟩
  have hbW : Below w.heap.size w W := by rw [← hW]; exact (Below.refl _ w).alloc (Nat.le_refl _) _
  have hcW : CurAt W w.heap.size s i := by rw [← hW]; exact heap_alloc_new w _
  have hnc := fun j => cell_of_row W w.heap.size j _ _ _ hcW
  have hc0 : W.cell? ⟨w.heap.size, 0, none⟩ = some (.string s) := hnc 0
  have HI := Lib.hid (is_any s (i : Int) 60 W (by omega))
  have hib : isB s.data.toList (i : Int) 60 = false := by unfold isB; rw [decide_eq_true (by omega), Int.toNat_natCast, h60]; rfl
  rw [hib] at HI
  have HW := Lib.hid hW
  have HBW := Lib.hid hbW
  have HV := Lib.hid hV
  have H0 := Lib.hid (show DeW s i w.heap.size X W (s.size - i) (.int .i64 0) W from ⟨i, s.size, 0, rfl, by omega, by omega, Nat.le_refl _, by omega, hX, hcW, grown_refl _ _⟩)
  have HSt := Lib.hid fun (k : Nat) (hk : k ≤ s.size) (w' : World) (d : Nat) => (step_any s k (w'.drewN d) (by omega) (by omega)).mono fun e w2 (h : IntR (w'.drewN d) _ e w2) => (⟨h.1, h.2.symm⟩ : e = .returned (.int .i64 (stepL s.data.toList k : Nat)) ∧ w2 = w'.drewN d)
  clear hX hV hW hbW hcW hnc hib h60
  go_enter Tryd.func23, Tryd.ntmps23
  go_wp2_with fail
  go_step3
  go_wp2_with fail
  rw [HW.out]
  go_wp2_with fail
  refine Calls.mono HI.out ?_
  rintro e w1 ⟨rfl, rfl⟩
  go_wp2_with fail
  go_step3
  go_wp2_with fail
  go_loopg [8, 9, 10] (s.size - i) (fun g v _ _ wr => DeW s i w.heap.size X W g v wr)
  case atStart => exact H0.out
  case round =>
    obtain ⟨k, f, o, rfl, hk, hf, hik, ho, hu, hc, hgr⟩ := hrel
    have c01 := fun j => cell_of_row wr w.heap.size j _ _ _ hc
    have c0 : wr.cell? ⟨w.heap.size, 0, none⟩ = some (.string s) := c01 0
    have c1 : wr.cell? ⟨w.heap.size, 1, none⟩ = some (.int .i64 (k : Int)) := c01 1
    have fz : ∀ j, wr.frozen? ⟨w.heap.size, j, none⟩ = false := (fun j => by simp [World.frozen?, show wr.heap[w.heap.size]? = _ from hc])
    have HB := Lib.hid (below_cur HBW.out hgr)
    have hcb' : w.heap.size < wr.heap.size := (Array.getElem?_eq_some_iff.1 (show wr.heap[w.heap.size]? = _ from hc)).1
    have HU := Lib.hid hu; have HC := Lib.hid hc; have HG := Lib.hid hgr; have HK := Lib.hid hk; have HF := Lib.hid hf
    have hkz : (k : Int) ≤ (s.size : Int) := by omega
    have hik2 : (i : Int) ≤ (k : Int) := by omega
    clear hu hc hgr c01 H0 hk hf
    by_cases hlt : k < s.size
    · have hki : (k : Int) < (s.size : Int) := by omega
      have HS1 := Lib.hid fun (w2 : World) d => HSt.out k (by omega) w2 d
      obtain ⟨f', hf'⟩ : ∃ f', f = f' + 1 := ⟨f - 1, by have := HK.out; have := HF.out; omega⟩
      have hu := HU.out
      rw [hf', bareF, get_list s k hlt] at hu
      simp only at hu
      have hst := stepL_in s.data.toList k
      have hsl := stepL_le s.data.toList k (by simpa using hlt)
      have hsl2 : s.data.toList.length = s.size := Array.length_toList
      have hsl3 : k + stepL s.data.toList k ≤ s.size := by omega
      obtain ⟨b, hb⟩ : ∃ b, s[k] = b := ⟨_, rfl⟩
      rw [hb] at hu
      obtain ⟨n, hn⟩ : ∃ n, stepL s.data.toList k = n := ⟨_, rfl⟩
      rw [hn] at hu HS1 hst hsl3
      have hbl := UInt8.toNat_lt b
      have hn1 : n = 1 ∨ n = 2 := by omega
      have HU2 := Lib.hid hu
      clear hu hn HU hsl2 hsl
      rcases hn1 with rfl | rfl
      · have hu := HU2.out
        rw [if_neg (by decide)] at hu
        clear HU2
        by_cases h40 : b = 40
        · have i40 : ((b.toNat : Int) == 40) = true := by rw [h40]; rfl
          by_cases h32 : o = 32
          · have HE := Lib.hid (show none = X by rw [← hu, h40, h32]; rfl)
            have i32 : ((o : Int) == 32) = true := by rw [h32]; rfl
            have hv : V = (⟨#[]⟩, i, false) := by rw [← HV.out, ← HE.out]; rfl
            have HVV := Lib.hid hv
            clear hu hv h40 h32
            go_wp2_with fail
            go_quiet ((go_at_call 52; exact quiet_first (HS1.out _ _)))
            go_wp2_with fail
            (try rw [hb])
            go_wp2_with fail
            rw [Exit.noGoto_ret]
            go_ret3
            rw [HVV.out]
            exact ⟨rfl, below_drewN HB.out _⟩
          · have HE := Lib.hid (show bareF s.data.toList f' (k + 1) (o + 1) = X by rw [← hu, h40]; simp [h32])
            have i32 : ((o : Int) == 32) = false := by rw [beq_eq_false_iff_ne]; omega
            clear hu h40
            go_wp2_with fail
            go_quiet ((go_at_call 52; exact quiet_first (HS1.out _ _)))
            go_wp2_with fail
            (try rw [hb])
            go_wp2_with fail
            go_roundg (s.size - (k + 1))
            case measure => have := HK.out; omega
            case rel => exact ⟨k + 1, f', o + 1, by simp; try omega, by omega, by have := HK.out; have := HF.out; omega, by omega, by omega, HE.out, by first | exact cur_put HC.out | exact cur_put (i := k) HC.out, grown_put (grown_drewN HG.out _) _ _⟩
        · have i40 : ((b.toNat : Int) == 40) = false := by rw [show ((b.toNat : Int) == 40) = (b == 40) from beqc b 40]; exact beq_no h40
          by_cases h41 : b = 41 ∧ 0 < o
          · obtain ⟨h41, h0⟩ := h41
            have i41 : ((b.toNat : Int) == 41) = true := by rw [h41]; rfl
            have h0i : (0 : Int) < (o : Int) := by omega
            have HE := Lib.hid (show bareF s.data.toList f' (k + 1) (o - 1) = X by rw [← hu, h41]; simp [h0])
            have ho1 : ((o - 1 : Nat) : Int) = (o : Int) - 1 := by omega
            have HO1 := Lib.hid ho1
            clear hu h41 h40 ho1
            go_wp2_with fail
            go_quiet ((go_at_call 52; exact quiet_first (HS1.out _ _)))
            go_wp2_with fail
            (try rw [hb])
            go_wp2_with fail
            rw [← HO1.out]
            go_roundg (s.size - (k + 1))
            case measure => have := HK.out; omega
            case rel => exact ⟨k + 1, f', o - 1, by simp; try omega, by omega, by have := HK.out; have := HF.out; omega, by omega, by omega, HE.out, by first | exact cur_put HC.out | exact cur_put (i := k) HC.out, grown_put (grown_drewN HG.out _) _ _⟩
          · have g41 : ((b.toNat : Int) == 41 && decide ((0 : Int) < (o : Int))) = false := by
              rw [show ((b.toNat : Int) == 41) = (b == 41) from beqc b 41, Bool.and_eq_false_iff, beq_eq_false_iff_ne, decide_eq_false_iff_not]
              by_cases h : b = 41
              · right; have : ¬ 0 < o := fun h0 => h41 ⟨h, h0⟩; omega
              · left; exact h
            by_cases hst2 : b.toNat ≤ 32 ∨ b = 127 ∨ b = 41
            · have HE := Lib.hid (show some (k, o) = X by
                rw [← hu, if_neg (by simp [h40]), if_neg (by simp [h40]), if_neg (by simpa using h41), if_pos]
                rcases hst2 with h | h | h <;> simp [h])
              have n41 : ¬ (b = 41 ∧ 0 < o) := h41
              clear hu
              by_cases j41 : b = 41
              · have i41 : ((b.toNat : Int) == 41) = true := by rw [j41]; rfl
                have o0 : ¬ (0 : Int) < (o : Int) := by have : ¬ 0 < o := fun h => n41 ⟨j41, h⟩; omega
                have i32 : ¬ (b.toNat : Int) ≤ 32 := by rw [j41]; decide
                have i127 : ((b.toNat : Int) == 127) = false := by rw [j41]; rfl
                clear g41 n41 j41 hst2 h40 h41
                by_cases hX0 : k = i ∨ 0 < o
                · have hv : V = (⟨#[]⟩, i, false) := by rw [← HV.out, ← HE.out]; unfold bareV; exact if_pos hX0
                  have HVV := Lib.hid hv
                  clear hv
                  by_cases hki2 : k = i
                  · subst hki2
                    clear hX0
                    go_wp2_with fail
                    go_quiet ((go_at_call 52; exact quiet_first (HS1.out _ _)))
                    go_wp2_with fail
                    (try rw [hb])
                    go_wp2_with fail
                    rw [Exit.noGoto_ret]
                    go_ret3
                    rw [HVV.out]
                    exact ⟨rfl, below_drewN HB.out _⟩
                  · have ho2 : (0 : Int) < (o : Int) := by omega
                    have hki3 : ((k : Int) == (i : Int)) = false := by rw [beq_eq_false_iff_ne]; omega
                    exact absurd ho2 o0
                · have hv : V = (unescB (s.extract i k), k, true) := by rw [← HV.out, ← HE.out]; unfold bareV; exact if_neg hX0
                  have hki3 : ((k : Int) == (i : Int)) = false := by rw [beq_eq_false_iff_ne]; omega
                  obtain rfl : o = 0 := by omega
                  obtain ⟨x, hxe⟩ : ∃ x : ByteArray, s.extract i k = x := ⟨_, rfl⟩
                  have hxs : x.size = k - i := by rw [← hxe, ByteArray.size_extract]; omega
                  rw [hxe] at hv
                  obtain ⟨Y, hY⟩ : ∃ Y, unescB x = Y := ⟨_, rfl⟩
                  have HUN := Lib.hid fun w' => unesc_ret x (by omega) Y hY w'
                  rw [hY] at hv
                  have HVV := Lib.hid hv
                  have HXE := Lib.hid hxe
                  have hi0 : (0 : Int) ≤ (i : Int) := by omega
                  have hkn : k ≤ s.size := by omega
                  have HSI := Lib.hid fun (w' : World) (h : Below wr.heap.size wr w') => (⟨cell_of_row w' w.heap.size 0 _ _ _ ((h.block _ hcb').trans HC.out), cell_of_row w' w.heap.size 1 _ _ _ ((h.block _ hcb').trans HC.out), h⟩ : w'.cell? ⟨w.heap.size, 0, none⟩ = some (.string s) ∧ w'.cell? ⟨w.heap.size, 1, none⟩ = some (.int .i64 (k : Int)) ∧ Below wr.heap.size wr w')
                  clear hv hY hxs hxe hX0
                  go_wp2_with fail
                  go_quiet ((go_at_call 52; exact quiet_first (HS1.out _ _)))
                  go_wp2_with fail
                  (try rw [hb])
                  go_wp2_with fail
                  have HSN := Lib.hid fun n => HSI.out (wr.drewN n) (below_drewN (Below.refl _ wr) n)
                  obtain ⟨wq, hwq⟩ : ∃ wq, wr.drewN nq = wq := ⟨_, rfl⟩
                  have HS1 := Lib.hid (hwq ▸ HSN.out nq)
                  rw [hwq]
                  clear hwq
                  go_region_held3 (fun w' => w'.cell? ⟨w.heap.size, 0, none⟩ = some (.string s) ∧ w'.cell? ⟨w.heap.size, 1, none⟩ = some (.int .i64 (k : Int)) ∧ Below wr.heap.size wr w') (first | (with_reducible assumption) | (with_reducible exact HS1.out) | (with_reducible exact HSI.out _ (Below.drew (s3_below HS1.out))) | (with_reducible exact HSI.out _ (Below.drew (s3_below (by assumption)))) | (with_reducible exact HSI.out _ (below_on (s3_below (by assumption)) (by assumption)))) (first
                    | ((try rw [HXE.out]); (with_reducible refine Calls.mono (HUN.out _) ?_); rintro e w3 ⟨rfl, b3⟩))
                  all_goals
                    go_wp2_with fail
                    rw [Exit.noGoto_ret]
                    go_ret3
                    rw [HVV.out]
                    exact ⟨rfl, below_on HB.out (s3_below (by assumption))⟩
              · have i41 : ((b.toNat : Int) == 41) = false := by rw [show ((b.toNat : Int) == 41) = (b == 41) from beqc b 41]; exact beq_no j41
                by_cases j32 : b.toNat ≤ 32
                · have i32 : (b.toNat : Int) ≤ 32 := by omega
                  clear g41 n41 j41 hst2 h40 h41 j32
                  by_cases hX0 : k = i ∨ 0 < o
                  · have hv : V = (⟨#[]⟩, i, false) := by rw [← HV.out, ← HE.out]; unfold bareV; exact if_pos hX0
                    have HVV := Lib.hid hv
                    clear hv
                    by_cases hki2 : k = i
                    · subst hki2
                      clear hX0
                      go_wp2_with fail
                      go_quiet ((go_at_call 52; exact quiet_first (HS1.out _ _)))
                      go_wp2_with fail
                      (try rw [hb])
                      go_wp2_with fail
                      rw [Exit.noGoto_ret]
                      go_ret3
                      rw [HVV.out]
                      exact ⟨rfl, below_drewN HB.out _⟩
                    · have ho2 : (0 : Int) < (o : Int) := by omega
                      have hki3 : ((k : Int) == (i : Int)) = false := by rw [beq_eq_false_iff_ne]; omega
                      clear hX0
                      go_wp2_with fail
                      go_quiet ((go_at_call 52; exact quiet_first (HS1.out _ _)))
                      go_wp2_with fail
                      (try rw [hb])
                      go_wp2_with fail
                      rw [Exit.noGoto_ret]
                      go_ret3
                      rw [HVV.out]
                      exact ⟨rfl, below_drewN HB.out _⟩
                  · have hv : V = (unescB (s.extract i k), k, true) := by rw [← HV.out, ← HE.out]; unfold bareV; exact if_neg hX0
                    have hki3 : ((k : Int) == (i : Int)) = false := by rw [beq_eq_false_iff_ne]; omega
                    obtain rfl : o = 0 := by omega
                    obtain ⟨x, hxe⟩ : ∃ x : ByteArray, s.extract i k = x := ⟨_, rfl⟩
                    have hxs : x.size = k - i := by rw [← hxe, ByteArray.size_extract]; omega
                    rw [hxe] at hv
                    obtain ⟨Y, hY⟩ : ∃ Y, unescB x = Y := ⟨_, rfl⟩
                    have HUN := Lib.hid fun w' => unesc_ret x (by omega) Y hY w'
                    rw [hY] at hv
                    have HVV := Lib.hid hv
                    have HXE := Lib.hid hxe
                    have hi0 : (0 : Int) ≤ (i : Int) := by omega
                    have hkn : k ≤ s.size := by omega
                    have HSI := Lib.hid fun (w' : World) (h : Below wr.heap.size wr w') => (⟨cell_of_row w' w.heap.size 0 _ _ _ ((h.block _ hcb').trans HC.out), cell_of_row w' w.heap.size 1 _ _ _ ((h.block _ hcb').trans HC.out), h⟩ : w'.cell? ⟨w.heap.size, 0, none⟩ = some (.string s) ∧ w'.cell? ⟨w.heap.size, 1, none⟩ = some (.int .i64 (k : Int)) ∧ Below wr.heap.size wr w')
                    clear hv hY hxs hxe hX0
                    go_wp2_with fail
                    go_quiet ((go_at_call 52; exact quiet_first (HS1.out _ _)))
                    go_wp2_with fail
                    (try rw [hb])
                    go_wp2_with fail
                    have HSN := Lib.hid fun n => HSI.out (wr.drewN n) (below_drewN (Below.refl _ wr) n)
                    obtain ⟨wq, hwq⟩ : ∃ wq, wr.drewN nq = wq := ⟨_, rfl⟩
                    have HS1 := Lib.hid (hwq ▸ HSN.out nq)
                    rw [hwq]
                    clear hwq
                    go_region_held3 (fun w' => w'.cell? ⟨w.heap.size, 0, none⟩ = some (.string s) ∧ w'.cell? ⟨w.heap.size, 1, none⟩ = some (.int .i64 (k : Int)) ∧ Below wr.heap.size wr w') (first | (with_reducible assumption) | (with_reducible exact HS1.out) | (with_reducible exact HSI.out _ (Below.drew (s3_below HS1.out))) | (with_reducible exact HSI.out _ (Below.drew (s3_below (by assumption)))) | (with_reducible exact HSI.out _ (below_on (s3_below (by assumption)) (by assumption)))) (first
                      | ((try rw [HXE.out]); (with_reducible refine Calls.mono (HUN.out _) ?_); rintro e w3 ⟨rfl, b3⟩))
                    all_goals
                      go_wp2_with fail
                      rw [Exit.noGoto_ret]
                      go_ret3
                      rw [HVV.out]
                      exact ⟨rfl, below_on HB.out (s3_below (by assumption))⟩
                · have i32 : ¬ (b.toNat : Int) ≤ 32 := by omega
                  have i127 : ((b.toNat : Int) == 127) = true := by rw [show b = 127 from (hst2.resolve_left j32).resolve_right j41]; rfl
                  clear g41 n41 j41 hst2 h40 h41 j32
                  by_cases hX0 : k = i ∨ 0 < o
                  · have hv : V = (⟨#[]⟩, i, false) := by rw [← HV.out, ← HE.out]; unfold bareV; exact if_pos hX0
                    have HVV := Lib.hid hv
                    clear hv
                    by_cases hki2 : k = i
                    · subst hki2
                      clear hX0
                      go_wp2_with fail
                      go_quiet ((go_at_call 52; exact quiet_first (HS1.out _ _)))
                      go_wp2_with fail
                      (try rw [hb])
                      go_wp2_with fail
                      rw [Exit.noGoto_ret]
                      go_ret3
                      rw [HVV.out]
                      exact ⟨rfl, below_drewN HB.out _⟩
                    · have ho2 : (0 : Int) < (o : Int) := by omega
                      have hki3 : ((k : Int) == (i : Int)) = false := by rw [beq_eq_false_iff_ne]; omega
                      clear hX0
                      go_wp2_with fail
                      go_quiet ((go_at_call 52; exact quiet_first (HS1.out _ _)))
                      go_wp2_with fail
                      (try rw [hb])
                      go_wp2_with fail
                      rw [Exit.noGoto_ret]
                      go_ret3
                      rw [HVV.out]
                      exact ⟨rfl, below_drewN HB.out _⟩
                  · have hv : V = (unescB (s.extract i k), k, true) := by rw [← HV.out, ← HE.out]; unfold bareV; exact if_neg hX0
                    have hki3 : ((k : Int) == (i : Int)) = false := by rw [beq_eq_false_iff_ne]; omega
                    obtain rfl : o = 0 := by omega
                    obtain ⟨x, hxe⟩ : ∃ x : ByteArray, s.extract i k = x := ⟨_, rfl⟩
                    have hxs : x.size = k - i := by rw [← hxe, ByteArray.size_extract]; omega
                    rw [hxe] at hv
                    obtain ⟨Y, hY⟩ : ∃ Y, unescB x = Y := ⟨_, rfl⟩
                    have HUN := Lib.hid fun w' => unesc_ret x (by omega) Y hY w'
                    rw [hY] at hv
                    have HVV := Lib.hid hv
                    have HXE := Lib.hid hxe
                    have hi0 : (0 : Int) ≤ (i : Int) := by omega
                    have hkn : k ≤ s.size := by omega
                    have HSI := Lib.hid fun (w' : World) (h : Below wr.heap.size wr w') => (⟨cell_of_row w' w.heap.size 0 _ _ _ ((h.block _ hcb').trans HC.out), cell_of_row w' w.heap.size 1 _ _ _ ((h.block _ hcb').trans HC.out), h⟩ : w'.cell? ⟨w.heap.size, 0, none⟩ = some (.string s) ∧ w'.cell? ⟨w.heap.size, 1, none⟩ = some (.int .i64 (k : Int)) ∧ Below wr.heap.size wr w')
                    clear hv hY hxs hxe hX0
                    go_wp2_with fail
                    go_quiet ((go_at_call 52; exact quiet_first (HS1.out _ _)))
                    go_wp2_with fail
                    (try rw [hb])
                    go_wp2_with fail
                    have HSN := Lib.hid fun n => HSI.out (wr.drewN n) (below_drewN (Below.refl _ wr) n)
                    obtain ⟨wq, hwq⟩ : ∃ wq, wr.drewN nq = wq := ⟨_, rfl⟩
                    have HS1 := Lib.hid (hwq ▸ HSN.out nq)
                    rw [hwq]
                    clear hwq
                    go_region_held3 (fun w' => w'.cell? ⟨w.heap.size, 0, none⟩ = some (.string s) ∧ w'.cell? ⟨w.heap.size, 1, none⟩ = some (.int .i64 (k : Int)) ∧ Below wr.heap.size wr w') (first | (with_reducible assumption) | (with_reducible exact HS1.out) | (with_reducible exact HSI.out _ (Below.drew (s3_below HS1.out))) | (with_reducible exact HSI.out _ (Below.drew (s3_below (by assumption)))) | (with_reducible exact HSI.out _ (below_on (s3_below (by assumption)) (by assumption)))) (first
                      | ((try rw [HXE.out]); (with_reducible refine Calls.mono (HUN.out _) ?_); rintro e w3 ⟨rfl, b3⟩))
                    all_goals
                      go_wp2_with fail
                      rw [Exit.noGoto_ret]
                      go_ret3
                      rw [HVV.out]
                      exact ⟨rfl, below_on HB.out (s3_below (by assumption))⟩
            · have HE := Lib.hid (show bareF s.data.toList f' (k + 1) o = X by
                  rw [← hu, if_neg (by simp [h40]), if_neg (by simp [h40]), if_neg (by simpa using h41), if_neg]
                  simpa [not_or, and_assoc] using hst2)
              have i41 : ((b.toNat : Int) == 41) = false := by rw [show ((b.toNat : Int) == 41) = (b == 41) from beqc b 41]; exact beq_no (fun h => hst2 (.inr (.inr h)))
              have i127 : ((b.toNat : Int) == 127) = false := by rw [show ((b.toNat : Int) == 127) = (b == 127) from beqc b 127]; exact beq_no (fun h => hst2 (.inr (.inl h)))
              have i32 : ¬ (b.toNat : Int) ≤ 32 := by omega
              clear g41 hst2 h40 h41 hu
              go_wp2_with fail
              go_quiet ((go_at_call 52; exact quiet_first (HS1.out _ _)))
              go_wp2_with fail
              (try rw [hb])
              go_wp2_with fail
              go_roundg (s.size - (k + 1))
              case measure => have := HK.out; omega
              case rel => exact ⟨k + 1, f', o, by simp; try omega, by omega, by have := HK.out; have := HF.out; omega, by omega, by omega, HE.out, by first | exact cur_put HC.out | exact cur_put (i := k) HC.out, grown_put (grown_drewN HG.out _) _ _⟩
      · have HE := Lib.hid (show bareF s.data.toList f' (k + 2) o = X by have := HU2.out; simpa using this)
        clear HU2
        go_wp2_with fail
        go_quiet ((go_at_call 52; exact quiet_first (HS1.out _ _)))
        go_wp2_with fail
        (try rw [hb])
        go_wp2_with fail
        go_roundg (s.size - (k + 2))
        case measure => have := HK.out; omega
        case rel => exact ⟨k + 2, f', o, by simp; try omega, by omega, by have := HK.out; have := HF.out; omega, by omega, by omega, HE.out, by first | exact cur_put HC.out | exact cur_put (i := k) HC.out, grown_put (grown_drewN HG.out _) _ _⟩
    · have hkk : k = s.size := by have := HK.out; omega
      have HE := Lib.hid (show some (k, o) = X by
        rw [← HU.out, hkk]
        cases f with
        | zero => rfl
        | succ f => rw [bareF, get_none s s.size (Nat.lt_irrefl _)])
      have hnik : ¬ k = i := by omega
      clear HU hkk
      by_cases hX0 : k = i ∨ 0 < o
      · have hv : V = (⟨#[]⟩, i, false) := by rw [← HV.out, ← HE.out]; unfold bareV; exact if_pos hX0
        have HVV := Lib.hid hv
        clear hv
        by_cases hki2 : k = i
        · subst hki2
          exact absurd rfl hnik
        · have ho2 : (0 : Int) < (o : Int) := by omega
          have hki3 : ((k : Int) == (i : Int)) = false := by rw [beq_eq_false_iff_ne]; omega
          clear hX0
          go_wp2_with fail
          rw [Exit.noGoto_ret]
          go_ret3
          rw [HVV.out]
          exact ⟨rfl, HB.out⟩
      · have hv : V = (unescB (s.extract i k), k, true) := by rw [← HV.out, ← HE.out]; unfold bareV; exact if_neg hX0
        have hki3 : ((k : Int) == (i : Int)) = false := by rw [beq_eq_false_iff_ne]; omega
        obtain rfl : o = 0 := by omega
        obtain ⟨x, hxe⟩ : ∃ x : ByteArray, s.extract i k = x := ⟨_, rfl⟩
        have hxs : x.size = k - i := by rw [← hxe, ByteArray.size_extract]; omega
        rw [hxe] at hv
        obtain ⟨Y, hY⟩ : ∃ Y, unescB x = Y := ⟨_, rfl⟩
        have HUN := Lib.hid fun w' => unesc_ret x (by omega) Y hY w'
        rw [hY] at hv
        have HVV := Lib.hid hv
        have HXE := Lib.hid hxe
        have hi0 : (0 : Int) ≤ (i : Int) := by omega
        have hkn : k ≤ s.size := by omega
        have HSI := Lib.hid fun (w' : World) (h : Below wr.heap.size wr w') => (⟨cell_of_row w' w.heap.size 0 _ _ _ ((h.block _ hcb').trans HC.out), cell_of_row w' w.heap.size 1 _ _ _ ((h.block _ hcb').trans HC.out), h⟩ : w'.cell? ⟨w.heap.size, 0, none⟩ = some (.string s) ∧ w'.cell? ⟨w.heap.size, 1, none⟩ = some (.int .i64 (k : Int)) ∧ Below wr.heap.size wr w')
        clear hv hY hxs hxe hX0
        go_wp2_with fail
        have HSN := Lib.hid fun n => HSI.out (wr.drewN n) (below_drewN (Below.refl _ wr) n)
        have HS1 := Lib.hid (HSI.out wr (Below.refl _ wr))
        go_region_held3 (fun w' => w'.cell? ⟨w.heap.size, 0, none⟩ = some (.string s) ∧ w'.cell? ⟨w.heap.size, 1, none⟩ = some (.int .i64 (k : Int)) ∧ Below wr.heap.size wr w') (first | (with_reducible assumption) | (with_reducible exact HS1.out) | (with_reducible exact HSI.out _ (Below.drew (s3_below HS1.out))) | (with_reducible exact HSI.out _ (Below.drew (s3_below (by assumption)))) | (with_reducible exact HSI.out _ (below_on (s3_below (by assumption)) (by assumption)))) (first
          | ((try rw [HXE.out]); (with_reducible refine Calls.mono (HUN.out _) ?_); rintro e w3 ⟨rfl, b3⟩))
        all_goals
          go_wp2_with fail
          rw [Exit.noGoto_ret]
          go_ret3
          rw [HVV.out]
          exact ⟨rfl, below_on HB.out (s3_below (by assumption))⟩
theorem bareV_eq (s : ByteArray) (i : Nat) (h60 : (s.data.toList[i]? == some 60) = false) : destV s i = bareV s i (bareF s.data.toList s.size i 0) := by
  unfold destV destN bareV
  rw [h60, if_neg Bool.false_ne_true, show s.data.toList.length = s.size from Array.length_toList]
  rcases bareF s.data.toList s.size i 0 with _ | ⟨k, o⟩
  · rfl
  · cases o with
    | zero =>
      by_cases h : k = i
      · simp [h]
      · simp [h]
    | succ o =>
      simp
end Go.Proofs.YtbcfhpomclkccaaDoor
