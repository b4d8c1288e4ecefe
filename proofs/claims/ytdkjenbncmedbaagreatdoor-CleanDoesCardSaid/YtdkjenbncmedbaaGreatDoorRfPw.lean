/- The reference's within. -/
import Derived.Test.YtdkjenbncmedbaaGreatDoorRfPl
import Derived.Deep.DeepCutAuto
namespace Go.Proofs.YtdkjenbncmedbaaGreatDoor
open Go.RowKit

def FiveR (w : World) (a b c d f : Bool) (e : Ending) (w' : World) : Prop := e = .returned (.agg #[.bool a, .bool b, .bool c, .bool d, .bool f]) ∧ Below w.heap.size w w'
theorem row_two {x : World} {n : Nat} {a b c d e : Value} {t : TypeId} (h : x.heap[n]? = some (.cells #[a, b, c, d, e] t (0, 0))) (v : Value) : (x.setCell ⟨n, 2, none⟩ v).heap[n]? = some (.cells #[a, b, v, d, e] t (0, 0)) := by
  simpa using Joins.block_setCell h (i := 2) v
theorem row_three {x : World} {n : Nat} {a b c d e : Value} {t : TypeId} (h : x.heap[n]? = some (.cells #[a, b, c, d, e] t (0, 0))) (v : Value) : (x.setCell ⟨n, 3, none⟩ v).heap[n]? = some (.cells #[a, b, c, v, e] t (0, 0)) := by
  simpa using Joins.block_setCell h (i := 3) v
theorem below_one {w x : World} {n k : Nat} (h : Below w.heap.size w x) (hn : w.heap.size ≤ n) (v : Value) : Below w.heap.size w (x.setCell ⟨n, k, none⟩ v) := h.setCell (p := ⟨n, k, none⟩) hn v
theorem far_one {x : World} {n m k : Nat} {o : Option Obj} {v : Value} (h : x.heap[m]? = o) (hne : ¬ m = n) : (x.setCell ⟨n, k, none⟩ v).heap[m]? = o := by rw [Below.heap_setCell _ _ _ _ (show m ≠ n from hne)]; exact h
set_option maxHeartbeats 16000000 in
set_option maxRecDepth 100000 in
theorem within_core (s : ByteArray) (para link item pair head ap hb q1 q2 rl rd rt : Bool) (w : World) (hap : hasS apartL s = ap) (hhb : hasS headsL s = hb) (e1 : isT s ⟨#[112]⟩ = q1) (e2 : isT s ⟨#[97]⟩ = q2) (e3 : isT s ⟨#[108, 105]⟩ = rl) (e4 : isT s ⟨#[100, 100]⟩ = rd) (e5 : isT s ⟨#[100, 116]⟩ = rt) :
    Calls Tryz.prog 71 #[.string s, .agg #[.bool para, .bool link, .bool item, .bool pair, .bool head]] w (FiveR w (para || q1) (link || q2) ((if ap || (rd || rt) then false else item) || rl) ((if ap || rl then false else pair) || (rd || rt)) hb) := by
  obtain ⟨wa, hwa⟩ : ∃ wa, (w.alloc (.cells #[.bool para, .bool link, .bool item, .bool pair, .bool head] 73)).alloc (.cells #[.bool false, .bool false, .bool false, .bool false, .bool false] 73) = wa := ⟨_, rfl⟩
  have hba : Below w.heap.size w wa := by rw [← hwa]; exact two_below _ _ _
  have hza : w.heap.size + 1 + 1 ≤ wa.heap.size ∧ wa.heap.size ≤ w.heap.size + 1 + 1 := by rw [← hwa]; simp
  have hn0 : wa.heap[w.heap.size]? = some (.cells #[.bool para, .bool link, .bool item, .bool pair, .bool head] 73 (0, 0)) := by rw [← hwa, Below.heap_alloc _ _ _ (by simp)]; exact heap_alloc_new _ _
  have hn1 : wa.heap[w.heap.size + 1]? = some (.cells #[.bool false, .bool false, .bool false, .bool false, .bool false] 73 (0, 0)) := by rw [← hwa]; exact two_new _ _ _ _
  have HWA := Lib.hid hwa
  have HIn := Lib.hid fun (w' : World) (v : Value) (hv : SlS w' v apartL) => in20_any apartL s v w' hv (by decide)
  rw [hap] at HIn
  have HHd := Lib.hid fun (w' : World) (v : Value) (hv : SlS w' v headsL) => in20_any headsL s v w' hv (by decide)
  rw [hhb] at HHd
  obtain ⟨f1, g1⟩ := isT_tests e1
  obtain ⟨f2, g2⟩ := isT_tests e2
  have F3 := Lib.hid (isT_tests e3); have F4 := Lib.hid (isT_tests e4); have F5 := Lib.hid (isT_tests e5)
  obtain ⟨pr, hpr⟩ : ∃ pr, (rd || rt) = pr := ⟨_, rfl⟩
  rw [hpr]
  have HPr := Lib.hid hpr
  have HF1 := Lib.hid f1; have HF2 := Lib.hid f2; have HG1 := Lib.hid g1; have HG2 := Lib.hid g2
  clear hap hhb hwa e1 e2 e3 e4 e5 hpr f1 f2 g1 g2
  go_enter Tryz.func71, Tryz.ntmps71
  go_wp2_with fail
  rw [HWA.out]
  go_wp2_with fail
  refine Calls.mono (HIn.out _ _ (row_at ?_ ?_ ?_)) ?_
  · omega
  · rfl
  · rfl
  rintro e w1 ⟨rfl, hw1⟩
  obtain ⟨wb, hwb⟩ : ∃ wb : World, wb = w1 := ⟨_, rfl⟩
  subst hwb
  have hb1 : Below wa.heap.size wa wb := by rw [← hw1]; exact (Below.refl _ _).alloc (Nat.le_refl _) _
  clear hw1
  have HB1 := Lib.hid hb1
  have hcl : ∀ w' : World, Below wb.heap.size wb w' → (w'.cell? ⟨w.heap.size, 0, none⟩ = some (.bool para) ∧ w'.cell? ⟨w.heap.size, 1, none⟩ = some (.bool link) ∧ w'.cell? ⟨w.heap.size, 2, none⟩ = some (.bool item) ∧ w'.cell? ⟨w.heap.size, 3, none⟩ = some (.bool pair) ∧ Below wb.heap.size wb w') := fun w' hb' => by
    have q := fun i => cell_of_row w' w.heap.size i _ _ _ (((below_on hb1 hb').block _ (by omega)).trans hn0)
    exact ⟨q 0, q 1, q 2, q 3, hb'⟩
  have HCe := Lib.hid hcl
  have HS5 := Lib.hid (hcl wb (Below.refl _ _))
  have Ha := Lib.hid (HHd.out (wb.alloc rowO).drew _ (SlS.later (heads_row (w := wb) rfl) (Below.drew (Below.refl _ _))))
  have Hb := Lib.hid (HHd.out ((wb.alloc plO).alloc rowO).drew _ (SlS.later (heads_row (w := wb.alloc plO) (n := wb.heap.size + 1) (by simp)) (Below.drew (Below.refl _ _))))
  have Hc := Lib.hid (HHd.out ((wb.alloc rowO).alloc plO).drew _ (SlS.later (heads_row (w := wb) rfl) (Below.drew (below_alloc (Below.refl _ _) _))))
  unfold plO at Hb Hc
  have hz1 : w.heap.size + 1 + 1 ≤ wb.heap.size := by have := hb1.size; omega
  have hn1b : wb.heap[w.heap.size + 1]? = some (.cells #[.bool false, .bool false, .bool false, .bool false, .bool false] 73 (0, 0)) := (hb1.block _ (by omega)).trans hn1
  have HN1 := Lib.hid hn1b
  clear hcl hb1 hn0 hn1 hn1b
  go_upto_region 2 with fail
  go_cut [6] from 11 to 16 (fun v6 wx => v6 = .bool pr ∧ wx = wb)
  case first =>
    have hpr := HPr.out
    obtain ⟨f4, g4⟩ := F4.out
    obtain ⟨f5, g5⟩ := F5.out
    cases rd with
    | true =>
      have h4 := of_decide_eq_true g4
      have hq : pr = true := by rw [← hpr]; rfl
      clear hpr g4 f5 g5
      go_wp2_with fail
      go_meet
      exact ⟨by rw [hq], rfl⟩
    | false =>
      have h4 := of_decide_eq_false g4
      rw [Bool.false_or] at hpr
      subst hpr
      cases rt with
      | true =>
        have h5 := of_decide_eq_true g5
        clear g4 g5
        go_wp2_with fail
        go_meet
        exact ⟨rfl, rfl⟩
      | false =>
        have h5 := of_decide_eq_false g5
        clear g4 g5
        go_wp2_with fail
        go_meet
        exact ⟨rfl, rfl⟩
  case rest =>
    obtain ⟨rfl, hwc⟩ := hcut
    rw [hwc]
    clear hwc
    go_upto_region 3 with fail
    go_cut [7] from 17 to 36 (fun v7 wx => ∃ n, v7 = .pointer (some ⟨n, 0, none⟩) ∧ wb.heap.size ≤ n ∧ wx.heap[n]? = some (.cells #[.bool (para || q1), .bool (link || q2), .bool item, .bool pair, .bool hb] 73 (0, 0)) ∧ Below wb.heap.size wb wx)
    case first =>
      have f1 := HF1.out; have f2 := HF2.out; have g1 := HG1.out; have g2 := HG2.out
      cases para with
      | false =>
        cases link with
        | false =>
          refine wp_region_held_drew (S := (fun w' => w'.cell? ⟨w.heap.size, 0, none⟩ = some (.bool false) ∧ w'.cell? ⟨w.heap.size, 1, none⟩ = some (.bool false) ∧ w'.cell? ⟨w.heap.size, 2, none⟩ = some (.bool item) ∧ w'.cell? ⟨w.heap.size, 3, none⟩ = some (.bool pair) ∧ Below wb.heap.size wb w')) (by kernel_rfl) ?_ (fun hHeld => ?_)
          · exact HCe.out _ (Below.drew (Below.refl _ _))
          refine held_take (i := 0) (v := ?_) rfl (by kernel_rfl) (by kernel_rfl) (by kernel_rfl) (fun _ _ _ h => h) (by rfl) ?_ (by assumption) ?_
          rotate_left
          · (intro w hSw; (try dsimp only at hSw); go_simp; (try with_reducible rfl))
          try simp only [Act.put, List.setIfInBounds_toArray, List.set_cons_zero, List.set_cons_succ]
          refine held_take (i := 1) (v := ?_) rfl (by kernel_rfl) (by kernel_rfl) (by kernel_rfl) (fun _ _ _ h => h) (by rfl) ?_ (by assumption) ?_
          rotate_left
          · (intro w hSw; (try dsimp only at hSw); go_simp; (try with_reducible rfl))
          try simp only [Act.put, List.setIfInBounds_toArray, List.set_cons_zero, List.set_cons_succ]
          refine held_take (i := 2) (v := ?_) rfl (by kernel_rfl) (by kernel_rfl) (by kernel_rfl) (fun _ _ _ h => h) (by rfl) ?_ (by assumption) ?_
          rotate_left
          · (intro w hSw; (try dsimp only at hSw); go_simp; (try with_reducible rfl))
          try simp only [Act.put, List.setIfInBounds_toArray, List.set_cons_zero, List.set_cons_succ]
          refine held_take (i := 3) (v := ?_) rfl (by kernel_rfl) (by kernel_rfl) (by kernel_rfl) (fun _ _ _ h => h) (by rfl) ?_ (by assumption) ?_
          rotate_left
          · (intro w hSw; (try dsimp only at hSw); go_simp; (try with_reducible rfl))
          try simp only [Act.put, List.setIfInBounds_toArray, List.set_cons_zero, List.set_cons_succ]
          refine held_take (i := 4) (v := .bool q1) rfl (by kernel_rfl) (by kernel_rfl) (by kernel_rfl) (fun _ _ _ h => h) (by rfl) ?_ (by assumption) ?_
          · (intro w hSw; (try dsimp only at hSw); go_simp; (try with_reducible rfl))
          try simp only [Act.put, List.setIfInBounds_toArray, List.set_cons_zero, List.set_cons_succ]
          refine held_take (i := 5) (v := ?_) rfl (by kernel_rfl) (by kernel_rfl) (by kernel_rfl) (fun _ _ _ h => h) (by rfl) ?_ (by assumption) ?_
          rotate_left
          · (intro w hSw; (try dsimp only at hSw); go_simp; (try with_reducible rfl))
          try simp only [Act.put, List.setIfInBounds_toArray, List.set_cons_zero, List.set_cons_succ]
          refine held_take (i := 6) (v := ?_) rfl (by kernel_rfl) (by kernel_rfl) (by kernel_rfl) (fun _ _ _ h => h) (by rfl) ?_ (by assumption) ?_
          rotate_left
          · (intro w hSw; (try dsimp only at hSw); go_simp; (try with_reducible rfl))
          try simp only [Act.put, List.setIfInBounds_toArray, List.set_cons_zero, List.set_cons_succ]
          refine held_take (i := 7) (v := ?_) rfl (by kernel_rfl) (by kernel_rfl) (by kernel_rfl) (fun _ _ _ h => h) (by rfl) ?_ (by assumption) ?_
          rotate_left
          · (intro w hSw; (try dsimp only at hSw); go_simp; (try with_reducible rfl))
          try simp only [Act.put, List.setIfInBounds_toArray, List.set_cons_zero, List.set_cons_succ]
          refine held_take (i := 8) (v := ?_) rfl (by kernel_rfl) (by kernel_rfl) (by kernel_rfl) (fun _ _ _ h => h) (by rfl) ?_ (by assumption) ?_
          rotate_left
          · (intro w hSw; (try dsimp only at hSw); go_simp; (try with_reducible rfl))
          try simp only [Act.put, List.setIfInBounds_toArray, List.set_cons_zero, List.set_cons_succ]
          refine held_take (i := 9) (v := ?_) rfl (by kernel_rfl) (by kernel_rfl) (by kernel_rfl) (fun _ _ _ h => h) (by rfl) ?_ (by assumption) ?_
          rotate_left
          · (intro w hSw; (try dsimp only at hSw); go_simp; (try with_reducible rfl))
          try simp only [Act.put, List.setIfInBounds_toArray, List.set_cons_zero, List.set_cons_succ]
          refine held_take (i := 10) (v := .bool q2) rfl (by kernel_rfl) (by kernel_rfl) (by kernel_rfl) (fun _ _ _ h => h) (by rfl) ?_ (by assumption) ?_
          · (intro w hSw; (try dsimp only at hSw); go_simp; (try with_reducible rfl))
          try simp only [Act.put, List.setIfInBounds_toArray, List.set_cons_zero, List.set_cons_succ]
          refine held_take (i := 11) (v := ?_) rfl (by kernel_rfl) (by kernel_rfl) (by kernel_rfl) (fun _ _ _ h => h) (by rfl) ?_ (by assumption) ?_
          rotate_left
          · (intro w hSw; (try dsimp only at hSw); go_simp; (try with_reducible rfl))
          try simp only [Act.put, List.setIfInBounds_toArray, List.set_cons_zero, List.set_cons_succ]
          refine held_take (i := 12) (v := ?_) rfl (by kernel_rfl) (by kernel_rfl) (by kernel_rfl) (fun _ _ _ h => h) (by rfl) ?_ (by assumption) ?_
          rotate_left
          · (intro w hSw; (try dsimp only at hSw); go_simp; (try with_reducible rfl))
          try simp only [Act.put, List.setIfInBounds_toArray, List.set_cons_zero, List.set_cons_succ]
          refine held_take (i := 13) (v := ?_) rfl (by kernel_rfl) (by kernel_rfl) (by kernel_rfl) (fun _ _ _ h => h) (by rfl) ?_ (by assumption) ?_
          rotate_left
          · (intro w hSw; (try dsimp only at hSw); go_simp; (try with_reducible rfl))
          try simp only [Act.put, List.setIfInBounds_toArray, List.set_cons_zero, List.set_cons_succ]
          refine held_take (i := 14) (v := ?_) rfl (by kernel_rfl) (by kernel_rfl) (by kernel_rfl) (fun _ _ _ h => h) (by rfl) ?_ (by assumption) ?_
          rotate_left
          · (intro w hSw; (try dsimp only at hSw); go_simp; (try with_reducible rfl))
          try simp only [Act.put, List.setIfInBounds_toArray, List.set_cons_zero, List.set_cons_succ]
          refine held_take (i := 15) (v := ?_) rfl (by kernel_rfl) (by kernel_rfl) (by kernel_rfl) (fun _ _ _ h => h) (by rfl) ?_ (by assumption) ?_
          rotate_left
          · (intro w hSw; (try dsimp only at hSw); go_simp; (try with_reducible rfl))
          try simp only [Act.put, List.setIfInBounds_toArray, List.set_cons_zero, List.set_cons_succ]
          refine held_take (i := 17) (v := ?_) rfl (by kernel_rfl) (by kernel_rfl) (by kernel_rfl) (fun _ _ _ h => h) (by rfl) ?_ (by assumption) ?_
          rotate_left
          · (intro w hSw; (try dsimp only at hSw); go_simp; (try with_reducible rfl))
          try simp only [Act.put, List.setIfInBounds_toArray, List.set_cons_zero, List.set_cons_succ]
          refine wpAnyH_ready (rs := [16, 20]) (by kernel_rfl) (by simp) ?_
          refine held_cons (i := 16) rfl (fun K hK => ?_) (held_cons (i := 20) rfl (fun K hK => ?_) AllReadyH.nil)
          · go_simp
            (first
              | (go_at_call 98; (with_reducible refine Calls.mono (heads_exact _) ?_); rintro e w2 ⟨rfl, rfl⟩)
              | (go_at_call 96; (with_reducible refine Calls.mono Ha.out ?_); rintro e w3 ⟨rfl, rfl⟩)
              | (go_at_call 96; (with_reducible refine Calls.mono Hb.out ?_); rintro e w3 ⟨rfl, rfl⟩)
              | (go_at_call 96; (with_reducible refine Calls.mono Hc.out ?_); rintro e w3 ⟨rfl, rfl⟩))
            go_wp2_with fail
            refine hK.out _ _ ?_ (fun hHeld => ?_)
            · (try dsimp only)
              (first | assumption | exact HS5.out | (with_reducible exact HCe.out _ (Below.drew (Below.refl _ _))) | (with_reducible exact HCe.out _ (Below.drew (s_four (by assumption)))) | (with_reducible exact HCe.out _ (below_alloc (s_four (by assumption)) _)) | (with_reducible exact HCe.out _ (Below.drew (below_alloc (below_alloc (Below.refl _ _) _) _))))
            clear hK K
            try simp only [Act.put, List.setIfInBounds_toArray, List.set_cons_zero, List.set_cons_succ]
            refine wpAnyH_ready (rs := [18, 20]) (by kernel_rfl) (by simp) ?_
            refine held_cons (i := 18) rfl (fun K hK => ?_) (held_cons (i := 20) rfl (fun K hK => ?_) AllReadyH.nil)
            · go_simp
              (first
                | (go_at_call 98; (with_reducible refine Calls.mono (heads_exact _) ?_); rintro e w2 ⟨rfl, rfl⟩)
                | (go_at_call 96; (with_reducible refine Calls.mono Ha.out ?_); rintro e w3 ⟨rfl, rfl⟩)
                | (go_at_call 96; (with_reducible refine Calls.mono Hb.out ?_); rintro e w3 ⟨rfl, rfl⟩)
                | (go_at_call 96; (with_reducible refine Calls.mono Hc.out ?_); rintro e w3 ⟨rfl, rfl⟩))
              go_wp2_with fail
              refine hK.out _ _ ?_ (fun hHeld => ?_)
              · (try dsimp only)
                (first | assumption | exact HS5.out | (with_reducible exact HCe.out _ (Below.drew (Below.refl _ _))) | (with_reducible exact HCe.out _ (Below.drew (s_four (by assumption)))) | (with_reducible exact HCe.out _ (below_alloc (s_four (by assumption)) _)) | (with_reducible exact HCe.out _ (Below.drew (below_alloc (below_alloc (Below.refl _ _) _) _))))
              clear hK K
              try simp only [Act.put, List.setIfInBounds_toArray, List.set_cons_zero, List.set_cons_succ]
              refine held_take (i := 19) (v := ?_) rfl (by kernel_rfl) (by kernel_rfl) (by kernel_rfl) (fun _ _ _ h => h) (by rfl) ?_ (by assumption) ?_
              rotate_left
              · (intro w hSw; (try dsimp only at hSw); go_simp; (try with_reducible rfl))
              try simp only [Act.put, List.setIfInBounds_toArray, List.set_cons_zero, List.set_cons_succ]
              refine wpAnyH_ready (rs := [20]) (by kernel_rfl) (by simp) ?_
              refine held_cons (i := 20) rfl (fun K hK => ?_) AllReadyH.nil
              · go_simp
                refine hK.out _ _ ?_ (fun hHeld => ?_)
                · (try dsimp only)
                  (first | assumption | exact HS5.out | (with_reducible exact HCe.out _ (Below.drew (Below.refl _ _))) | (with_reducible exact HCe.out _ (Below.drew (s_four (by assumption)))) | (with_reducible exact HCe.out _ (below_alloc (s_four (by assumption)) _)) | (with_reducible exact HCe.out _ (Below.drew (below_alloc (below_alloc (Below.refl _ _) _) _))))
                clear hK K
                try simp only [Act.put, List.setIfInBounds_toArray, List.set_cons_zero, List.set_cons_succ]
                refine wpAnyH_ready (rs := [21]) (by kernel_rfl) (by simp) ?_
                refine held_cons (i := 21) rfl (fun K hK => ?_) AllReadyH.nil
                · go_simp
                  refine hK.out _ _ ?_ (fun hHeld => ?_)
                  · (try dsimp only)
                    (first | assumption | exact HS5.out | (with_reducible exact HCe.out _ (Below.drew (Below.refl _ _))) | (with_reducible exact HCe.out _ (Below.drew (s_four (by assumption)))) | (with_reducible exact HCe.out _ (below_alloc (s_four (by assumption)) _)) | (with_reducible exact HCe.out _ (Below.drew (below_alloc (below_alloc (Below.refl _ _) _) _))))
                  clear hK K
                  try simp only [Act.put, List.setIfInBounds_toArray, List.set_cons_zero, List.set_cons_succ]
                  refine wpAnyH_done (by kernel_rfl) ?_ _
                  go_wp2_with fail
                  go_meet
                  first
                    | exact ⟨_, rfl, Nat.le_succ _, heap_dr (heap_nw (by simp)), Below.drew (below_alloc (below_alloc (Below.refl _ _) _) _)⟩
                    | exact ⟨_, rfl, Nat.le_refl _, heap_dr (heap_up (heap_nw rfl)), Below.drew (below_alloc (below_alloc (Below.refl _ _) _) _)⟩
            · go_simp
              refine hK.out _ _ ?_ (fun hHeld => ?_)
              · (try dsimp only)
                (first | assumption | exact HS5.out | (with_reducible exact HCe.out _ (Below.drew (Below.refl _ _))) | (with_reducible exact HCe.out _ (Below.drew (s_four (by assumption)))) | (with_reducible exact HCe.out _ (below_alloc (s_four (by assumption)) _)) | (with_reducible exact HCe.out _ (Below.drew (below_alloc (below_alloc (Below.refl _ _) _) _))))
              clear hK K
              try simp only [Act.put, List.setIfInBounds_toArray, List.set_cons_zero, List.set_cons_succ]
              refine wpAnyH_ready (rs := [18]) (by kernel_rfl) (by simp) ?_
              refine held_cons (i := 18) rfl (fun K hK => ?_) AllReadyH.nil
              · go_simp
                (first
                  | (go_at_call 98; (with_reducible refine Calls.mono (heads_exact _) ?_); rintro e w2 ⟨rfl, rfl⟩)
                  | (go_at_call 96; (with_reducible refine Calls.mono Ha.out ?_); rintro e w3 ⟨rfl, rfl⟩)
                  | (go_at_call 96; (with_reducible refine Calls.mono Hb.out ?_); rintro e w3 ⟨rfl, rfl⟩)
                  | (go_at_call 96; (with_reducible refine Calls.mono Hc.out ?_); rintro e w3 ⟨rfl, rfl⟩))
                go_wp2_with fail
                refine hK.out _ _ ?_ (fun hHeld => ?_)
                · (try dsimp only)
                  (first | assumption | exact HS5.out | (with_reducible exact HCe.out _ (Below.drew (Below.refl _ _))) | (with_reducible exact HCe.out _ (Below.drew (s_four (by assumption)))) | (with_reducible exact HCe.out _ (below_alloc (s_four (by assumption)) _)) | (with_reducible exact HCe.out _ (Below.drew (below_alloc (below_alloc (Below.refl _ _) _) _))))
                clear hK K
                try simp only [Act.put, List.setIfInBounds_toArray, List.set_cons_zero, List.set_cons_succ]
                refine held_take (i := 19) (v := ?_) rfl (by kernel_rfl) (by kernel_rfl) (by kernel_rfl) (fun _ _ _ h => h) (by rfl) ?_ (by assumption) ?_
                rotate_left
                · (intro w hSw; (try dsimp only at hSw); go_simp; (try with_reducible rfl))
                try simp only [Act.put, List.setIfInBounds_toArray, List.set_cons_zero, List.set_cons_succ]
                refine wpAnyH_ready (rs := [21]) (by kernel_rfl) (by simp) ?_
                refine held_cons (i := 21) rfl (fun K hK => ?_) AllReadyH.nil
                · go_simp
                  refine hK.out _ _ ?_ (fun hHeld => ?_)
                  · (try dsimp only)
                    (first | assumption | exact HS5.out | (with_reducible exact HCe.out _ (Below.drew (Below.refl _ _))) | (with_reducible exact HCe.out _ (Below.drew (s_four (by assumption)))) | (with_reducible exact HCe.out _ (below_alloc (s_four (by assumption)) _)) | (with_reducible exact HCe.out _ (Below.drew (below_alloc (below_alloc (Below.refl _ _) _) _))))
                  clear hK K
                  try simp only [Act.put, List.setIfInBounds_toArray, List.set_cons_zero, List.set_cons_succ]
                  refine wpAnyH_done (by kernel_rfl) ?_ _
                  go_wp2_with fail
                  go_meet
                  first
                    | exact ⟨_, rfl, Nat.le_succ _, heap_dr (heap_nw (by simp)), Below.drew (below_alloc (below_alloc (Below.refl _ _) _) _)⟩
                    | exact ⟨_, rfl, Nat.le_refl _, heap_dr (heap_up (heap_nw rfl)), Below.drew (below_alloc (below_alloc (Below.refl _ _) _) _)⟩
          · go_simp
            refine hK.out _ _ ?_ (fun hHeld => ?_)
            · (try dsimp only)
              (first | assumption | exact HS5.out | (with_reducible exact HCe.out _ (Below.drew (Below.refl _ _))) | (with_reducible exact HCe.out _ (Below.drew (s_four (by assumption)))) | (with_reducible exact HCe.out _ (below_alloc (s_four (by assumption)) _)) | (with_reducible exact HCe.out _ (Below.drew (below_alloc (below_alloc (Below.refl _ _) _) _))))
            clear hK K
            try simp only [Act.put, List.setIfInBounds_toArray, List.set_cons_zero, List.set_cons_succ]
            refine wpAnyH_ready (rs := [16]) (by kernel_rfl) (by simp) ?_
            refine held_cons (i := 16) rfl (fun K hK => ?_) AllReadyH.nil
            · go_simp
              (first
                | (go_at_call 98; (with_reducible refine Calls.mono (heads_exact _) ?_); rintro e w2 ⟨rfl, rfl⟩)
                | (go_at_call 96; (with_reducible refine Calls.mono Ha.out ?_); rintro e w3 ⟨rfl, rfl⟩)
                | (go_at_call 96; (with_reducible refine Calls.mono Hb.out ?_); rintro e w3 ⟨rfl, rfl⟩)
                | (go_at_call 96; (with_reducible refine Calls.mono Hc.out ?_); rintro e w3 ⟨rfl, rfl⟩))
              go_wp2_with fail
              refine hK.out _ _ ?_ (fun hHeld => ?_)
              · (try dsimp only)
                (first | assumption | exact HS5.out | (with_reducible exact HCe.out _ (Below.drew (Below.refl _ _))) | (with_reducible exact HCe.out _ (Below.drew (s_four (by assumption)))) | (with_reducible exact HCe.out _ (below_alloc (s_four (by assumption)) _)) | (with_reducible exact HCe.out _ (Below.drew (below_alloc (below_alloc (Below.refl _ _) _) _))))
              clear hK K
              try simp only [Act.put, List.setIfInBounds_toArray, List.set_cons_zero, List.set_cons_succ]
              refine wpAnyH_ready (rs := [18]) (by kernel_rfl) (by simp) ?_
              refine held_cons (i := 18) rfl (fun K hK => ?_) AllReadyH.nil
              · go_simp
                (first
                  | (go_at_call 98; (with_reducible refine Calls.mono (heads_exact _) ?_); rintro e w2 ⟨rfl, rfl⟩)
                  | (go_at_call 96; (with_reducible refine Calls.mono Ha.out ?_); rintro e w3 ⟨rfl, rfl⟩)
                  | (go_at_call 96; (with_reducible refine Calls.mono Hb.out ?_); rintro e w3 ⟨rfl, rfl⟩)
                  | (go_at_call 96; (with_reducible refine Calls.mono Hc.out ?_); rintro e w3 ⟨rfl, rfl⟩))
                go_wp2_with fail
                refine hK.out _ _ ?_ (fun hHeld => ?_)
                · (try dsimp only)
                  (first | assumption | exact HS5.out | (with_reducible exact HCe.out _ (Below.drew (Below.refl _ _))) | (with_reducible exact HCe.out _ (Below.drew (s_four (by assumption)))) | (with_reducible exact HCe.out _ (below_alloc (s_four (by assumption)) _)) | (with_reducible exact HCe.out _ (Below.drew (below_alloc (below_alloc (Below.refl _ _) _) _))))
                clear hK K
                try simp only [Act.put, List.setIfInBounds_toArray, List.set_cons_zero, List.set_cons_succ]
                refine held_take (i := 19) (v := ?_) rfl (by kernel_rfl) (by kernel_rfl) (by kernel_rfl) (fun _ _ _ h => h) (by rfl) ?_ (by assumption) ?_
                rotate_left
                · (intro w hSw; (try dsimp only at hSw); go_simp; (try with_reducible rfl))
                try simp only [Act.put, List.setIfInBounds_toArray, List.set_cons_zero, List.set_cons_succ]
                refine wpAnyH_ready (rs := [21]) (by kernel_rfl) (by simp) ?_
                refine held_cons (i := 21) rfl (fun K hK => ?_) AllReadyH.nil
                · go_simp
                  refine hK.out _ _ ?_ (fun hHeld => ?_)
                  · (try dsimp only)
                    (first | assumption | exact HS5.out | (with_reducible exact HCe.out _ (Below.drew (Below.refl _ _))) | (with_reducible exact HCe.out _ (Below.drew (s_four (by assumption)))) | (with_reducible exact HCe.out _ (below_alloc (s_four (by assumption)) _)) | (with_reducible exact HCe.out _ (Below.drew (below_alloc (below_alloc (Below.refl _ _) _) _))))
                  clear hK K
                  try simp only [Act.put, List.setIfInBounds_toArray, List.set_cons_zero, List.set_cons_succ]
                  refine wpAnyH_done (by kernel_rfl) ?_ _
                  go_wp2_with fail
                  go_meet
                  first
                    | exact ⟨_, rfl, Nat.le_succ _, heap_dr (heap_nw (by simp)), Below.drew (below_alloc (below_alloc (Below.refl _ _) _) _)⟩
                    | exact ⟨_, rfl, Nat.le_refl _, heap_dr (heap_up (heap_nw rfl)), Below.drew (below_alloc (below_alloc (Below.refl _ _) _) _)⟩
        | true =>
          refine wp_region_held_drew (S := (fun w' => w'.cell? ⟨w.heap.size, 0, none⟩ = some (.bool false) ∧ w'.cell? ⟨w.heap.size, 1, none⟩ = some (.bool true) ∧ w'.cell? ⟨w.heap.size, 2, none⟩ = some (.bool item) ∧ w'.cell? ⟨w.heap.size, 3, none⟩ = some (.bool pair) ∧ Below wb.heap.size wb w')) (by kernel_rfl) ?_ (fun hHeld => ?_)
          · exact HCe.out _ (Below.drew (Below.refl _ _))
          refine held_take (i := 0) (v := ?_) rfl (by kernel_rfl) (by kernel_rfl) (by kernel_rfl) (fun _ _ _ h => h) (by rfl) ?_ (by assumption) ?_
          rotate_left
          · (intro w hSw; (try dsimp only at hSw); go_simp; (try with_reducible rfl))
          try simp only [Act.put, List.setIfInBounds_toArray, List.set_cons_zero, List.set_cons_succ]
          refine held_take (i := 1) (v := ?_) rfl (by kernel_rfl) (by kernel_rfl) (by kernel_rfl) (fun _ _ _ h => h) (by rfl) ?_ (by assumption) ?_
          rotate_left
          · (intro w hSw; (try dsimp only at hSw); go_simp; (try with_reducible rfl))
          try simp only [Act.put, List.setIfInBounds_toArray, List.set_cons_zero, List.set_cons_succ]
          refine held_take (i := 2) (v := ?_) rfl (by kernel_rfl) (by kernel_rfl) (by kernel_rfl) (fun _ _ _ h => h) (by rfl) ?_ (by assumption) ?_
          rotate_left
          · (intro w hSw; (try dsimp only at hSw); go_simp; (try with_reducible rfl))
          try simp only [Act.put, List.setIfInBounds_toArray, List.set_cons_zero, List.set_cons_succ]
          refine held_take (i := 3) (v := ?_) rfl (by kernel_rfl) (by kernel_rfl) (by kernel_rfl) (fun _ _ _ h => h) (by rfl) ?_ (by assumption) ?_
          rotate_left
          · (intro w hSw; (try dsimp only at hSw); go_simp; (try with_reducible rfl))
          try simp only [Act.put, List.setIfInBounds_toArray, List.set_cons_zero, List.set_cons_succ]
          refine held_take (i := 4) (v := .bool q1) rfl (by kernel_rfl) (by kernel_rfl) (by kernel_rfl) (fun _ _ _ h => h) (by rfl) ?_ (by assumption) ?_
          · (intro w hSw; (try dsimp only at hSw); go_simp; (try with_reducible rfl))
          try simp only [Act.put, List.setIfInBounds_toArray, List.set_cons_zero, List.set_cons_succ]
          refine held_take (i := 5) (v := ?_) rfl (by kernel_rfl) (by kernel_rfl) (by kernel_rfl) (fun _ _ _ h => h) (by rfl) ?_ (by assumption) ?_
          rotate_left
          · (intro w hSw; (try dsimp only at hSw); go_simp; (try with_reducible rfl))
          try simp only [Act.put, List.setIfInBounds_toArray, List.set_cons_zero, List.set_cons_succ]
          refine held_take (i := 6) (v := ?_) rfl (by kernel_rfl) (by kernel_rfl) (by kernel_rfl) (fun _ _ _ h => h) (by rfl) ?_ (by assumption) ?_
          rotate_left
          · (intro w hSw; (try dsimp only at hSw); go_simp; (try with_reducible rfl))
          try simp only [Act.put, List.setIfInBounds_toArray, List.set_cons_zero, List.set_cons_succ]
          refine held_take (i := 7) (v := ?_) rfl (by kernel_rfl) (by kernel_rfl) (by kernel_rfl) (fun _ _ _ h => h) (by rfl) ?_ (by assumption) ?_
          rotate_left
          · (intro w hSw; (try dsimp only at hSw); go_simp; (try with_reducible rfl))
          try simp only [Act.put, List.setIfInBounds_toArray, List.set_cons_zero, List.set_cons_succ]
          refine held_take (i := 8) (v := ?_) rfl (by kernel_rfl) (by kernel_rfl) (by kernel_rfl) (fun _ _ _ h => h) (by rfl) ?_ (by assumption) ?_
          rotate_left
          · (intro w hSw; (try dsimp only at hSw); go_simp; (try with_reducible rfl))
          try simp only [Act.put, List.setIfInBounds_toArray, List.set_cons_zero, List.set_cons_succ]
          refine held_skip (i := 9) rfl (by kernel_rfl) (by kernel_rfl) (by kernel_rfl) (fun _ _ _ h => h) (by rfl) (by assumption) ?_
          try simp only [Act.put, List.setIfInBounds_toArray, List.set_cons_zero, List.set_cons_succ]
          refine held_skip (i := 10) rfl (by kernel_rfl) (by kernel_rfl) (by kernel_rfl) (fun _ _ _ h => h) (by rfl) (by assumption) ?_
          try simp only [Act.put, List.setIfInBounds_toArray, List.set_cons_zero, List.set_cons_succ]
          refine held_take (i := 11) (v := ?_) rfl (by kernel_rfl) (by kernel_rfl) (by kernel_rfl) (fun _ _ _ h => h) (by rfl) ?_ (by assumption) ?_
          rotate_left
          · (intro w hSw; (try dsimp only at hSw); go_simp; (try with_reducible rfl))
          try simp only [Act.put, List.setIfInBounds_toArray, List.set_cons_zero, List.set_cons_succ]
          refine held_take (i := 12) (v := ?_) rfl (by kernel_rfl) (by kernel_rfl) (by kernel_rfl) (fun _ _ _ h => h) (by rfl) ?_ (by assumption) ?_
          rotate_left
          · (intro w hSw; (try dsimp only at hSw); go_simp; (try with_reducible rfl))
          try simp only [Act.put, List.setIfInBounds_toArray, List.set_cons_zero, List.set_cons_succ]
          refine held_take (i := 13) (v := ?_) rfl (by kernel_rfl) (by kernel_rfl) (by kernel_rfl) (fun _ _ _ h => h) (by rfl) ?_ (by assumption) ?_
          rotate_left
          · (intro w hSw; (try dsimp only at hSw); go_simp; (try with_reducible rfl))
          try simp only [Act.put, List.setIfInBounds_toArray, List.set_cons_zero, List.set_cons_succ]
          refine held_take (i := 14) (v := ?_) rfl (by kernel_rfl) (by kernel_rfl) (by kernel_rfl) (fun _ _ _ h => h) (by rfl) ?_ (by assumption) ?_
          rotate_left
          · (intro w hSw; (try dsimp only at hSw); go_simp; (try with_reducible rfl))
          try simp only [Act.put, List.setIfInBounds_toArray, List.set_cons_zero, List.set_cons_succ]
          refine held_take (i := 15) (v := ?_) rfl (by kernel_rfl) (by kernel_rfl) (by kernel_rfl) (fun _ _ _ h => h) (by rfl) ?_ (by assumption) ?_
          rotate_left
          · (intro w hSw; (try dsimp only at hSw); go_simp; (try with_reducible rfl))
          try simp only [Act.put, List.setIfInBounds_toArray, List.set_cons_zero, List.set_cons_succ]
          refine held_take (i := 17) (v := ?_) rfl (by kernel_rfl) (by kernel_rfl) (by kernel_rfl) (fun _ _ _ h => h) (by rfl) ?_ (by assumption) ?_
          rotate_left
          · (intro w hSw; (try dsimp only at hSw); go_simp; (try with_reducible rfl))
          try simp only [Act.put, List.setIfInBounds_toArray, List.set_cons_zero, List.set_cons_succ]
          refine wpAnyH_ready (rs := [16, 20]) (by kernel_rfl) (by simp) ?_
          refine held_cons (i := 16) rfl (fun K hK => ?_) (held_cons (i := 20) rfl (fun K hK => ?_) AllReadyH.nil)
          · go_simp
            (first
              | (go_at_call 98; (with_reducible refine Calls.mono (heads_exact _) ?_); rintro e w2 ⟨rfl, rfl⟩)
              | (go_at_call 96; (with_reducible refine Calls.mono Ha.out ?_); rintro e w3 ⟨rfl, rfl⟩)
              | (go_at_call 96; (with_reducible refine Calls.mono Hb.out ?_); rintro e w3 ⟨rfl, rfl⟩)
              | (go_at_call 96; (with_reducible refine Calls.mono Hc.out ?_); rintro e w3 ⟨rfl, rfl⟩))
            go_wp2_with fail
            refine hK.out _ _ ?_ (fun hHeld => ?_)
            · (try dsimp only)
              (first | assumption | exact HS5.out | (with_reducible exact HCe.out _ (Below.drew (Below.refl _ _))) | (with_reducible exact HCe.out _ (Below.drew (s_four (by assumption)))) | (with_reducible exact HCe.out _ (below_alloc (s_four (by assumption)) _)) | (with_reducible exact HCe.out _ (Below.drew (below_alloc (below_alloc (Below.refl _ _) _) _))))
            clear hK K
            try simp only [Act.put, List.setIfInBounds_toArray, List.set_cons_zero, List.set_cons_succ]
            refine wpAnyH_ready (rs := [18, 20]) (by kernel_rfl) (by simp) ?_
            refine held_cons (i := 18) rfl (fun K hK => ?_) (held_cons (i := 20) rfl (fun K hK => ?_) AllReadyH.nil)
            · go_simp
              (first
                | (go_at_call 98; (with_reducible refine Calls.mono (heads_exact _) ?_); rintro e w2 ⟨rfl, rfl⟩)
                | (go_at_call 96; (with_reducible refine Calls.mono Ha.out ?_); rintro e w3 ⟨rfl, rfl⟩)
                | (go_at_call 96; (with_reducible refine Calls.mono Hb.out ?_); rintro e w3 ⟨rfl, rfl⟩)
                | (go_at_call 96; (with_reducible refine Calls.mono Hc.out ?_); rintro e w3 ⟨rfl, rfl⟩))
              go_wp2_with fail
              refine hK.out _ _ ?_ (fun hHeld => ?_)
              · (try dsimp only)
                (first | assumption | exact HS5.out | (with_reducible exact HCe.out _ (Below.drew (Below.refl _ _))) | (with_reducible exact HCe.out _ (Below.drew (s_four (by assumption)))) | (with_reducible exact HCe.out _ (below_alloc (s_four (by assumption)) _)) | (with_reducible exact HCe.out _ (Below.drew (below_alloc (below_alloc (Below.refl _ _) _) _))))
              clear hK K
              try simp only [Act.put, List.setIfInBounds_toArray, List.set_cons_zero, List.set_cons_succ]
              refine held_take (i := 19) (v := ?_) rfl (by kernel_rfl) (by kernel_rfl) (by kernel_rfl) (fun _ _ _ h => h) (by rfl) ?_ (by assumption) ?_
              rotate_left
              · (intro w hSw; (try dsimp only at hSw); go_simp; (try with_reducible rfl))
              try simp only [Act.put, List.setIfInBounds_toArray, List.set_cons_zero, List.set_cons_succ]
              refine wpAnyH_ready (rs := [20]) (by kernel_rfl) (by simp) ?_
              refine held_cons (i := 20) rfl (fun K hK => ?_) AllReadyH.nil
              · go_simp
                refine hK.out _ _ ?_ (fun hHeld => ?_)
                · (try dsimp only)
                  (first | assumption | exact HS5.out | (with_reducible exact HCe.out _ (Below.drew (Below.refl _ _))) | (with_reducible exact HCe.out _ (Below.drew (s_four (by assumption)))) | (with_reducible exact HCe.out _ (below_alloc (s_four (by assumption)) _)) | (with_reducible exact HCe.out _ (Below.drew (below_alloc (below_alloc (Below.refl _ _) _) _))))
                clear hK K
                try simp only [Act.put, List.setIfInBounds_toArray, List.set_cons_zero, List.set_cons_succ]
                refine wpAnyH_ready (rs := [21]) (by kernel_rfl) (by simp) ?_
                refine held_cons (i := 21) rfl (fun K hK => ?_) AllReadyH.nil
                · go_simp
                  refine hK.out _ _ ?_ (fun hHeld => ?_)
                  · (try dsimp only)
                    (first | assumption | exact HS5.out | (with_reducible exact HCe.out _ (Below.drew (Below.refl _ _))) | (with_reducible exact HCe.out _ (Below.drew (s_four (by assumption)))) | (with_reducible exact HCe.out _ (below_alloc (s_four (by assumption)) _)) | (with_reducible exact HCe.out _ (Below.drew (below_alloc (below_alloc (Below.refl _ _) _) _))))
                  clear hK K
                  try simp only [Act.put, List.setIfInBounds_toArray, List.set_cons_zero, List.set_cons_succ]
                  refine wpAnyH_done (by kernel_rfl) ?_ _
                  go_wp2_with fail
                  go_meet
                  first
                    | exact ⟨_, rfl, Nat.le_succ _, heap_dr (heap_nw (by simp)), Below.drew (below_alloc (below_alloc (Below.refl _ _) _) _)⟩
                    | exact ⟨_, rfl, Nat.le_refl _, heap_dr (heap_up (heap_nw rfl)), Below.drew (below_alloc (below_alloc (Below.refl _ _) _) _)⟩
            · go_simp
              refine hK.out _ _ ?_ (fun hHeld => ?_)
              · (try dsimp only)
                (first | assumption | exact HS5.out | (with_reducible exact HCe.out _ (Below.drew (Below.refl _ _))) | (with_reducible exact HCe.out _ (Below.drew (s_four (by assumption)))) | (with_reducible exact HCe.out _ (below_alloc (s_four (by assumption)) _)) | (with_reducible exact HCe.out _ (Below.drew (below_alloc (below_alloc (Below.refl _ _) _) _))))
              clear hK K
              try simp only [Act.put, List.setIfInBounds_toArray, List.set_cons_zero, List.set_cons_succ]
              refine wpAnyH_ready (rs := [18]) (by kernel_rfl) (by simp) ?_
              refine held_cons (i := 18) rfl (fun K hK => ?_) AllReadyH.nil
              · go_simp
                (first
                  | (go_at_call 98; (with_reducible refine Calls.mono (heads_exact _) ?_); rintro e w2 ⟨rfl, rfl⟩)
                  | (go_at_call 96; (with_reducible refine Calls.mono Ha.out ?_); rintro e w3 ⟨rfl, rfl⟩)
                  | (go_at_call 96; (with_reducible refine Calls.mono Hb.out ?_); rintro e w3 ⟨rfl, rfl⟩)
                  | (go_at_call 96; (with_reducible refine Calls.mono Hc.out ?_); rintro e w3 ⟨rfl, rfl⟩))
                go_wp2_with fail
                refine hK.out _ _ ?_ (fun hHeld => ?_)
                · (try dsimp only)
                  (first | assumption | exact HS5.out | (with_reducible exact HCe.out _ (Below.drew (Below.refl _ _))) | (with_reducible exact HCe.out _ (Below.drew (s_four (by assumption)))) | (with_reducible exact HCe.out _ (below_alloc (s_four (by assumption)) _)) | (with_reducible exact HCe.out _ (Below.drew (below_alloc (below_alloc (Below.refl _ _) _) _))))
                clear hK K
                try simp only [Act.put, List.setIfInBounds_toArray, List.set_cons_zero, List.set_cons_succ]
                refine held_take (i := 19) (v := ?_) rfl (by kernel_rfl) (by kernel_rfl) (by kernel_rfl) (fun _ _ _ h => h) (by rfl) ?_ (by assumption) ?_
                rotate_left
                · (intro w hSw; (try dsimp only at hSw); go_simp; (try with_reducible rfl))
                try simp only [Act.put, List.setIfInBounds_toArray, List.set_cons_zero, List.set_cons_succ]
                refine wpAnyH_ready (rs := [21]) (by kernel_rfl) (by simp) ?_
                refine held_cons (i := 21) rfl (fun K hK => ?_) AllReadyH.nil
                · go_simp
                  refine hK.out _ _ ?_ (fun hHeld => ?_)
                  · (try dsimp only)
                    (first | assumption | exact HS5.out | (with_reducible exact HCe.out _ (Below.drew (Below.refl _ _))) | (with_reducible exact HCe.out _ (Below.drew (s_four (by assumption)))) | (with_reducible exact HCe.out _ (below_alloc (s_four (by assumption)) _)) | (with_reducible exact HCe.out _ (Below.drew (below_alloc (below_alloc (Below.refl _ _) _) _))))
                  clear hK K
                  try simp only [Act.put, List.setIfInBounds_toArray, List.set_cons_zero, List.set_cons_succ]
                  refine wpAnyH_done (by kernel_rfl) ?_ _
                  go_wp2_with fail
                  go_meet
                  first
                    | exact ⟨_, rfl, Nat.le_succ _, heap_dr (heap_nw (by simp)), Below.drew (below_alloc (below_alloc (Below.refl _ _) _) _)⟩
                    | exact ⟨_, rfl, Nat.le_refl _, heap_dr (heap_up (heap_nw rfl)), Below.drew (below_alloc (below_alloc (Below.refl _ _) _) _)⟩
          · go_simp
            refine hK.out _ _ ?_ (fun hHeld => ?_)
            · (try dsimp only)
              (first | assumption | exact HS5.out | (with_reducible exact HCe.out _ (Below.drew (Below.refl _ _))) | (with_reducible exact HCe.out _ (Below.drew (s_four (by assumption)))) | (with_reducible exact HCe.out _ (below_alloc (s_four (by assumption)) _)) | (with_reducible exact HCe.out _ (Below.drew (below_alloc (below_alloc (Below.refl _ _) _) _))))
            clear hK K
            try simp only [Act.put, List.setIfInBounds_toArray, List.set_cons_zero, List.set_cons_succ]
            refine wpAnyH_ready (rs := [16]) (by kernel_rfl) (by simp) ?_
            refine held_cons (i := 16) rfl (fun K hK => ?_) AllReadyH.nil
            · go_simp
              (first
                | (go_at_call 98; (with_reducible refine Calls.mono (heads_exact _) ?_); rintro e w2 ⟨rfl, rfl⟩)
                | (go_at_call 96; (with_reducible refine Calls.mono Ha.out ?_); rintro e w3 ⟨rfl, rfl⟩)
                | (go_at_call 96; (with_reducible refine Calls.mono Hb.out ?_); rintro e w3 ⟨rfl, rfl⟩)
                | (go_at_call 96; (with_reducible refine Calls.mono Hc.out ?_); rintro e w3 ⟨rfl, rfl⟩))
              go_wp2_with fail
              refine hK.out _ _ ?_ (fun hHeld => ?_)
              · (try dsimp only)
                (first | assumption | exact HS5.out | (with_reducible exact HCe.out _ (Below.drew (Below.refl _ _))) | (with_reducible exact HCe.out _ (Below.drew (s_four (by assumption)))) | (with_reducible exact HCe.out _ (below_alloc (s_four (by assumption)) _)) | (with_reducible exact HCe.out _ (Below.drew (below_alloc (below_alloc (Below.refl _ _) _) _))))
              clear hK K
              try simp only [Act.put, List.setIfInBounds_toArray, List.set_cons_zero, List.set_cons_succ]
              refine wpAnyH_ready (rs := [18]) (by kernel_rfl) (by simp) ?_
              refine held_cons (i := 18) rfl (fun K hK => ?_) AllReadyH.nil
              · go_simp
                (first
                  | (go_at_call 98; (with_reducible refine Calls.mono (heads_exact _) ?_); rintro e w2 ⟨rfl, rfl⟩)
                  | (go_at_call 96; (with_reducible refine Calls.mono Ha.out ?_); rintro e w3 ⟨rfl, rfl⟩)
                  | (go_at_call 96; (with_reducible refine Calls.mono Hb.out ?_); rintro e w3 ⟨rfl, rfl⟩)
                  | (go_at_call 96; (with_reducible refine Calls.mono Hc.out ?_); rintro e w3 ⟨rfl, rfl⟩))
                go_wp2_with fail
                refine hK.out _ _ ?_ (fun hHeld => ?_)
                · (try dsimp only)
                  (first | assumption | exact HS5.out | (with_reducible exact HCe.out _ (Below.drew (Below.refl _ _))) | (with_reducible exact HCe.out _ (Below.drew (s_four (by assumption)))) | (with_reducible exact HCe.out _ (below_alloc (s_four (by assumption)) _)) | (with_reducible exact HCe.out _ (Below.drew (below_alloc (below_alloc (Below.refl _ _) _) _))))
                clear hK K
                try simp only [Act.put, List.setIfInBounds_toArray, List.set_cons_zero, List.set_cons_succ]
                refine held_take (i := 19) (v := ?_) rfl (by kernel_rfl) (by kernel_rfl) (by kernel_rfl) (fun _ _ _ h => h) (by rfl) ?_ (by assumption) ?_
                rotate_left
                · (intro w hSw; (try dsimp only at hSw); go_simp; (try with_reducible rfl))
                try simp only [Act.put, List.setIfInBounds_toArray, List.set_cons_zero, List.set_cons_succ]
                refine wpAnyH_ready (rs := [21]) (by kernel_rfl) (by simp) ?_
                refine held_cons (i := 21) rfl (fun K hK => ?_) AllReadyH.nil
                · go_simp
                  refine hK.out _ _ ?_ (fun hHeld => ?_)
                  · (try dsimp only)
                    (first | assumption | exact HS5.out | (with_reducible exact HCe.out _ (Below.drew (Below.refl _ _))) | (with_reducible exact HCe.out _ (Below.drew (s_four (by assumption)))) | (with_reducible exact HCe.out _ (below_alloc (s_four (by assumption)) _)) | (with_reducible exact HCe.out _ (Below.drew (below_alloc (below_alloc (Below.refl _ _) _) _))))
                  clear hK K
                  try simp only [Act.put, List.setIfInBounds_toArray, List.set_cons_zero, List.set_cons_succ]
                  refine wpAnyH_done (by kernel_rfl) ?_ _
                  go_wp2_with fail
                  go_meet
                  first
                    | exact ⟨_, rfl, Nat.le_succ _, heap_dr (heap_nw (by simp)), Below.drew (below_alloc (below_alloc (Below.refl _ _) _) _)⟩
                    | exact ⟨_, rfl, Nat.le_refl _, heap_dr (heap_up (heap_nw rfl)), Below.drew (below_alloc (below_alloc (Below.refl _ _) _) _)⟩
      | true =>
        cases link with
        | false =>
          refine wp_region_held_drew (S := (fun w' => w'.cell? ⟨w.heap.size, 0, none⟩ = some (.bool true) ∧ w'.cell? ⟨w.heap.size, 1, none⟩ = some (.bool false) ∧ w'.cell? ⟨w.heap.size, 2, none⟩ = some (.bool item) ∧ w'.cell? ⟨w.heap.size, 3, none⟩ = some (.bool pair) ∧ Below wb.heap.size wb w')) (by kernel_rfl) ?_ (fun hHeld => ?_)
          · exact HCe.out _ (Below.drew (Below.refl _ _))
          refine held_take (i := 0) (v := ?_) rfl (by kernel_rfl) (by kernel_rfl) (by kernel_rfl) (fun _ _ _ h => h) (by rfl) ?_ (by assumption) ?_
          rotate_left
          · (intro w hSw; (try dsimp only at hSw); go_simp; (try with_reducible rfl))
          try simp only [Act.put, List.setIfInBounds_toArray, List.set_cons_zero, List.set_cons_succ]
          refine held_take (i := 1) (v := ?_) rfl (by kernel_rfl) (by kernel_rfl) (by kernel_rfl) (fun _ _ _ h => h) (by rfl) ?_ (by assumption) ?_
          rotate_left
          · (intro w hSw; (try dsimp only at hSw); go_simp; (try with_reducible rfl))
          try simp only [Act.put, List.setIfInBounds_toArray, List.set_cons_zero, List.set_cons_succ]
          refine held_take (i := 2) (v := ?_) rfl (by kernel_rfl) (by kernel_rfl) (by kernel_rfl) (fun _ _ _ h => h) (by rfl) ?_ (by assumption) ?_
          rotate_left
          · (intro w hSw; (try dsimp only at hSw); go_simp; (try with_reducible rfl))
          try simp only [Act.put, List.setIfInBounds_toArray, List.set_cons_zero, List.set_cons_succ]
          refine held_skip (i := 3) rfl (by kernel_rfl) (by kernel_rfl) (by kernel_rfl) (fun _ _ _ h => h) (by rfl) (by assumption) ?_
          try simp only [Act.put, List.setIfInBounds_toArray, List.set_cons_zero, List.set_cons_succ]
          refine held_skip (i := 4) rfl (by kernel_rfl) (by kernel_rfl) (by kernel_rfl) (fun _ _ _ h => h) (by rfl) (by assumption) ?_
          try simp only [Act.put, List.setIfInBounds_toArray, List.set_cons_zero, List.set_cons_succ]
          refine held_take (i := 5) (v := ?_) rfl (by kernel_rfl) (by kernel_rfl) (by kernel_rfl) (fun _ _ _ h => h) (by rfl) ?_ (by assumption) ?_
          rotate_left
          · (intro w hSw; (try dsimp only at hSw); go_simp; (try with_reducible rfl))
          try simp only [Act.put, List.setIfInBounds_toArray, List.set_cons_zero, List.set_cons_succ]
          refine held_take (i := 6) (v := ?_) rfl (by kernel_rfl) (by kernel_rfl) (by kernel_rfl) (fun _ _ _ h => h) (by rfl) ?_ (by assumption) ?_
          rotate_left
          · (intro w hSw; (try dsimp only at hSw); go_simp; (try with_reducible rfl))
          try simp only [Act.put, List.setIfInBounds_toArray, List.set_cons_zero, List.set_cons_succ]
          refine held_take (i := 7) (v := ?_) rfl (by kernel_rfl) (by kernel_rfl) (by kernel_rfl) (fun _ _ _ h => h) (by rfl) ?_ (by assumption) ?_
          rotate_left
          · (intro w hSw; (try dsimp only at hSw); go_simp; (try with_reducible rfl))
          try simp only [Act.put, List.setIfInBounds_toArray, List.set_cons_zero, List.set_cons_succ]
          refine held_take (i := 8) (v := ?_) rfl (by kernel_rfl) (by kernel_rfl) (by kernel_rfl) (fun _ _ _ h => h) (by rfl) ?_ (by assumption) ?_
          rotate_left
          · (intro w hSw; (try dsimp only at hSw); go_simp; (try with_reducible rfl))
          try simp only [Act.put, List.setIfInBounds_toArray, List.set_cons_zero, List.set_cons_succ]
          refine held_take (i := 9) (v := ?_) rfl (by kernel_rfl) (by kernel_rfl) (by kernel_rfl) (fun _ _ _ h => h) (by rfl) ?_ (by assumption) ?_
          rotate_left
          · (intro w hSw; (try dsimp only at hSw); go_simp; (try with_reducible rfl))
          try simp only [Act.put, List.setIfInBounds_toArray, List.set_cons_zero, List.set_cons_succ]
          refine held_take (i := 10) (v := .bool q2) rfl (by kernel_rfl) (by kernel_rfl) (by kernel_rfl) (fun _ _ _ h => h) (by rfl) ?_ (by assumption) ?_
          · (intro w hSw; (try dsimp only at hSw); go_simp; (try with_reducible rfl))
          try simp only [Act.put, List.setIfInBounds_toArray, List.set_cons_zero, List.set_cons_succ]
          refine held_take (i := 11) (v := ?_) rfl (by kernel_rfl) (by kernel_rfl) (by kernel_rfl) (fun _ _ _ h => h) (by rfl) ?_ (by assumption) ?_
          rotate_left
          · (intro w hSw; (try dsimp only at hSw); go_simp; (try with_reducible rfl))
          try simp only [Act.put, List.setIfInBounds_toArray, List.set_cons_zero, List.set_cons_succ]
          refine held_take (i := 12) (v := ?_) rfl (by kernel_rfl) (by kernel_rfl) (by kernel_rfl) (fun _ _ _ h => h) (by rfl) ?_ (by assumption) ?_
          rotate_left
          · (intro w hSw; (try dsimp only at hSw); go_simp; (try with_reducible rfl))
          try simp only [Act.put, List.setIfInBounds_toArray, List.set_cons_zero, List.set_cons_succ]
          refine held_take (i := 13) (v := ?_) rfl (by kernel_rfl) (by kernel_rfl) (by kernel_rfl) (fun _ _ _ h => h) (by rfl) ?_ (by assumption) ?_
          rotate_left
          · (intro w hSw; (try dsimp only at hSw); go_simp; (try with_reducible rfl))
          try simp only [Act.put, List.setIfInBounds_toArray, List.set_cons_zero, List.set_cons_succ]
          refine held_take (i := 14) (v := ?_) rfl (by kernel_rfl) (by kernel_rfl) (by kernel_rfl) (fun _ _ _ h => h) (by rfl) ?_ (by assumption) ?_
          rotate_left
          · (intro w hSw; (try dsimp only at hSw); go_simp; (try with_reducible rfl))
          try simp only [Act.put, List.setIfInBounds_toArray, List.set_cons_zero, List.set_cons_succ]
          refine held_take (i := 15) (v := ?_) rfl (by kernel_rfl) (by kernel_rfl) (by kernel_rfl) (fun _ _ _ h => h) (by rfl) ?_ (by assumption) ?_
          rotate_left
          · (intro w hSw; (try dsimp only at hSw); go_simp; (try with_reducible rfl))
          try simp only [Act.put, List.setIfInBounds_toArray, List.set_cons_zero, List.set_cons_succ]
          refine held_take (i := 17) (v := ?_) rfl (by kernel_rfl) (by kernel_rfl) (by kernel_rfl) (fun _ _ _ h => h) (by rfl) ?_ (by assumption) ?_
          rotate_left
          · (intro w hSw; (try dsimp only at hSw); go_simp; (try with_reducible rfl))
          try simp only [Act.put, List.setIfInBounds_toArray, List.set_cons_zero, List.set_cons_succ]
          refine wpAnyH_ready (rs := [16, 20]) (by kernel_rfl) (by simp) ?_
          refine held_cons (i := 16) rfl (fun K hK => ?_) (held_cons (i := 20) rfl (fun K hK => ?_) AllReadyH.nil)
          · go_simp
            (first
              | (go_at_call 98; (with_reducible refine Calls.mono (heads_exact _) ?_); rintro e w2 ⟨rfl, rfl⟩)
              | (go_at_call 96; (with_reducible refine Calls.mono Ha.out ?_); rintro e w3 ⟨rfl, rfl⟩)
              | (go_at_call 96; (with_reducible refine Calls.mono Hb.out ?_); rintro e w3 ⟨rfl, rfl⟩)
              | (go_at_call 96; (with_reducible refine Calls.mono Hc.out ?_); rintro e w3 ⟨rfl, rfl⟩))
            go_wp2_with fail
            refine hK.out _ _ ?_ (fun hHeld => ?_)
            · (try dsimp only)
              (first | assumption | exact HS5.out | (with_reducible exact HCe.out _ (Below.drew (Below.refl _ _))) | (with_reducible exact HCe.out _ (Below.drew (s_four (by assumption)))) | (with_reducible exact HCe.out _ (below_alloc (s_four (by assumption)) _)) | (with_reducible exact HCe.out _ (Below.drew (below_alloc (below_alloc (Below.refl _ _) _) _))))
            clear hK K
            try simp only [Act.put, List.setIfInBounds_toArray, List.set_cons_zero, List.set_cons_succ]
            refine wpAnyH_ready (rs := [18, 20]) (by kernel_rfl) (by simp) ?_
            refine held_cons (i := 18) rfl (fun K hK => ?_) (held_cons (i := 20) rfl (fun K hK => ?_) AllReadyH.nil)
            · go_simp
              (first
                | (go_at_call 98; (with_reducible refine Calls.mono (heads_exact _) ?_); rintro e w2 ⟨rfl, rfl⟩)
                | (go_at_call 96; (with_reducible refine Calls.mono Ha.out ?_); rintro e w3 ⟨rfl, rfl⟩)
                | (go_at_call 96; (with_reducible refine Calls.mono Hb.out ?_); rintro e w3 ⟨rfl, rfl⟩)
                | (go_at_call 96; (with_reducible refine Calls.mono Hc.out ?_); rintro e w3 ⟨rfl, rfl⟩))
              go_wp2_with fail
              refine hK.out _ _ ?_ (fun hHeld => ?_)
              · (try dsimp only)
                (first | assumption | exact HS5.out | (with_reducible exact HCe.out _ (Below.drew (Below.refl _ _))) | (with_reducible exact HCe.out _ (Below.drew (s_four (by assumption)))) | (with_reducible exact HCe.out _ (below_alloc (s_four (by assumption)) _)) | (with_reducible exact HCe.out _ (Below.drew (below_alloc (below_alloc (Below.refl _ _) _) _))))
              clear hK K
              try simp only [Act.put, List.setIfInBounds_toArray, List.set_cons_zero, List.set_cons_succ]
              refine held_take (i := 19) (v := ?_) rfl (by kernel_rfl) (by kernel_rfl) (by kernel_rfl) (fun _ _ _ h => h) (by rfl) ?_ (by assumption) ?_
              rotate_left
              · (intro w hSw; (try dsimp only at hSw); go_simp; (try with_reducible rfl))
              try simp only [Act.put, List.setIfInBounds_toArray, List.set_cons_zero, List.set_cons_succ]
              refine wpAnyH_ready (rs := [20]) (by kernel_rfl) (by simp) ?_
              refine held_cons (i := 20) rfl (fun K hK => ?_) AllReadyH.nil
              · go_simp
                refine hK.out _ _ ?_ (fun hHeld => ?_)
                · (try dsimp only)
                  (first | assumption | exact HS5.out | (with_reducible exact HCe.out _ (Below.drew (Below.refl _ _))) | (with_reducible exact HCe.out _ (Below.drew (s_four (by assumption)))) | (with_reducible exact HCe.out _ (below_alloc (s_four (by assumption)) _)) | (with_reducible exact HCe.out _ (Below.drew (below_alloc (below_alloc (Below.refl _ _) _) _))))
                clear hK K
                try simp only [Act.put, List.setIfInBounds_toArray, List.set_cons_zero, List.set_cons_succ]
                refine wpAnyH_ready (rs := [21]) (by kernel_rfl) (by simp) ?_
                refine held_cons (i := 21) rfl (fun K hK => ?_) AllReadyH.nil
                · go_simp
                  refine hK.out _ _ ?_ (fun hHeld => ?_)
                  · (try dsimp only)
                    (first | assumption | exact HS5.out | (with_reducible exact HCe.out _ (Below.drew (Below.refl _ _))) | (with_reducible exact HCe.out _ (Below.drew (s_four (by assumption)))) | (with_reducible exact HCe.out _ (below_alloc (s_four (by assumption)) _)) | (with_reducible exact HCe.out _ (Below.drew (below_alloc (below_alloc (Below.refl _ _) _) _))))
                  clear hK K
                  try simp only [Act.put, List.setIfInBounds_toArray, List.set_cons_zero, List.set_cons_succ]
                  refine wpAnyH_done (by kernel_rfl) ?_ _
                  go_wp2_with fail
                  go_meet
                  first
                    | exact ⟨_, rfl, Nat.le_succ _, heap_dr (heap_nw (by simp)), Below.drew (below_alloc (below_alloc (Below.refl _ _) _) _)⟩
                    | exact ⟨_, rfl, Nat.le_refl _, heap_dr (heap_up (heap_nw rfl)), Below.drew (below_alloc (below_alloc (Below.refl _ _) _) _)⟩
            · go_simp
              refine hK.out _ _ ?_ (fun hHeld => ?_)
              · (try dsimp only)
                (first | assumption | exact HS5.out | (with_reducible exact HCe.out _ (Below.drew (Below.refl _ _))) | (with_reducible exact HCe.out _ (Below.drew (s_four (by assumption)))) | (with_reducible exact HCe.out _ (below_alloc (s_four (by assumption)) _)) | (with_reducible exact HCe.out _ (Below.drew (below_alloc (below_alloc (Below.refl _ _) _) _))))
              clear hK K
              try simp only [Act.put, List.setIfInBounds_toArray, List.set_cons_zero, List.set_cons_succ]
              refine wpAnyH_ready (rs := [18]) (by kernel_rfl) (by simp) ?_
              refine held_cons (i := 18) rfl (fun K hK => ?_) AllReadyH.nil
              · go_simp
                (first
                  | (go_at_call 98; (with_reducible refine Calls.mono (heads_exact _) ?_); rintro e w2 ⟨rfl, rfl⟩)
                  | (go_at_call 96; (with_reducible refine Calls.mono Ha.out ?_); rintro e w3 ⟨rfl, rfl⟩)
                  | (go_at_call 96; (with_reducible refine Calls.mono Hb.out ?_); rintro e w3 ⟨rfl, rfl⟩)
                  | (go_at_call 96; (with_reducible refine Calls.mono Hc.out ?_); rintro e w3 ⟨rfl, rfl⟩))
                go_wp2_with fail
                refine hK.out _ _ ?_ (fun hHeld => ?_)
                · (try dsimp only)
                  (first | assumption | exact HS5.out | (with_reducible exact HCe.out _ (Below.drew (Below.refl _ _))) | (with_reducible exact HCe.out _ (Below.drew (s_four (by assumption)))) | (with_reducible exact HCe.out _ (below_alloc (s_four (by assumption)) _)) | (with_reducible exact HCe.out _ (Below.drew (below_alloc (below_alloc (Below.refl _ _) _) _))))
                clear hK K
                try simp only [Act.put, List.setIfInBounds_toArray, List.set_cons_zero, List.set_cons_succ]
                refine held_take (i := 19) (v := ?_) rfl (by kernel_rfl) (by kernel_rfl) (by kernel_rfl) (fun _ _ _ h => h) (by rfl) ?_ (by assumption) ?_
                rotate_left
                · (intro w hSw; (try dsimp only at hSw); go_simp; (try with_reducible rfl))
                try simp only [Act.put, List.setIfInBounds_toArray, List.set_cons_zero, List.set_cons_succ]
                refine wpAnyH_ready (rs := [21]) (by kernel_rfl) (by simp) ?_
                refine held_cons (i := 21) rfl (fun K hK => ?_) AllReadyH.nil
                · go_simp
                  refine hK.out _ _ ?_ (fun hHeld => ?_)
                  · (try dsimp only)
                    (first | assumption | exact HS5.out | (with_reducible exact HCe.out _ (Below.drew (Below.refl _ _))) | (with_reducible exact HCe.out _ (Below.drew (s_four (by assumption)))) | (with_reducible exact HCe.out _ (below_alloc (s_four (by assumption)) _)) | (with_reducible exact HCe.out _ (Below.drew (below_alloc (below_alloc (Below.refl _ _) _) _))))
                  clear hK K
                  try simp only [Act.put, List.setIfInBounds_toArray, List.set_cons_zero, List.set_cons_succ]
                  refine wpAnyH_done (by kernel_rfl) ?_ _
                  go_wp2_with fail
                  go_meet
                  first
                    | exact ⟨_, rfl, Nat.le_succ _, heap_dr (heap_nw (by simp)), Below.drew (below_alloc (below_alloc (Below.refl _ _) _) _)⟩
                    | exact ⟨_, rfl, Nat.le_refl _, heap_dr (heap_up (heap_nw rfl)), Below.drew (below_alloc (below_alloc (Below.refl _ _) _) _)⟩
          · go_simp
            refine hK.out _ _ ?_ (fun hHeld => ?_)
            · (try dsimp only)
              (first | assumption | exact HS5.out | (with_reducible exact HCe.out _ (Below.drew (Below.refl _ _))) | (with_reducible exact HCe.out _ (Below.drew (s_four (by assumption)))) | (with_reducible exact HCe.out _ (below_alloc (s_four (by assumption)) _)) | (with_reducible exact HCe.out _ (Below.drew (below_alloc (below_alloc (Below.refl _ _) _) _))))
            clear hK K
            try simp only [Act.put, List.setIfInBounds_toArray, List.set_cons_zero, List.set_cons_succ]
            refine wpAnyH_ready (rs := [16]) (by kernel_rfl) (by simp) ?_
            refine held_cons (i := 16) rfl (fun K hK => ?_) AllReadyH.nil
            · go_simp
              (first
                | (go_at_call 98; (with_reducible refine Calls.mono (heads_exact _) ?_); rintro e w2 ⟨rfl, rfl⟩)
                | (go_at_call 96; (with_reducible refine Calls.mono Ha.out ?_); rintro e w3 ⟨rfl, rfl⟩)
                | (go_at_call 96; (with_reducible refine Calls.mono Hb.out ?_); rintro e w3 ⟨rfl, rfl⟩)
                | (go_at_call 96; (with_reducible refine Calls.mono Hc.out ?_); rintro e w3 ⟨rfl, rfl⟩))
              go_wp2_with fail
              refine hK.out _ _ ?_ (fun hHeld => ?_)
              · (try dsimp only)
                (first | assumption | exact HS5.out | (with_reducible exact HCe.out _ (Below.drew (Below.refl _ _))) | (with_reducible exact HCe.out _ (Below.drew (s_four (by assumption)))) | (with_reducible exact HCe.out _ (below_alloc (s_four (by assumption)) _)) | (with_reducible exact HCe.out _ (Below.drew (below_alloc (below_alloc (Below.refl _ _) _) _))))
              clear hK K
              try simp only [Act.put, List.setIfInBounds_toArray, List.set_cons_zero, List.set_cons_succ]
              refine wpAnyH_ready (rs := [18]) (by kernel_rfl) (by simp) ?_
              refine held_cons (i := 18) rfl (fun K hK => ?_) AllReadyH.nil
              · go_simp
                (first
                  | (go_at_call 98; (with_reducible refine Calls.mono (heads_exact _) ?_); rintro e w2 ⟨rfl, rfl⟩)
                  | (go_at_call 96; (with_reducible refine Calls.mono Ha.out ?_); rintro e w3 ⟨rfl, rfl⟩)
                  | (go_at_call 96; (with_reducible refine Calls.mono Hb.out ?_); rintro e w3 ⟨rfl, rfl⟩)
                  | (go_at_call 96; (with_reducible refine Calls.mono Hc.out ?_); rintro e w3 ⟨rfl, rfl⟩))
                go_wp2_with fail
                refine hK.out _ _ ?_ (fun hHeld => ?_)
                · (try dsimp only)
                  (first | assumption | exact HS5.out | (with_reducible exact HCe.out _ (Below.drew (Below.refl _ _))) | (with_reducible exact HCe.out _ (Below.drew (s_four (by assumption)))) | (with_reducible exact HCe.out _ (below_alloc (s_four (by assumption)) _)) | (with_reducible exact HCe.out _ (Below.drew (below_alloc (below_alloc (Below.refl _ _) _) _))))
                clear hK K
                try simp only [Act.put, List.setIfInBounds_toArray, List.set_cons_zero, List.set_cons_succ]
                refine held_take (i := 19) (v := ?_) rfl (by kernel_rfl) (by kernel_rfl) (by kernel_rfl) (fun _ _ _ h => h) (by rfl) ?_ (by assumption) ?_
                rotate_left
                · (intro w hSw; (try dsimp only at hSw); go_simp; (try with_reducible rfl))
                try simp only [Act.put, List.setIfInBounds_toArray, List.set_cons_zero, List.set_cons_succ]
                refine wpAnyH_ready (rs := [21]) (by kernel_rfl) (by simp) ?_
                refine held_cons (i := 21) rfl (fun K hK => ?_) AllReadyH.nil
                · go_simp
                  refine hK.out _ _ ?_ (fun hHeld => ?_)
                  · (try dsimp only)
                    (first | assumption | exact HS5.out | (with_reducible exact HCe.out _ (Below.drew (Below.refl _ _))) | (with_reducible exact HCe.out _ (Below.drew (s_four (by assumption)))) | (with_reducible exact HCe.out _ (below_alloc (s_four (by assumption)) _)) | (with_reducible exact HCe.out _ (Below.drew (below_alloc (below_alloc (Below.refl _ _) _) _))))
                  clear hK K
                  try simp only [Act.put, List.setIfInBounds_toArray, List.set_cons_zero, List.set_cons_succ]
                  refine wpAnyH_done (by kernel_rfl) ?_ _
                  go_wp2_with fail
                  go_meet
                  first
                    | exact ⟨_, rfl, Nat.le_succ _, heap_dr (heap_nw (by simp)), Below.drew (below_alloc (below_alloc (Below.refl _ _) _) _)⟩
                    | exact ⟨_, rfl, Nat.le_refl _, heap_dr (heap_up (heap_nw rfl)), Below.drew (below_alloc (below_alloc (Below.refl _ _) _) _)⟩
        | true =>
          refine wp_region_held_drew (S := (fun w' => w'.cell? ⟨w.heap.size, 0, none⟩ = some (.bool true) ∧ w'.cell? ⟨w.heap.size, 1, none⟩ = some (.bool true) ∧ w'.cell? ⟨w.heap.size, 2, none⟩ = some (.bool item) ∧ w'.cell? ⟨w.heap.size, 3, none⟩ = some (.bool pair) ∧ Below wb.heap.size wb w')) (by kernel_rfl) ?_ (fun hHeld => ?_)
          · exact HCe.out _ (Below.drew (Below.refl _ _))
          refine held_take (i := 0) (v := ?_) rfl (by kernel_rfl) (by kernel_rfl) (by kernel_rfl) (fun _ _ _ h => h) (by rfl) ?_ (by assumption) ?_
          rotate_left
          · (intro w hSw; (try dsimp only at hSw); go_simp; (try with_reducible rfl))
          try simp only [Act.put, List.setIfInBounds_toArray, List.set_cons_zero, List.set_cons_succ]
          refine held_take (i := 1) (v := ?_) rfl (by kernel_rfl) (by kernel_rfl) (by kernel_rfl) (fun _ _ _ h => h) (by rfl) ?_ (by assumption) ?_
          rotate_left
          · (intro w hSw; (try dsimp only at hSw); go_simp; (try with_reducible rfl))
          try simp only [Act.put, List.setIfInBounds_toArray, List.set_cons_zero, List.set_cons_succ]
          refine held_take (i := 2) (v := ?_) rfl (by kernel_rfl) (by kernel_rfl) (by kernel_rfl) (fun _ _ _ h => h) (by rfl) ?_ (by assumption) ?_
          rotate_left
          · (intro w hSw; (try dsimp only at hSw); go_simp; (try with_reducible rfl))
          try simp only [Act.put, List.setIfInBounds_toArray, List.set_cons_zero, List.set_cons_succ]
          refine held_skip (i := 3) rfl (by kernel_rfl) (by kernel_rfl) (by kernel_rfl) (fun _ _ _ h => h) (by rfl) (by assumption) ?_
          try simp only [Act.put, List.setIfInBounds_toArray, List.set_cons_zero, List.set_cons_succ]
          refine held_skip (i := 4) rfl (by kernel_rfl) (by kernel_rfl) (by kernel_rfl) (fun _ _ _ h => h) (by rfl) (by assumption) ?_
          try simp only [Act.put, List.setIfInBounds_toArray, List.set_cons_zero, List.set_cons_succ]
          refine held_take (i := 5) (v := ?_) rfl (by kernel_rfl) (by kernel_rfl) (by kernel_rfl) (fun _ _ _ h => h) (by rfl) ?_ (by assumption) ?_
          rotate_left
          · (intro w hSw; (try dsimp only at hSw); go_simp; (try with_reducible rfl))
          try simp only [Act.put, List.setIfInBounds_toArray, List.set_cons_zero, List.set_cons_succ]
          refine held_take (i := 6) (v := ?_) rfl (by kernel_rfl) (by kernel_rfl) (by kernel_rfl) (fun _ _ _ h => h) (by rfl) ?_ (by assumption) ?_
          rotate_left
          · (intro w hSw; (try dsimp only at hSw); go_simp; (try with_reducible rfl))
          try simp only [Act.put, List.setIfInBounds_toArray, List.set_cons_zero, List.set_cons_succ]
          refine held_take (i := 7) (v := ?_) rfl (by kernel_rfl) (by kernel_rfl) (by kernel_rfl) (fun _ _ _ h => h) (by rfl) ?_ (by assumption) ?_
          rotate_left
          · (intro w hSw; (try dsimp only at hSw); go_simp; (try with_reducible rfl))
          try simp only [Act.put, List.setIfInBounds_toArray, List.set_cons_zero, List.set_cons_succ]
          refine held_take (i := 8) (v := ?_) rfl (by kernel_rfl) (by kernel_rfl) (by kernel_rfl) (fun _ _ _ h => h) (by rfl) ?_ (by assumption) ?_
          rotate_left
          · (intro w hSw; (try dsimp only at hSw); go_simp; (try with_reducible rfl))
          try simp only [Act.put, List.setIfInBounds_toArray, List.set_cons_zero, List.set_cons_succ]
          refine held_skip (i := 9) rfl (by kernel_rfl) (by kernel_rfl) (by kernel_rfl) (fun _ _ _ h => h) (by rfl) (by assumption) ?_
          try simp only [Act.put, List.setIfInBounds_toArray, List.set_cons_zero, List.set_cons_succ]
          refine held_skip (i := 10) rfl (by kernel_rfl) (by kernel_rfl) (by kernel_rfl) (fun _ _ _ h => h) (by rfl) (by assumption) ?_
          try simp only [Act.put, List.setIfInBounds_toArray, List.set_cons_zero, List.set_cons_succ]
          refine held_take (i := 11) (v := ?_) rfl (by kernel_rfl) (by kernel_rfl) (by kernel_rfl) (fun _ _ _ h => h) (by rfl) ?_ (by assumption) ?_
          rotate_left
          · (intro w hSw; (try dsimp only at hSw); go_simp; (try with_reducible rfl))
          try simp only [Act.put, List.setIfInBounds_toArray, List.set_cons_zero, List.set_cons_succ]
          refine held_take (i := 12) (v := ?_) rfl (by kernel_rfl) (by kernel_rfl) (by kernel_rfl) (fun _ _ _ h => h) (by rfl) ?_ (by assumption) ?_
          rotate_left
          · (intro w hSw; (try dsimp only at hSw); go_simp; (try with_reducible rfl))
          try simp only [Act.put, List.setIfInBounds_toArray, List.set_cons_zero, List.set_cons_succ]
          refine held_take (i := 13) (v := ?_) rfl (by kernel_rfl) (by kernel_rfl) (by kernel_rfl) (fun _ _ _ h => h) (by rfl) ?_ (by assumption) ?_
          rotate_left
          · (intro w hSw; (try dsimp only at hSw); go_simp; (try with_reducible rfl))
          try simp only [Act.put, List.setIfInBounds_toArray, List.set_cons_zero, List.set_cons_succ]
          refine held_take (i := 14) (v := ?_) rfl (by kernel_rfl) (by kernel_rfl) (by kernel_rfl) (fun _ _ _ h => h) (by rfl) ?_ (by assumption) ?_
          rotate_left
          · (intro w hSw; (try dsimp only at hSw); go_simp; (try with_reducible rfl))
          try simp only [Act.put, List.setIfInBounds_toArray, List.set_cons_zero, List.set_cons_succ]
          refine held_take (i := 15) (v := ?_) rfl (by kernel_rfl) (by kernel_rfl) (by kernel_rfl) (fun _ _ _ h => h) (by rfl) ?_ (by assumption) ?_
          rotate_left
          · (intro w hSw; (try dsimp only at hSw); go_simp; (try with_reducible rfl))
          try simp only [Act.put, List.setIfInBounds_toArray, List.set_cons_zero, List.set_cons_succ]
          refine held_take (i := 17) (v := ?_) rfl (by kernel_rfl) (by kernel_rfl) (by kernel_rfl) (fun _ _ _ h => h) (by rfl) ?_ (by assumption) ?_
          rotate_left
          · (intro w hSw; (try dsimp only at hSw); go_simp; (try with_reducible rfl))
          try simp only [Act.put, List.setIfInBounds_toArray, List.set_cons_zero, List.set_cons_succ]
          refine wpAnyH_ready (rs := [16, 20]) (by kernel_rfl) (by simp) ?_
          refine held_cons (i := 16) rfl (fun K hK => ?_) (held_cons (i := 20) rfl (fun K hK => ?_) AllReadyH.nil)
          · go_simp
            (first
              | (go_at_call 98; (with_reducible refine Calls.mono (heads_exact _) ?_); rintro e w2 ⟨rfl, rfl⟩)
              | (go_at_call 96; (with_reducible refine Calls.mono Ha.out ?_); rintro e w3 ⟨rfl, rfl⟩)
              | (go_at_call 96; (with_reducible refine Calls.mono Hb.out ?_); rintro e w3 ⟨rfl, rfl⟩)
              | (go_at_call 96; (with_reducible refine Calls.mono Hc.out ?_); rintro e w3 ⟨rfl, rfl⟩))
            go_wp2_with fail
            refine hK.out _ _ ?_ (fun hHeld => ?_)
            · (try dsimp only)
              (first | assumption | exact HS5.out | (with_reducible exact HCe.out _ (Below.drew (Below.refl _ _))) | (with_reducible exact HCe.out _ (Below.drew (s_four (by assumption)))) | (with_reducible exact HCe.out _ (below_alloc (s_four (by assumption)) _)) | (with_reducible exact HCe.out _ (Below.drew (below_alloc (below_alloc (Below.refl _ _) _) _))))
            clear hK K
            try simp only [Act.put, List.setIfInBounds_toArray, List.set_cons_zero, List.set_cons_succ]
            refine wpAnyH_ready (rs := [18, 20]) (by kernel_rfl) (by simp) ?_
            refine held_cons (i := 18) rfl (fun K hK => ?_) (held_cons (i := 20) rfl (fun K hK => ?_) AllReadyH.nil)
            · go_simp
              (first
                | (go_at_call 98; (with_reducible refine Calls.mono (heads_exact _) ?_); rintro e w2 ⟨rfl, rfl⟩)
                | (go_at_call 96; (with_reducible refine Calls.mono Ha.out ?_); rintro e w3 ⟨rfl, rfl⟩)
                | (go_at_call 96; (with_reducible refine Calls.mono Hb.out ?_); rintro e w3 ⟨rfl, rfl⟩)
                | (go_at_call 96; (with_reducible refine Calls.mono Hc.out ?_); rintro e w3 ⟨rfl, rfl⟩))
              go_wp2_with fail
              refine hK.out _ _ ?_ (fun hHeld => ?_)
              · (try dsimp only)
                (first | assumption | exact HS5.out | (with_reducible exact HCe.out _ (Below.drew (Below.refl _ _))) | (with_reducible exact HCe.out _ (Below.drew (s_four (by assumption)))) | (with_reducible exact HCe.out _ (below_alloc (s_four (by assumption)) _)) | (with_reducible exact HCe.out _ (Below.drew (below_alloc (below_alloc (Below.refl _ _) _) _))))
              clear hK K
              try simp only [Act.put, List.setIfInBounds_toArray, List.set_cons_zero, List.set_cons_succ]
              refine held_take (i := 19) (v := ?_) rfl (by kernel_rfl) (by kernel_rfl) (by kernel_rfl) (fun _ _ _ h => h) (by rfl) ?_ (by assumption) ?_
              rotate_left
              · (intro w hSw; (try dsimp only at hSw); go_simp; (try with_reducible rfl))
              try simp only [Act.put, List.setIfInBounds_toArray, List.set_cons_zero, List.set_cons_succ]
              refine wpAnyH_ready (rs := [20]) (by kernel_rfl) (by simp) ?_
              refine held_cons (i := 20) rfl (fun K hK => ?_) AllReadyH.nil
              · go_simp
                refine hK.out _ _ ?_ (fun hHeld => ?_)
                · (try dsimp only)
                  (first | assumption | exact HS5.out | (with_reducible exact HCe.out _ (Below.drew (Below.refl _ _))) | (with_reducible exact HCe.out _ (Below.drew (s_four (by assumption)))) | (with_reducible exact HCe.out _ (below_alloc (s_four (by assumption)) _)) | (with_reducible exact HCe.out _ (Below.drew (below_alloc (below_alloc (Below.refl _ _) _) _))))
                clear hK K
                try simp only [Act.put, List.setIfInBounds_toArray, List.set_cons_zero, List.set_cons_succ]
                refine wpAnyH_ready (rs := [21]) (by kernel_rfl) (by simp) ?_
                refine held_cons (i := 21) rfl (fun K hK => ?_) AllReadyH.nil
                · go_simp
                  refine hK.out _ _ ?_ (fun hHeld => ?_)
                  · (try dsimp only)
                    (first | assumption | exact HS5.out | (with_reducible exact HCe.out _ (Below.drew (Below.refl _ _))) | (with_reducible exact HCe.out _ (Below.drew (s_four (by assumption)))) | (with_reducible exact HCe.out _ (below_alloc (s_four (by assumption)) _)) | (with_reducible exact HCe.out _ (Below.drew (below_alloc (below_alloc (Below.refl _ _) _) _))))
                  clear hK K
                  try simp only [Act.put, List.setIfInBounds_toArray, List.set_cons_zero, List.set_cons_succ]
                  refine wpAnyH_done (by kernel_rfl) ?_ _
                  go_wp2_with fail
                  go_meet
                  first
                    | exact ⟨_, rfl, Nat.le_succ _, heap_dr (heap_nw (by simp)), Below.drew (below_alloc (below_alloc (Below.refl _ _) _) _)⟩
                    | exact ⟨_, rfl, Nat.le_refl _, heap_dr (heap_up (heap_nw rfl)), Below.drew (below_alloc (below_alloc (Below.refl _ _) _) _)⟩
            · go_simp
              refine hK.out _ _ ?_ (fun hHeld => ?_)
              · (try dsimp only)
                (first | assumption | exact HS5.out | (with_reducible exact HCe.out _ (Below.drew (Below.refl _ _))) | (with_reducible exact HCe.out _ (Below.drew (s_four (by assumption)))) | (with_reducible exact HCe.out _ (below_alloc (s_four (by assumption)) _)) | (with_reducible exact HCe.out _ (Below.drew (below_alloc (below_alloc (Below.refl _ _) _) _))))
              clear hK K
              try simp only [Act.put, List.setIfInBounds_toArray, List.set_cons_zero, List.set_cons_succ]
              refine wpAnyH_ready (rs := [18]) (by kernel_rfl) (by simp) ?_
              refine held_cons (i := 18) rfl (fun K hK => ?_) AllReadyH.nil
              · go_simp
                (first
                  | (go_at_call 98; (with_reducible refine Calls.mono (heads_exact _) ?_); rintro e w2 ⟨rfl, rfl⟩)
                  | (go_at_call 96; (with_reducible refine Calls.mono Ha.out ?_); rintro e w3 ⟨rfl, rfl⟩)
                  | (go_at_call 96; (with_reducible refine Calls.mono Hb.out ?_); rintro e w3 ⟨rfl, rfl⟩)
                  | (go_at_call 96; (with_reducible refine Calls.mono Hc.out ?_); rintro e w3 ⟨rfl, rfl⟩))
                go_wp2_with fail
                refine hK.out _ _ ?_ (fun hHeld => ?_)
                · (try dsimp only)
                  (first | assumption | exact HS5.out | (with_reducible exact HCe.out _ (Below.drew (Below.refl _ _))) | (with_reducible exact HCe.out _ (Below.drew (s_four (by assumption)))) | (with_reducible exact HCe.out _ (below_alloc (s_four (by assumption)) _)) | (with_reducible exact HCe.out _ (Below.drew (below_alloc (below_alloc (Below.refl _ _) _) _))))
                clear hK K
                try simp only [Act.put, List.setIfInBounds_toArray, List.set_cons_zero, List.set_cons_succ]
                refine held_take (i := 19) (v := ?_) rfl (by kernel_rfl) (by kernel_rfl) (by kernel_rfl) (fun _ _ _ h => h) (by rfl) ?_ (by assumption) ?_
                rotate_left
                · (intro w hSw; (try dsimp only at hSw); go_simp; (try with_reducible rfl))
                try simp only [Act.put, List.setIfInBounds_toArray, List.set_cons_zero, List.set_cons_succ]
                refine wpAnyH_ready (rs := [21]) (by kernel_rfl) (by simp) ?_
                refine held_cons (i := 21) rfl (fun K hK => ?_) AllReadyH.nil
                · go_simp
                  refine hK.out _ _ ?_ (fun hHeld => ?_)
                  · (try dsimp only)
                    (first | assumption | exact HS5.out | (with_reducible exact HCe.out _ (Below.drew (Below.refl _ _))) | (with_reducible exact HCe.out _ (Below.drew (s_four (by assumption)))) | (with_reducible exact HCe.out _ (below_alloc (s_four (by assumption)) _)) | (with_reducible exact HCe.out _ (Below.drew (below_alloc (below_alloc (Below.refl _ _) _) _))))
                  clear hK K
                  try simp only [Act.put, List.setIfInBounds_toArray, List.set_cons_zero, List.set_cons_succ]
                  refine wpAnyH_done (by kernel_rfl) ?_ _
                  go_wp2_with fail
                  go_meet
                  first
                    | exact ⟨_, rfl, Nat.le_succ _, heap_dr (heap_nw (by simp)), Below.drew (below_alloc (below_alloc (Below.refl _ _) _) _)⟩
                    | exact ⟨_, rfl, Nat.le_refl _, heap_dr (heap_up (heap_nw rfl)), Below.drew (below_alloc (below_alloc (Below.refl _ _) _) _)⟩
          · go_simp
            refine hK.out _ _ ?_ (fun hHeld => ?_)
            · (try dsimp only)
              (first | assumption | exact HS5.out | (with_reducible exact HCe.out _ (Below.drew (Below.refl _ _))) | (with_reducible exact HCe.out _ (Below.drew (s_four (by assumption)))) | (with_reducible exact HCe.out _ (below_alloc (s_four (by assumption)) _)) | (with_reducible exact HCe.out _ (Below.drew (below_alloc (below_alloc (Below.refl _ _) _) _))))
            clear hK K
            try simp only [Act.put, List.setIfInBounds_toArray, List.set_cons_zero, List.set_cons_succ]
            refine wpAnyH_ready (rs := [16]) (by kernel_rfl) (by simp) ?_
            refine held_cons (i := 16) rfl (fun K hK => ?_) AllReadyH.nil
            · go_simp
              (first
                | (go_at_call 98; (with_reducible refine Calls.mono (heads_exact _) ?_); rintro e w2 ⟨rfl, rfl⟩)
                | (go_at_call 96; (with_reducible refine Calls.mono Ha.out ?_); rintro e w3 ⟨rfl, rfl⟩)
                | (go_at_call 96; (with_reducible refine Calls.mono Hb.out ?_); rintro e w3 ⟨rfl, rfl⟩)
                | (go_at_call 96; (with_reducible refine Calls.mono Hc.out ?_); rintro e w3 ⟨rfl, rfl⟩))
              go_wp2_with fail
              refine hK.out _ _ ?_ (fun hHeld => ?_)
              · (try dsimp only)
                (first | assumption | exact HS5.out | (with_reducible exact HCe.out _ (Below.drew (Below.refl _ _))) | (with_reducible exact HCe.out _ (Below.drew (s_four (by assumption)))) | (with_reducible exact HCe.out _ (below_alloc (s_four (by assumption)) _)) | (with_reducible exact HCe.out _ (Below.drew (below_alloc (below_alloc (Below.refl _ _) _) _))))
              clear hK K
              try simp only [Act.put, List.setIfInBounds_toArray, List.set_cons_zero, List.set_cons_succ]
              refine wpAnyH_ready (rs := [18]) (by kernel_rfl) (by simp) ?_
              refine held_cons (i := 18) rfl (fun K hK => ?_) AllReadyH.nil
              · go_simp
                (first
                  | (go_at_call 98; (with_reducible refine Calls.mono (heads_exact _) ?_); rintro e w2 ⟨rfl, rfl⟩)
                  | (go_at_call 96; (with_reducible refine Calls.mono Ha.out ?_); rintro e w3 ⟨rfl, rfl⟩)
                  | (go_at_call 96; (with_reducible refine Calls.mono Hb.out ?_); rintro e w3 ⟨rfl, rfl⟩)
                  | (go_at_call 96; (with_reducible refine Calls.mono Hc.out ?_); rintro e w3 ⟨rfl, rfl⟩))
                go_wp2_with fail
                refine hK.out _ _ ?_ (fun hHeld => ?_)
                · (try dsimp only)
                  (first | assumption | exact HS5.out | (with_reducible exact HCe.out _ (Below.drew (Below.refl _ _))) | (with_reducible exact HCe.out _ (Below.drew (s_four (by assumption)))) | (with_reducible exact HCe.out _ (below_alloc (s_four (by assumption)) _)) | (with_reducible exact HCe.out _ (Below.drew (below_alloc (below_alloc (Below.refl _ _) _) _))))
                clear hK K
                try simp only [Act.put, List.setIfInBounds_toArray, List.set_cons_zero, List.set_cons_succ]
                refine held_take (i := 19) (v := ?_) rfl (by kernel_rfl) (by kernel_rfl) (by kernel_rfl) (fun _ _ _ h => h) (by rfl) ?_ (by assumption) ?_
                rotate_left
                · (intro w hSw; (try dsimp only at hSw); go_simp; (try with_reducible rfl))
                try simp only [Act.put, List.setIfInBounds_toArray, List.set_cons_zero, List.set_cons_succ]
                refine wpAnyH_ready (rs := [21]) (by kernel_rfl) (by simp) ?_
                refine held_cons (i := 21) rfl (fun K hK => ?_) AllReadyH.nil
                · go_simp
                  refine hK.out _ _ ?_ (fun hHeld => ?_)
                  · (try dsimp only)
                    (first | assumption | exact HS5.out | (with_reducible exact HCe.out _ (Below.drew (Below.refl _ _))) | (with_reducible exact HCe.out _ (Below.drew (s_four (by assumption)))) | (with_reducible exact HCe.out _ (below_alloc (s_four (by assumption)) _)) | (with_reducible exact HCe.out _ (Below.drew (below_alloc (below_alloc (Below.refl _ _) _) _))))
                  clear hK K
                  try simp only [Act.put, List.setIfInBounds_toArray, List.set_cons_zero, List.set_cons_succ]
                  refine wpAnyH_done (by kernel_rfl) ?_ _
                  go_wp2_with fail
                  go_meet
                  first
                    | exact ⟨_, rfl, Nat.le_succ _, heap_dr (heap_nw (by simp)), Below.drew (below_alloc (below_alloc (Below.refl _ _) _) _)⟩
                    | exact ⟨_, rfl, Nat.le_refl _, heap_dr (heap_up (heap_nw rfl)), Below.drew (below_alloc (below_alloc (Below.refl _ _) _) _)⟩
    case rest =>
      obtain ⟨x, hx⟩ : ∃ x, wc = x := ⟨_, rfl⟩
      rw [hx] at hcut ⊢
      clear hx Ha Hb Hc HS5 HCe HIn HHd
      obtain ⟨n, rfl, hnb, hny, hbx⟩ := hcut
      have hzx := hbx.size
      have hnx := (hbx.block _ (show w.heap.size + 1 < wb.heap.size by omega)).trans HN1.out
      have zy := fun i => cell_of_row x n i _ _ _ hny
      have fy : ∀ i, x.frozen? ⟨n, i, none⟩ = false := (fun i => by simp [World.frozen?, hny])
      have hne : ¬ w.heap.size + 1 = n := by omega
      have hne2 : ¬ n = w.heap.size + 1 := by omega
      have HX := Lib.hid (below_on (below_on hba HB1.out) hbx)
      have HNX := Lib.hid hnx
      have HNY := Lib.hid hny
      have hnw : w.heap.size ≤ n := by omega
      clear hbx hny hnx hba HF1 HF2 HG1 HG2 HPr F4 F5
      obtain ⟨f3, g3⟩ := F3.out
      cases rl with
      | false =>
        have h3 := of_decide_eq_false g3
        clear g3
        cases ap with
        | false =>
          cases pr with
          | false =>
            go_upto_region 8 with fail
            obtain ⟨y, hy⟩ : ∃ y, x = y := ⟨_, rfl⟩
            have hny : y.heap[n]? = some (.cells #[.bool (para || q1), .bool (link || q2), .bool item, .bool pair, .bool hb] 73 (0, 0)) := by rw [← hy]; exact HNY.out
            have hnx : y.heap[w.heap.size + 1]? = some (.cells #[.bool false, .bool false, .bool false, .bool false, .bool false] 73 (0, 0)) := by rw [← hy]; exact HNX.out
            have hbx : Below w.heap.size w y := by rw [← hy]; exact HX.out
            rw [hy]
            clear hy zy fy HX HNX HNY
            have zy := fun i => cell_of_row y n i _ _ _ hny
            have fy : ∀ i, y.frozen? ⟨n, i, none⟩ = false := (fun i => by simp [World.frozen?, hny])
            have zc := fun i => cell_of_row y (w.heap.size + 1) i _ _ _ hnx
            have fc : ∀ i, y.frozen? ⟨w.heap.size + 1, i, none⟩ = false := (fun i => by simp [World.frozen?, hnx])
            have HX := Lib.hid hbx
            have HNX := Lib.hid hnx
            clear hbx hny hnx
            cases item with
            | false =>
              cases pair with
              | false =>
                go_wp2
                (try simp only [Exit.inBlock, Exit.then])
                refine bodyPost_ret (results_cell_row rfl _ _ (w.heap.size + 1) _ _ _ _ rfl (five_cells (t := 73) (u0 := .bool false) (u1 := .bool false) (u2 := .bool false) (u3 := .bool false) (u4 := .bool false) ?_) Tryz.underlying73 rfl (by kernel_rfl)) rfl ?_
                · (repeat rw [Below.heap_setCell _ _ _ _ (show w.heap.size + 1 ≠ n from hne)])
                  exact HNX.out
                refine ⟨rfl, below_five ?_ (Nat.le_succ _)⟩
                (repeat (refine Below.setCell (p := ⟨n, _, none⟩) ?_ hnw _))
                exact HX.out
              | true =>
                go_wp2
                (try simp only [Exit.inBlock, Exit.then])
                refine bodyPost_ret (results_cell_row rfl _ _ (w.heap.size + 1) _ _ _ _ rfl (five_cells (t := 73) (u0 := .bool false) (u1 := .bool false) (u2 := .bool false) (u3 := .bool false) (u4 := .bool false) ?_) Tryz.underlying73 rfl (by kernel_rfl)) rfl ?_
                · (repeat rw [Below.heap_setCell _ _ _ _ (show w.heap.size + 1 ≠ n from hne)])
                  exact HNX.out
                refine ⟨rfl, below_five ?_ (Nat.le_succ _)⟩
                (repeat (refine Below.setCell (p := ⟨n, _, none⟩) ?_ hnw _))
                exact HX.out
            | true =>
              cases pair with
              | false =>
                go_wp2
                (try simp only [Exit.inBlock, Exit.then])
                refine bodyPost_ret (results_cell_row rfl _ _ (w.heap.size + 1) _ _ _ _ rfl (five_cells (t := 73) (u0 := .bool false) (u1 := .bool false) (u2 := .bool false) (u3 := .bool false) (u4 := .bool false) ?_) Tryz.underlying73 rfl (by kernel_rfl)) rfl ?_
                · (repeat rw [Below.heap_setCell _ _ _ _ (show w.heap.size + 1 ≠ n from hne)])
                  exact HNX.out
                refine ⟨rfl, below_five ?_ (Nat.le_succ _)⟩
                (repeat (refine Below.setCell (p := ⟨n, _, none⟩) ?_ hnw _))
                exact HX.out
              | true =>
                go_wp2
                (try simp only [Exit.inBlock, Exit.then])
                refine bodyPost_ret (results_cell_row rfl _ _ (w.heap.size + 1) _ _ _ _ rfl (five_cells (t := 73) (u0 := .bool false) (u1 := .bool false) (u2 := .bool false) (u3 := .bool false) (u4 := .bool false) ?_) Tryz.underlying73 rfl (by kernel_rfl)) rfl ?_
                · (repeat rw [Below.heap_setCell _ _ _ _ (show w.heap.size + 1 ≠ n from hne)])
                  exact HNX.out
                refine ⟨rfl, below_five ?_ (Nat.le_succ _)⟩
                (repeat (refine Below.setCell (p := ⟨n, _, none⟩) ?_ hnw _))
                exact HX.out
          | true =>
            go_upto_region 8 with fail
            obtain ⟨y, hy⟩ : ∃ y, (x.setCell ⟨n, 2, none⟩ (.bool false)) = y := ⟨_, rfl⟩
            have hny : y.heap[n]? = some (.cells #[.bool (para || q1), .bool (link || q2), .bool false, .bool pair, .bool hb] 73 (0, 0)) := by rw [← hy]; exact (row_two HNY.out _)
            have hnx : y.heap[w.heap.size + 1]? = some (.cells #[.bool false, .bool false, .bool false, .bool false, .bool false] 73 (0, 0)) := by rw [← hy]; exact (far_one HNX.out hne)
            have hbx : Below w.heap.size w y := by rw [← hy]; exact (below_one HX.out hnw _)
            rw [hy]
            clear hy zy fy HX HNX HNY
            have zy := fun i => cell_of_row y n i _ _ _ hny
            have fy : ∀ i, y.frozen? ⟨n, i, none⟩ = false := (fun i => by simp [World.frozen?, hny])
            have zc := fun i => cell_of_row y (w.heap.size + 1) i _ _ _ hnx
            have fc : ∀ i, y.frozen? ⟨w.heap.size + 1, i, none⟩ = false := (fun i => by simp [World.frozen?, hnx])
            have HX := Lib.hid hbx
            have HNX := Lib.hid hnx
            clear hbx hny hnx
            cases pair with
            | false =>
              go_wp2
              (try simp only [Exit.inBlock, Exit.then])
              refine bodyPost_ret (results_cell_row rfl _ _ (w.heap.size + 1) _ _ _ _ rfl (five_cells (t := 73) (u0 := .bool false) (u1 := .bool false) (u2 := .bool false) (u3 := .bool false) (u4 := .bool false) ?_) Tryz.underlying73 rfl (by kernel_rfl)) rfl ?_
              · (repeat rw [Below.heap_setCell _ _ _ _ (show w.heap.size + 1 ≠ n from hne)])
                exact HNX.out
              refine ⟨rfl, below_five ?_ (Nat.le_succ _)⟩
              (repeat (refine Below.setCell (p := ⟨n, _, none⟩) ?_ hnw _))
              exact HX.out
            | true =>
              go_wp2
              (try simp only [Exit.inBlock, Exit.then])
              refine bodyPost_ret (results_cell_row rfl _ _ (w.heap.size + 1) _ _ _ _ rfl (five_cells (t := 73) (u0 := .bool false) (u1 := .bool false) (u2 := .bool false) (u3 := .bool false) (u4 := .bool false) ?_) Tryz.underlying73 rfl (by kernel_rfl)) rfl ?_
              · (repeat rw [Below.heap_setCell _ _ _ _ (show w.heap.size + 1 ≠ n from hne)])
                exact HNX.out
              refine ⟨rfl, below_five ?_ (Nat.le_succ _)⟩
              (repeat (refine Below.setCell (p := ⟨n, _, none⟩) ?_ hnw _))
              exact HX.out
        | true =>
          cases pr with
          | false =>
            go_upto_region 8 with fail
            obtain ⟨y, hy⟩ : ∃ y, ((x.setCell ⟨n, 2, none⟩ (.bool false)).setCell ⟨n, 3, none⟩ (.bool false)) = y := ⟨_, rfl⟩
            have hny : y.heap[n]? = some (.cells #[.bool (para || q1), .bool (link || q2), .bool false, .bool false, .bool hb] 73 (0, 0)) := by rw [← hy]; exact (row_three (row_two HNY.out _) _)
            have hnx : y.heap[w.heap.size + 1]? = some (.cells #[.bool false, .bool false, .bool false, .bool false, .bool false] 73 (0, 0)) := by rw [← hy]; exact (far_one (far_one HNX.out hne) hne)
            have hbx : Below w.heap.size w y := by rw [← hy]; exact (below_one (below_one HX.out hnw _) hnw _)
            rw [hy]
            clear hy zy fy HX HNX HNY
            have zy := fun i => cell_of_row y n i _ _ _ hny
            have fy : ∀ i, y.frozen? ⟨n, i, none⟩ = false := (fun i => by simp [World.frozen?, hny])
            have zc := fun i => cell_of_row y (w.heap.size + 1) i _ _ _ hnx
            have fc : ∀ i, y.frozen? ⟨w.heap.size + 1, i, none⟩ = false := (fun i => by simp [World.frozen?, hnx])
            have HX := Lib.hid hbx
            have HNX := Lib.hid hnx
            clear hbx hny hnx
            go_wp2
            (try simp only [Exit.inBlock, Exit.then])
            refine bodyPost_ret (results_cell_row rfl _ _ (w.heap.size + 1) _ _ _ _ rfl (five_cells (t := 73) (u0 := .bool false) (u1 := .bool false) (u2 := .bool false) (u3 := .bool false) (u4 := .bool false) ?_) Tryz.underlying73 rfl (by kernel_rfl)) rfl ?_
            · (repeat rw [Below.heap_setCell _ _ _ _ (show w.heap.size + 1 ≠ n from hne)])
              exact HNX.out
            refine ⟨rfl, below_five ?_ (Nat.le_succ _)⟩
            (repeat (refine Below.setCell (p := ⟨n, _, none⟩) ?_ hnw _))
            exact HX.out
          | true =>
            go_upto_region 8 with fail
            obtain ⟨y, hy⟩ : ∃ y, ((x.setCell ⟨n, 2, none⟩ (.bool false)).setCell ⟨n, 3, none⟩ (.bool false)) = y := ⟨_, rfl⟩
            have hny : y.heap[n]? = some (.cells #[.bool (para || q1), .bool (link || q2), .bool false, .bool false, .bool hb] 73 (0, 0)) := by rw [← hy]; exact (row_three (row_two HNY.out _) _)
            have hnx : y.heap[w.heap.size + 1]? = some (.cells #[.bool false, .bool false, .bool false, .bool false, .bool false] 73 (0, 0)) := by rw [← hy]; exact (far_one (far_one HNX.out hne) hne)
            have hbx : Below w.heap.size w y := by rw [← hy]; exact (below_one (below_one HX.out hnw _) hnw _)
            rw [hy]
            clear hy zy fy HX HNX HNY
            have zy := fun i => cell_of_row y n i _ _ _ hny
            have fy : ∀ i, y.frozen? ⟨n, i, none⟩ = false := (fun i => by simp [World.frozen?, hny])
            have zc := fun i => cell_of_row y (w.heap.size + 1) i _ _ _ hnx
            have fc : ∀ i, y.frozen? ⟨w.heap.size + 1, i, none⟩ = false := (fun i => by simp [World.frozen?, hnx])
            have HX := Lib.hid hbx
            have HNX := Lib.hid hnx
            clear hbx hny hnx
            go_wp2
            (try simp only [Exit.inBlock, Exit.then])
            refine bodyPost_ret (results_cell_row rfl _ _ (w.heap.size + 1) _ _ _ _ rfl (five_cells (t := 73) (u0 := .bool false) (u1 := .bool false) (u2 := .bool false) (u3 := .bool false) (u4 := .bool false) ?_) Tryz.underlying73 rfl (by kernel_rfl)) rfl ?_
            · (repeat rw [Below.heap_setCell _ _ _ _ (show w.heap.size + 1 ≠ n from hne)])
              exact HNX.out
            refine ⟨rfl, below_five ?_ (Nat.le_succ _)⟩
            (repeat (refine Below.setCell (p := ⟨n, _, none⟩) ?_ hnw _))
            exact HX.out
      | true =>
        have h3 := of_decide_eq_true g3
        clear g3
        cases ap with
        | false =>
          cases pr with
          | false =>
            go_upto_region 8 with fail
            obtain ⟨y, hy⟩ : ∃ y, (x.setCell ⟨n, 3, none⟩ (.bool false)) = y := ⟨_, rfl⟩
            have hny : y.heap[n]? = some (.cells #[.bool (para || q1), .bool (link || q2), .bool item, .bool false, .bool hb] 73 (0, 0)) := by rw [← hy]; exact (row_three HNY.out _)
            have hnx : y.heap[w.heap.size + 1]? = some (.cells #[.bool false, .bool false, .bool false, .bool false, .bool false] 73 (0, 0)) := by rw [← hy]; exact (far_one HNX.out hne)
            have hbx : Below w.heap.size w y := by rw [← hy]; exact (below_one HX.out hnw _)
            rw [hy]
            clear hy zy fy HX HNX HNY
            have zy := fun i => cell_of_row y n i _ _ _ hny
            have fy : ∀ i, y.frozen? ⟨n, i, none⟩ = false := (fun i => by simp [World.frozen?, hny])
            have zc := fun i => cell_of_row y (w.heap.size + 1) i _ _ _ hnx
            have fc : ∀ i, y.frozen? ⟨w.heap.size + 1, i, none⟩ = false := (fun i => by simp [World.frozen?, hnx])
            have HX := Lib.hid hbx
            have HNX := Lib.hid hnx
            clear hbx hny hnx
            cases item with
            | false =>
              go_wp2
              (try simp only [Exit.inBlock, Exit.then])
              refine bodyPost_ret (results_cell_row rfl _ _ (w.heap.size + 1) _ _ _ _ rfl (five_cells (t := 73) (u0 := .bool false) (u1 := .bool false) (u2 := .bool false) (u3 := .bool false) (u4 := .bool false) ?_) Tryz.underlying73 rfl (by kernel_rfl)) rfl ?_
              · (repeat rw [Below.heap_setCell _ _ _ _ (show w.heap.size + 1 ≠ n from hne)])
                exact HNX.out
              refine ⟨rfl, below_five ?_ (Nat.le_succ _)⟩
              (repeat (refine Below.setCell (p := ⟨n, _, none⟩) ?_ hnw _))
              exact HX.out
            | true =>
              go_wp2
              (try simp only [Exit.inBlock, Exit.then])
              refine bodyPost_ret (results_cell_row rfl _ _ (w.heap.size + 1) _ _ _ _ rfl (five_cells (t := 73) (u0 := .bool false) (u1 := .bool false) (u2 := .bool false) (u3 := .bool false) (u4 := .bool false) ?_) Tryz.underlying73 rfl (by kernel_rfl)) rfl ?_
              · (repeat rw [Below.heap_setCell _ _ _ _ (show w.heap.size + 1 ≠ n from hne)])
                exact HNX.out
              refine ⟨rfl, below_five ?_ (Nat.le_succ _)⟩
              (repeat (refine Below.setCell (p := ⟨n, _, none⟩) ?_ hnw _))
              exact HX.out
          | true =>
            go_upto_region 8 with fail
            obtain ⟨y, hy⟩ : ∃ y, ((x.setCell ⟨n, 2, none⟩ (.bool false)).setCell ⟨n, 3, none⟩ (.bool false)) = y := ⟨_, rfl⟩
            have hny : y.heap[n]? = some (.cells #[.bool (para || q1), .bool (link || q2), .bool false, .bool false, .bool hb] 73 (0, 0)) := by rw [← hy]; exact (row_three (row_two HNY.out _) _)
            have hnx : y.heap[w.heap.size + 1]? = some (.cells #[.bool false, .bool false, .bool false, .bool false, .bool false] 73 (0, 0)) := by rw [← hy]; exact (far_one (far_one HNX.out hne) hne)
            have hbx : Below w.heap.size w y := by rw [← hy]; exact (below_one (below_one HX.out hnw _) hnw _)
            rw [hy]
            clear hy zy fy HX HNX HNY
            have zy := fun i => cell_of_row y n i _ _ _ hny
            have fy : ∀ i, y.frozen? ⟨n, i, none⟩ = false := (fun i => by simp [World.frozen?, hny])
            have zc := fun i => cell_of_row y (w.heap.size + 1) i _ _ _ hnx
            have fc : ∀ i, y.frozen? ⟨w.heap.size + 1, i, none⟩ = false := (fun i => by simp [World.frozen?, hnx])
            have HX := Lib.hid hbx
            have HNX := Lib.hid hnx
            clear hbx hny hnx
            go_wp2
            (try simp only [Exit.inBlock, Exit.then])
            refine bodyPost_ret (results_cell_row rfl _ _ (w.heap.size + 1) _ _ _ _ rfl (five_cells (t := 73) (u0 := .bool false) (u1 := .bool false) (u2 := .bool false) (u3 := .bool false) (u4 := .bool false) ?_) Tryz.underlying73 rfl (by kernel_rfl)) rfl ?_
            · (repeat rw [Below.heap_setCell _ _ _ _ (show w.heap.size + 1 ≠ n from hne)])
              exact HNX.out
            refine ⟨rfl, below_five ?_ (Nat.le_succ _)⟩
            (repeat (refine Below.setCell (p := ⟨n, _, none⟩) ?_ hnw _))
            exact HX.out
        | true =>
          cases pr with
          | false =>
            go_upto_region 8 with fail
            obtain ⟨y, hy⟩ : ∃ y, ((x.setCell ⟨n, 2, none⟩ (.bool false)).setCell ⟨n, 3, none⟩ (.bool false)) = y := ⟨_, rfl⟩
            have hny : y.heap[n]? = some (.cells #[.bool (para || q1), .bool (link || q2), .bool false, .bool false, .bool hb] 73 (0, 0)) := by rw [← hy]; exact (row_three (row_two HNY.out _) _)
            have hnx : y.heap[w.heap.size + 1]? = some (.cells #[.bool false, .bool false, .bool false, .bool false, .bool false] 73 (0, 0)) := by rw [← hy]; exact (far_one (far_one HNX.out hne) hne)
            have hbx : Below w.heap.size w y := by rw [← hy]; exact (below_one (below_one HX.out hnw _) hnw _)
            rw [hy]
            clear hy zy fy HX HNX HNY
            have zy := fun i => cell_of_row y n i _ _ _ hny
            have fy : ∀ i, y.frozen? ⟨n, i, none⟩ = false := (fun i => by simp [World.frozen?, hny])
            have zc := fun i => cell_of_row y (w.heap.size + 1) i _ _ _ hnx
            have fc : ∀ i, y.frozen? ⟨w.heap.size + 1, i, none⟩ = false := (fun i => by simp [World.frozen?, hnx])
            have HX := Lib.hid hbx
            have HNX := Lib.hid hnx
            clear hbx hny hnx
            go_wp2
            (try simp only [Exit.inBlock, Exit.then])
            refine bodyPost_ret (results_cell_row rfl _ _ (w.heap.size + 1) _ _ _ _ rfl (five_cells (t := 73) (u0 := .bool false) (u1 := .bool false) (u2 := .bool false) (u3 := .bool false) (u4 := .bool false) ?_) Tryz.underlying73 rfl (by kernel_rfl)) rfl ?_
            · (repeat rw [Below.heap_setCell _ _ _ _ (show w.heap.size + 1 ≠ n from hne)])
              exact HNX.out
            refine ⟨rfl, below_five ?_ (Nat.le_succ _)⟩
            (repeat (refine Below.setCell (p := ⟨n, _, none⟩) ?_ hnw _))
            exact HX.out
          | true =>
            go_upto_region 8 with fail
            obtain ⟨y, hy⟩ : ∃ y, ((x.setCell ⟨n, 2, none⟩ (.bool false)).setCell ⟨n, 3, none⟩ (.bool false)) = y := ⟨_, rfl⟩
            have hny : y.heap[n]? = some (.cells #[.bool (para || q1), .bool (link || q2), .bool false, .bool false, .bool hb] 73 (0, 0)) := by rw [← hy]; exact (row_three (row_two HNY.out _) _)
            have hnx : y.heap[w.heap.size + 1]? = some (.cells #[.bool false, .bool false, .bool false, .bool false, .bool false] 73 (0, 0)) := by rw [← hy]; exact (far_one (far_one HNX.out hne) hne)
            have hbx : Below w.heap.size w y := by rw [← hy]; exact (below_one (below_one HX.out hnw _) hnw _)
            rw [hy]
            clear hy zy fy HX HNX HNY
            have zy := fun i => cell_of_row y n i _ _ _ hny
            have fy : ∀ i, y.frozen? ⟨n, i, none⟩ = false := (fun i => by simp [World.frozen?, hny])
            have zc := fun i => cell_of_row y (w.heap.size + 1) i _ _ _ hnx
            have fc : ∀ i, y.frozen? ⟨w.heap.size + 1, i, none⟩ = false := (fun i => by simp [World.frozen?, hnx])
            have HX := Lib.hid hbx
            have HNX := Lib.hid hnx
            clear hbx hny hnx
            go_wp2
            (try simp only [Exit.inBlock, Exit.then])
            refine bodyPost_ret (results_cell_row rfl _ _ (w.heap.size + 1) _ _ _ _ rfl (five_cells (t := 73) (u0 := .bool false) (u1 := .bool false) (u2 := .bool false) (u3 := .bool false) (u4 := .bool false) ?_) Tryz.underlying73 rfl (by kernel_rfl)) rfl ?_
            · (repeat rw [Below.heap_setCell _ _ _ _ (show w.heap.size + 1 ≠ n from hne)])
              exact HNX.out
            refine ⟨rfl, below_five ?_ (Nat.le_succ _)⟩
            (repeat (refine Below.setCell (p := ⟨n, _, none⟩) ?_ hnw _))
            exact HX.out
theorem Pl.rv_into (x : Pl) (s : ByteArray) : (x.into s).rv = .agg #[.bool (x.para || isT s ⟨#[112]⟩), .bool (x.link || isT s ⟨#[97]⟩), .bool ((if hasS apartL s || (isT s ⟨#[100, 100]⟩ || isT s ⟨#[100, 116]⟩) then false else x.item) || isT s ⟨#[108, 105]⟩), .bool ((if hasS apartL s || isT s ⟨#[108, 105]⟩ then false else x.pair) || (isT s ⟨#[100, 100]⟩ || isT s ⟨#[100, 116]⟩)), .bool (hasS headsL s)] := by
  have hp : hasS pairL s = (isT s ⟨#[100, 100]⟩ || isT s ⟨#[100, 116]⟩) := by
    unfold hasS pairL isT
    simp [Bool.beq_comm]
  have he : ∀ c : ByteArray, isT s c = true → s = c := fun c h => by
    unfold isT at h
    rw [Lib.toList_data, Lib.toList_data] at h
    exact ByteArray.ext (Array.toList_inj.1 (by simpa using h))
  have h1 : hasS apartL s = true → isT s ⟨#[108, 105]⟩ = false ∧ isT s ⟨#[100, 100]⟩ = false ∧ isT s ⟨#[100, 116]⟩ = false := fun h => by
    refine ⟨?_, ?_, ?_⟩
    all_goals
      refine Bool.eq_false_iff.2 fun h2 => ?_
      rw [he _ h2] at h
      revert h
      decide +kernel
  have h2 : isT s ⟨#[108, 105]⟩ = true → isT s ⟨#[100, 100]⟩ = false ∧ isT s ⟨#[100, 116]⟩ = false := fun h => by
    rw [he _ h]
    decide +kernel
  unfold Pl.into Pl.rv
  simp only
  rw [hp]
  generalize hasS apartL s = ap at *
  generalize isT s ⟨#[108, 105]⟩ = rl at *
  generalize isT s ⟨#[100, 100]⟩ = rd at *
  generalize isT s ⟨#[100, 116]⟩ = rt at *
  generalize x.item = it
  generalize x.pair = pa
  congr 1
  cases ap <;> cases rl <;> cases rd <;> cases rt <;> cases it <;> cases pa <;> simp_all
theorem within_any (x : Pl) (s : ByteArray) (w : World) : Calls Tryz.prog 71 #[.string s, x.rv] w (RPlR w (x.into s)) := by
  unfold RPlR
  rw [Pl.rv_into]
  exact within_core s x.para x.link x.item x.pair x.head _ _ _ _ _ _ _ w rfl rfl rfl rfl rfl rfl rfl
end Go.Proofs.YtdkjenbncmedbaaGreatDoor
