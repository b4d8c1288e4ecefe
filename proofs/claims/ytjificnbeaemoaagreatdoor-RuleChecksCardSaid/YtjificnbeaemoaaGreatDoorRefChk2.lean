/- tympanref05.Check. -/
import Derived.Test.YtjificnbeaemoaaGreatDoorRefChk
import Derived.Deep.RegionHeld3
namespace Go.Proofs.YtjificnbeaemoaaGreatDoor
open Go.RowKit

theorem no_el {E : List ByteArray} {A : Prs} {S : List ByteArray} (h : onceS knownB E = false) : checkB E A S = false := by
  cases hc : checkB E A S with
  | false => rfl
  | true => rw [((check_iff _ _ _).1 hc).1] at h; cases h
theorem no_at {E : List ByteArray} {A : Prs} {S : List ByteArray} (h : onceP (allowB E) A = false) : checkB E A S = false := by
  cases hc : checkB E A S with
  | false => rfl
  | true => rw [((check_iff _ _ _).1 hc).2.1] at h; cases h
theorem no_sc {E : List ByteArray} {A : Prs} {S : List ByteArray} (h : onceS schB S = false) : checkB E A S = false := by
  cases hc : checkB E A S with
  | false => rfl
  | true => rw [((check_iff _ _ _).1 hc).2.2.1] at h; cases h
theorem no_gr {E : List ByteArray} {A : Prs} {S : List ByteArray} (h : ¬ (gridN E = 0 ∨ gridN E = 7)) : checkB E A S = false := by
  cases hc : checkB E A S with
  | false => rfl
  | true => exact absurd ((check_iff _ _ _).1 hc).2.2.2 h
theorem onceS_big {may : ByteArray → Bool} {l : List ByteArray} (h : 400 < l.length) : onceS may l = false := by
  unfold onceS
  rw [show decide (l.length ≤ 400) = false by simpa using h, Bool.false_and]
theorem onceP_big {may : ByteArray × ByteArray → Bool} {l : Prs} (h : 400 < l.length) : onceP may l = false := by
  unfold onceP
  rw [show decide (l.length ≤ 400) = false by simpa using h, Bool.false_and]
theorem onceS_at {may : ByteArray → Bool} {l : List ByteArray} {k : Nat} (hk : k < l.length) (h : (may l[k] && !hasS (l.take k) l[k]) = false) : onceS may l = false := by
  unfold onceS
  rw [onceSF_no may l k hk h, Bool.and_false]
theorem onceP_at {may : ByteArray × ByteArray → Bool} {l : Prs} {k : Nat} (hk : k < l.length) (h : (may l[k] && !hasP (l.take k) l[k]) = false) : onceP may l = false := by
  unfold onceP
  rw [oncePF_no may l k hk h, Bool.and_false]
theorem onceS_all {may : ByteArray → Bool} {l : List ByteArray} (hl : l.length ≤ 400) (h : onceSF may l l.length = true) : onceS may l = true := by
  unfold onceS
  rw [h, show decide (l.length ≤ 400) = true by simpa using hl]
  rfl
theorem onceP_all {may : ByteArray × ByteArray → Bool} {l : Prs} (hl : l.length ≤ 400) (h : oncePF may l l.length = true) : onceP may l = true := by
  unfold onceP
  rw [h, show decide (l.length ≤ 400) = true by simpa using hl]
  rfl
def cntG (E : List ByteArray) (k : Nat) : Nat := ((E.take k).filter (hasS grB)).length
theorem cntG_succ (E : List ByteArray) (k : Nat) (hk : k < E.length) : cntG E (k + 1) = cntG E k + if hasS grB E[k] = true then 1 else 0 := by
  unfold cntG
  rw [List.take_succ_eq_append_getElem hk, List.filter_append, List.length_append]
  congr 1
  cases h : hasS grB E[k] <;> simp [h]
theorem cntG_le (E : List ByteArray) (k : Nat) : cntG E k ≤ k := by
  unfold cntG
  exact Nat.le_trans (List.length_filter_le _ _) (by rw [List.length_take]; omega)
theorem cntG_all {E : List ByteArray} (h : onceS knownB E = true) : cntG E E.length = gridN E := by
  unfold cntG
  rw [List.take_length]
  exact grid_count E ((onceS_iff _ _).1 h).2.2
theorem wrap_next (n : Nat) (h : n ≤ 1000) : IntKind.i64.wrap ((n : Int) + 1) = ((n + 1 : Nat) : Int) := by
  rw [IntKind.wrap_i64]
  omega
def ChkR (w : World) (b : Bool) (e : Ending) (w' : World) : Prop := e = .returned (.int .i64 (errOf b)) ∧ Below w.heap.size w w'
theorem s_below {A B C D : Prop} (h : A ∧ B ∧ C ∧ D) : D := h.2.2.2
def LoopE (W : World) (E : List ByteArray) (v3 v4 : Value) (wr : World) : Prop := ∃ k : Nat, v4 = .int .i64 k ∧ k ≤ E.length ∧ onceSF knownB E k = true ∧ v3 = .int .i64 (cntG E k : Nat) ∧ Below W.heap.size W wr
def LoopA (W : World) (E : List ByteArray) (A : Prs) (v6 : Value) (wr : World) : Prop := ∃ k : Nat, v6 = .int .i64 k ∧ k ≤ A.length ∧ oncePF (allowB E) A k = true ∧ Below W.heap.size W wr
def LoopK (wi : World) (A : Prs) (x : ByteArray × ByteArray) (n : Nat) (v8 : Value) (wr : World) : Prop := ∃ k : Nat, v8 = .int .i64 k ∧ k ≤ n ∧ hasP (A.take k) x = false ∧ ∃ d, wr = wi.drewN d
def LoopS (W : World) (S : List ByteArray) (v9 : Value) (wr : World) : Prop := ∃ k : Nat, v9 = .int .i64 k ∧ k ≤ S.length ∧ onceSF schB S k = true ∧ Below W.heap.size W wr
set_option maxHeartbeats 8000000 in
set_option maxRecDepth 100000 in
theorem refcheck_any (v : Value) (E : List ByteArray) (A : Prs) (S : List ByteArray) (w : World) (hp : PolAt w v E A S) : Calls Tryz.prog 11 #[v] w (ChkR w (checkB E A S)) := by
  obtain ⟨⟨vE, vA, vS, rfl, hE, hA, hS⟩, lE, lA, lS, sE, sA, sS⟩ := hp
  obtain ⟨aE, cE, rfl, kE, _⟩ := hE.open
  obtain ⟨aA, cA, rfl, kA, _⟩ := hA.open
  obtain ⟨aS, cS, rfl, kS, _⟩ := hS.open
  obtain ⟨W, hW⟩ : ∃ W, w.alloc (.cells #[.slice aE E.length cE, .slice aA A.length cA, .slice aS S.length cS] 25) = W := ⟨_, rfl⟩
  have B0 := Lib.hid (show Below w.heap.size w W by rw [← hW]; exact (Below.refl _ w).alloc (Nat.le_refl _) _)
  have G0 := Lib.hid (show W.heap[w.heap.size]? = some (.cells #[.slice aE E.length cE, .slice aA A.length cA, .slice aS S.length cS] 25 (0, 0)) by rw [← hW]; exact heap_alloc_new w _)
  have Z0 := Lib.hid (show w.heap.size < W.heap.size by rw [← hW]; simp)
  have p0 := fun i => cell_of_row W w.heap.size i _ _ _ G0.out
  have HE := Lib.hid (hE.later B0.out); have HA := Lib.hid (hA.later B0.out); have HS := Lib.hid (hS.later B0.out)
  have HSE := Lib.hid sE; have HSA := Lib.hid sA; have HSS := Lib.hid sS
  have HW := Lib.hid hW
  have HPW := Lib.hid fun (wr : World) (hb : Below W.heap.size W wr) i => cell_of_row wr w.heap.size i _ _ _ ((hb.block _ Z0.out).trans G0.out)
  have HEnd := Lib.hid fun (wr : World) (hb : Below W.heap.size W wr) => B0.out.trans (hb.mono B0.out.size)
  obtain ⟨C, hC⟩ : ∃ C, checkB E A S = C := ⟨_, rfl⟩
  have HC := Lib.hid hC
  rw [hC]
  clear hE hA hS sE sA sS hW hC
  by_cases xE : 400 < E.length
  · have yE : (400 : Int) < (E.length : Int) := by omega
    obtain rfl : C = false := HC.out.symm.trans (no_el (onceS_big xE))
    go_enter Tryz.func11, Tryz.ntmps11
    go_upto_region 1 with fail
    rw [HW.out]
    go_wp2
    go_ret
    exact ⟨rfl, B0.out⟩
  · have yE : ¬ (400 : Int) < (E.length : Int) := by omega
    by_cases xA : 400 < A.length
    · have yA : (400 : Int) < (A.length : Int) := by omega
      obtain rfl : C = false := HC.out.symm.trans (no_at (onceP_big xA))
      go_enter Tryz.func11, Tryz.ntmps11
      go_upto_region 1 with fail
      rw [HW.out]
      go_wp2
      go_ret
      exact ⟨rfl, B0.out⟩
    · have yA : ¬ (400 : Int) < (A.length : Int) := by omega
      by_cases xS : 400 < S.length
      · have yS : (400 : Int) < (S.length : Int) := by omega
        obtain rfl : C = false := HC.out.symm.trans (no_sc (onceS_big xS))
        go_enter Tryz.func11, Tryz.ntmps11
        go_upto_region 1 with fail
        rw [HW.out]
        go_wp2
        go_ret
        exact ⟨rfl, B0.out⟩
      · have yS : ¬ (400 : Int) < (S.length : Int) := by omega
        go_enter Tryz.func11, Tryz.ntmps11
        go_upto_region 1 with fail
        rw [HW.out]
        go_wp2_with fail
        go_loopw [3, 4, 5] (fun v3 v4 _ wr => LoopE W E v3 v4 wr) (fun _ v4 _ _ => E.length - (intOf v4).toNat)
        case atStart => exact ⟨0, rfl, Nat.zero_le _, rfl, rfl, Below.refl _ _⟩
        case round =>
          clear p0
          obtain ⟨k, rfl, hk, hu, rfl, bw⟩ := hrel
          have BW := Lib.hid bw
          have HU := Lib.hid hu
          have p0 := HPW.out wr bw
          by_cases hlt : k < E.length
          · have hki : (k : Int) < (E.length : Int) := by omega
            obtain ⟨_, _, e0, _, hk1⟩ := (HE.out.later bw).open
            cases e0
            obtain ⟨b, o, hAa, hb, g1, g1'⟩ := hk1 k hlt
            subst hAa
            have hno := fun h => HC.out.symm.trans (no_el (A := A) (S := S) (onceS_at (may := knownB) hlt h))
            have hsu := onceSF_succ knownB E k hlt
            have hcs := cntG_succ E k hlt
            have hxs := HSE.out _ (List.getElem_mem hlt)
            obtain ⟨x, hx⟩ : ∃ x, E[k] = x := ⟨_, rfl⟩
            rw [hx] at g1 g1' hno hsu hcs hxs
            obtain ⟨n, hn⟩ : ∃ n, cntG E k = n := ⟨_, rfl⟩
            have hn1 : n ≤ 400 := by rw [← hn]; exact Nat.le_trans (cntG_le _ _) (by omega)
            rw [hn] at hcs ⊢
            have HNO := Lib.hid hno; have HSU := Lib.hid hsu; have HCS := Lib.hid hcs
            clear hx hno hsu hcs hk1 hu hn bw
            obtain ⟨kn, hkn⟩ : ∃ kn, knownB x = kn := ⟨_, rfl⟩
            have HKN := Lib.hid hkn
            clear hkn
            go_wp2_with fail
            have hcall := refknown_any x wr
            rw [HKN.out] at hcall
            refine Calls.mono hcall ?_
            rintro e w1 ⟨rfl, b1⟩
            clear hcall
            have B1 := Lib.hid (BW.out.trans (b1.mono BW.out.size))
            have p1 := HPW.out w1 B1.out
            clear p0
            cases kn with
            | false =>
              obtain rfl : C = false := HNO.out (by rw [HKN.out]; rfl)
              go_wp2
              go_ret
              exact ⟨rfl, HEnd.out _ B1.out⟩
            | true =>
              have kcE : (k : Int) ≤ (cE : Int) := by omega
              have hsl : SlS w1 (.slice (some ⟨b, o, none⟩) k cE) (E.take k) := by
                have := ((HE.out.later B1.out).take k hk)
                exact this
              obtain ⟨hs, hhs⟩ : ∃ hs, hasS (E.take k) x = hs := ⟨_, rfl⟩
              have hcall := refin_any (E.take k) x _ w1 hsl (by rw [List.length_take]; omega)
              rw [hhs] at hcall
              have HHS := Lib.hid hhs
              clear hhs hsl b1
              go_wp2_with fail
              refine Calls.mono hcall ?_
              rintro e w2 ⟨rfl, rfl⟩
              clear hcall
              cases hs with
              | true =>
                obtain rfl : C = false := HNO.out (by rw [HKN.out, HHS.out]; rfl)
                go_wp2
                go_ret
                exact ⟨rfl, HEnd.out _ B1.out⟩
              | false =>
                have hsu2 := Lib.hid (show onceSF knownB E (k + 1) = true by rw [HSU.out, HU.out, HKN.out, HHS.out]; rfl)
                clear HNO HSU HU
                obtain ⟨gr, hgr⟩ : ∃ gr, hasS grB x = gr := ⟨_, rfl⟩
                rw [hgr] at HCS
                have HGR := Lib.hid hgr
                clear hgr p1
                go_wp2_with fail
                refine Calls.mono (refin_any grB x _ _ (new_row w1 grB _ rfl) (by decide)) ?_
                rintro e w3 ⟨rfl, rfl⟩
                rw [HGR.out]
                have HB3 := Lib.hid (B1.out.alloc B1.out.size (.cells #[.string ⟨#[116, 97, 98, 108, 101]⟩, .string ⟨#[116, 98, 111, 100, 121]⟩, .string ⟨#[116, 100]⟩, .string ⟨#[116, 102, 111, 111, 116]⟩, .string ⟨#[116, 104]⟩, .string ⟨#[116, 104, 101, 97, 100]⟩, .string ⟨#[116, 114]⟩] 9))
                cases gr with
                | true =>
                  have hn2 := wrap_next n (by omega)
                  go_wp2
                  go_roundw
                  case rel => exact ⟨k + 1, by go_num, hlt, hsu2.out, by rw [HCS.out]; rfl, HB3.out⟩
                  case measure => simp [intOf]; omega
                | false =>
                  go_wp2
                  go_roundw
                  case rel => exact ⟨k + 1, by go_num, hlt, hsu2.out, by rw [HCS.out]; rfl, HB3.out⟩
                  case measure => simp [intOf]; omega
          · obtain rfl : k = E.length := by omega
            have hEall := onceS_all (by omega) HU.out
            have hng := cntG_all hEall
            obtain ⟨n, hn⟩ : ∃ n, cntG E E.length = n := ⟨_, rfl⟩
            rw [hn] at hng ⊢
            have HEall := Lib.hid hEall
            have HNG := Lib.hid hng
            obtain ⟨NB, hNB⟩ : ∃ NB, (decide (n ≠ 0) && decide (n ≠ 7)) = NB := ⟨_, rfl⟩
            have HNB := Lib.hid hNB
            clear hEall hng hn hNB hu bw
            go_upto_region 12 with fail
            go_cut [60] (fun s60 wx => s60 = .bool NB ∧ Below W.heap.size W wx)
            case first =>
              by_cases n0 : n = 0
              · have hv : NB = false := by rw [← HNB.out, n0]; rfl
                have e0 : (n : Int) = 0 := by omega
                clear n0
                subst hv
                go_wp2_with fail
                go_meet
                exact ⟨rfl, BW.out⟩
              · have e0 : ¬ (n : Int) = 0 := by omega
                have d0 : ((n : Int) != 0) = true := by simpa using e0
                by_cases n7 : n = 7
                · have hv : NB = false := by rw [← HNB.out, n7]; rfl
                  have e7 : (n : Int) = 7 := by omega
                  clear n7 n0 e0 d0
                  subst hv
                  go_wp2_with fail
                  go_meet
                  exact ⟨rfl, BW.out⟩
                · have hv : NB = true := by rw [← HNB.out]; simp [n0, n7]
                  have e7 : ¬ (n : Int) = 7 := by omega
                  have d7 : ((n : Int) != 7) = true := by simpa using e7
                  clear n7 n0
                  subst hv
                  go_wp2_with fail
                  go_meet
                  exact ⟨rfl, BW.out⟩
            case rest =>
              obtain ⟨rfl, bc⟩ := hcut
              have BC := Lib.hid bc
              clear bc p0
              cases NB with
              | true =>
                obtain rfl : C = false := HC.out.symm.trans (no_gr (by
                  have := HNB.out
                  simp only [ne_eq, Bool.and_eq_true, decide_eq_true_eq] at this
                  rw [← HNG.out]
                  omega))
                go_wp2
                go_ret
                exact ⟨rfl, HEnd.out _ BC.out⟩
              | false =>
                have HGr := Lib.hid (show gridN E = 0 ∨ gridN E = 7 by
                  have := HNB.out
                  rw [← HNG.out]
                  simp only [ne_eq, Bool.and_eq_false_iff, decide_eq_false_iff_not, Decidable.not_not] at this
                  exact this)
                clear HNB HNG
                go_wp2_with fail
                go_loopw [6, 7, 8] (fun v6 _ _ wr => LoopA W E A v6 wr) (fun v6 _ _ _ => A.length - (intOf v6).toNat)
                case atStart => exact ⟨0, rfl, Nat.zero_le _, rfl, BC.out⟩
                case round =>
                  obtain ⟨k, rfl, hk, hu, bw⟩ := hrel
                  have BW := Lib.hid bw
                  have HU := Lib.hid hu
                  have p0 := HPW.out wr bw
                  by_cases hlt : k < A.length
                  · have hki : (k : Int) < (A.length : Int) := by omega
                    obtain ⟨_, _, e0, _, hk1⟩ := (HA.out.later bw).open
                    cases e0
                    obtain ⟨b, o, hAa, hb, g0, g0', g1, g1'⟩ := hk1 k hlt
                    subst hAa
                    have hno := fun h => HC.out.symm.trans (no_at (E := E) (S := S) (onceP_at (may := allowB E) hlt h))
                    have hsu := oncePF_succ (allowB E) A k hlt
                    obtain ⟨x, hx⟩ : ∃ x, A[k] = x := ⟨_, rfl⟩
                    rw [hx] at g0 g0' g1 g1' hno hsu
                    obtain ⟨x1, x2⟩ := x
                    simp only at g0 g0' g1 g1'
                    have HNO := Lib.hid hno; have HSU := Lib.hid hsu
                    clear hno hsu hu hk1 bw
                    have HX := Lib.hid hx
                    clear hx
                    obtain ⟨xe, hxe⟩ : ∃ xe, hasS E x1 = xe := ⟨_, rfl⟩
                    obtain ⟨xn, hxn⟩ : ∃ xn, nameB x2 = xn := ⟨_, rfl⟩
                    have HXE := Lib.hid hxe; have HXN := Lib.hid hxn
                    clear hxe hxn
                    go_upto_region 18 with fail
                    obtain ⟨wi, hwi⟩ : ∃ wi, wr.alloc (.cells #[.string x1, .string x2] 36) = wi := ⟨_, rfl⟩
                    rw [hwi]
                    have bi : Below wr.heap.size wr wi := by rw [← hwi]; exact (Below.refl _ wr).alloc (Nat.le_refl _) _
                    have BI := Lib.hid bi
                    have BWI := Lib.hid (BW.out.trans (bi.mono BW.out.size))
                    have GI := Lib.hid (show wi.heap[wr.heap.size]? = some (.cells #[.string x1, .string x2] 36 (0, 0)) by rw [← hwi]; exact heap_alloc_new wr _)
                    have ZI := Lib.hid (show wr.heap.size < wi.heap.size by rw [← hwi]; simp)
                    have pi := HPW.out wi BWI.out
                    have li := fun i => cell_of_row wi wr.heap.size i _ _ _ GI.out
                    have HIN := Lib.hid fun (w' : World) (hb : Below wi.heap.size wi w') => refin_any E x1 _ w' ((HE.out.later BWI.out).later hb) lE
                    clear hwi p0 bi
                    obtain ⟨AL, hAL⟩ : ∃ AL, allowB E (x1, x2) = AL := ⟨_, rfl⟩
                    have hall : (xn && xe) = AL := by rw [← hAL]; unfold allowB; rw [HXN.out, HXE.out]
                    have HAL := Lib.hid hAL
                    clear hAL
                    go_cut [85] (fun s85 wx => s85 = .bool (!AL) ∧ Below wi.heap.size wi wx)
                    case first =>
                      cases xe with
                      | false =>
                        obtain rfl : AL = false := by rw [← hall, Bool.and_false]
                        clear hall
                        have HQ := Lib.hid fun d => HIN.out (wi.drewN d) (row_drewN (Below.refl _ _) d)
                        rw [HXE.out] at HQ
                        go_quiet ((go_at_call 27; exact (HQ.out _).mono fun _ _ h => ⟨h.1, _, h.2.symm⟩))
                        go_wp2_with fail
                        go_meet
                        exact ⟨rfl, row_drewN (Below.refl _ _) _⟩
                      | true =>
                        rw [Bool.and_true] at hall
                        subst hall
                        rw [HXE.out] at HIN
                        have HSI := Lib.hid (show ∀ w' : World, Below wi.heap.size wi w' → (w'.cell? ⟨w.heap.size, 0, none⟩ = some (.slice aE E.length cE) ∧ w'.cell? ⟨wr.heap.size, 0, none⟩ = some (.string x1) ∧ w'.cell? ⟨wr.heap.size, 1, none⟩ = some (.string x2) ∧ Below wi.heap.size wi w') from fun w' hb =>
                          ⟨HPW.out w' (BWI.out.trans (hb.mono BWI.out.size)) 0, cell_of_row w' wr.heap.size 0 _ _ _ ((hb.block _ ZI.out).trans GI.out), cell_of_row w' wr.heap.size 1 _ _ _ ((hb.block _ ZI.out).trans GI.out), hb⟩)
                        have hs0 := HSI.out wi (Below.refl _ _)
                        have HS0 := Lib.hid hs0
                        clear hs0 li pi
                        go_region_held3 (fun w' => w'.cell? ⟨w.heap.size, 0, none⟩ = some (.slice aE E.length cE) ∧ w'.cell? ⟨wr.heap.size, 0, none⟩ = some (.string x1) ∧ w'.cell? ⟨wr.heap.size, 1, none⟩ = some (.string x2) ∧ Below wi.heap.size wi w') (first | assumption | exact HS0.out | exact HSI.out _ (Below.refl _ _).drew | exact HSI.out _ (Below.drew (s_below (by assumption))) | exact HSI.out _ (below_on (s_below (by assumption)) (by assumption))) (first
                          | (go_at_call_of 27 E.length; refine Calls.mono (HIN.out _ (s_below (by assumption))) ?_; rintro e w1 ⟨rfl, rfl⟩)
                          | (go_at_call 28; refine Calls.mono (attrs_any _) ?_; rintro e w2 ⟨va, rfl, hva, b2⟩; obtain ⟨_, _, rfl, _, _⟩ := hva.open; have H3 := Lib.hid (refin_any atB x2 _ w2 hva (by decide)); rw [hasS_at, HXN.out] at H3; clear hva)
                          | (go_at_call 27; refine Calls.mono H3.out ?_; rintro e w3 ⟨rfl, rfl⟩))
                        all_goals
                          go_wp2_with fail
                          go_meet
                          exact ⟨rfl, s_below (by assumption)⟩
                    case rest =>
                      obtain ⟨rfl, bc⟩ := hcut
                      have BC := Lib.hid (BWI.out.trans (bc.mono BWI.out.size))
                      have lc := fun i => cell_of_row wc wr.heap.size i _ _ _ ((bc.block _ ZI.out).trans GI.out)
                      clear bc li pi
                      cases AL with
                      | false =>
                        obtain rfl : C = false := HNO.out (by rw [HAL.out]; rfl)
                        go_wp2
                        go_ret
                        exact ⟨rfl, HEnd.out _ BC.out⟩
                      | true =>
                        have p2 := HPW.out wc BC.out
                        obtain ⟨_, _, e0, _, hk2⟩ := (HA.out.later BC.out).open
                        cases e0
                        have HK2 := Lib.hid hk2
                        clear hk2
                        go_wp2_with fail
                        go_loopw [8] (fun v8 wr => LoopK wc A (x1, x2) k v8 wr) (fun v8 _ => k - (intOf v8).toNat)
                        case atStart => exact ⟨0, rfl, Nat.zero_le _, rfl, 0, rfl⟩
                        case round =>
                          obtain ⟨m, rfl, hm, hum, d, rfl⟩ := hrel
                          by_cases hmk : m < k
                          · have hmi : (m : Int) < (k : Int) := by omega
                            obtain ⟨b', o', hA', hb', f0, f0', f1, f1'⟩ := HK2.out m (by omega)
                            cases hA'
                            have ht := hasP_take A (x1, x2) m (by omega)
                            rw [hum, Bool.false_or] at ht
                            have hyes : A[m].1.toList = x1.toList → A[m].2.toList = x2.toList → hasP (A.take k) (x1, x2) = true := fun q1 q2 => (hasP_iff _ _).2 (by
                              rw [show ((x1, x2) : ByteArray × ByteArray) = A[m] from Prod.ext (bytes_eq q1.symm) (bytes_eq q2.symm)]
                              rw [List.mem_take_iff_getElem]
                              exact ⟨m, by omega, rfl⟩)
                            obtain ⟨y, hy⟩ : ∃ y, A[m] = y := ⟨_, rfl⟩
                            rw [hy] at f0 f0' f1 f1' ht hyes
                            obtain ⟨y1, y2⟩ := y
                            simp only at f0 f0' f1 f1' ht hyes
                            have HT := Lib.hid ht; have HY := Lib.hid hyes
                            clear hy hum ht hyes
                            by_cases q1 : y1.toList = x1.toList
                            · have r1 : (y1.toList == x1.toList) = true := by simpa using q1
                              by_cases q2 : y2.toList = x2.toList
                              · have r2 : (y2.toList == x2.toList) = true := by simpa using q2
                                obtain rfl : C = false := HNO.out (by rw [HY.out q1 q2, HAL.out]; rfl)
                                clear HT HY q1 q2
                                go_wp2
                                go_quiet (fail)
                                go_wp2
                                go_ret
                                exact ⟨rfl, HEnd.out _ (row_drewN (row_drewN BC.out _) _)⟩
                              · have r2 : (y2.toList == x2.toList) = false := by simpa using q2
                                have HN := Lib.hid (show hasP (A.take (m + 1)) (x1, x2) = false by rw [HT.out, r2, Bool.and_false])
                                clear HT HY q1 q2
                                go_wp2
                                go_quiet (fail)
                                go_wp2
                                go_roundw
                                case rel => exact ⟨m + 1, by go_num, hmk, HN.out, _, rfl⟩
                                case measure => simp [intOf]; omega
                            · have r1 : (y1.toList == x1.toList) = false := by simpa using q1
                              have HN := Lib.hid (show hasP (A.take (m + 1)) (x1, x2) = false by rw [HT.out, r1, Bool.false_and])
                              clear HT HY q1
                              go_wp2
                              go_quiet (fail)
                              go_wp2
                              go_roundw
                              case rel => exact ⟨m + 1, by go_num, hmk, HN.out, _, rfl⟩
                              case measure => simp [intOf]; omega
                          · obtain rfl : m = k := by omega
                            have HN := Lib.hid (show oncePF (allowB E) A (m + 1) = true by rw [HSU.out, HU.out, HAL.out, hum]; rfl)
                            clear HNO hum HSU HU
                            go_wp2
                            go_roundw
                            case rel => exact ⟨m + 1, by go_num, hlt, HN.out, row_drewN BC.out _⟩
                            case measure => simp [intOf]; omega
                  · obtain rfl : k = A.length := by omega
                    have HAall := Lib.hid (onceP_all (by omega) HU.out)
                    clear hu bw HU
                    go_wp2_with fail
                    go_loopw [9, 10] (fun v9 _ wr => LoopS W S v9 wr) (fun v9 _ _ => S.length - (intOf v9).toNat)
                    case atStart => exact ⟨0, rfl, Nat.zero_le _, rfl, BW.out⟩
                    case round =>
                      clear p0
                      obtain ⟨k, rfl, hk, hu, bw⟩ := hrel
                      have BW := Lib.hid bw
                      have HU := Lib.hid hu
                      have p0 := HPW.out wr bw
                      by_cases hlt : k < S.length
                      · have hki : (k : Int) < (S.length : Int) := by omega
                        have kcS : (k : Int) ≤ (cS : Int) := by omega
                        obtain ⟨_, _, e0, _, hk1⟩ := (HS.out.later bw).open
                        cases e0
                        obtain ⟨b, o, hAa, hb, g1, g1'⟩ := hk1 k hlt
                        subst hAa
                        have hno := fun h => HC.out.symm.trans (no_sc (E := E) (A := A) (onceS_at (may := schB) hlt h))
                        have hsu := onceSF_succ schB S k hlt
                        have hxs := HSS.out _ (List.getElem_mem hlt)
                        obtain ⟨x, hx⟩ : ∃ x, S[k] = x := ⟨_, rfl⟩
                        rw [hx] at g1 g1' hno hsu hxs
                        unfold maxLen at hxs
                        have HNO := Lib.hid hno; have HSU := Lib.hid hsu
                        clear hno hsu hu hk1 bw hx
                        obtain ⟨sb, hsb⟩ : ∃ sb, schB x = sb := ⟨_, rfl⟩
                        have HSB := Lib.hid hsb
                        have hcall := refscheme_any x wr (by omega)
                        rw [hsb] at hcall
                        clear hsb
                        go_wp2_with fail
                        refine Calls.mono hcall ?_
                        rintro e w1 ⟨rfl, rfl⟩
                        clear hcall
                        cases sb with
                        | false =>
                          obtain rfl : C = false := HNO.out (by rw [HSB.out]; rfl)
                          go_wp2
                          go_quiet (fail)
                          go_wp2
                          go_ret
                          exact ⟨rfl, HEnd.out _ (row_drewN BW.out _)⟩
                        | true =>
                          obtain ⟨hs, hhs⟩ : ∃ hs, hasS (S.take k) x = hs := ⟨_, rfl⟩
                          have hsl : SlS wr (.slice (some ⟨b, o, none⟩) k cS) (S.take k) := (HS.out.later BW.out).take k hk
                          have HQ := Lib.hid fun d => refin_any (S.take k) x _ (wr.drewN d) (hsl.later (row_drewN (Below.refl _ _) d)) (by rw [List.length_take]; omega)
                          rw [hhs] at HQ
                          have HHS := Lib.hid hhs
                          clear hhs hsl
                          go_wp2
                          go_quiet ((go_at_call 27; exact (HQ.out _).mono fun _ _ h => ⟨h.1, _, h.2.symm⟩))
                          cases hs with
                          | true =>
                            obtain rfl : C = false := HNO.out (by rw [HHS.out, HSB.out]; rfl)
                            go_wp2
                            go_ret
                            exact ⟨rfl, HEnd.out _ (row_drewN BW.out _)⟩
                          | false =>
                            have HN := Lib.hid (show onceSF schB S (k + 1) = true by rw [HSU.out, HU.out, HSB.out, HHS.out]; rfl)
                            clear HNO HSU HU
                            go_wp2
                            go_roundw
                            case rel => exact ⟨k + 1, by go_num, hlt, HN.out, row_drewN BW.out _⟩
                            case measure => simp [intOf]; omega
                      · obtain rfl : k = S.length := by omega
                        obtain rfl : C = true := HC.out.symm.trans ((check_iff _ _ _).2 ⟨HEall.out, HAall.out, onceS_all (by omega) HU.out, HGr.out⟩)
                        go_wp2
                        go_ret
                        exact ⟨rfl, HEnd.out _ BW.out⟩
end Go.Proofs.YtjificnbeaemoaaGreatDoor
