/- tympanref05.Keeps. -/
import Derived.Test.YtdkjenbncmedbaaGreatDoorRfIn
namespace Go.Proofs.YtdkjenbncmedbaaGreatDoor
open Go.RowKit

theorem below_al2 {w w' : World} (h : Below w.heap.size w w') (o : Obj) : Below w.heap.size w (w'.alloc o) := h.alloc h.size o
def citesL : List ByteArray := [⟨#[98, 108, 111, 99, 107, 113, 117, 111, 116, 101]⟩, ⟨#[100, 101, 108]⟩, ⟨#[105, 110, 115]⟩, ⟨#[113]⟩]
theorem cites_eq (el : ByteArray) : hasS citesL el = (isT el ⟨#[98, 108, 111, 99, 107, 113, 117, 111, 116, 101]⟩ || (isT el ⟨#[100, 101, 108]⟩ || (isT el ⟨#[105, 110, 115]⟩ || isT el ⟨#[113]⟩))) := by
  unfold hasS citesL isT
  simp only [List.any_cons, List.any_nil, Bool.or_false]
  rw [BEq.comm (a := (⟨#[98, 108, 111, 99, 107, 113, 117, 111, 116, 101]⟩ : ByteArray).toList), BEq.comm (a := (⟨#[100, 101, 108]⟩ : ByteArray).toList), BEq.comm (a := (⟨#[105, 110, 115]⟩ : ByteArray).toList), BEq.comm (a := (⟨#[113]⟩ : ByteArray).toList)]
set_option maxHeartbeats 8000000 in
set_option maxRecDepth 100000 in
theorem refkeeps_any (v : Value) (E : List ByteArray) (A : Prs) (S : List ByteArray) (el nm val : ByteArray) (w : World) (hp : PolAt w v E A S) (hs : val.size ≤ 1000000000) : Calls Tryz.prog 50 #[v, .string el, .agg #[.string nm, .string val]] w (BoolR w (keepsB E A S el nm val)) := by
  obtain ⟨⟨vE, vA, vS, rfl, sE, sA, sS⟩, lE, lA, lS, _, _, _⟩ := hp
  obtain ⟨aE, cE, rfl, _, _⟩ := sE.open
  obtain ⟨aS, cS, rfl, _, _⟩ := sS.open
  obtain ⟨wa, hwa⟩ : ∃ wa, (w.alloc (.cells #[.slice aE E.length cE, vA, .slice aS S.length cS] 25)).alloc (.cells #[.string nm, .string val] 27) = wa := ⟨_, rfl⟩
  have hba : Below w.heap.size w wa := by rw [← hwa]; exact two_below _ _ _
  have hza : w.heap.size + 1 + 1 ≤ wa.heap.size ∧ wa.heap.size ≤ w.heap.size + 1 + 1 := by rw [← hwa]; simp
  have hn0 : wa.heap[w.heap.size]? = some (.cells #[.slice aE E.length cE, vA, .slice aS S.length cS] 25 (0, 0)) := by rw [← hwa, Below.heap_alloc _ _ _ (by simp)]; exact heap_alloc_new _ _
  have hn1 : wa.heap[w.heap.size + 1]? = some (.cells #[.string nm, .string val] 27 (0, 0)) := by rw [← hwa]; exact two_new _ _ _ _
  have hA2 := sA.later hba
  obtain ⟨aA, cA, rfl, _, kA⟩ := hA2.open
  have hcells : ∀ w' : World, Below wa.heap.size wa w' → (w'.cell? ⟨w.heap.size, 0, none⟩ = some (.slice aE E.length cE) ∧ w'.cell? ⟨w.heap.size, 1, none⟩ = some (.slice aA A.length cA) ∧ w'.cell? ⟨w.heap.size, 2, none⟩ = some (.slice aS S.length cS) ∧ w'.cell? ⟨w.heap.size + 1, 0, none⟩ = some (.string nm) ∧ w'.cell? ⟨w.heap.size + 1, 1, none⟩ = some (.string val)) := fun w' hb' => by
    have q := fun i => cell_of_row w' w.heap.size i _ _ _ ((hb'.block _ (by omega)).trans hn0)
    have r := fun i => cell_of_row w' (w.heap.size + 1) i _ _ _ ((hb'.block _ (by omega)).trans hn1)
    exact ⟨q 0, q 1, q 2, r 0, r 1⟩
  have HIE := Lib.hid fun (w' : World) (hb : Below wa.heap.size wa w') => in05_any E el _ w' ((sE.later hba).later hb) lE
  have HSf := Lib.hid fun (w' : World) (hb : Below wa.heap.size wa w') => refsafe_any val _ S w' hs (SlS.strs ((sS.later hba).later hb)) lS
  have HCe := Lib.hid hcells; have HBA := Lib.hid hba; have HWA := Lib.hid hwa; have HK := Lib.hid kA
  obtain ⟨p0, p1, p2, m0, m1⟩ := HCe.out wa (Below.refl _ _)
  have hkb : keepsB E A S el nm val = (hasS E el && (hasP A (el, nm) && (!(isT nm ⟨#[104, 114, 101, 102]⟩ || (isT nm ⟨#[115, 114, 99]⟩ || (isT nm ⟨#[99, 105, 116, 101]⟩ && hasS citesL el))) || safe val.data.toList S))) := by
    unfold keepsB addressB
    rw [cites_eq]
  rw [hkb]
  have HTk := Lib.hid (hasP_take A (el, nm))
  obtain ⟨q1, e1⟩ : ∃ q1, isT nm ⟨#[104, 114, 101, 102]⟩ = q1 := ⟨_, rfl⟩
  obtain ⟨q2, e2⟩ : ∃ q2, isT nm ⟨#[115, 114, 99]⟩ = q2 := ⟨_, rfl⟩
  obtain ⟨q3, e3⟩ : ∃ q3, isT nm ⟨#[99, 105, 116, 101]⟩ = q3 := ⟨_, rfl⟩
  obtain ⟨he, ehe⟩ : ∃ he, hasS E el = he := ⟨_, rfl⟩
  obtain ⟨sf, esf⟩ : ∃ sf, safe val.data.toList S = sf := ⟨_, rfl⟩
  have f1 : (nm.toList == [104, 114, 101, 102]) = q1 := by rw [← e1]; unfold isT; rw [Lib.toList_data ⟨#[104, 114, 101, 102]⟩]
  have f2 : (nm.toList == [115, 114, 99]) = q2 := by rw [← e2]; unfold isT; rw [Lib.toList_data ⟨#[115, 114, 99]⟩]
  have f3 : (nm.toList == [99, 105, 116, 101]) = q3 := by rw [← e3]; unfold isT; rw [Lib.toList_data ⟨#[99, 105, 116, 101]⟩]
  rw [ehe] at HIE ⊢
  rw [esf] at HSf ⊢
  rw [e1, e2, e3]
  obtain ⟨hp, ehp⟩ : ∃ hp, hasP A (el, nm) = hp := ⟨_, rfl⟩
  obtain ⟨cb, ecb⟩ : ∃ cb, hasS citesL el = cb := ⟨_, rfl⟩
  have HIn := Lib.hid fun (w' : World) (v : Value) (hv : SlS w' v citesL) => in05_any citesL el v w' hv (by decide)
  rw [ecb] at HIn ⊢
  rw [ehp]
  have HHp := Lib.hid ehp
  clear hcells hba hwa kA hA2 sE sA sS hn0 hn1 hkb e1 e2 e3 ehe esf ecb ehp
  go_enter Tryz.func50, Tryz.ntmps50
  go_upto_region 1 with fail
  rw [HWA.out]
  go_wp2_with fail
  go_loopw [7, 8] (fun s i wr => ∃ k : Nat, i = .int .i64 k ∧ s = .bool (hasP (A.take k) (el, nm)) ∧ k ≤ A.length ∧ ∃ d, wr = wa.drewN d) (fun _ i _ => A.length - (intOf i).toNat)
  case atStart => exact ⟨0, rfl, rfl, Nat.zero_le _, 0, rfl⟩
  case round =>
    obtain ⟨k, rfl, rfl, hk, d, rfl⟩ := hrel
    by_cases hlt : k < A.length
    · have hki : (k : Int) < (A.length : Int) := by omega
      obtain ⟨b, o, hA, hb, g1, g2⟩ := HK.out k hlt
      subst hA
      have ht := HTk.out k hlt
      obtain ⟨is0, his⟩ : ∃ is0, hasP (A.take k) (el, nm) = is0 := ⟨_, rfl⟩
      rw [his] at ht ⊢
      obtain ⟨yy, hy⟩ : ∃ y, A[k] = y := ⟨_, rfl⟩
      rw [hy] at g1 g2 ht
      obtain ⟨y1, y2⟩ := yy
      simp only at g1 g2 ht
      clear hy his
      cases is0 with
      | true =>
        rw [Bool.true_or] at ht
        have HT := Lib.hid ht
        clear ht
        go_wp2_with fail
        go_quiet (fail)
        go_wp2
        go_roundw
        case rel => exact ⟨k + 1, by go_num, by rw [HT.out], hlt, _, rfl⟩
        case measure => simp [intOf]; omega
      | false =>
        rw [Bool.false_or] at ht
        by_cases h1 : y1.toList = el.toList
        · have x1 : (y1.toList == el.toList) = true := by simpa using h1
          rw [x1, Bool.true_and] at ht
          have HT := Lib.hid ht
          obtain ⟨x2b, x2⟩ : ∃ b, (y2.toList == nm.toList) = b := ⟨_, rfl⟩
          rw [x2] at HT
          clear ht
          go_wp2_with fail
          go_quiet (fail)
          go_wp2
          go_roundw
          case rel => exact ⟨k + 1, by go_num, by rw [HT.out], hlt, _, rfl⟩
          case measure => simp [intOf]; omega
        · have x1 : (y1.toList == el.toList) = false := by simpa using h1
          rw [x1, Bool.false_and] at ht
          have HT := Lib.hid ht
          clear ht
          go_wp2_with fail
          go_quiet (fail)
          go_wp2
          go_roundw
          case rel => exact ⟨k + 1, by go_num, by rw [HT.out], hlt, _, rfl⟩
          case measure => simp [intOf]; omega
    · obtain rfl : k = A.length := by omega
      rw [List.take_length, HHp.out]
      clear HK HTk
      go_wp2_with fail
      refine Calls.mono (HIn.out _ _ (row_at ?_ ?_ ?_)) ?_
      · simp
      · rfl
      · rfl
      rintro e w1 ⟨rfl, hw1⟩
      obtain ⟨wb, hwb⟩ : ∃ wb : World, wb = w1 := ⟨_, rfl⟩
      subst hwb
      have hbl : Below wa.heap.size wa wb := by rw [← hw1]; exact below_al2 (below_drewN (Below.refl _ _) d) _
      clear hw1
      have HBL := Lib.hid hbl
      have HB := Lib.hid (below_on HBA.out hbl)
      obtain ⟨p0, p1, p2, m0, m1⟩ := HCe.out _ hbl
      clear hbl
      cases q1 with
      | true =>
        cases hp with
        | false =>
          go_wp2
          go_ret
          exact ⟨by cases he <;> rfl, HB.out⟩
        | true =>
          go_wp2_with fail
          refine Calls.mono (HIE.out _ HBL.out) ?_
          rintro e w2 ⟨rfl, rfl⟩
          cases he with
          | false =>
            go_wp2
            go_ret
            exact ⟨rfl, HB.out⟩
          | true =>
            go_wp2_with fail
            refine Calls.mono (HSf.out _ HBL.out) ?_
            rintro e w3 ⟨rfl, b3⟩
            have HB3 := Lib.hid (below_on HB.out b3)
            clear b3
            go_wp2
            go_ret
            exact ⟨by cases sf <;> rfl, HB3.out⟩
      | false =>
        cases q2 with
        | true =>
          cases hp with
          | false =>
            go_wp2
            go_ret
            exact ⟨by cases he <;> rfl, HB.out⟩
          | true =>
            go_wp2_with fail
            refine Calls.mono (HIE.out _ HBL.out) ?_
            rintro e w2 ⟨rfl, rfl⟩
            cases he with
            | false =>
              go_wp2
              go_ret
              exact ⟨rfl, HB.out⟩
            | true =>
              go_wp2_with fail
              refine Calls.mono (HSf.out _ HBL.out) ?_
              rintro e w3 ⟨rfl, b3⟩
              have HB3 := Lib.hid (below_on HB.out b3)
              clear b3
              go_wp2
              go_ret
              exact ⟨by cases sf <;> rfl, HB3.out⟩
        | false =>
          cases q3 with
          | false =>
            cases hp with
            | false =>
              go_wp2
              go_ret
              exact ⟨by cases he <;> rfl, HB.out⟩
            | true =>
              go_wp2_with fail
              refine Calls.mono (HIE.out _ HBL.out) ?_
              rintro e w2 ⟨rfl, rfl⟩
              go_wp2
              go_ret
              exact ⟨by cases he <;> rfl, HB.out⟩
          | true =>
            cases cb with
            | true =>
              cases hp with
              | false =>
                go_wp2
                go_ret
                exact ⟨by cases he <;> rfl, HB.out⟩
              | true =>
                go_wp2_with fail
                refine Calls.mono (HIE.out _ HBL.out) ?_
                rintro e w2 ⟨rfl, rfl⟩
                cases he with
                | false =>
                  go_wp2
                  go_ret
                  exact ⟨rfl, HB.out⟩
                | true =>
                  go_wp2_with fail
                  refine Calls.mono (HSf.out _ HBL.out) ?_
                  rintro e w3 ⟨rfl, b3⟩
                  have HB3 := Lib.hid (below_on HB.out b3)
                  clear b3
                  go_wp2
                  go_ret
                  exact ⟨by cases sf <;> rfl, HB3.out⟩
            | false =>
              cases hp with
              | false =>
                go_wp2
                go_ret
                exact ⟨by cases he <;> rfl, HB.out⟩
              | true =>
                go_wp2_with fail
                refine Calls.mono (HIE.out _ HBL.out) ?_
                rintro e w2 ⟨rfl, rfl⟩
                go_wp2
                go_ret
                exact ⟨by cases he <;> rfl, HB.out⟩
end Go.Proofs.YtdkjenbncmedbaaGreatDoor
