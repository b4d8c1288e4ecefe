/- tympanlaw05.RuleOrder answers true for every input. -/
import Derived.Test.YtdkjenbncmedbaaGreatDoorOrdP
import Derived.Deep.RegionLaw
import Derived.Deep.RegionHeld3
import Derived.Deep.DeepCutAuto
namespace Go.Proofs.YtdkjenbncmedbaaGreatDoor
open Go.RowKit

theorem s_nine {a b c d e f g h i : Prop} (s : a ∧ b ∧ c ∧ d ∧ e ∧ f ∧ g ∧ h ∧ i) : i := s.2.2.2.2.2.2.2.2
theorem one_cell {w : World} {x : Value} {t : TypeId} : ∀ (j : Nat) u, ([x] : List Value)[j]? = some u → (w.alloc (.cells #[x] t)).cell? ((⟨w.heap.size, 0, none⟩ : Addr).add j) = some u := fun j u hu => by
  cases j with
  | zero =>
    rw [show (⟨w.heap.size, 0, none⟩ : Addr).add 0 = ⟨w.heap.size, 0, none⟩ by simp [Addr.add], cell_of_row _ _ 0 _ _ _ (heap_alloc_new w _)]
    simpa using hu
  | succ j => simp at hu
theorem two_cell {w : World} {x y : Value} {t : TypeId} : ∀ (j : Nat) u, ([x, y] : List Value)[j]? = some u → (w.alloc (.cells #[x, y] t)).cell? ((⟨w.heap.size, 0, none⟩ : Addr).add j) = some u := fun j u hu => by
  rw [add_off, Nat.zero_add, cell_of_row _ _ j _ _ _ (heap_alloc_new w _)]
  simpa using hu
set_option maxHeartbeats 8000000 in
set_option maxRecDepth 100000 in
theorem order_law (v : Value) (E : List ByteArray) (A : Prs) (S : List ByteArray) (k : UInt8) (el nm val : ByteArray) (w : World) (hp : PolAt w v E A S) (ht : SpTab w) (hG : Glob w) (h1 : el.size ≤ 9223372036854775807) (h2 : nm.size ≤ 9223372036854775807) (h3 : val.size ≤ 9223372036854775807) :
    Calls Tryz.prog 3 #[v, .int .u8 (k.toNat : Int), .string el, .agg #[.string nm, .string val]] w (Yes w) := by
  obtain ⟨iA, hiA, hzA0, hzA1, hzA2⟩ := info_parts infoA
  obtain ⟨iS, hiS, hzS0, hzS1, hzS2⟩ := info_parts infoS
  have HP := Lib.hid hp
  obtain ⟨⟨vE, vA, vS, rfl, sE, sA, sS⟩, _⟩ := hp
  obtain ⟨aE, cE, rfl, _, _⟩ := sE.open
  obtain ⟨aA, cA, rfl, _, _⟩ := sA.open
  obtain ⟨aS, cS, rfl, _, _⟩ := sS.open
  have HSE := Lib.hid sE; have HSA := Lib.hid sA; have HSS := Lib.hid sS
  clear sE sA sS
  obtain ⟨W, hW⟩ : ∃ W, (w.alloc (.cells #[.slice aE E.length cE, .slice aA A.length cA, .slice aS S.length cS] 25)).alloc (.cells #[.string nm, .string val] 27) = W := ⟨_, rfl⟩
  have B0 := Lib.hid (show Below w.heap.size w W by rw [← hW]; exact ((Below.refl _ w).alloc (Nat.le_refl _) _).alloc (by simp) _)
  have G0 := Lib.hid (show W.heap[w.heap.size]? = some (.cells #[.slice aE E.length cE, .slice aA A.length cA, .slice aS S.length cS] 25 (0, 0)) by rw [← hW]; exact (Below.heap_alloc _ _ _ (by simp)).trans (heap_alloc_new w _))
  have G1 := Lib.hid (show W.heap[w.heap.size + 1]? = some (.cells #[.string nm, .string val] 27 (0, 0)) by rw [← hW, show w.heap.size + 1 = (w.alloc (.cells #[.slice aE E.length cE, .slice aA A.length cA, .slice aS S.length cS] 25)).heap.size by simp]; exact heap_alloc_new _ _)
  have Z0 := Lib.hid (show w.heap.size + 1 < W.heap.size by rw [← hW]; simp)
  have HKN := Lib.hid fun w' (hb : Below w.heap.size w w') => known_any w' (ht.later hb) (hG.later hb)
  have HT := Lib.hid ht
  have HG := Lib.hid hG
  have HW := Lib.hid hW
  clear ht hG hW
  go_enter Tryz.func3, Tryz.ntmps3
  go_wp2_with fail
  rw [HW.out]
  refine Calls.mono (much_any _ E A S W (HP.out.later B0.out)) ?_
  rintro e w1 ⟨b, rfl, hbl, b1⟩
  have B1 := Lib.hid (below_on B0.out b1)
  have P1 := Lib.hid ((b1.block _ (by have := Z0.out; omega)).trans G0.out)
  have R1 := Lib.hid ((b1.block _ Z0.out).trans G1.out)
  have Z1 := Lib.hid (show w.heap.size + 1 < w1.heap.size from Nat.lt_of_lt_of_le Z0.out b1.size)
  have r1 := fun i => cell_of_row w1 (w.heap.size + 1) i _ _ _ R1.out
  have p1 := fun i => cell_of_row w1 w.heap.size i _ _ _ P1.out
  clear b1
  cases b with
  | true =>
    go_wp2_with fail
    refine Calls.mono (HKN.out _ B1.out) ?_
    rintro e w2 ⟨rfl, b2⟩
    have b2 := below_on B1.out b2
    go_wp2
    go_ret
    exact ⟨rfl, b2⟩
  | false =>
    obtain ⟨lE, lA, lS⟩ := hbl rfl
    clear hbl
    by_cases y1 : el.size ≤ 3000
    · have z1 : ¬ (3000 : Int) < (el.size : Int) := by omega
      by_cases y2 : nm.size ≤ 3000
      · have z2 : ¬ (3000 : Int) < (nm.size : Int) := by omega
        by_cases y3 : val.size ≤ 3000
        · have z3 : ¬ (3000 : Int) < (val.size : Int) := by omega
          go_wp2_with fail
          refine Calls.mono (HKN.out _ B1.out) ?_
          rintro e w2 ⟨rfl, b2⟩
          have B2 := Lib.hid (below_on B1.out b2)
          have P2 := Lib.hid ((b2.block _ (by have := Z1.out; omega)).trans P1.out)
          have R2 := Lib.hid ((b2.block _ Z1.out).trans R1.out)
          have Z2 := Lib.hid (show w.heap.size + 1 < w2.heap.size from Nat.lt_of_lt_of_le Z1.out b2.size)
          obtain ⟨W3, hW3⟩ : ∃ W3, w2.alloc (.cells #[.slice none 0 0, .slice none 0 0, .slice none 0 0] 25) = W3 := ⟨_, rfl⟩
          have b3 : Below w2.heap.size w2 W3 := by rw [← hW3]; exact (Below.refl _ w2).alloc (Nat.le_refl _) _
          have B3 := Lib.hid (below_on B2.out b3)
          have P3 := Lib.hid ((b3.block _ (by have := Z2.out; omega)).trans P2.out)
          have R3 := Lib.hid ((b3.block _ Z2.out).trans R2.out)
          have Q3 := Lib.hid (show W3.heap[w2.heap.size]? = some (.cells #[.slice none 0 0, .slice none 0 0, .slice none 0 0] 25 (0, 0)) by rw [← hW3]; exact heap_alloc_new w2 _)
          have ZQ := Lib.hid (show W3.heap.size = w2.heap.size + 1 by rw [← hW3]; simp)
          have HW3 := Lib.hid hW3
          have hz2 := Z2.out
          clear b2 r1 p1 P1 R1 Z1 hW3 b3
          go_upto_region 4 with fail
          rw [HW3.out]
          have q3 := fun i => cell_of_row W3 w2.heap.size i _ _ _ Q3.out
          have p3 := fun i => cell_of_row W3 w.heap.size i _ _ _ P3.out
          have hk256 : (k.toNat : Int) < 256 := by have := UInt8.toNat_lt k; omega
          have QW1 := Q3; have PW1 := P3; have BW1 := B3; have RW1 := R3
          have ZW1 := Lib.hid (show w2.heap.size < W3.heap.size by have := ZQ.out; omega)
          go_wp2_with fail
          go_loopw [11] (fun vi wr => OrdW 9 1 W3 w2.heap.size (fun v => #[v, .slice none 0 0, .slice none 0 0]) (fun i => ((rot E (k.toNat % E.length)).take i).map Value.string) E.length vi wr) (fun vi _ => E.length - (intOf vi).toNat)
          case atStart => exact ⟨0, .slice none 0 0, rfl, Nat.zero_le _, QW1.out, fun _ _ _ => rfl, World.ownsRow_nil _ _ _ _, Below.refl _ _⟩
          case round =>
            obtain ⟨i1, v, rfl, hi, rq, hsame, hown, hbl⟩ := hrel
            obtain ⟨A1, c1, rfl⟩ := slice_form hown
            have HOwn := Lib.hid hown; have RQ := Lib.hid rq; have HSame := Lib.hid hsame; have HBl := Lib.hid hbl
            have HB := Lib.hid (BW1.out.trans (hbl.mono (by have := B2.out.size; omega)))
            have lq := fun i => cell_of_row wr w2.heap.size i _ _ _ rq
            have PR := Lib.hid ((hsame w.heap.size (by have := ZW1.out; omega) (by omega)).trans PW1.out)
            have lp := fun i => cell_of_row wr w.heap.size i _ _ _ PR.out
            have hzq : w2.heap.size < wr.heap.size := (Array.getElem?_eq_some_iff.1 rq).1
            have hzp : w.heap.size < wr.heap.size := by omega
            clear hown rq hsame hbl q3 p3
            by_cases hlt : i1 < E.length
            · have hii : (i1 : Int) < (E.length : Int) := by omega
              have hne : ¬ E = [] := fun h => by rw [h] at hlt; exact absurd hlt (Nat.not_lt_zero _)
              have hkw : IntKind.i64.wrap (k.toNat : Int) = (k.toNat : Int) := wrap_small_i64 _ (by omega) (by omega)
              obtain ⟨s, hs⟩ : ∃ s, s = i1 + k.toNat := ⟨_, rfl⟩
              obtain ⟨r, hr⟩ : ∃ r, r = s % E.length := ⟨_, rfl⟩
              have hrl : r < E.length := by rw [hr]; exact Nat.mod_lt _ (by omega)
              have hsum : IntKind.i64.wrap ((i1 : Int) + (k.toNat : Int)) = (s : Int) := by rw [hs, wrap_small_i64 _ (by omega) (by omega)]; omega
              have hrem : ((s : Int)).tmod (E.length : Int) = (r : Int) := by rw [hr, Int.tmod_eq_emod_of_nonneg (by omega)]; omega
              have hrli : (r : Int) < (E.length : Int) := by omega
              have hsnoc := rot_snoc E (k.toNat % E.length) i1 (Nat.mod_lt _ (by omega)) hlt
              have hidx : (i1 + k.toNat % E.length) % E.length = r := by rw [hr, hs, Nat.add_mod_mod]
              obtain ⟨_, _, e0, _, hk1⟩ := (HSE.out.later HB.out).open
              cases e0
              obtain ⟨b, o, hAa, hb, g1, g1'⟩ := hk1 r hrl
              subst hAa
              obtain ⟨x, hx⟩ : ∃ x, E[r] = x := ⟨_, rfl⟩
              have hsn : (rot E (k.toNat % E.length)).take (i1 + 1) = (rot E (k.toNat % E.length)).take i1 ++ [x] := by
                rw [hsnoc, ← hx]
                simp only [hidx]
              rw [hx] at g1 g1'
              have HSn := Lib.hid hsn
              clear hsnoc hidx hsn hx hk1 hs hr
              go_wp2_with fail
              go_region_law (refine step_own rfl (.tmp 49) (.tmp 60) 22 rfl W3.heap.size 9 iS _ 1 16 Tryz.underlying22 hiS hzS0 hzS1 hzS2 rfl (by decide) _ rfl i1 _ (World.ownsRow.alloc (w := wr.drew) HOwn.out _) ⟨wr.heap.size, 0, none⟩ 1 1 [.string x] rfl rfl one_cell (by simp [Value.oneCell']) (by unfold maxLen; omega) (by omega) (by have := HBl.out.size; simp; omega) ?_; intro v7 w7 hown7 hgrow; obtain ⟨g7, cap7, rfl⟩ := Joins.ownsRow_form hown7 (by omega); have r7 := (ord_grow HBl.out.size HOwn.out hgrow w2.heap.size (by have := ZW1.out; omega)).trans RQ.out; have l7 := (fun i => cell_of_row w7 w2.heap.size i _ _ _ r7); have f7 : ∀ i, w7.frozen? ⟨w2.heap.size, i, none⟩ = false := (fun i => by simp [World.frozen?, r7]); have HO7 := Lib.hid hown7; have HG7 := Lib.hid hgrow; clear hown7 hgrow)
              all_goals
                go_wp2_with fail
                go_roundw
                case rel => exact ord_next (fld := 0) (by have := ZW1.out; omega) hlt HOwn.out HG7.out HO7.out (by rw [HSn.out, List.map_append]; rfl) RQ.out HSame.out HBl.out rfl
                case measure => simp [intOf]; omega
            · obtain rfl : i1 = E.length := by omega
              obtain ⟨WB1, hWB⟩ : ∃ WB, WB = wr := ⟨_, rfl⟩
              subst hWB
              have OW1 := HOwn
              have SW1 := HSame; have LW1 := HBl
              have QW2 := RQ; have PW2 := PR; have BW2 := HB
              have ZW2 := Lib.hid hzq
              have RW2 := Lib.hid ((HSame.out (w.heap.size + 1) (by have := ZW1.out; omega) (by omega)).trans RW1.out)
              have q3 := lq; have p3 := lp
              clear HOwn HSame RQ PR HB HBl lq lp
              go_wp2_with fail
              go_loopw [12] (fun vi wr => OrdW 31 2 WB1 w2.heap.size (fun v => #[.slice A1 E.length c1, v, .slice none 0 0]) (fun i => (((rot A (k.toNat % A.length)).take i).map pairCs).flatten) A.length vi wr) (fun vi _ => A.length - (intOf vi).toNat)
              case atStart => exact ⟨0, .slice none 0 0, rfl, Nat.zero_le _, QW2.out, fun _ _ _ => rfl, World.ownsRow_nil _ _ _ _, Below.refl _ _⟩
              case round =>
                obtain ⟨i2, v, rfl, hi, rq, hsame, hown, hbl⟩ := hrel
                obtain ⟨A2, c2, rfl⟩ := slice_form hown
                have HOwn := Lib.hid hown; have RQ := Lib.hid rq; have HSame := Lib.hid hsame; have HBl := Lib.hid hbl
                have HB := Lib.hid (BW2.out.trans (hbl.mono (by have := B2.out.size; omega)))
                have lq := fun i => cell_of_row wr w2.heap.size i _ _ _ rq
                have PR := Lib.hid ((hsame w.heap.size (by have := ZW2.out; omega) (by omega)).trans PW2.out)
                have lp := fun i => cell_of_row wr w.heap.size i _ _ _ PR.out
                have hzq : w2.heap.size < wr.heap.size := (Array.getElem?_eq_some_iff.1 rq).1
                have hzp : w.heap.size < wr.heap.size := by omega
                clear hown rq hsame hbl q3 p3
                by_cases hlt : i2 < A.length
                · have hii : (i2 : Int) < (A.length : Int) := by omega
                  have hne : ¬ A = [] := fun h => by rw [h] at hlt; exact absurd hlt (Nat.not_lt_zero _)
                  have hkw : IntKind.i64.wrap (k.toNat : Int) = (k.toNat : Int) := wrap_small_i64 _ (by omega) (by omega)
                  obtain ⟨s, hs⟩ : ∃ s, s = i2 + k.toNat := ⟨_, rfl⟩
                  obtain ⟨r, hr⟩ : ∃ r, r = s % A.length := ⟨_, rfl⟩
                  have hrl : r < A.length := by rw [hr]; exact Nat.mod_lt _ (by omega)
                  have hsum : IntKind.i64.wrap ((i2 : Int) + (k.toNat : Int)) = (s : Int) := by rw [hs, wrap_small_i64 _ (by omega) (by omega)]; omega
                  have hrem : ((s : Int)).tmod (A.length : Int) = (r : Int) := by rw [hr, Int.tmod_eq_emod_of_nonneg (by omega)]; omega
                  have hrli : (r : Int) < (A.length : Int) := by omega
                  have hsnoc := rot_snoc A (k.toNat % A.length) i2 (Nat.mod_lt _ (by omega)) hlt
                  have hidx : (i2 + k.toNat % A.length) % A.length = r := by rw [hr, hs, Nat.add_mod_mod]
                  obtain ⟨_, _, e0, _, hk1⟩ := (HSA.out.later HB.out).open
                  cases e0
                  obtain ⟨b, o, hAa, hb, g0, g0', g1, g1'⟩ := hk1 r hrl
                  subst hAa
                  obtain ⟨x, hx⟩ : ∃ x, A[r] = x := ⟨_, rfl⟩
                  have hsn : (rot A (k.toNat % A.length)).take (i2 + 1) = (rot A (k.toNat % A.length)).take i2 ++ [x] := by
                    rw [hsnoc, ← hx]
                    simp only [hidx]
                  rw [hx] at g0 g0' g1 g1'
                  obtain ⟨x1, x2⟩ := x
                  simp only at g0 g0' g1 g1'
                  have HSn := Lib.hid hsn
                  clear hsnoc hidx hsn hx hk1 hs hr
                  go_wp2_with fail
                  go_region_law (refine step_own rfl (.tmp 72) (.tmp 83) 23 rfl WB1.heap.size 31 iA _ 2 32 Tryz.underlying23 hiA hzA0 hzA1 hzA2 rfl (by decide) _ rfl i2 _ (World.ownsRow.alloc (w := wr.drew) HOwn.out _) ⟨wr.heap.size, 0, none⟩ 1 1 [.string x1, .string x2] rfl rfl two_cell (by simp [Value.oneCell']) (by unfold maxLen; omega) (by omega) (by have := HBl.out.size; simp; omega) ?_; intro v7 w7 hown7 hgrow; obtain ⟨g7, cap7, rfl⟩ := Joins.ownsRow_form hown7 (by omega); have r7 := (ord_grow HBl.out.size HOwn.out hgrow w2.heap.size (by have := ZW2.out; omega)).trans RQ.out; have l7 := (fun i => cell_of_row w7 w2.heap.size i _ _ _ r7); have f7 : ∀ i, w7.frozen? ⟨w2.heap.size, i, none⟩ = false := (fun i => by simp [World.frozen?, r7]); have HO7 := Lib.hid hown7; have HG7 := Lib.hid hgrow; clear hown7 hgrow)
                  all_goals
                    go_wp2_with fail
                    go_roundw
                    case rel => exact ord_next (fld := 1) (by have := ZW2.out; omega) hlt HOwn.out HG7.out HO7.out (by rw [HSn.out, List.map_append, List.flatten_append]; rfl) RQ.out HSame.out HBl.out rfl
                    case measure => simp [intOf]; omega
                · obtain rfl : i2 = A.length := by omega
                  obtain ⟨WB2, hWB⟩ : ∃ WB, WB = wr := ⟨_, rfl⟩
                  subst hWB
                  have OW2 := HOwn
                  have SW2 := HSame; have LW2 := HBl
                  have QW3 := RQ; have PW3 := PR; have BW3 := HB
                  have ZW3 := Lib.hid hzq
                  have RW3 := Lib.hid ((HSame.out (w.heap.size + 1) (by have := ZW2.out; omega) (by omega)).trans RW2.out)
                  have q3 := lq; have p3 := lp
                  clear HOwn HSame RQ PR HB HBl lq lp
                  go_wp2_with fail
                  go_loopw [13] (fun vi wr => OrdW 9 1 WB2 w2.heap.size (fun v => #[.slice A1 E.length c1, .slice A2 A.length c2, v]) (fun i => ((rot S (k.toNat % S.length)).take i).map Value.string) S.length vi wr) (fun vi _ => S.length - (intOf vi).toNat)
                  case atStart => exact ⟨0, .slice none 0 0, rfl, Nat.zero_le _, QW3.out, fun _ _ _ => rfl, World.ownsRow_nil _ _ _ _, Below.refl _ _⟩
                  case round =>
                    obtain ⟨i3, v, rfl, hi, rq, hsame, hown, hbl⟩ := hrel
                    obtain ⟨A3, c3, rfl⟩ := slice_form hown
                    have HOwn := Lib.hid hown; have RQ := Lib.hid rq; have HSame := Lib.hid hsame; have HBl := Lib.hid hbl
                    have HB := Lib.hid (BW3.out.trans (hbl.mono (by have := B2.out.size; omega)))
                    have lq := fun i => cell_of_row wr w2.heap.size i _ _ _ rq
                    have PR := Lib.hid ((hsame w.heap.size (by have := ZW3.out; omega) (by omega)).trans PW3.out)
                    have lp := fun i => cell_of_row wr w.heap.size i _ _ _ PR.out
                    have hzq : w2.heap.size < wr.heap.size := (Array.getElem?_eq_some_iff.1 rq).1
                    have hzp : w.heap.size < wr.heap.size := by omega
                    clear hown rq hsame hbl q3 p3
                    by_cases hlt : i3 < S.length
                    · have hii : (i3 : Int) < (S.length : Int) := by omega
                      have hne : ¬ S = [] := fun h => by rw [h] at hlt; exact absurd hlt (Nat.not_lt_zero _)
                      have hkw : IntKind.i64.wrap (k.toNat : Int) = (k.toNat : Int) := wrap_small_i64 _ (by omega) (by omega)
                      obtain ⟨s, hs⟩ : ∃ s, s = i3 + k.toNat := ⟨_, rfl⟩
                      obtain ⟨r, hr⟩ : ∃ r, r = s % S.length := ⟨_, rfl⟩
                      have hrl : r < S.length := by rw [hr]; exact Nat.mod_lt _ (by omega)
                      have hsum : IntKind.i64.wrap ((i3 : Int) + (k.toNat : Int)) = (s : Int) := by rw [hs, wrap_small_i64 _ (by omega) (by omega)]; omega
                      have hrem : ((s : Int)).tmod (S.length : Int) = (r : Int) := by rw [hr, Int.tmod_eq_emod_of_nonneg (by omega)]; omega
                      have hrli : (r : Int) < (S.length : Int) := by omega
                      have hsnoc := rot_snoc S (k.toNat % S.length) i3 (Nat.mod_lt _ (by omega)) hlt
                      have hidx : (i3 + k.toNat % S.length) % S.length = r := by rw [hr, hs, Nat.add_mod_mod]
                      obtain ⟨_, _, e0, _, hk1⟩ := (HSS.out.later HB.out).open
                      cases e0
                      obtain ⟨b, o, hAa, hb, g1, g1'⟩ := hk1 r hrl
                      subst hAa
                      obtain ⟨x, hx⟩ : ∃ x, S[r] = x := ⟨_, rfl⟩
                      have hsn : (rot S (k.toNat % S.length)).take (i3 + 1) = (rot S (k.toNat % S.length)).take i3 ++ [x] := by
                        rw [hsnoc, ← hx]
                        simp only [hidx]
                      rw [hx] at g1 g1'
                      have HSn := Lib.hid hsn
                      clear hsnoc hidx hsn hx hk1 hs hr
                      go_wp2_with fail
                      go_region_law (refine step_own rfl (.tmp 95) (.tmp 106) 22 rfl WB2.heap.size 9 iS _ 1 16 Tryz.underlying22 hiS hzS0 hzS1 hzS2 rfl (by decide) _ rfl i3 _ (World.ownsRow.alloc (w := wr.drew) HOwn.out _) ⟨wr.heap.size, 0, none⟩ 1 1 [.string x] rfl rfl one_cell (by simp [Value.oneCell']) (by unfold maxLen; omega) (by omega) (by have := HBl.out.size; simp; omega) ?_; intro v7 w7 hown7 hgrow; obtain ⟨g7, cap7, rfl⟩ := Joins.ownsRow_form hown7 (by omega); have r7 := (ord_grow HBl.out.size HOwn.out hgrow w2.heap.size (by have := ZW3.out; omega)).trans RQ.out; have l7 := (fun i => cell_of_row w7 w2.heap.size i _ _ _ r7); have f7 : ∀ i, w7.frozen? ⟨w2.heap.size, i, none⟩ = false := (fun i => by simp [World.frozen?, r7]); have HO7 := Lib.hid hown7; have HG7 := Lib.hid hgrow; clear hown7 hgrow)
                      all_goals
                        go_wp2_with fail
                        go_roundw
                        case rel => exact ord_next (fld := 2) (by have := ZW3.out; omega) hlt HOwn.out HG7.out HO7.out (by rw [HSn.out, List.map_append]; rfl) RQ.out HSame.out HBl.out rfl
                        case measure => simp [intOf]; omega
                    · obtain rfl : i3 = S.length := by omega
                      obtain ⟨WB3, hWB⟩ : ∃ WB, WB = wr := ⟨_, rfl⟩
                      subst hWB
                      have OW3 := HOwn
                      have SW3 := HSame; have LW3 := HBl
                      have QW4 := RQ; have PW4 := PR; have BW4 := HB
                      have ZW4 := Lib.hid hzq
                      have RW4 := Lib.hid ((HSame.out (w.heap.size + 1) (by have := ZW3.out; omega) (by omega)).trans RW3.out)
                      have q3 := lq; have p3 := lp
                      clear HOwn HSame RQ PR HB HBl lq lp
                      have hE := (own_sln OW1.out (by have := ZW1.out; omega)).at_ WB3 (Nat.le_trans LW2.out.size LW3.out.size) (fun j hj hne => (SW3.out j (Nat.lt_of_lt_of_le hj LW2.out.size) hne).trans (SW2.out j hj hne))
                      have hA := (own_sln OW2.out (by have := ZW2.out; omega)).at_ WB3 LW3.out.size (fun j hj hne => SW3.out j hj hne)
                      have hS := own_slv OW3.out
                      have HQ := Lib.hid (ord_pol HP.out hE hA hS)
                      clear hE hA hS
                      have r3 := fun i => cell_of_row WB3 (w.heap.size + 1) i _ _ _ RW4.out
                      obtain ⟨kb, hkb⟩ : ∃ kb, keepsB E A S el nm val = kb := ⟨_, rfl⟩
                      have HKB := Lib.hid hkb
                      have hcall := keeps_any _ E A S el nm val WB3 (HP.out.later BW4.out) (HG.out.later BW4.out) (by omega)
                      rw [hkb] at hcall
                      clear hkb
                      go_wp2_with fail
                      refine Calls.mono hcall ?_
                      rintro e w5 ⟨rfl, b5⟩
                      clear hcall
                      have B5 := Lib.hid (below_on BW4.out b5)
                      have HQ5 := Lib.hid (HQ.out.later b5)
                      have hcells : ∀ w' : World, Below w5.heap.size w5 w' → (w'.cell? ⟨w.heap.size, 0, none⟩ = some (.slice aE E.length cE) ∧ w'.cell? ⟨w.heap.size, 1, none⟩ = some (.slice aA A.length cA) ∧ w'.cell? ⟨w.heap.size, 2, none⟩ = some (.slice aS S.length cS) ∧ w'.cell? ⟨w2.heap.size, 0, none⟩ = some (.slice A1 E.length c1) ∧ w'.cell? ⟨w2.heap.size, 1, none⟩ = some (.slice A2 A.length c2) ∧ w'.cell? ⟨w2.heap.size, 2, none⟩ = some (.slice A3 S.length c3) ∧ w'.cell? ⟨w.heap.size + 1, 0, none⟩ = some (.string nm) ∧ w'.cell? ⟨w.heap.size + 1, 1, none⟩ = some (.string val) ∧ Below w5.heap.size w5 w') := by
                        intro w' hb
                        have hb3 := below_on b5 hb
                        have k1 := fun i => cell_of_row w' w.heap.size i _ _ _ ((hb3.block _ (Array.getElem?_eq_some_iff.1 PW4.out).1).trans PW4.out)
                        have k2 := fun i => cell_of_row w' w2.heap.size i _ _ _ ((hb3.block _ (Array.getElem?_eq_some_iff.1 QW4.out).1).trans QW4.out)
                        have k3 := fun i => cell_of_row w' (w.heap.size + 1) i _ _ _ ((hb3.block _ (Array.getElem?_eq_some_iff.1 RW4.out).1).trans RW4.out)
                        exact ⟨k1 0, k1 1, k1 2, k2 0, k2 1, k2 2, k3 0, k3 1, hb⟩
                      have HCe := Lib.hid hcells
                      have HS0 := Lib.hid (hcells w5 (Below.refl _ _))
                      obtain ⟨C, hC⟩ : ∃ C, checkB E A S = C := ⟨_, rfl⟩
                      have hC2 : checkB (rot E (k.toNat % E.length)) (rot A (k.toNat % A.length)) (rot S (k.toNat % S.length)) = C := (check_perm (rot_perm _ _) (rot_perm _ _) (rot_perm _ _)).symm.trans hC
                      have hK2 : keepsB (rot E (k.toNat % E.length)) (rot A (k.toNat % A.length)) (rot S (k.toNat % S.length)) el nm val = kb := (keeps_perm (rot_perm _ _) (rot_perm _ _) (rot_perm _ _)).symm.trans HKB.out
                      have HCP := Lib.hid fun (w' : World) (hb : Below w5.heap.size w5 w') => check_any _ E A S w' (HP.out.later (below_on B5.out hb)) (HT.out.later (below_on B5.out hb))
                      have HCQ := Lib.hid fun (w' : World) (hb : Below w5.heap.size w5 w') => check_any _ _ _ _ w' (HQ5.out.later hb) (HT.out.later (below_on B5.out hb))
                      have HKQ := Lib.hid fun (w' : World) (hb : Below w5.heap.size w5 w') => keeps_any _ _ _ _ el nm val w' (HQ5.out.later hb) (HG.out.later (below_on B5.out hb)) (by omega)
                      rw [hC] at HCP
                      rw [hC2] at HCQ
                      rw [hK2] at HKQ
                      have HK2 := Lib.hid hK2
                      clear hcells hC hC2 hK2 r3 q3 p3
                      go_wp2_with fail
                      go_region_held3 (fun w' => w'.cell? ⟨w.heap.size, 0, none⟩ = some (.slice aE E.length cE) ∧ w'.cell? ⟨w.heap.size, 1, none⟩ = some (.slice aA A.length cA) ∧ w'.cell? ⟨w.heap.size, 2, none⟩ = some (.slice aS S.length cS) ∧ w'.cell? ⟨w2.heap.size, 0, none⟩ = some (.slice A1 E.length c1) ∧ w'.cell? ⟨w2.heap.size, 1, none⟩ = some (.slice A2 A.length c2) ∧ w'.cell? ⟨w2.heap.size, 2, none⟩ = some (.slice A3 S.length c3) ∧ w'.cell? ⟨w.heap.size + 1, 0, none⟩ = some (.string nm) ∧ w'.cell? ⟨w.heap.size + 1, 1, none⟩ = some (.string val) ∧ Below w5.heap.size w5 w') (first | assumption | exact HS0.out | exact HCe.out _ (Below.refl _ _).drew | exact HCe.out _ (Below.drew (s_nine (by assumption))) | exact HCe.out _ (below_on (s_nine (by assumption)) (by assumption))) (first
                        | (go_at_call 12; (with_reducible refine Calls.mono (HCP.out _ (s_nine (by assumption))) ?_); rintro e w6 ⟨rfl, b6⟩)
                        | (go_at_call 12; (with_reducible refine Calls.mono (HCQ.out _ (s_nine (by assumption))) ?_); rintro e w7 ⟨rfl, b7⟩)
                        | (go_at_call 11; (with_reducible refine Calls.mono (HKQ.out _ (s_nine (by assumption))) ?_); rintro e w8 ⟨rfl, b8⟩))
                      have bw : Below w5.heap.size w5 w8 := s_nine (by assumption)
                      have B8 := Lib.hid (below_on B5.out bw)
                      have hown8 := own_keep OW3.out (w' := w8) (fun g _ h2 => (below_on b5 bw).block g h2)
                      have BB := Lib.hid (below_on b5 bw)
                      have HO8 := Lib.hid hown8
                      have p8 := Lib.hid ((BB.out.block _ (Array.getElem?_eq_some_iff.1 QW4.out).1).trans QW4.out)
                      have r8 := Lib.hid ((BB.out.block _ (Array.getElem?_eq_some_iff.1 RW4.out).1).trans RW4.out)
                      have q8 := fun i => cell_of_row w8 w2.heap.size i _ _ _ p8.out
                      have z8 : w2.heap.size < w8.heap.size := (Array.getElem?_eq_some_iff.1 p8.out).1
                      have z8r : w.heap.size + 1 < w8.heap.size := (Array.getElem?_eq_some_iff.1 r8.out).1
                      clear hown8 bw b6 b7 b8
                      cases kb with
                      | false =>
                        go_wp2_with (first
                          | (at_builtin; refine wpList_append_own_at _ rfl _ _ 22 rfl WB2.heap.size 9 iS _ 1 16 Tryz.underlying22 hiS hzS0 hzS1 hzS2 rfl (by decide) _ S.length _ rfl (HO8.out.alloc (.cells #[.string ⟨#[109, 111, 114, 101]⟩] 9)) ⟨w8.heap.size, 0, none⟩ 1 1 [.string ⟨#[109, 111, 114, 101]⟩] rfl rfl one_cell (by simp [Value.oneCell']) (by unfold maxLen; omega) (by omega) (by have := BB.out.size; have := LW3.out.size; simp; omega) ?_; intro v9 w9 hown9 hgrow _ _; have p9 := (hgrow.block w2.heap.size (by simp; omega) (by intro he; have := (HO8.out.lt _ he.symm).1; have := ZW3.out; omega)).trans ((Below.heap_alloc _ _ _ (by omega)).trans p8.out); have c9 := (fun i => cell_of_row w9 w2.heap.size i _ _ _ p9); have f9 : ∀ i, w9.frozen? ⟨w2.heap.size, i, none⟩ = false := (fun i => by simp [World.frozen?, p9]); have HG9 := Lib.hid hgrow; clear hgrow; obtain ⟨g9, cap9, rfl⟩ := Joins.ownsRow_form hown9 (by omega))
                          | fail)
                        go_ret
                        refine ⟨rfl, Below.setCell (Below.grown (B8.out.alloc B8.out.size _) HG9.out (by have := B8.out.size; simp; omega) (fun j he => ?_)) (by have := B2.out.size; show w.heap.size ≤ w2.heap.size; omega) _⟩
                        have := (HO8.out.lt _ he).1
                        have := ZW3.out
                        have := B2.out.size
                        omega
                      | true =>
                        go_wp2_with (first
                          | (at_builtin; refine wpList_append_own_at _ rfl _ _ 22 rfl WB2.heap.size 9 iS _ 1 16 Tryz.underlying22 hiS hzS0 hzS1 hzS2 rfl (by decide) _ S.length _ rfl (HO8.out.alloc (.cells #[.string ⟨#[109, 111, 114, 101]⟩] 9)) ⟨w8.heap.size, 0, none⟩ 1 1 [.string ⟨#[109, 111, 114, 101]⟩] rfl rfl one_cell (by simp [Value.oneCell']) (by unfold maxLen; omega) (by omega) (by have := BB.out.size; have := LW3.out.size; simp; omega) ?_; intro v9 w9 hown9 hgrow _ _; have p9 := (hgrow.block w2.heap.size (by simp; omega) (by intro he; have := (HO8.out.lt _ he.symm).1; have := ZW3.out; omega)).trans ((Below.heap_alloc _ _ _ (by omega)).trans p8.out); have r9 := (hgrow.block (w.heap.size + 1) (by simp; omega) (by intro he; have := (HO8.out.lt _ he.symm).1; have := ZW3.out; have := Z2.out; omega)).trans ((Below.heap_alloc _ _ _ (by omega)).trans r8.out); have c9 := (fun i => cell_of_row w9 w2.heap.size i _ _ _ p9); have cr9 := (fun i => cell_of_row w9 (w.heap.size + 1) i _ _ _ r9); have f9 : ∀ i, w9.frozen? ⟨w2.heap.size, i, none⟩ = false := (fun i => by simp [World.frozen?, p9]); have HG9 := Lib.hid hgrow; clear hgrow; obtain ⟨g9, cap9, rfl⟩ := Joins.ownsRow_form hown9 (by omega))
                          | fail)
                        have hz1 := ZW1.out; have hz2' := ZW2.out; have hz3 := ZW3.out; have hl2 := LW2.out.size; have hl3 := LW3.out.size; have hlB := BB.out.size; have hlg := HG9.out.size
                        have hlow : ∀ j, j < WB2.heap.size → j ≠ w2.heap.size → (w9.setCell ⟨w2.heap.size, 2, none⟩ (.slice (some ⟨g9, 0, none⟩) (S.length + 1) cap9)).heap[j]? = WB3.heap[j]? := fun j hj hne => by
                          rw [Below.heap_setCell _ _ _ _ hne, HG9.out.block j (by simp; omega) (by intro he; have := (HO8.out.lt _ he.symm).1; omega), Below.heap_alloc _ _ _ (by omega)]
                          exact BB.out.block j (by omega)
                        have hlg' : w8.heap.size + 1 ≤ (w9.setCell ⟨w2.heap.size, 2, none⟩ (.slice (some ⟨g9, 0, none⟩) (S.length + 1) cap9)).heap.size := by simp at hlg ⊢; exact hlg
                        have hE := (own_sln OW1.out hz1).at_ (w9.setCell ⟨w2.heap.size, 2, none⟩ (.slice (some ⟨g9, 0, none⟩) (S.length + 1) cap9)) (by omega) (fun j hj hne => (hlow j (by omega) hne).trans ((SW3.out j (by omega) hne).trans (SW2.out j hj hne)))
                        have hA := (own_sln OW2.out hz2').at_ (w9.setCell ⟨w2.heap.size, 2, none⟩ (.slice (some ⟨g9, 0, none⟩) (S.length + 1) cap9)) (by omega) (fun j hj hne => (hlow j hj hne).trans (SW3.out j hj hne))
                        have hS := own_slv (ownsRow_setCell_below hown9 (a := ⟨w2.heap.size, 2, none⟩) hz3 (.slice (some ⟨g9, 0, none⟩) (S.length + 1) cap9))
                        have hb9 : Below w.heap.size w (w9.setCell ⟨w2.heap.size, 2, none⟩ (.slice (some ⟨g9, 0, none⟩) (S.length + 1) cap9)) := Below.setCell (Below.grown (B8.out.alloc B8.out.size _) HG9.out (by have := B8.out.size; simp; omega) (fun j he => by have := (HO8.out.lt _ he).1; have := B2.out.size; omega)) (by have := B2.out.size; show w.heap.size ≤ w2.heap.size; omega) _
                        have hpol := ord_pol2 (x := ⟨#[109, 111, 114, 101]⟩) (by decide) HP.out (by omega) hE hA hS
                        have hk := keeps_any _ _ _ _ el nm val _ hpol (HG.out.later hb9) (by omega)
                        rw [keeps_mono (S := rot S (k.toNat % S.length) ++ [⟨#[109, 111, 114, 101]⟩]) (fun x hx => hx) (fun x hx => hx) (fun x hx => List.mem_append_left _ hx) (by exact HK2.out)] at hk
                        refine Calls.mono hk ?_
                        rintro e w11 ⟨rfl, b11⟩
                        go_wp2
                        go_ret
                        exact ⟨rfl, below_on hb9 b11⟩
        · have z3 : (3000 : Int) < (val.size : Int) := by omega
          go_wp2_with fail
          refine Calls.mono (HKN.out _ B1.out) ?_
          rintro e w2 ⟨rfl, b2⟩
          have b2 := below_on B1.out b2
          go_wp2
          go_ret
          exact ⟨rfl, b2⟩
      · have z2 : (3000 : Int) < (nm.size : Int) := by omega
        go_wp2_with fail
        refine Calls.mono (HKN.out _ B1.out) ?_
        rintro e w2 ⟨rfl, b2⟩
        have b2 := below_on B1.out b2
        go_wp2
        go_ret
        exact ⟨rfl, b2⟩
    · have z1 : (3000 : Int) < (el.size : Int) := by omega
      go_wp2_with fail
      refine Calls.mono (HKN.out _ B1.out) ?_
      rintro e w2 ⟨rfl, b2⟩
      have b2 := below_on B1.out b2
      go_wp2
      go_ret
      exact ⟨rfl, b2⟩
end Go.Proofs.YtdkjenbncmedbaaGreatDoor
