/- strings.Join with a blank. -/
import Derived.Test.YtbcfhpomclkccaaDoorRsGrow
namespace Go.Proofs.YtbcfhpomclkccaaDoor
open Go.RowKit

def sumZ (l : List ByteArray) : Nat := (l.map ByteArray.size).sum
theorem sumZ_snoc (l : List ByteArray) (x : ByteArray) : sumZ (l ++ [x]) = sumZ l + x.size := by simp [sumZ]
theorem sumZ_append (l m : List ByteArray) : sumZ (l ++ m) = sumZ l + sumZ m := by simp [sumZ]
theorem sumZ_take (l : List ByteArray) (k : Nat) : sumZ (l.take k) ≤ sumZ l := by
  have := sumZ_append (l.take k) (l.drop k)
  rw [List.take_append_drop] at this
  omega
/-- Texts with a blank between each two. -/
def joinL : List ByteArray → List UInt8
  | [] => []
  | x :: r => x.data.toList ++ r.flatMap fun y => 32 :: y.data.toList
theorem joinL_snoc (l : List ByteArray) (y : ByteArray) (h : l ≠ []) : joinL (l ++ [y]) = joinL l ++ 32 :: y.data.toList := by
  cases l with
  | nil => exact absurd rfl h
  | cons x r => simp [joinL]
theorem joinL_len : ∀ l : List ByteArray, (joinL l).length ≤ sumZ l + l.length
  | [] => by simp [joinL]
  | x :: r => by
    have h : ∀ r : List ByteArray, (r.flatMap fun y => (32 : UInt8) :: y.data.toList).length = sumZ r + r.length := by
      intro r
      induction r with
      | nil => rfl
      | cons y r ih =>
        rw [List.flatMap_cons, List.length_append, ih]
        have : y.data.toList.length = y.size := Array.length_toList
        simp [sumZ] at this ⊢
        omega
    have hx : x.data.toList.length = x.size := Array.length_toList
    simp only [joinL, List.length_append, h, hx]
    simp [sumZ]
    omega
def JoinR (w : World) (l : List UInt8) (e : Ending) (w' : World) : Prop := e = .returned (.string ⟨l.toArray⟩) ∧ Below w.heap.size w w'
theorem str_eq (x : ByteArray) : (⟨x.data.toList.toArray⟩ : ByteArray) = x := rfl
def JW1 (xs : List ByteArray) (w : World) (v5 v41 : Value) (wr : World) : Prop := ∃ k : Nat, v41 = .int .i64 (k : Int) ∧ v5 = .int .i64 ((xs.length - 1 + sumZ (xs.take k) : Nat) : Int) ∧ k ≤ xs.length ∧ wr = w
def JW2 (xs : List ByteArray) (w : World) (v65 : Value) (wr : World) : Prop := ∃ k : Nat, v65 = .int .i64 (k : Int) ∧ k + 1 ≤ xs.length ∧ Bld 47 w.heap.size w.heap.size (joinL (xs.take (k + 1))) wr ∧ Below w.heap.size w wr
set_option maxHeartbeats 4000000 in
set_option maxRecDepth 100000 in
theorem join_any (xs : List ByteArray) (bk c : Nat) (w : World) (hN : xs.length ≤ 1000000) (hZ : sumZ xs ≤ 1000000) (hc : xs.length ≤ c) (_ : c ≤ 1000000) (hbk : bk < w.heap.size) (hcells : ∀ (j : Nat) x, xs[j]? = some x → w.cell? ⟨bk, j, none⟩ = some (.string x)) :
    Calls Tryd.prog 22 #[.slice (some ⟨bk, 0, none⟩) xs.length c, .string ⟨#[32]⟩] w (JoinR w (joinL xs)) := by
  by_cases h0 : xs.length = 0
  · obtain rfl := List.eq_nil_of_length_eq_zero h0
    go_enter Tryd.func22, Tryd.ntmps22
    go_wp2
    go_ret
    exact ⟨rfl, Below.refl _ _⟩
  · by_cases h1 : xs.length = 1
    · obtain ⟨x, rfl⟩ := List.length_eq_one_iff.1 h1
      have hx : w.cell? ⟨bk, 0, none⟩ = some (.string x) := hcells 0 x rfl
      have hv : joinL [x] = x.data.toList := by simp [joinL]
      rw [hv]
      clear h0 h1 hcells
      go_enter Tryd.func22, Tryd.ntmps22
      go_wp2
      go_ret
      exact ⟨rfl, Below.refl _ _⟩
    · obtain ⟨N, hNe⟩ : ∃ N, xs.length = N := ⟨_, rfl⟩
      have HX := Lib.hid hcells
      have HN := Lib.hid hNe
      have HZ := Lib.hid hZ
      rw [hNe] at h0 h1 hN hc ⊢
      have hn0 : ((N : Int) == 0) = false := by rw [beq_eq_false_iff_ne]; omega
      have hn1 : ((N : Int) == 1) = false := by rw [beq_eq_false_iff_ne]; omega
      have hq : (1 : Int) < 9223372036854775807 / ((N : Int) - 1) := by
        have : (1000 : Int) ≤ 9223372036854775807 / ((N : Int) - 1) := (Int.le_ediv_iff_mul_le (by omega)).2 (by omega)
        omega
      have hq0 : ((N : Int) - 1 == 0) = false := by rw [beq_eq_false_iff_ne]; omega
      have H0 := Lib.hid (show JW1 xs w (.int .i64 ((N : Int) - 1)) (.int .i64 0) w from ⟨0, rfl, by simp [sumZ, HN.out]; omega, Nat.zero_le _, rfl⟩)
      clear hcells hNe hZ
      go_enter Tryd.func22, Tryd.ntmps22
      go_wp2_with fail
      go_loopw [5, 7, 41] (fun v5 _ v41 wr => JW1 xs w v5 v41 wr) (fun _ _ v41 _ => N - (intOf v41).toNat)
      case atStart => exact H0.out
      case round =>
        obtain ⟨k, rfl, rfl, hk, hwr⟩ := hrel
        have hwr2 := hwr.symm
        subst hwr2
        clear hwr
        rw [HN.out] at hk ⊢
        have hst := sumZ_take xs k
        have hZ := HZ.out
        obtain ⟨z, hz⟩ : ∃ z, N - 1 + sumZ (xs.take k) = z := ⟨_, rfl⟩
        have hzb : z ≤ 2000000 := by omega
        rw [hz]
        by_cases hlt : k < N
        · have hki : (k : Int) < (N : Int) := by omega
          have hkl : k < xs.length := by rw [HN.out]; exact hlt
          obtain ⟨x, hx⟩ : ∃ x, xs[k] = x := ⟨_, rfl⟩
          have hc0 := HX.out k x (by rw [List.getElem?_eq_getElem hkl, hx])
          have hstep : sumZ (xs.take (k + 1)) = sumZ (xs.take k) + x.size := by rw [List.take_succ_eq_append_getElem hkl, sumZ_snoc, hx]
          have hxb : x.size ≤ 1000000 := by have := sumZ_take xs (k + 1); omega
          have HS := Lib.hid hstep
          have HZ2 := Lib.hid hz
          have hov : ¬ (9223372036854775807 : Int) - (z : Int) < (x.size : Int) := by omega
          clear hst hZ hz hstep hk
          go_wp2_with fail
          go_roundw
          case rel => exact ⟨k + 1, rfl, by rw [HN.out]; have := HS.out; have := HZ2.out; congr 1; omega, by rw [HN.out]; omega, rfl⟩
          case measure => simp [intOf]; omega
        · obtain rfl : k = N := by omega
          have hkl : 0 < xs.length := by rw [HN.out]; omega
          obtain ⟨x, hx⟩ : ∃ x, xs[0] = x := ⟨_, rfl⟩
          have hc0 := HX.out 0 x (by rw [List.getElem?_eq_getElem hkl, hx])
          have h01 : joinL (xs.take 1) = x.data.toList := by rw [show xs.take 1 = [x] by cases hxs : xs with | nil => rw [hxs] at hkl; cases hkl | cons y r => simp [hxs] at hx ⊢; exact hx]; simp [joinL]
          have hxz : x.size ≤ 1000000 := by
            have h2 := sumZ_take xs 1
            rw [show xs.take 1 = [x] by cases hxs : xs with | nil => rw [hxs] at hkl; cases hkl | cons y r => simp [hxs] at hx ⊢; exact hx] at h2
            simp [sumZ] at h2 hZ
            omega
          have H01 := Lib.hid h01
          have HC0 := Lib.hid hc0
          have hc1 : ¬ c = 1 := by omega
          have hkn : (1 : Int) ≤ (k : Int) := by omega
          have hkn2 : 1 ≤ k := by omega
          have hkc : (k : Int) ≤ (c : Int) := by omega
          clear hst hZ hz h01 hc0 hx hkl H0 hlt hk
          go_wp2_with fail
          refine (Grow_fresh w.heap.size w.heap.size _ _ (Nat.le_refl _) (heap_alloc_new w _) (by simp) (by omega)).mono ?_
          rintro e w1 ⟨rfl, hb0, hb1⟩
          have H1 := Lib.hid (Lib.IsBuilderF.of (Or.inr hb0) : Bld 47 w.heap.size w.heap.size [] w1)
          have Hb1 := Lib.hid (((Below.refl w.heap.size w).alloc (Nat.le_refl _) _).trans hb1)
          clear hb0 hb1
          have hz1 := Hb1.out.size
          have hc1 := (Hb1.out.cell (p := ⟨bk, 0, none⟩) hbk).trans HC0.out
          go_wp2_with fail
          refine Calls.mono (bld_WriteString unb w.heap.size w.heap.size [] x w1 H1.out (by simp; omega) hz1) ?_
          rintro e w2 ⟨rfl, hB2, hw2, _⟩
          have HB2 := Lib.hid (hw2)
          have hz2 := hw2.size
          have H2 := Lib.hid (show JW2 xs w (.int .i64 0) w2 from ⟨0, rfl, by rw [HN.out]; omega, by rw [H01.out]; exact hB2, Hb1.out.trans hw2⟩)
          clear hB2 hw2
          go_wp2_with fail
          go_loopw [10, 65] (fun _ v65 wr => JW2 xs w v65 wr) (fun _ v65 _ => k - (intOf v65).toNat)
          case atStart => exact H2.out
          case round =>
            obtain ⟨q, rfl, hq1, hBq, hbq⟩ := hrel
            rw [HN.out] at hq1
            have HBQ := Lib.hid hBq
            have HQ := Lib.hid hbq
            have hzq := hbq.size
            clear hBq hbq
            by_cases hlq : q + 1 < k
            · have hkl : q + 1 < xs.length := by rw [HN.out]; exact hlq
              obtain ⟨y, hy⟩ : ∃ y, xs[q + 1] = y := ⟨_, rfl⟩
              have hcq := (HQ.out.cell (p := ⟨bk, q + 1, none⟩) hbk).trans (HX.out (q + 1) y (by rw [List.getElem?_eq_getElem hkl, hy]))
              rw [show q + 1 = 1 + q by omega] at hcq
              have hstep : joinL (xs.take (q + 1 + 1)) = joinL (xs.take (q + 1)) ++ 32 :: y.data.toList := by
                rw [List.take_succ_eq_append_getElem hkl, hy]
                exact joinL_snoc _ _ (by intro e; have := congrArg List.length e; rw [List.length_take, HN.out] at this; simp at this; omega)
              have hjl := joinL_len (xs.take (q + 1))
              have hst := sumZ_take xs (q + 1)
              have hst2 := sumZ_take xs (q + 1 + 1)
              rw [List.take_succ_eq_append_getElem hkl, hy, sumZ_snoc] at hst2
              have hZ := HZ.out
              have hjl2 : (joinL (xs.take (q + 1))).length ≤ 2000000 := by
                have : (xs.take (q + 1)).length ≤ q + 1 := by rw [List.length_take]; omega
                omega
              have hyz : y.size ≤ 1000000 := by omega
              have HS := Lib.hid hstep
              have hqi : (q : Int) < (k : Int) - 1 := by omega
              have hqi2 : ((q : Int)) + 1 < (k : Int) := by omega
              clear hstep hjl hst hst2 hZ hy
              go_wp2_with fail
              refine Calls.mono (bld_WriteString unb w.heap.size w.heap.size _ ⟨#[32]⟩ wr HBQ.out (by rw [show (⟨#[32]⟩ : ByteArray).size = 1 from rfl]; omega) hzq) ?_
              rintro e w3 ⟨rfl, hB3, hw3, _⟩
              have hz3 := hw3.size
              go_wp2_with fail
              refine Calls.mono (bld_WriteString unb w.heap.size w.heap.size _ y w3 hB3 (by simp; omega) (by omega)) ?_
              rintro e w4 ⟨rfl, hB4, hw4, _⟩
              have H4 := Lib.hid hB4
              have HW4 := Lib.hid ((HQ.out.trans hw3).trans hw4)
              clear hB3 hB4 hw3 hw4
              go_wp2_with fail
              go_roundw
              case rel => exact ⟨q + 1, rfl, by rw [HN.out]; omega, by rw [HS.out]; simpa using H4.out, HW4.out⟩
              case measure => simp [intOf]; omega
            · have hqk : xs.take (q + 1) = xs := List.take_of_length_le (by rw [HN.out]; omega)
              have HT := Lib.hid hqk
              have hqi : ¬ (q : Int) + 1 < (k : Int) := by omega
              clear hqk
              go_wp2_with fail
              refine Calls.mono (bld_String 47 w.heap.size w.heap.size _ wr HBQ.out hzq) ?_
              rintro e w3 ⟨rfl, _, hw3, _⟩
              have HW3 := Lib.hid (HQ.out.trans hw3)
              clear hw3
              go_wp2
              go_ret
              exact ⟨congrArg (fun l => Ending.returned (Value.string ⟨(joinL l).toArray⟩)) HT.out, HW3.out⟩
end Go.Proofs.YtbcfhpomclkccaaDoor
