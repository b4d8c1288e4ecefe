/- (*strings.Builder).Grow at a fresh one. -/
import Derived.Test.YtebfjlfkofibpaaGreatDoorRsUn
import Derived.Test.YtebfjlfkofibpaaGreatDoorShelfD
import Derived.Shelf.Strings.Builder2
import Derived.Lib.TrimByte
import Derived.Deep.QuietTactic
import Derived.IntWalk
import Derived.Lib.Hide
namespace Go.Proofs.YtebfjlfkofibpaaGreatDoor
set_option maxHeartbeats 16000000
set_option maxRecDepth 1000000
section
open Go.RowKit
theorem grow_fresh (B b n : Nat) (w : World) (hB : B ≤ b) (hbk : w.heap[b]? = some (.cells #[.pointer (some ⟨b, 0, none⟩), .slice none 0 0] 104 (0, 0))) (hBw : B ≤ w.heap.size) (hn : n ≤ 281474976710656) :
  Calls Tryz.prog 112 #[.pointer (some ⟨b, 0, none⟩), .int .i64 n] w fun e w' => e = .returned (.tuple #[]) ∧ (Lib.BuilderAt 104 5 B b (.pointer (some ⟨b, 0, none⟩)) [] w' ∧ Below B w w') := by
 obtain ⟨cs, hrun, hle, hmax⟩ := Lib.run_makeNoZero (P := Tryz.prog) w.drew #[3] 22 5 Tryz.underlying22 n hn;have hw : IntKind.i64.wrap (IntKind.i64.wrap 0 + (n : Int)) = n := by
  rw [IntKind.wrap_i64, IntKind.wrap_i64];omega
 have hcall : (callFunc 157 #[.int .i64 (IntKind.i64.wrap (IntKind.i64.wrap 0 + (n : Int)))]).run Tryz.prog w.drew = .ok (.value (.slice (some ⟨w.drew.heap.size, 0, none⟩) n cs.size)) (w.drew.drew.drew.alloc (.cells cs 5)) := by
  rw [hw, run_callFunc_extern Tryz.func157 (by kernel_rfl) (by kernel_rfl) (by kernel_rfl) (e := Extern.BytealgMakeNoZero.makeNoZero #[3] #[22]) (by kernel_rfl), hrun];rfl
 have hlt : b < w.heap.size := (gSq.1 hbk).1;have c1 : w.drew.cell? ⟨b, 1, none⟩ = some (.slice none 0 0) := by
  have : w.drew.heap[b]? = _ := hbk;rw [Lib.cell_of_heap this]; rfl
 have c2 : (w.alloc (.cells cs 5)).cell? ⟨b, 1, none⟩ = some (.slice none 0 0) := by
  have : (w.alloc (.cells cs 5)).heap[b]? = _ := (Lib.alloc_old w _ b hlt).trans hbk;rw [Lib.cell_of_heap this]; rfl
 have f2 : (w.alloc (.cells cs 5)).frozen? ⟨b, 1, none⟩ = false := Lib.frozen_of_heap ((Lib.alloc_old w _ b hlt).trans hbk) 1;have hcopy : ∀ W : World, (Builtin.copy_ #[22, 22] 3 #[.slice (some ⟨w.heap.size, 0, none⟩) 0 cs.size, .slice none 0 0]).run Tryz.prog W = .ok (goInt 0) W :=
  fun W => run_copy_none W 22 22 3 5 _ _ 0 cs.size 0 0 Tryz.underlying22 (by kernel_rfl) rfl;clear hw;go_enter Tryz.func112, Tryz.ntmps112;go_wp2;have hfin := Lib.grown_fresh (T := 104) (e := 5) (cs := cs) hB hbk hBw (hmax (by unfold maxLen; omega)) (by decide);rw [World.setCell_alloc_past _ _ _ _ hlt] at hfin
 go_region
 all_goals (go_wp2; go_end0; exact ⟨rfl, hfin⟩)
theorem Grow_fresh (B b n : Nat) (w : World) (hB : B ≤ b) (hbk : w.heap[b]? = some (.cells #[.pointer none, .slice none 0 0] 104 (0, 0))) (hBw : B ≤ w.heap.size) (hn : n ≤ 281474976710656) :
  Calls Tryz.prog 73 #[.pointer (some ⟨b, 0, none⟩), .int .i64 n] w fun e w' => e = .returned (.tuple #[]) ∧ (Lib.BuilderAt 104 5 B b (.pointer (some ⟨b, 0, none⟩)) [] w' ∧ Below B w w') := by
 have hbk1 : (w.setCell ⟨b, 0, none⟩ (.pointer (some ⟨b, 0, none⟩))).heap[b]? = some (.cells #[.pointer (some ⟨b, 0, none⟩), .slice none 0 0] 104 (0, 0)) := by
  simp [World.setCell, Array.getElem?_modify, hbk]
 have c1 : (w.setCell ⟨b, 0, none⟩ (.pointer (some ⟨b, 0, none⟩))).cell? ⟨b, 1, none⟩ = some (.slice none 0 0) := by rw [Lib.cell_of_heap hbk1]; rfl
 have hb1 : Below B w (w.setCell ⟨b, 0, none⟩ (.pointer (some ⟨b, 0, none⟩))) := (Below.refl B w).setCell (p := ⟨b, 0, none⟩) hB _;have hU : Lib.BuilderAt 104 5 B b (.pointer (some ⟨b, 0, none⟩)) [] (w.setCell ⟨b, 0, none⟩ (.pointer (some ⟨b, 0, none⟩))) := ⟨hB, .slice none 0 0, hbk1, World.ownsRow_nil _ _ _ _, by simp [Value.ownBlock]⟩;have c1' : (w.setCell ⟨b, 0, none⟩ (.pointer (some ⟨b, 0, none⟩))).drew.cell? ⟨b, 1, none⟩ = some (.slice none 0 0) := c1;go_enter Tryz.func73, Tryz.ntmps73
 go_wp2_with (go_at_call 111; refine (bld_check_fresh unb b w (by rw [Lib.cell_of_heap hbk]; rfl) (by simp [World.shape?, hbk]) (Lib.frozen_of_heap hbk 0)).mono ?_; rintro e w' ⟨rfl, rfl⟩)
 go_region
 all_goals go_wp2_with (go_at_call 112; refine (grow_fresh B b n (w.setCell ⟨b, 0, none⟩ (.pointer (some ⟨b, 0, none⟩))).drew hB hbk1 (by simpa [World.setCell, World.drew, -World.drew_eq] using hBw) hn).mono ?_; rintro e w' ⟨rfl, h1, h2⟩)
 all_goals first
  | (go_end0; exact ⟨rfl, h1, hb1.drew.trans h2⟩)
  | (go_end0; exact ⟨rfl, hU.drew, hb1.drew⟩)
end
section
open Go.RowKit
def sumZ (l : List ByteArray) : Nat := (l.map ByteArray.size).sum
theorem sumZ_snoc (l : List ByteArray) (x : ByteArray) : sumZ (l ++ [x]) = sumZ l + x.size := by simp [sumZ]
theorem sumZ_append (l m : List ByteArray) : sumZ (l ++ m) = sumZ l + sumZ m := by simp [sumZ]
theorem sumZ_take (l : List ByteArray) (k : Nat) : sumZ (l.take k) ≤ sumZ l := by
 have := sumZ_append (l.take k) (l.drop k);rw [List.take_append_drop] at this;omega
def joinL : List ByteArray -> List UInt8
 | [] => []
 | x :: r => x.data.toList ++ r.flatMap fun y => 32 :: y.data.toList
theorem joinL_snoc (l : List ByteArray) (y : ByteArray) (h : l ≠ []) : joinL (l ++ [y]) = joinL l ++ 32 :: y.data.toList := by
 cases l with
 | nil => exact absurd rfl h
 | cons x r => simp [joinL]
theorem joinL_len : ∀ l : List ByteArray, (joinL l).length ≤ sumZ l + l.length
 | [] => by simp [joinL]
 | x :: r => by
  have h : ∀ r : List ByteArray, (r.flatMap fun y => (32 : UInt8) :: y.data.toList).length = sumZ r + r.length := by
   intro r
   induction r with
   | nil => rfl
   | cons y r ih =>
    rw [List.flatMap_cons, List.length_append, ih];have : y.data.toList.length = y.size := lTq;simp [sumZ] at this ⊢;omega
  have hx : x.data.toList.length = x.size := lTq;simp only [joinL, List.length_append, h, hx];simp [sumZ];omega
def JoinR (w : World) (l : List UInt8) (e : Ending) (w' : World) : Prop := e = .returned (.string ⟨l.toArray⟩) ∧ Below w.heap.size w w'
theorem str_eq (x : ByteArray) : (⟨x.data.toList.toArray⟩ : ByteArray) = x := rfl
def JW1 (xs : List ByteArray) (w : World) (v5 v41 : Value) (wr : World) : Prop := ∃ k : Nat, v41 = .int .i64 (k : Int) ∧ v5 = .int .i64 ((xs.length - 1 + sumZ (xs.take k) : Nat) : Int) ∧ k ≤ xs.length ∧ wr = w
def JW2 (xs : List ByteArray) (w : World) (v65 : Value) (wr : World) : Prop := ∃ k : Nat, v65 = .int .i64 (k : Int) ∧ k + 1 ≤ xs.length ∧ Bld 104 w.heap.size w.heap.size (joinL (xs.take (k + 1))) wr ∧ Below w.heap.size w wr
theorem join_any (xs : List ByteArray) (bk c : Nat) (w : World) (hN : xs.length ≤ 1000000) (hZ : sumZ xs ≤ 1000000) (hc : xs.length ≤ c) (_ : c ≤ 1000000) (hbk : bk < w.heap.size) (hcells : ∀ (j : Nat) x, xs[j]? = some x -> w.cell? ⟨bk, j, none⟩ = some (.string x)) :
  Calls Tryz.prog 35 #[.slice (some ⟨bk, 0, none⟩) xs.length c, .string ⟨#[32]⟩] w (JoinR w (joinL xs)) := by
 by_cases h0 : xs.length = 0
 ·obtain rfl := List.eq_nil_of_length_eq_zero h0;go_enter Tryz.func35, Tryz.ntmps35;go_wp2;go_ret;exact ⟨rfl, Below.refl _ _⟩
 ·by_cases h1 : xs.length = 1
  ·obtain ⟨x, rfl⟩ := List.length_eq_one_iff.1 h1;have hx : w.cell? ⟨bk, 0, none⟩ = some (.string x) := hcells 0 x rfl;have hv : joinL [x] = x.data.toList := by simp [joinL]
   rw [hv];clear h0 h1 hcells;go_enter Tryz.func35, Tryz.ntmps35;go_wp2;go_ret;exact ⟨rfl, Below.refl _ _⟩
  ·obtain ⟨N, hNe⟩ : ∃ N, xs.length = N := ⟨_, rfl⟩;have HX := hdn hcells;have HN := hdn hNe;have HZ := hdn hZ;rw [hNe] at h0 h1 hN hc ⊢;have hn0 : ((N : Int) == 0) = false := by rw [beq_eq_false_iff_ne]; omega
   have hn1 : ((N : Int) == 1) = false := by rw [beq_eq_false_iff_ne]; omega
   have hq : (1 : Int) < 9223372036854775807 / ((N : Int) - 1) := by
    have : (1000 : Int) ≤ 9223372036854775807 / ((N : Int) - 1) := (Int.le_ediv_iff_mul_le (by omega)).2 (by omega);omega
   have hq0 : ((N : Int) - 1 == 0) = false := by rw [beq_eq_false_iff_ne]; omega
   have H0 := hdn (show JW1 xs w (.int .i64 ((N : Int) - 1)) (.int .i64 0) w from ⟨0, rfl, by simp [sumZ, HN.out]; omega, Nat.zero_le _, rfl⟩);clear hcells hNe hZ;go_enter Tryz.func35, Tryz.ntmps35;go_wp2_with fail
   go_loopw [5, 7, 41] (fun v5 _ v41 wr => JW1 xs w v5 v41 wr) (fun _ _ v41 _ => N - (intOf v41).toNat)
   case atStart => exact H0.out
   case round =>
    obtain ⟨k, rfl, rfl, hk, hwr⟩ := hrel;have hwr2 := hwr.symm;subst hwr2;clear hwr;rw [HN.out] at hk ⊢;have hst := sumZ_take xs k;have hZ := HZ.out;obtain ⟨z, hz⟩ : ∃ z, N - 1 + sumZ (xs.take k) = z := ⟨_, rfl⟩;have hzb : z ≤ 2000000 := by omega
    rw [hz]
    by_cases hlt : k < N
    ·have hki : (k : Int) < (N : Int) := by omega
     have hkl : k < xs.length := by rw [HN.out]; exact hlt
     obtain ⟨x, hx⟩ : ∃ x, xs[k] = x := ⟨_, rfl⟩;have hc0 := HX.out k x (by rw [List.getElem?_eq_getElem hkl, hx]);have hstep : sumZ (xs.take (k + 1)) = sumZ (xs.take k) + x.size := by rw [List.take_succ_eq_append_getElem hkl, sumZ_snoc, hx]
     have hxb : x.size ≤ 1000000 := by have := sumZ_take xs (k + 1); omega
     have HS := hdn hstep;have HZ2 := hdn hz;have hov : ¬ (9223372036854775807 : Int) - (z : Int) < (x.size : Int) := by omega
     clear hst hZ hz hstep hk;go_wp2_with fail
     go_roundw
     case rel => exact ⟨k + 1, rfl, by rw [HN.out]; have := HS.out; have := HZ2.out; congr 1; omega, by rw [HN.out]; omega, rfl⟩
     case measure => simp [intOf]; omega
    ·obtain rfl : k = N := by omega
     have hkl : 0 < xs.length := by rw [HN.out]; omega
     obtain ⟨x, hx⟩ : ∃ x, xs[0] = x := ⟨_, rfl⟩;have hc0 := HX.out 0 x (by rw [List.getElem?_eq_getElem hkl, hx]);have h01 : joinL (xs.take 1) = x.data.toList := by rw [show xs.take 1 = [x] by cases hxs : xs with | nil => rw [hxs] at hkl; cases hkl | cons y r => simp [hxs] at hx ⊢; exact hx]; simp [joinL]
     have hxz : x.size ≤ 1000000 := by
      have h2 := sumZ_take xs 1;rw [show xs.take 1 = [x] by cases hxs : xs with | nil => rw [hxs] at hkl; cases hkl | cons y r => simp [hxs] at hx ⊢; exact hx] at h2
      simp [sumZ] at h2 hZ;omega
     have H01 := hdn h01;have HC0 := hdn hc0;have hc1 : ¬ c = 1 := by omega
     have hkn : (1 : Int) ≤ (k : Int) := by omega
     have hkn2 : 1 ≤ k := by omega
     have hkc : (k : Int) ≤ (c : Int) := by omega
     clear hst hZ hz h01 hc0 hx hkl H0 hlt hk;go_wp2_with fail;refine (Grow_fresh w.heap.size w.heap.size _ _ (Nat.le_refl _) (heap_alloc_new w _) (by simp) (by omega)).mono ?_;rintro e w1 ⟨rfl, hb0, hb1⟩;have H1 := hdn (Lib.IsBuilderF.of (Or.inr hb0) : Bld 104 w.heap.size w.heap.size [] w1);have Hb1 := hdn (((Below.refl w.heap.size w).alloc (Nat.le_refl _) _).trans hb1);clear hb0 hb1;have hz1 := Hb1.out.size;have hc1 := (Hb1.out.cell (p := ⟨bk, 0, none⟩) hbk).trans HC0.out;go_wp2_with fail
     refine cMq (bld_WriteString unb w.heap.size w.heap.size [] x w1 H1.out (by simp; omega) hz1) ?_;rintro e w2 ⟨rfl, hB2, hw2, _⟩;have HB2 := hdn (hw2);have hz2 := hw2.size;have H2 := hdn (show JW2 xs w (.int .i64 0) w2 from ⟨0, rfl, by rw [HN.out]; omega, by rw [H01.out]; exact hB2, Hb1.out.trans hw2⟩);clear hB2 hw2;go_wp2_with fail
     go_loopw [10, 65] (fun _ v65 wr => JW2 xs w v65 wr) (fun _ v65 _ => k - (intOf v65).toNat)
     case atStart => exact H2.out
     case round =>
      obtain ⟨q, rfl, hq1, hBq, hbq⟩ := hrel;rw [HN.out] at hq1;have HBQ := hdn hBq;have HQ := hdn hbq;have hzq := hbq.size;clear hBq hbq
      by_cases hlq : q + 1 < k
      ·have hkl : q + 1 < xs.length := by rw [HN.out]; exact hlq
       obtain ⟨y, hy⟩ : ∃ y, xs[q + 1] = y := ⟨_, rfl⟩;have hcq := (HQ.out.cell (p := ⟨bk, q + 1, none⟩) hbk).trans (HX.out (q + 1) y (by rw [List.getElem?_eq_getElem hkl, hy]));rw [show q + 1 = 1 + q by omega] at hcq;have hstep : joinL (xs.take (q + 1 + 1)) = joinL (xs.take (q + 1)) ++ 32 :: y.data.toList := by
        rw [List.take_succ_eq_append_getElem hkl, hy];exact joinL_snoc _ _ (by intro e; have := congrArg List.length e; rw [List.length_take, HN.out] at this; simp at this; omega)
       have hjl := joinL_len (xs.take (q + 1));have hst := sumZ_take xs (q + 1);have hst2 := sumZ_take xs (q + 1 + 1);rw [List.take_succ_eq_append_getElem hkl, hy, sumZ_snoc] at hst2;have hZ := HZ.out;have hjl2 : (joinL (xs.take (q + 1))).length ≤ 2000000 := by
        have : (xs.take (q + 1)).length ≤ q + 1 := by rw [List.length_take]; omega
        omega
       have hyz : y.size ≤ 1000000 := by omega
       have HS := hdn hstep;have hqi : (q : Int) < (k : Int) - 1 := by omega
       have hqi2 : ((q : Int)) + 1 < (k : Int) := by omega
       clear hstep hjl hst hst2 hZ hy;go_wp2_with fail;refine cMq (bld_WriteString unb w.heap.size w.heap.size _ ⟨#[32]⟩ wr HBQ.out (by rw [show (⟨#[32]⟩ : ByteArray).size = 1 from rfl]; omega) hzq) ?_;rintro e w3 ⟨rfl, hB3, hw3, _⟩;have hz3 := hw3.size;go_wp2_with fail;refine cMq (bld_WriteString unb w.heap.size w.heap.size _ y w3 hB3 (by simp; omega) (by omega)) ?_;rintro e w4 ⟨rfl, hB4, hw4, _⟩;have H4 := hdn hB4;have HW4 := hdn ((HQ.out.trans hw3).trans hw4);clear hB3 hB4 hw3 hw4;go_wp2_with fail
       go_roundw
       case rel => exact ⟨q + 1, rfl, by rw [HN.out]; omega, by rw [HS.out]; simpa using H4.out, HW4.out⟩
       case measure => simp [intOf]; omega
      ·have hqk : xs.take (q + 1) = xs := List.take_of_length_le (by rw [HN.out]; omega);have HT := hdn hqk;have hqi : ¬ (q : Int) + 1 < (k : Int) := by omega
       clear hqk;go_wp2_with fail;refine cMq (bld_String 104 w.heap.size w.heap.size _ wr HBQ.out hzq) ?_;rintro e w3 ⟨rfl, _, hw3, _⟩;have HW3 := hdn (HQ.out.trans hw3);clear hw3;go_wp2;go_ret;exact ⟨congrArg (fun l => Ending.returned (Value.string ⟨(joinL l).toArray⟩)) HT.out, HW3.out⟩
end
section
open Go.RowKit
theorem sumZ_snocK (l : List ByteArray) (x : ByteArray) : sumZ (l ++ [x]) = sumZ l + x.size := by simp [sumZ]
theorem sumZ_appendK (l m : List ByteArray) : sumZ (l ++ m) = sumZ l + sumZ m := by simp [sumZ]
theorem sumZ_takeK (l : List ByteArray) (k : Nat) : sumZ (l.take k) ≤ sumZ l := by
 have := sumZ_appendK (l.take k) (l.drop k);rw [List.take_append_drop] at this;omega
def joinLK : List ByteArray -> List UInt8
 | [] => []
 | x :: r => x.data.toList ++ r.flatMap fun y => 10 :: y.data.toList
theorem joinL_snocK (l : List ByteArray) (y : ByteArray) (h : l ≠ []) : joinLK (l ++ [y]) = joinLK l ++ 10 :: y.data.toList := by
 cases l with
 | nil => exact absurd rfl h
 | cons x r => simp [joinLK]
theorem joinL_lenK : ∀ l : List ByteArray, (joinLK l).length ≤ sumZ l + l.length
 | [] => by simp [joinLK]
 | x :: r => by
  have h : ∀ r : List ByteArray, (r.flatMap fun y => (10 : UInt8) :: y.data.toList).length = sumZ r + r.length := by
   intro r
   induction r with
   | nil => rfl
   | cons y r ih =>
    rw [List.flatMap_cons, List.length_append, ih];have : y.data.toList.length = y.size := lTq;simp [sumZ] at this ⊢;omega
  have hx : x.data.toList.length = x.size := lTq;simp only [joinLK, List.length_append, h, hx];simp [sumZ];omega
def JoinRK (w : World) (l : List UInt8) (e : Ending) (w' : World) : Prop := e = .returned (.string ⟨l.toArray⟩) ∧ Below w.heap.size w w'
def JW1K (xs : List ByteArray) (w : World) (v5 v41 : Value) (wr : World) : Prop := ∃ k : Nat, v41 = .int .i64 (k : Int) ∧ v5 = .int .i64 ((xs.length - 1 + sumZ (xs.take k) : Nat) : Int) ∧ k ≤ xs.length ∧ wr = w
def JW2K (xs : List ByteArray) (w : World) (v65 : Value) (wr : World) : Prop := ∃ k : Nat, v65 = .int .i64 (k : Int) ∧ k + 1 ≤ xs.length ∧ Bld 104 w.heap.size w.heap.size (joinLK (xs.take (k + 1))) wr ∧ Below w.heap.size w wr
theorem join_anyK (xs : List ByteArray) (bk c : Nat) (w : World) (hN : xs.length ≤ 1000000) (hZ : sumZ xs ≤ 1000000) (hc : xs.length ≤ c) (hbk : bk < w.heap.size) (hcells : ∀ (j : Nat) x, xs[j]? = some x -> w.cell? ⟨bk, j, none⟩ = some (.string x)) :
  Calls Tryz.prog 35 #[.slice (some ⟨bk, 0, none⟩) xs.length c, .string ⟨#[10]⟩] w (JoinRK w (joinLK xs)) := by
 by_cases h0 : xs.length = 0
 ·obtain rfl := List.eq_nil_of_length_eq_zero h0;go_enter Tryz.func35, Tryz.ntmps35;go_wp2;go_ret;exact ⟨rfl, Below.refl _ _⟩
 ·by_cases h1 : xs.length = 1
  ·obtain ⟨x, rfl⟩ := List.length_eq_one_iff.1 h1;have hx : w.cell? ⟨bk, 0, none⟩ = some (.string x) := hcells 0 x rfl;have hv : joinLK [x] = x.data.toList := by simp [joinLK]
   rw [hv];clear h0 h1 hcells;go_enter Tryz.func35, Tryz.ntmps35;go_wp2;go_ret;exact ⟨rfl, Below.refl _ _⟩
  ·obtain ⟨N, hNe⟩ : ∃ N, xs.length = N := ⟨_, rfl⟩;have HX := hdn hcells;have HN := hdn hNe;have HZ := hdn hZ;rw [hNe] at h0 h1 hN hc ⊢;have hn0 : ((N : Int) == 0) = false := by rw [beq_eq_false_iff_ne]; omega
   have hn1 : ((N : Int) == 1) = false := by rw [beq_eq_false_iff_ne]; omega
   have hq : (1 : Int) < 9223372036854775807 / ((N : Int) - 1) := by
    have : (1000 : Int) ≤ 9223372036854775807 / ((N : Int) - 1) := (Int.le_ediv_iff_mul_le (by omega)).2 (by omega);omega
   have hq0 : ((N : Int) - 1 == 0) = false := by rw [beq_eq_false_iff_ne]; omega
   have H0 := hdn (show JW1K xs w (.int .i64 ((N : Int) - 1)) (.int .i64 0) w from ⟨0, rfl, by simp [sumZ, HN.out]; omega, Nat.zero_le _, rfl⟩);clear hcells hNe hZ;go_enter Tryz.func35, Tryz.ntmps35;go_wp2_with fail
   go_loopw [5, 7, 41] (fun v5 _ v41 wr => JW1K xs w v5 v41 wr) (fun _ _ v41 _ => N - (intOf v41).toNat)
   case atStart => exact H0.out
   case round =>
    obtain ⟨k, rfl, rfl, hk, hwr⟩ := hrel;have hwr2 := hwr.symm;subst hwr2;clear hwr;rw [HN.out] at hk ⊢;have hst := sumZ_takeK xs k;have hZ := HZ.out;obtain ⟨z, hz⟩ : ∃ z, N - 1 + sumZ (xs.take k) = z := ⟨_, rfl⟩;have hzb : z ≤ 2000000 := by omega
    rw [hz]
    by_cases hlt : k < N
    ·have hki : (k : Int) < (N : Int) := by omega
     have hkl : k < xs.length := by rw [HN.out]; exact hlt
     obtain ⟨x, hx⟩ : ∃ x, xs[k] = x := ⟨_, rfl⟩;have hc0 := HX.out k x (by rw [List.getElem?_eq_getElem hkl, hx]);have hstep : sumZ (xs.take (k + 1)) = sumZ (xs.take k) + x.size := by rw [List.take_succ_eq_append_getElem hkl, sumZ_snocK, hx]
     have hxb : x.size ≤ 1000000 := by have := sumZ_takeK xs (k + 1); omega
     have HS := hdn hstep;have HZ2 := hdn hz;have hov : ¬ (9223372036854775807 : Int) - (z : Int) < (x.size : Int) := by omega
     clear hst hZ hz hstep hk;go_wp2_with fail
     go_roundw
     case rel => exact ⟨k + 1, rfl, by rw [HN.out]; have := HS.out; have := HZ2.out; congr 1; omega, by rw [HN.out]; omega, rfl⟩
     case measure => simp [intOf]; omega
    ·obtain rfl : k = N := by omega
     have hkl : 0 < xs.length := by rw [HN.out]; omega
     obtain ⟨x, hx⟩ : ∃ x, xs[0] = x := ⟨_, rfl⟩;have hc0 := HX.out 0 x (by rw [List.getElem?_eq_getElem hkl, hx]);have h01 : joinLK (xs.take 1) = x.data.toList := by rw [show xs.take 1 = [x] by cases hxs : xs with | nil => rw [hxs] at hkl; cases hkl | cons y r => simp [hxs] at hx ⊢; exact hx]; simp [joinLK]
     have hxz : x.size ≤ 1000000 := by
      have h2 := sumZ_takeK xs 1;rw [show xs.take 1 = [x] by cases hxs : xs with | nil => rw [hxs] at hkl; cases hkl | cons y r => simp [hxs] at hx ⊢; exact hx] at h2
      simp [sumZ] at h2 hZ;omega
     have H01 := hdn h01;have HC0 := hdn hc0;have hc1 : ¬ c = 1 := by omega
     have hkn : (1 : Int) ≤ (k : Int) := by omega
     have hkn2 : 1 ≤ k := by omega
     have hkc : (k : Int) ≤ (c : Int) := by omega
     clear hst hZ hz h01 hc0 hx hkl H0 hlt hk;go_wp2_with fail;refine (Grow_fresh w.heap.size w.heap.size _ _ (Nat.le_refl _) (heap_alloc_new w _) (by simp) (by omega)).mono ?_;rintro e w1 ⟨rfl, hb0, hb1⟩;have H1 := hdn (Lib.IsBuilderF.of (Or.inr hb0) : Bld 104 w.heap.size w.heap.size [] w1);have Hb1 := hdn (((Below.refl w.heap.size w).alloc (Nat.le_refl _) _).trans hb1);clear hb0 hb1;have hz1 := Hb1.out.size;have hc1 := (Hb1.out.cell (p := ⟨bk, 0, none⟩) hbk).trans HC0.out;go_wp2_with fail
     refine cMq (bld_WriteString unb w.heap.size w.heap.size [] x w1 H1.out (by simp; omega) hz1) ?_;rintro e w2 ⟨rfl, hB2, hw2, _⟩;have HB2 := hdn (hw2);have hz2 := hw2.size;have H2 := hdn (show JW2K xs w (.int .i64 0) w2 from ⟨0, rfl, by rw [HN.out]; omega, by rw [H01.out]; exact hB2, Hb1.out.trans hw2⟩);clear hB2 hw2;go_wp2_with fail
     go_loopw [10, 65] (fun _ v65 wr => JW2K xs w v65 wr) (fun _ v65 _ => k - (intOf v65).toNat)
     case atStart => exact H2.out
     case round =>
      obtain ⟨q, rfl, hq1, hBq, hbq⟩ := hrel;rw [HN.out] at hq1;have HBQ := hdn hBq;have HQ := hdn hbq;have hzq := hbq.size;clear hBq hbq
      by_cases hlq : q + 1 < k
      ·have hkl : q + 1 < xs.length := by rw [HN.out]; exact hlq
       obtain ⟨y, hy⟩ : ∃ y, xs[q + 1] = y := ⟨_, rfl⟩;have hcq := (HQ.out.cell (p := ⟨bk, q + 1, none⟩) hbk).trans (HX.out (q + 1) y (by rw [List.getElem?_eq_getElem hkl, hy]));rw [show q + 1 = 1 + q by omega] at hcq;have hstep : joinLK (xs.take (q + 1 + 1)) = joinLK (xs.take (q + 1)) ++ 10 :: y.data.toList := by
        rw [List.take_succ_eq_append_getElem hkl, hy];exact joinL_snocK _ _ (by intro e; have := congrArg List.length e; rw [List.length_take, HN.out] at this; simp at this; omega)
       have hjl := joinL_lenK (xs.take (q + 1));have hst := sumZ_takeK xs (q + 1);have hst2 := sumZ_takeK xs (q + 1 + 1);rw [List.take_succ_eq_append_getElem hkl, hy, sumZ_snocK] at hst2;have hZ := HZ.out;have hjl2 : (joinLK (xs.take (q + 1))).length ≤ 2000000 := by
        have : (xs.take (q + 1)).length ≤ q + 1 := by rw [List.length_take]; omega
        omega
       have hyz : y.size ≤ 1000000 := by omega
       have HS := hdn hstep;have hqi : (q : Int) < (k : Int) - 1 := by omega
       have hqi2 : ((q : Int)) + 1 < (k : Int) := by omega
       clear hstep hjl hst hst2 hZ hy;go_wp2_with fail;refine cMq (bld_WriteString unb w.heap.size w.heap.size _ ⟨#[10]⟩ wr HBQ.out (by rw [show (⟨#[10]⟩ : ByteArray).size = 1 from rfl]; omega) hzq) ?_;rintro e w3 ⟨rfl, hB3, hw3, _⟩;have hz3 := hw3.size;go_wp2_with fail;refine cMq (bld_WriteString unb w.heap.size w.heap.size _ y w3 hB3 (by simp; omega) (by omega)) ?_;rintro e w4 ⟨rfl, hB4, hw4, _⟩;have H4 := hdn hB4;have HW4 := hdn ((HQ.out.trans hw3).trans hw4);clear hB3 hB4 hw3 hw4;go_wp2_with fail
       go_roundw
       case rel => exact ⟨q + 1, rfl, by rw [HN.out]; omega, by rw [HS.out]; simpa using H4.out, HW4.out⟩
       case measure => simp [intOf]; omega
      ·have hqk : xs.take (q + 1) = xs := List.take_of_length_le (by rw [HN.out]; omega);have HT := hdn hqk;have hqi : ¬ (q : Int) + 1 < (k : Int) := by omega
       clear hqk;go_wp2_with fail;refine cMq (bld_String 104 w.heap.size w.heap.size _ wr HBQ.out hzq) ?_;rintro e w3 ⟨rfl, _, hw3, _⟩;have HW3 := hdn (HQ.out.trans hw3);clear hw3;go_wp2;go_ret;exact ⟨congrArg (fun l => Ending.returned (Value.string ⟨(joinLK l).toArray⟩)) HT.out, HW3.out⟩
end
section
open Go.RowKit
theorem ext_drop (s : ByteArray) (k : Nat) : (s.extract k s.size).data.toList = s.data.toList.drop k := by
 have hl : s.data.toList.length = s.size := lTq;rw [Lib.extract_data, List.take_of_length_le (by rw [List.length_drop]; omega)]
end
section
open Go.RowKit
theorem atT : BldT 104 := ⟨by kernel_rfl, by decide⟩
def MaxB (w : World) : Prop := ∃ m, w.cell? ⟨0, 0, none⟩ = some (.int .i64 m)
theorem MaxB.later {w w' : World} (h : MaxB w) (hb : Below w.heap.size w w') : MaxB w' := by
 obtain ⟨m, hm⟩ := h;exact ⟨m, (hb.cell (p := ⟨0, 0, none⟩) (World.block_lt_of_cell? _ _ hm)).trans hm⟩
def RpR (w : World) (l : List UInt8) (e : Ending) (w' : World) : Prop := e = .returned (.string ⟨l.toArray⟩) ∧ Below w.heap.size w w'
theorem replace_some (s old new : ByteArray) (m : Int) (w : World)
  (hs : s.size < 4294967281) (hm : w.cell? ⟨0, 0, none⟩ = some (.int .i64 m)) (h1 : 1 ≤ old.size) (hne : old ≠ new) (hc0 : Lib.countB s old ≠ 0)
  (hlen : s.size + Lib.countB s old * new.size ≤ 140737488355328) :
  Calls Tryz.prog 80 #[.string s, .string old, .string new, .int .i64 (-1)] w (RpR w (Lib.replaceK old.data.toList new.data.toList (Lib.countB s old) s.data.toList)) := by
 have hC := Tryz.strings_Count_any s old m w hs hm h1;have hmul := Lib.countB_mul_le old h1 s.size s (Nat.le_refl _);obtain ⟨K, hK⟩ : ∃ K : Nat, Lib.countB s old = K := ⟨_, rfl⟩;rw [hK] at hC hlen hc0 hmul ⊢;have hcn' : Lib.count s.data.toList old.data.toList = K := hK;have hbeq : (old.toList == new.toList) = false := (Lib.bytes_beq_false_iff old new).2 hne;have hcz : ((K : Int) == 0) = false := beq_eq_false_iff_ne.2 (by omega);have hlenL : s.data.toList.length = s.size := (Lib.size_eq s).symm;have hlenO : old.data.toList.length = old.size := (Lib.size_eq old).symm
 have hgl : 0 < w.heap.size := World.block_lt_of_cell? _ _ hm;have hK1 : 1 ≤ K := by omega
 have hKo : K * old.size ≤ s.size := hmul;have hKs : K ≤ s.size := Nat.le_trans (Nat.le_mul_of_pos_right K (by omega)) hKo;have hKn : s.size + K * new.size ≤ 140737488355328 := hlen;have hga := Lib.grow_arg s.size K new.size old.size hK1 hKo hKn;have hKcount : K ≤ Lib.count (s.data.toList.drop 0) old.data.toList := by rw [List.drop_zero, hcn']; exact Nat.le_refl _
 clear hK hcn' hmul hlen;have hod : decide (0 < old.size) = true := decide_eq_true (by omega);go_enter Tryz.func80, Tryz.ntmps80;go_wp2_with (first | (go_at_call 119; refine hC.mono ?_; rintro e w' ⟨rfl, hw⟩; rw [hw]))
 clear hC
 try rw [hga]
 refine (Grow_fresh w.heap.size w.heap.size _ _ (Nat.le_refl _) (heap_alloc_new w _) (by simp) (by omega)).mono ?_;rintro e w1 ⟨rfl, hb0, hb1⟩;have H1 := hdn (Lib.IsBuilderF.of (Or.inr hb0) : Bld 104 w.heap.size w.heap.size [] w1);have Hb1 := hdn (((Below.refl w.heap.size w).alloc (Nat.le_refl _) _).trans hb1);clear hb0 hb1 hga;go_wp2_with fail
 go_loopg [11, 53] K (fun g s11 s53 wx => ∃ (i start : Nat) (acc : List UInt8), s53 = .int .i64 i ∧ s11 = .int .i64 start ∧ i + g = K ∧ start ≤ s.size ∧
  Hid (Bld 104 w.heap.size w.heap.size acc wx) ∧ Hid (Below w.heap.size w wx) ∧ Hid (acc ++ Lib.replaceK old.data.toList new.data.toList g (s.data.toList.drop start) = Lib.replaceK old.data.toList new.data.toList K s.data.toList) ∧
  g ≤ Lib.count (s.data.toList.drop start) old.data.toList ∧ acc.length + (s.size - start) + g * new.size ≤ s.size + K * new.size)
 case atStart => exact ⟨0, 0, [], rfl, rfl, by omega, Nat.zero_le _, H1, Hb1, hdn (by simp), hKcount, by simp⟩
 case round =>
  obtain ⟨i, start, acc, rfl, rfl, hig, hst, HB, HW, HR, hgc, hbd⟩ := hrel;have hBw : w.heap.size ≤ wr.heap.size := HW.out.size;have c1 : (0 : Int) ≤ (start : Int) := by omega
  have c2 : (start : Int) ≤ (s.size : Int) := by omega
  cases gk with
  | zero =>
   have hiK : ¬ ((i : Int) < (K : Int)) := by omega
   have hex := ext_drop s start;go_wp2_with fail;refine (bld_WriteString atT w.heap.size w.heap.size _ _ wr HB.out (by rw [ByteArray.size_extract]; omega) hBw).mono ?_;rintro e w3 ⟨rfl, h3, hb3, _⟩;rw [hex] at h3;have hfin : acc ++ s.data.toList.drop start = Lib.replaceK old.data.toList new.data.toList K s.data.toList := HR.out;rw [hfin] at h3;have H3 := hdn h3;have Hb3 := hdn (HW.out.trans hb3);have hBw3 : w.heap.size ≤ w3.heap.size := Hb3.out.size;clear h3 hb3 hfin hex;go_wp2_with fail;refine (bld_String 104 w.heap.size w.heap.size _ w3 H3.out hBw3).mono ?_
   rintro e w5 ⟨rfl, _, hb5, _⟩;have Hb5 := hdn (Hb3.out.trans hb5);clear hb5;go_wp2;go_ret;exact ⟨rfl, Hb5.out⟩
  | succ g =>
   have hiK : (i : Int) < (K : Int) := by omega
   obtain ⟨j, hj⟩ := Lib.index_of_count (s := s.data.toList.drop start) (old := old.data.toList) (by omega);have hroom : j + old.size ≤ s.size - start := by
    have := Lib.index_room (s.data.toList.drop start) old.data.toList (by rw [hj]; omega);rw [hj, List.length_drop, hlenL, hlenO] at this;omega
   have hmr : wr.cell? ⟨0, 0, none⟩ = some (.int .i64 m) := by rw [HW.out.cell (p := ⟨0, 0, none⟩) hgl]; exact hm
   have hsucc : (g + 1) * new.size = g * new.size + new.size := Nat.succ_mul _ _;have c3 : (start : Int) ≤ (start : Int) + (j : Int) := by omega
   have c4 : (start : Int) + (j : Int) ≤ (s.size : Int) := by omega
   have hnext : acc ++ (s.extract start (start + j)).data.toList ++ new.data.toList = acc ++ (s.data.toList.drop start).take j ++ new.data.toList := by
    rw [Lib.extract_data, Nat.add_sub_cancel_left]
   have hrep : (acc ++ (s.data.toList.drop start).take j ++ new.data.toList) ++ Lib.replaceK old.data.toList new.data.toList g (s.data.toList.drop (start + j + old.size)) = Lib.replaceK old.data.toList new.data.toList K s.data.toList := by
    rw [<- HR.out, Lib.replaceK_hit _ _ g _ j hj, List.drop_drop, hlenO];simp only [List.append_assoc, Nat.add_assoc]
   have hcnt : g ≤ Lib.count (s.data.toList.drop (start + j + old.size)) old.data.toList := by
    have := Lib.count_hit (s := s.data.toList.drop start) (sub := old.data.toList) (i := j) (fun e => by rw [e] at hlenO; simp at hlenO; omega) hj;rw [List.drop_drop, hlenO] at this;rw [show start + j + old.size = start + (j + old.size) by omega];omega
   have htl : ((s.data.toList.drop start).take j).length = j := by rw [List.length_take, List.length_drop, hlenL]; omega
   have Hn := hdn hnext;have Hrep := hdn hrep;clear hnext hrep HR;go_wp2_with (first | (go_at_call 120; refine (Tryz.strings_Index _ _ m _ (by rw [ByteArray.size_extract]; omega) hmr).mono ?_; rintro e w' ⟨rfl, hw⟩; rw [hw, Lib.extract_to_end, hj]))
   refine (bld_WriteString atT w.heap.size w.heap.size _ (s.extract start (start + j)) wr HB.out (by rw [ByteArray.size_extract]; omega) hBw).mono ?_;rintro e w3 ⟨rfl, h3, hb3, _⟩;have hBw3 : w.heap.size ≤ w3.heap.size := Nat.le_trans hBw hb3.size;have H3 := hdn h3;have Hb3 := hdn hb3;clear h3 hb3;go_wp2_with fail;refine (bld_WriteString atT w.heap.size w.heap.size _ new w3 H3.out (by rw [List.length_append, Lib.extract_data, List.length_take, List.length_drop, hlenL]; omega) hBw3).mono ?_;rintro e w4 ⟨rfl, h4, hb4, _⟩;rw [Hn.out] at h4;have H4 := hdn h4
   have Hb4 := hdn ((HW.out.trans Hb3.out).trans hb4);clear h4 hb4;go_wp2
   go_roundg g
   case measure => omega
   case rel => exact ⟨i + 1, start + j + old.size, _, by first | rfl | (simp; unfold wrap64; omega), by first | rfl | simp | (simp; unfold wrap64; omega), by omega, by omega, H4, Hb4, Hrep, hcnt, by simp only [List.length_append, htl, <- Lib.size_eq]; omega⟩
theorem replaceAll_any (s old new : ByteArray) (w : World) (hs : s.size < 4294967281) (hm : MaxB w) (h1 : 1 ≤ old.size) (hne : old ≠ new) (hlen : s.size + Lib.countB s old * new.size ≤ 140737488355328) :
  Calls Tryz.prog 44 #[.string s, .string old, .string new] w (RpR w (Lib.replaceK old.data.toList new.data.toList (Lib.countB s old) s.data.toList)) := by
 obtain ⟨m, hm⟩ := hm;have hc : Calls Tryz.prog 80 #[.string s, .string old, .string new, .int .i64 (-1)] w (RpR w (Lib.replaceK old.data.toList new.data.toList (Lib.countB s old) s.data.toList)) := by
  by_cases hc0 : Lib.countB s old = 0
  ·refine (Tryz.strings_Replace_absent s old new (-1) m w hs hm h1 hne (by decide) hc0).mono fun e w' ⟨h1', h2'⟩ => ⟨?_, h2' ▸ Below.refl _ _⟩;rw [h1', hc0, Lib.replaceK, Lib.mk_data]
  ·exact replace_some s old new m w hs hm h1 hne hc0 hlen
 have HC := hdn hc;clear hc hm hlen hne;go_enter Tryz.func44, Tryz.ntmps44;go_wp2_with fail;refine HC.out.mono ?_;rintro e w1 ⟨rfl, b1⟩;have HB1 := hdn b1;clear b1;go_wp2;go_ret;exact ⟨rfl, HB1.out⟩
end
