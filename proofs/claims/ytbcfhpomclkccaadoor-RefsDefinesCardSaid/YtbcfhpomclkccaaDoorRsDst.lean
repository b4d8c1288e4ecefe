/- refs.Dest. -/
import Derived.Test.YtbcfhpomclkccaaDoorRsDst0
import Derived.Test.YtbcfhpomclkccaaDoorRsLab
import Derived.Deep.RegionHeld3
import Derived.WalkMore
namespace Go.Proofs.YtbcfhpomclkccaaDoor
open Go.RowKit

/-- A text, its escapes and references taken. -/
def unescB (s : ByteArray) : ByteArray := ⟨(unescF (s.size + 1) s).toArray⟩
/-- The destination at i: from where, to where, and where it ends. -/
def destN (l : List UInt8) (i : Nat) : Option (Nat × Nat × Nat) :=
  if l[i]? == some 60 then (if (upF l 62 noNlLt l.length (i + 1)).2 then some (i + 1, (upF l 62 noNlLt l.length (i + 1)).1, (upF l 62 noNlLt l.length (i + 1)).1 + 1) else none)
  else match bareF l l.length i 0 with
    | some (j, 0) => if j = i then none else some (i, j, j)
    | _ => none
def destV (s : ByteArray) (i : Nat) : ByteArray × Nat × Bool := match destN s.data.toList i with
  | some (a, b, e) => (unescB (s.extract a b), e, true)
  | none => (⟨#[]⟩, i, false)
def SIB (w : World) (x : ByteArray × Nat × Bool) (e : Ending) (w' : World) : Prop := e = .returned (.tuple #[.string x.1, .int .i64 (x.2.1 : Int), .bool x.2.2]) ∧ Below w.heap.size w w'
theorem below_cur {w a b : World} (h : Below w.heap.size w a) (g : a.grownBy b (some w.heap.size)) : Below w.heap.size w b :=
  ⟨g.os.trans h.os, g.tape.trans h.tape, g.output.trans h.output, Nat.le_trans h.size g.size, fun j hj => (g.block j (Nat.lt_of_lt_of_le hj h.size) (fun e => by have := Option.some.inj e; omega)).trans (h.block j hj)⟩
theorem s3_below {A B C : Prop} (h : A ∧ B ∧ C) : C := h.2.2
theorem unesc_ret (x : ByteArray) (hx : x.size < 4294967281) (X : ByteArray) (hX : unescB x = X) (w : World) : Calls Tryd.prog 11 #[.string x] w fun e w' => e = .returned (.string X) ∧ Below w.heap.size w w' := by
  subst hX
  exact unescape_any x w hx
set_option maxHeartbeats 4000000 in
set_option maxRecDepth 100000 in
theorem dest_out (s : ByteArray) (i : Nat) (w : World) (_ : s.size < 4294967281) (_ : i ≤ 1099511627776) (h : s.size ≤ i) : Calls Tryd.prog 23 #[.string s, .int .i64 (i : Int)] w (SIB w (⟨#[]⟩, i, false)) := by
  have h1 : (s.size : Int) ≤ (i : Int) := by omega
  go_enter Tryd.func23, Tryd.ntmps23
  go_wp2
  go_step3
  go_wp2
  rw [Exit.noGoto_ret]
  go_ret3
  exact ⟨rfl, Below.refl _ _⟩
set_option maxHeartbeats 4000000 in
set_option maxRecDepth 100000 in
theorem dest_br (s : ByteArray) (i : Nat) (w : World) (hs : s.size < 4294967281) (h60 : s.data.toList[i]? = some 60) : Calls Tryd.prog 23 #[.string s, .int .i64 (i : Int)] w (SIB w (destV s i)) := by
  have hl : s.data.toList.length = s.size := Array.length_toList
  have hil : i < s.size := by have := (List.getElem?_eq_some_iff.1 h60).1; omega
  have hz1 : ¬ (s.size : Int) ≤ (i : Int) := by omega
  obtain ⟨W, hW⟩ : ∃ W, w.alloc (.cells #[.string s, .int .i64 (i : Int)] 63) = W := ⟨_, rfl⟩
  have hbW : Below w.heap.size w W := by rw [← hW]; exact (Below.refl _ w).alloc (Nat.le_refl _) _
  have hcW : CurAt W w.heap.size s i := by rw [← hW]; exact heap_alloc_new w _
  have hnc := fun j => cell_of_row W w.heap.size j _ _ _ hcW
  have hc0 : W.cell? ⟨w.heap.size, 0, none⟩ = some (.string s) := hnc 0
  have hc1 : W.cell? ⟨w.heap.size, 1, none⟩ = some (.int .i64 (i : Int)) := hnc 1
  have fz : ∀ j, W.frozen? ⟨w.heap.size, j, none⟩ = false := (fun j => by simp [World.frozen?, show W.heap[w.heap.size]? = _ from hcW])
  have HI := Lib.hid (is_any s (i : Int) 60 W (by omega))
  have hib : isB s.data.toList (i : Int) 60 = true := by unfold isB; rw [decide_eq_true (by omega), Int.toNat_natCast, h60]; rfl
  rw [hib] at HI
  obtain ⟨W2, hW2⟩ : ∃ W2, W.setCell ⟨w.heap.size, 1, none⟩ (.int .i64 ((i : Int) + 1)) = W2 := ⟨_, rfl⟩
  have hcW2 : CurAt W2 w.heap.size s (i + 1) := by rw [← hW2]; exact cur_put (j := i + 1) hcW
  have hbW2 : Below w.heap.size w W2 := by rw [← hW2]; exact hbW.setCell (p := ⟨w.heap.size, 1, none⟩) (Nat.le_refl _) _
  have HW2 := Lib.hid hW2; have HBW2 := Lib.hid hbW2
  have HW := Lib.hid hW
  have hU := upTo_dest s (i + 1) w.heap.size 62 noNlLt W2 (by omega) (by omega) hcW2 (fun b w' _ => dest1_any b w')
  obtain ⟨hin1, hin2⟩ := upF_in s.data.toList 62 noNlLt s.size (i + 1) (by omega)
  have hzW2 : w.heap.size < W2.heap.size := (Array.getElem?_eq_some_iff.1 (show W2.heap[w.heap.size]? = _ from hcW2)).1
  have hn : destN s.data.toList i = if (upF s.data.toList 62 noNlLt s.size (i + 1)).2 then some (i + 1, (upF s.data.toList 62 noNlLt s.size (i + 1)).1, (upF s.data.toList 62 noNlLt s.size (i + 1)).1 + 1) else none := by unfold destN; rw [h60, if_pos (by rfl), hl]
  obtain ⟨⟨j, f⟩, hx⟩ : ∃ x, upF s.data.toList 62 noNlLt s.size (i + 1) = x := ⟨_, rfl⟩
  rw [hx] at hU hin1 hin2 hn
  simp only at hin1 hin2 hn
  have HU := Lib.hid hU
  have hj1 : (i : Int) + 1 ≤ (j : Int) := by omega
  have hj2 : (j : Int) ≤ (s.size : Int) := by omega
  cases f with
  | false =>
    have hv : destV s i = (⟨#[]⟩, i, false) := by unfold destV; rw [hn]; rfl
    rw [hv]
    clear hv hn hib hW hbW hcW hcW2 hbW2 hW2 hl hU hx hin1 hin2
    go_enter Tryd.func23, Tryd.ntmps23
    go_wp2_with fail
    go_step3
    go_wp2_with fail
    rw [HW.out]
    go_wp2_with fail
    refine Calls.mono HI.out ?_
    rintro e w1 ⟨rfl, rfl⟩
    go_wp2_with fail
    rw [HW2.out]
    refine Calls.mono HU.out ?_
    rintro e w2 ⟨rfl, hc2, hg2⟩
    have HB2 := Lib.hid (below_cur HBW2.out hg2)
    clear hc2 hg2
    go_wp2
    rw [Exit.noGoto_ret]
    go_ret3
    exact ⟨rfl, HB2.out⟩
  | true =>
    have hv : destV s i = (unescB (s.extract (i + 1) j), j + 1, true) := by unfold destV; rw [hn]; rfl
    obtain ⟨x, hxe⟩ : ∃ x : ByteArray, s.extract (i + 1) j = x := ⟨_, rfl⟩
    have hxs : x.size = j - (i + 1) := by rw [← hxe, ByteArray.size_extract]; omega
    rw [hxe] at hv
    obtain ⟨X, hX⟩ : ∃ X, unescB x = X := ⟨_, rfl⟩
    have HUN := Lib.hid fun w' => unesc_ret x (by omega) X hX w'
    rw [hX] at hv
    rw [hv]
    have HXE := Lib.hid hxe
    clear hv hX hn hib hW hbW hcW hcW2 hbW2 hW2 hl hU hx hin1 hin2 hxs hxe
    go_enter Tryd.func23, Tryd.ntmps23
    go_wp2_with fail
    go_step3
    go_wp2_with fail
    rw [HW.out]
    go_wp2_with fail
    refine Calls.mono HI.out ?_
    rintro e w1 ⟨rfl, rfl⟩
    go_wp2_with fail
    rw [HW2.out]
    refine Calls.mono HU.out ?_
    rintro e w2 ⟨rfl, hc2, hg2⟩
    have HB2 := Lib.hid (below_cur HBW2.out hg2)
    have HSI := Lib.hid fun (w' : World) (h : Below w2.heap.size w2 w') => (⟨cell_of_row w' w.heap.size 0 _ _ _ ((h.block _ (Nat.lt_of_lt_of_le hzW2 hg2.size)).trans hc2), cell_of_row w' w.heap.size 1 _ _ _ ((h.block _ (Nat.lt_of_lt_of_le hzW2 hg2.size)).trans hc2), h⟩ : w'.cell? ⟨w.heap.size, 0, none⟩ = some (.string s) ∧ w'.cell? ⟨w.heap.size, 1, none⟩ = some (.int .i64 (j : Int)) ∧ Below w2.heap.size w2 w')
    clear hc2 hg2
    go_wp2_with fail
    have HS0 := Lib.hid (HSI.out w2 (Below.refl _ _))
    have hwi : IntKind.i64.wrap ((i : Int) + 1) = (i : Int) + 1 := IntWalk.i64_in _ (by omega)
    have hwj : IntKind.i64.wrap ((j : Int) + 1) = (j : Int) + 1 := IntWalk.i64_in _ (by omega)
    have hi0 : (0 : Int) ≤ (i : Int) + 1 := by omega
    go_region_held3 (fun w' => w'.cell? ⟨w.heap.size, 0, none⟩ = some (.string s) ∧ w'.cell? ⟨w.heap.size, 1, none⟩ = some (.int .i64 (j : Int)) ∧ Below w2.heap.size w2 w') (first | (with_reducible assumption) | (with_reducible exact HS0.out) | (with_reducible exact HSI.out _ (Below.refl _ _).drew) | (with_reducible exact HSI.out _ (Below.drew (s3_below (by assumption)))) | (with_reducible exact HSI.out _ (below_on (s3_below (by assumption)) (by assumption)))) (first
      | ((try rw [HXE.out]); (with_reducible refine Calls.mono (HUN.out _) ?_); rintro e w3 ⟨rfl, b3⟩))
    all_goals
      go_wp2_with fail
      rw [Exit.noGoto_ret]
      go_ret3
      exact ⟨rfl, below_on HB2.out (s3_below (by assumption))⟩
end Go.Proofs.YtbcfhpomclkccaaDoor
