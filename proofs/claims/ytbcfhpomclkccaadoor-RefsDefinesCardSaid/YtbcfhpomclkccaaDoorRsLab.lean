/- refs.Label. -/
import Derived.Test.YtbcfhpomclkccaaDoorRsGap
namespace Go.Proofs.YtbcfhpomclkccaaDoor
open Go.RowKit

theorem below_on {w a b : World} (h : Below w.heap.size w a) (k : Below a.heap.size a b) : Below w.heap.size w b := h.trans (k.mono h.size)
theorem below_drewN {B : Nat} {a w : World} (h : Below B a w) (n : Nat) : Below B a (w.drewN n) := ⟨h.os, h.tape, h.output, h.size, h.block⟩
theorem upF_in (l : List UInt8) (e : UInt8) (may : UInt8 → Bool) : ∀ (f i : Nat), i ≤ l.length → i ≤ (upF l e may f i).1 ∧ (upF l e may f i).1 ≤ l.length
  | 0, i, h => ⟨Nat.le_refl _, h⟩
  | f + 1, i, h => by
    rw [upF]
    cases hg : l[i]? with
    | none => exact ⟨Nat.le_refl _, h⟩
    | some b =>
      have hlt := (List.getElem?_eq_some_iff.1 hg).1
      have hs := stepL_le l i hlt
      have hs1 := stepL_in l i
      simp only
      by_cases h1 : stepL l i = 1
      · rw [if_pos h1]
        split
        · exact ⟨Nat.le_refl _, h⟩
        · split
          · have := upF_in l e may f (i + 1) (by omega); omega
          · exact ⟨Nat.le_refl _, h⟩
      · rw [if_neg h1]
        have := upF_in l e may f (i + 2) (by omega)
        omega
theorem upF_true (l : List UInt8) (e : UInt8) (may : UInt8 → Bool) : ∀ (f i : Nat), (upF l e may f i).2 = true → (upF l e may f i).1 < l.length
  | 0, i, h => by cases h
  | f + 1, i, h => by
    rw [upF] at h ⊢
    cases hg : l[i]? with
    | none => rw [hg] at h; cases h
    | some b =>
      rw [hg] at h
      have hlt := (List.getElem?_eq_some_iff.1 hg).1
      simp only at h ⊢
      by_cases h1 : stepL l i = 1
      · rw [if_pos h1] at h ⊢
        by_cases h2 : (b == e) = true
        · rw [if_pos h2]; exact hlt
        · rw [if_neg h2] at h ⊢
          by_cases h3 : may b = true
          · rw [if_pos h3] at h ⊢; exact upF_true l e may f (i + 1) h
          · rw [if_neg h3] at h; cases h
      · rw [if_neg h1] at h ⊢; exact upF_true l e may f (i + 2) h
def noBr (b : UInt8) : Bool := b != 91
theorem label1_any (b : UInt8) (w : World) : Calls Tryd.prog 45 #[.int .u8 (b.toNat : Int)] w (RB w (noBr b)) := by
  obtain ⟨q, hq⟩ : ∃ q, noBr b = q := ⟨_, rfl⟩
  rw [hq]
  have hq2 : ((b.toNat : Int) != 91) = q := by rw [show ((b.toNat : Int) != 91) = (b != 91) from bnec b 91]; exact hq
  clear hq
  go_enter Tryd.func45, Tryd.ntmps45
  go_wp2
  go_ret
  exact ⟨rfl, rfl⟩
def ws3 (b : UInt8) : Bool := b == 32 || b == 9 || b == 10
/-- Where the label at i ends. -/
def labelN (l : List UInt8) (i : Nat) : Option Nat :=
  if l[i]? == some 91 then (if (upF l 93 noBr l.length (i + 1)).2 && !(((l.drop (i + 1)).take ((upF l 93 noBr l.length (i + 1)).1 - (i + 1))).all ws3) && decide ((upF l 93 noBr l.length (i + 1)).1 - (i + 1) ≤ 999) then some (upF l 93 noBr l.length (i + 1)).1 else none) else none
def labelS (s : ByteArray) (i : Nat) : ByteArray := match labelN s.data.toList i with
  | some j => s.extract (i + 1) j
  | none => ⟨#[]⟩
def labelE (l : List UInt8) (i : Nat) : Nat := match labelN l i with
  | some j => j + 1
  | none => 0
def SIb (w : World) (x : ByteArray) (n : Int) (e : Ending) (w' : World) : Prop := e = .returned (.tuple #[.string x, .int .i64 n]) ∧ Below w.heap.size w w'
theorem trim3_any (s : ByteArray) (w : World) (hs : s.size ≤ 1099511627776) : Calls Tryd.prog 46 #[.string s, .string ⟨#[32, 9, 10]⟩] w fun e w' => e = .returned (.string ⟨(Lib.trimS s.data.toList [32, 9, 10]).toArray⟩) ∧ Below w.heap.size w w' :=
  Any.strings_Trim_laid Tryd.lays160 (by kernel_rfl) s ⟨#[32, 9, 10]⟩ w (by omega) (by decide) (ascii_of_all (by decide))
theorem dropWhile_nil' {α : Type} (p : α → Bool) : ∀ l : List α, l.dropWhile p = [] ↔ ∀ x ∈ l, p x = true
  | [] => by simp
  | a :: l => by
    rw [List.dropWhile_cons]
    cases h : p a with
    | true => simp [h, dropWhile_nil' p l]
    | false => simp [h]
theorem trimS_nil' (l cs : List UInt8) : Lib.trimS l cs = [] ↔ ∀ x ∈ l, cs.contains x = true := by
  unfold Lib.trimS Lib.trimLeftS Lib.trimRightS
  rw [dropWhile_nil']
  constructor
  · intro h x hx
    by_cases hc : cs.contains x = true
    · exact hc
    · exfalso
      have hm : x ∈ (l.reverse.dropWhile (cs.contains ·)).reverse := by
        rw [List.mem_reverse]
        have : x ∈ l.reverse.takeWhile (cs.contains ·) ++ l.reverse.dropWhile (cs.contains ·) := by rw [List.takeWhile_append_dropWhile]; exact List.mem_reverse.2 hx
        rcases List.mem_append.1 this with h1 | h1
        · exact absurd (List.all_eq_true.1 List.all_takeWhile x h1) hc
        · exact h1
      exact hc (h x hm)
  · intro h x hx
    rw [List.mem_reverse] at hx
    exact h x (List.mem_reverse.1 ((List.dropWhile_suffix _).subset hx))
theorem trim3_nil (l : List UInt8) : (Lib.trimS l [32, 9, 10]).isEmpty = l.all ws3 := by
  rw [Bool.eq_iff_iff, List.isEmpty_iff, trimS_nil', List.all_eq_true]
  refine forall_congr' fun x => forall_congr' fun _ => ?_
  simp [ws3, or_assoc]
theorem below_of_grown {w w' : World} {cb : Nat} {o : Obj} (h : (w.alloc o).grownBy w' (some cb)) (hc : cb = w.heap.size) : Below w.heap.size w w' := by
  subst hc
  have hz := h.size
  rw [World.size_alloc] at hz
  exact ⟨h.os, h.tape, h.output, by omega, fun j hj => (h.block j (by rw [World.size_alloc]; omega) (fun e => by have := Option.some.inj e; omega)).trans (Below.heap_alloc _ _ _ hj)⟩
set_option maxHeartbeats 4000000 in
set_option maxRecDepth 100000 in
theorem label_any (s : ByteArray) (i : Nat) (w : World) (hs : s.size ≤ 1099511627776) (hi : i ≤ 1099511627776) : Calls Tryd.prog 17 #[.string s, .int .i64 (i : Int)] w (SIb w (labelS s i) (labelE s.data.toList i : Nat)) := by
  have hl : s.data.toList.length = s.size := Array.length_toList
  obtain ⟨W, hW⟩ : ∃ W, w.alloc (.cells #[.string s, .int .i64 ((i : Int) + 1)] 63) = W := ⟨_, rfl⟩
  have hbW : Below w.heap.size w W := by rw [← hW]; exact (Below.refl _ w).alloc (Nat.le_refl _) _
  have hcW : CurAt W w.heap.size s (i + 1) := by rw [← hW]; exact heap_alloc_new w _
  have hnc := fun j => cell_of_row W w.heap.size j _ _ _ hcW
  have hc0 : W.cell? ⟨w.heap.size, 0, none⟩ = some (.string s) := hnc 0
  have HI := Lib.hid (is_any s (i : Int) 91 W hs)
  have hib : isB s.data.toList (i : Int) 91 = (s.data.toList[i]? == some 91) := by unfold isB; rw [decide_eq_true (by omega), Int.toNat_natCast]; rfl
  rw [hib] at HI
  obtain ⟨q, hq⟩ : ∃ q, (s.data.toList[i]? == some 91) = q := ⟨_, rfl⟩
  rw [hq] at HI
  have HW := Lib.hid hW; have HBW := Lib.hid hbW
  cases q with
  | false =>
    have hn : labelN s.data.toList i = none := by unfold labelN; rw [hq]; rfl
    have h1 : labelS s i = ⟨#[]⟩ := by unfold labelS; rw [hn]
    have h2 : labelE s.data.toList i = 0 := by unfold labelE; rw [hn]
    rw [h1, h2]
    clear h1 h2 hn hq hib hW hbW hcW hnc hl
    go_enter Tryd.func17, Tryd.ntmps17
    go_wp2_with fail
    rw [HW.out]
    go_wp2_with fail
    refine Calls.mono HI.out ?_
    rintro e w1 ⟨rfl, rfl⟩
    go_wp2
    go_ret2
    exact ⟨rfl, HBW.out⟩
  | true =>
    have his : i + 1 ≤ s.size := by
      have h2 : s.data.toList[i]? = some 91 := by simpa using hq
      have := (List.getElem?_eq_some_iff.1 h2).1
      omega
    have hU := upTo_label s (i + 1) w.heap.size 93 noBr W hs his hcW (fun b w' _ => label1_any b w')
    obtain ⟨hin1, hin2⟩ := upF_in s.data.toList 93 noBr s.size (i + 1) (by omega)
    have hn : labelN s.data.toList i = if (upF s.data.toList 93 noBr s.size (i + 1)).2 && !(((s.data.toList.drop (i + 1)).take ((upF s.data.toList 93 noBr s.size (i + 1)).1 - (i + 1))).all ws3) && decide ((upF s.data.toList 93 noBr s.size (i + 1)).1 - (i + 1) ≤ 999) then some (upF s.data.toList 93 noBr s.size (i + 1)).1 else none := by unfold labelN; rw [hq, if_pos rfl, hl]
    obtain ⟨⟨j, f⟩, hx⟩ : ∃ x, upF s.data.toList 93 noBr s.size (i + 1) = x := ⟨_, rfl⟩
    rw [hx] at hU hin1 hin2 hn
    simp only at hin1 hin2 hn
    have HU := Lib.hid hU
    have hj1 : (i : Int) + 1 ≤ (j : Int) := by omega
    have hj2 : (j : Int) ≤ (s.size : Int) := by omega
    have hj3 : j ≤ s.size := by omega
    have hj4 : i + 1 ≤ j := hin1
    cases f with
    | false =>
      have hn2 : labelN s.data.toList i = none := by rw [hn]; rfl
      have h1 : labelS s i = ⟨#[]⟩ := by unfold labelS; rw [hn2]
      have h2 : labelE s.data.toList i = 0 := by unfold labelE; rw [hn2]
      rw [h1, h2]
      clear h1 h2 hn hn2 hq hib hW hbW hcW hnc hl hU hx hin1 hin2
      go_enter Tryd.func17, Tryd.ntmps17
      go_wp2_with fail
      rw [HW.out]
      go_wp2_with fail
      refine Calls.mono HI.out ?_
      rintro e w1 ⟨rfl, rfl⟩
      go_wp2_with fail
      refine Calls.mono HU.out ?_
      rintro e w2 ⟨rfl, hc2, hg2⟩
      have HB2 := Lib.hid (below_of_grown (by rw [HW.out]; exact hg2) rfl)
      clear hc2 hg2
      go_wp2
      go_ret2
      exact ⟨rfl, HB2.out⟩
    | true =>
      have hT := trim3_any (s.extract (i + 1) j)
      have hnil := trim3_nil (s.extract (i + 1) j).data.toList
      obtain ⟨x, hxe⟩ : ∃ x : ByteArray, s.extract (i + 1) j = x := ⟨_, rfl⟩
      have hxd : x.data.toList = (s.data.toList.drop (i + 1)).take (j - (i + 1)) := by rw [← hxe, Lib.extract_data]
      have hxs : x.size = j - (i + 1) := by rw [← hxe, ByteArray.size_extract]; omega
      rw [hxe] at hT hnil
      rw [← hxd, ← hnil, ← hxs] at hn
      obtain ⟨T, hTe⟩ : ∃ T : ByteArray, (⟨(Lib.trimS x.data.toList [32, 9, 10]).toArray⟩ : ByteArray) = T := ⟨_, rfl⟩
      have hTd : T.toList = Lib.trimS x.data.toList [32, 9, 10] := by rw [← hTe, Lib.toList_data]
      have HT := Lib.hid fun (w' : World) => hT w' (by omega)
      rw [hTe] at HT
      rw [← hTd] at hn
      have hxi : (x.size : Int) = (j : Int) - (i : Int) - 1 := by omega
      have HXE := Lib.hid hxe
      by_cases hT0 : T.toList = []
      · have hT1 : T.toList.isEmpty = true := by rw [hT0]; rfl
        have hn2 : labelN s.data.toList i = none := by rw [hn, hT1]; rfl
        have h1 : labelS s i = ⟨#[]⟩ := by unfold labelS; rw [hn2]
        have h2 : labelE s.data.toList i = 0 := by unfold labelE; rw [hn2]
        rw [h1, h2]
        clear h1 h2 hn hn2 hq hib hW hbW hcW hnc hl hU hx hin1 hin2 hT hTe hTd hxd hnil hxi hxe hxs
        go_enter Tryd.func17, Tryd.ntmps17
        go_wp2_with fail
        rw [HW.out]
        go_wp2_with fail
        refine Calls.mono HI.out ?_
        rintro e w1 ⟨rfl, rfl⟩
        go_wp2_with fail
        refine Calls.mono HU.out ?_
        rintro e w2 ⟨rfl, hc2, hg2⟩
        have HB2 := Lib.hid (below_of_grown (by rw [HW.out]; exact hg2) rfl)
        have k1 : w2.cell? ⟨w.heap.size, 1, none⟩ = some (.int .i64 (j : Int)) := cell_of_row w2 w.heap.size 1 _ _ _ hc2
        clear hc2 hg2
        go_wp2_with fail
        rw [HXE.out]
        refine Calls.mono (HT.out _) ?_
        rintro e w3 ⟨rfl, b3⟩
        have HB3 := Lib.hid b3
        clear b3
        go_wp2
        go_ret2
        exact ⟨rfl, below_on HB2.out HB3.out⟩
      · have hT1 : T.toList.isEmpty = false := by cases hc : T.toList with | nil => exact absurd hc hT0 | cons _ _ => rfl
        by_cases h999 : x.size ≤ 999
        · have hn2 : labelN s.data.toList i = some j := by rw [hn, hT1, decide_eq_true h999]; rfl
          have h1 : labelS s i = x := by unfold labelS; rw [hn2]; exact hxe
          have h2 : labelE s.data.toList i = j + 1 := by unfold labelE; rw [hn2]
          rw [h1, h2]
          have h9 : ¬ (999 : Int) < (x.size : Int) := by omega
          clear h1 h2 hn hn2 hq hib hW hbW hcW hnc hl hU hx hin1 hin2 hT hTe hTd hxd hnil hxi hxe hxs
          go_enter Tryd.func17, Tryd.ntmps17
          go_wp2_with fail
          rw [HW.out]
          go_wp2_with fail
          refine Calls.mono HI.out ?_
          rintro e w1 ⟨rfl, rfl⟩
          go_wp2_with fail
          refine Calls.mono HU.out ?_
          rintro e w2 ⟨rfl, hc2, hg2⟩
          have HB2 := Lib.hid (below_of_grown (by rw [HW.out]; exact hg2) rfl)
          have k1 : w2.cell? ⟨w.heap.size, 1, none⟩ = some (.int .i64 (j : Int)) := cell_of_row w2 w.heap.size 1 _ _ _ hc2
          have hz2 : w.heap.size < w2.heap.size := (Array.getElem?_eq_some_iff.1 (show w2.heap[w.heap.size]? = _ from hc2)).1
          have HC2 := Lib.hid hc2
          clear hc2 hg2
          go_wp2_with fail
          rw [HXE.out]
          refine Calls.mono (HT.out _) ?_
          rintro e w3 ⟨rfl, b3⟩
          have k3 : w3.cell? ⟨w.heap.size, 1, none⟩ = some (.int .i64 (j : Int)) := cell_of_row w3 w.heap.size 1 _ _ _ ((b3.block _ hz2).trans HC2.out)
          have HB3 := Lib.hid b3
          clear b3
          go_wp2_with fail
          go_quiet (fail)
          go_wp2
          go_ret2
          exact ⟨rfl, below_drewN (below_on HB2.out HB3.out) _⟩
        · have hn2 : labelN s.data.toList i = none := by rw [hn, hT1, decide_eq_false h999]; rfl
          have h1 : labelS s i = ⟨#[]⟩ := by unfold labelS; rw [hn2]
          have h2 : labelE s.data.toList i = 0 := by unfold labelE; rw [hn2]
          rw [h1, h2]
          have h9 : (999 : Int) < (x.size : Int) := by omega
          clear h1 h2 hn hn2 hq hib hW hbW hcW hnc hl hU hx hin1 hin2 hT hTe hTd hxd hnil hxi hxe hxs
          go_enter Tryd.func17, Tryd.ntmps17
          go_wp2_with fail
          rw [HW.out]
          go_wp2_with fail
          refine Calls.mono HI.out ?_
          rintro e w1 ⟨rfl, rfl⟩
          go_wp2_with fail
          refine Calls.mono HU.out ?_
          rintro e w2 ⟨rfl, hc2, hg2⟩
          have HB2 := Lib.hid (below_of_grown (by rw [HW.out]; exact hg2) rfl)
          have k1 : w2.cell? ⟨w.heap.size, 1, none⟩ = some (.int .i64 (j : Int)) := cell_of_row w2 w.heap.size 1 _ _ _ hc2
          clear hc2 hg2
          go_wp2_with fail
          rw [HXE.out]
          refine Calls.mono (HT.out _) ?_
          rintro e w3 ⟨rfl, b3⟩
          have HB3 := Lib.hid b3
          clear b3
          go_wp2
          go_ret2
          exact ⟨rfl, below_on HB2.out HB3.out⟩
end Go.Proofs.YtbcfhpomclkccaaDoor
