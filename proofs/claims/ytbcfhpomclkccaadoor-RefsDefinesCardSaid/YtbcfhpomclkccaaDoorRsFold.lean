/- class.Fold. -/
import Derived.Test.YtbcfhpomclkccaaDoorRsTurn
import Derived.Maps.StringElems
import Derived.Lib.MapLaws
import Derived.Lib.TrimUEq
namespace Go.Proofs.YtbcfhpomclkccaaDoor
open Go.RowKit Go.Maps

/-- What a character is folded to. -/
def fblk (r : Nat) : List UInt8 := if r = 223 ∨ r = 7838 then [115, 115] else runeL (turnN r : Nat)
def foldF : Nat → List UInt8 → List UInt8
  | 0, _ => []
  | f + 1, l => if l = [] then [] else fblk (Lib.decodeL l).1 ++ foldF f (l.drop (Lib.decodeL l).2)
def foldL (l : List UInt8) : List UInt8 := foldF l.length l
theorem turnN_lt (r : Nat) (h : r ≤ 1114111) : turnN r ≤ 1114111 := by
  unfold turnN
  repeat' split
  all_goals omega
theorem runeL_len (r : Int) : (runeL r).length ≤ 4 := by
  have := (Lib.runeCells_le r).2
  rw [Lib.runeCells_length] at this
  exact this
theorem fblk_len (r : Nat) : (fblk r).length ≤ 4 := by
  unfold fblk
  split
  · decide
  · exact runeL_len _
def FoW (s : ByteArray) (w : World) (L : List UInt8) (wr : World) : Prop :=
  ∃ (pos f : Nat) (acc : List UInt8), Bld 47 w.heap.size w.heap.size acc wr ∧ wr.heap[w.heap.size + 1]? = some (.stringIter s pos) ∧ Below w.heap.size w wr ∧ pos ≤ s.size ∧ s.size ≤ pos + f ∧ acc ++ foldF f (s.data.toList.drop pos) = L ∧ acc.length ≤ 4 * pos
def FoldR (w : World) (L : List UInt8) (e : Ending) (w' : World) : Prop := e = .returned (.string ⟨L.toArray⟩) ∧ Below w.heap.size w w'
set_option maxHeartbeats 2000000 in
set_option maxRecDepth 100000 in
theorem fold_any (s : ByteArray) (w : World) (hs : s.size ≤ 4294967296) : Calls Tryd.prog 21 #[.string s] w (FoldR w (foldL s.data.toList)) := by
  obtain ⟨L, hL⟩ : ∃ L, foldL s.data.toList = L := ⟨_, rfl⟩
  rw [hL]
  have hl : s.data.toList.length = s.size := Array.length_toList
  have H0 := Lib.hid (show foldF s.size (s.data.toList.drop 0) = L by rw [← hL, List.drop_zero]; unfold foldL; rw [hl])
  clear hL
  go_enter Tryd.func21, Tryd.ntmps21
  go_wp2_with fail
  go_loopw [5] (fun _ wr => FoW s w L wr) (fun _ wr => s.size - wr.iterPos (w.heap.size + 1))
  case atStart =>
    refine ⟨0, s.size, [], (Bld.fresh 47 w).alloc _, ?_, ((Below.refl _ w).alloc (Nat.le_refl _) _).alloc (by simp) _, Nat.zero_le _, by omega, H0.out, by simp⟩
    have := World.iter_heap (w.alloc (.cells #[.pointer none, .slice none 0 0] 47)) s 0
    simpa using this
  case round =>
    obtain ⟨pos, f, acc, hB, hit, hbw, hps, hpf, hacc, hal⟩ := hrel
    have hszr : w.heap.size + 1 < wr.heap.size := (Array.getElem?_eq_some_iff.1 hit).1
    by_cases hp : pos < s.size
    · have hnx : ∀ ty, (Instr.next (.pointer (some ⟨w.heap.size + 1, 0, none⟩)) true ty).run Tryd.prog wr = _ := fun ty => Lib.run_next_any_at wr (w.heap.size + 1) s pos ty hit hp
      obtain ⟨f, rfl⟩ : ∃ f', f = f' + 1 := ⟨f - 1, by omega⟩
      have hne : s.data.toList.drop pos ≠ [] := by intro e; have := congrArg List.length e; rw [List.length_drop, hl] at this; simp at this; omega
      have hdl : Lib.decodeL (s.data.toList.drop pos) = Utf8.decode s pos := Lib.decodeL_drop s pos
      have hdw := Lib.decodeL_width (s.data.toList.drop pos)
      have hdr := Lib.decodeL_rune (s.data.toList.drop pos)
      have hdz := Lib.decodeL_le _ hne
      rw [List.length_drop, hl] at hdz
      rw [foldF, if_neg hne, List.drop_drop] at hacc
      rw [hdl] at hdw hdr hdz hacc
      have hB2 : Bld 47 w.heap.size w.heap.size acc (wr.iterAt (w.heap.size + 1) s (pos + (Utf8.decode s pos).2)) := Lib.IsBuilderF.iterAt hB hit _
      have hit2 := Lib.iterAt_heap wr (w.heap.size + 1) s pos (pos + (Utf8.decode s pos).2) hit
      have hbw2 := Lib.below_iterAt hbw (k := w.heap.size + 1) (by omega) s (pos + (Utf8.decode s pos).2)
      have hpo : World.iterPos wr (w.heap.size + 1) = pos := by simp only [World.iterPos, hit]
      generalize hW : wr.iterAt (w.heap.size + 1) s (pos + (Utf8.decode s pos).2) = W at *
      obtain ⟨⟨r, k⟩, hd⟩ : ∃ x, Utf8.decode s pos = x := ⟨_, rfl⟩
      rw [hd] at hdw hdr hdz hacc hit2 hnx
      simp only at hdw hdr hdz hacc hit2
      have hsz2 : w.heap.size ≤ W.heap.size := hbw2.size
      have HP := Lib.hid hpo; have HACC := Lib.hid hacc; have HIT2 := Lib.hid hit2; have HB2 := Lib.hid hB2; have HBW2 := Lib.hid hbw2
      have HT := Lib.hid fun w9 => turned_any r w9 (by omega)
      clear hpo hacc hit hit2 hl hW hdl hd hne hB hB2 hbw hbw2
      by_cases hss : r = 223 ∨ r = 7838
      · have HBK := Lib.hid (show fblk r = [115, 115] by unfold fblk; rw [if_pos hss])
        rcases hss with rfl | rfl
        all_goals
          go_wp2_with fail
          refine Calls.mono (bld_WriteString unb w.heap.size w.heap.size acc ⟨#[115, 115]⟩ W HB2.out (by rw [show (⟨#[115, 115]⟩ : ByteArray).size = 2 from rfl]; omega) hsz2) ?_
          rintro e W1 ⟨rfl, h1, b1, k1⟩
          have H1 := Lib.hid h1; have B1 := Lib.hid b1; have K1 := Lib.hid k1
          clear h1 b1 k1
          go_wp2_with fail
          go_roundw
          case rel =>
            refine ⟨pos + k, f, _, H1.out, Lib.OthersKept.iter K1.out HIT2.out (by omega), HBW2.out.trans (B1.out.mono (Nat.le_refl _)), by omega, by omega, ?_, ?_⟩
            · rw [← HACC.out, HBK.out, List.append_assoc]
            · rw [List.length_append]; show acc.length + 2 ≤ _; omega
          case measure =>
            rw [HP.out]
            have : World.iterPos W1 (w.heap.size + 1) = pos + k := by simp only [World.iterPos, Lib.OthersKept.iter K1.out HIT2.out (show w.heap.size + 1 ≠ w.heap.size by omega)]
            rw [this]; omega
      · have HBK := Lib.hid (show fblk r = runeL (turnN r : Nat) by unfold fblk; rw [if_neg hss])
        have e1 : ((r : Int) == 223) = false := by rw [beq_eq_false_iff_ne]; omega
        have e2 : ((r : Int) == 7838) = false := by rw [beq_eq_false_iff_ne]; omega
        have htl := turnN_lt r hdr
        have hrl := runeL_len (turnN r : Nat)
        have HRL := Lib.hid hrl
        clear hrl hss
        go_wp2_with fail
        refine Calls.mono (HT.out _) ?_
        rintro e W0 ⟨rfl, hw⟩
        rw [hw]
        clear hw
        go_wp2_with fail
        refine Calls.mono (bld_WriteRune unb w.heap.size w.heap.size acc (turnN r : Nat) (by omega) (by omega) W HB2.out (by omega) hsz2) ?_
        rintro e W1 ⟨⟨z, rfl⟩, h1, b1, k1⟩
        have H1 := Lib.hid h1; have B1 := Lib.hid b1; have K1 := Lib.hid k1
        clear h1 b1 k1
        go_wp2_with fail
        go_roundw
        case rel =>
          refine ⟨pos + k, f, _, H1.out, Lib.OthersKept.iter K1.out HIT2.out (by omega), HBW2.out.trans (B1.out.mono (Nat.le_refl _)), by omega, by omega, ?_, ?_⟩
          · rw [← HACC.out, HBK.out, List.append_assoc]
          · rw [List.length_append]; have := HRL.out; omega
        case measure =>
          rw [HP.out]
          have : World.iterPos W1 (w.heap.size + 1) = pos + k := by simp only [World.iterPos, Lib.OthersKept.iter K1.out HIT2.out (show w.heap.size + 1 ≠ w.heap.size by omega)]
          rw [this]; omega
    · have hnx : ∀ ty, (Instr.next (.pointer (some ⟨w.heap.size + 1, 0, none⟩)) true ty).run Tryd.prog wr = _ := fun ty => Lib.run_next_end_at wr (w.heap.size + 1) s pos ty hit hp
      have hfin : acc = L := by
        rw [← hacc]
        cases f with
        | zero => simp [foldF]
        | succ f =>
          rw [foldF, if_pos (by apply List.drop_eq_nil_of_le; omega), List.append_nil]
      have HB := Lib.hid hB; have HBW := Lib.hid hbw; have HF := Lib.hid hfin
      have hsz2 : w.heap.size ≤ wr.heap.size := hbw.size
      clear hB hbw hfin hacc hl
      go_wp2_with fail
      refine Calls.mono (bld_String 47 w.heap.size w.heap.size acc wr HB.out hsz2) ?_
      rintro e W2 ⟨rfl, _, b2, _⟩
      have B2 := Lib.hid b2
      clear b2
      go_wp2
      go_ret
      exact ⟨congrArg (fun l : List UInt8 => Ending.returned (Value.string ⟨l.toArray⟩)) HF.out, HBW.out.trans B2.out⟩
end Go.Proofs.YtbcfhpomclkccaaDoor
