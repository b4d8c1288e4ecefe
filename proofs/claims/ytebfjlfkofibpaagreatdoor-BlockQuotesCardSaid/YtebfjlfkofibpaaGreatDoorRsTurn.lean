/- class.turned. -/
import Derived.Test.YtebfjlfkofibpaaGreatDoorRsUn
import Derived.WalkSmall
import Derived.Maps.StringElems
import Derived.Lib.MapLaws
import Derived.Lib.TrimUEq
namespace Go.Proofs.YtebfjlfkofibpaaGreatDoor
set_option maxHeartbeats 8000000
set_option maxRecDepth 100000
section
open Go.RowKit
def turnN (r : Nat) : Nat :=
 if (65 ≤ r ∧ r ≤ 90) ∨ (192 ≤ r ∧ r ≤ 222 ∧ r ≠ 215) ∨ (913 ≤ r ∧ r ≤ 937 ∧ r ≠ 930) ∨ (1040 ≤ r ∧ r ≤ 1071) then r + 32
 else if 1024 ≤ r ∧ r ≤ 1039 then r + 80
 else if r = 962 then 963
 else if (256 ≤ r ∧ r ≤ 311) ∨ (330 ≤ r ∧ r ≤ 375) ∨ (7680 ≤ r ∧ r ≤ 7829) then r + 1 - r % 2
 else if (313 ≤ r ∧ r ≤ 328) ∨ (377 ≤ r ∧ r ≤ 382) then r + r % 2
 else r
theorem and1 (r : Nat) (h : r < 2147483648) : bits BinOp.and IntKind.i32 (r : Int) 1 = ((r % 2 : Nat) : Int) := by
 have hx : r &&& 1 = r % 2 := Nat.and_one_is_mod r;have h1 : (BitVec.ofInt 32 (r : Int)).toNat = r := by
  rw [BitVec.ofInt_natCast, BitVec.toNat_ofNat]; exact Nat.mod_eq_of_lt (by omega)
 have h2 : (BitVec.ofInt 32 (1 : Int)).toNat = 1 := by decide
 show IntKind.i32.wrap ((BitVec.ofInt 32 (r : Int) &&& BitVec.ofInt 32 (1 : Int)).toNat : Int) = _;rw [BitVec.toNat_and, h1, h2, hx];have : (r % 2 : Nat) = 0 ∨ (r % 2 : Nat) = 1 := by omega
 rcases this with e | e <;> rw [e] <;> decide
theorem turn_fin (a b : Int) (w : World) (h : a = b) : (Ending.returned (.int .i32 a) : Ending) = .returned (.int .i32 b) ∧ w = w := ⟨by rw [h], rfl⟩
def TurR (w : World) (n : Nat) (e : Ending) (w' : World) : Prop := e = .returned (.int .i32 (n : Int)) ∧ w' = w
theorem turned_any (r : Nat) (w : World) (h : r < 1114112) : Calls Tryz.prog 183 #[.int .i32 (r : Int)] w (TurR w (turnN r)) := by
 have hc : 0 ≤ r ∧ r ≤ 64 ∨ 65 ≤ r ∧ r ≤ 90 ∨ 91 ≤ r ∧ r ≤ 191 ∨ 192 ≤ r ∧ r ≤ 214 ∨ 215 ≤ r ∧ r ≤ 215 ∨ 216 ≤ r ∧ r ≤ 222 ∨ 223 ≤ r ∧ r ≤ 255 ∨ 256 ≤ r ∧ r ≤ 311 ∨ 312 ≤ r ∧ r ≤ 312 ∨ 313 ≤ r ∧ r ≤ 328 ∨ 329 ≤ r ∧ r ≤ 329 ∨ 330 ≤ r ∧ r ≤ 375 ∨ 376 ≤ r ∧ r ≤ 376 ∨ 377 ≤ r ∧ r ≤ 382 ∨ 383 ≤ r ∧ r ≤ 912 ∨ 913 ≤ r ∧ r ≤ 929 ∨ 930 ≤ r ∧ r ≤ 930 ∨ 931 ≤ r ∧ r ≤ 937 ∨ 938 ≤ r ∧ r ≤ 961 ∨ 962 ≤ r ∧ r ≤ 962 ∨ 963 ≤ r ∧ r ≤ 1023 ∨ 1024 ≤ r ∧ r ≤ 1039 ∨ 1040 ≤ r ∧ r ≤ 1071 ∨ 1072 ≤ r ∧ r ≤ 7679 ∨ 7680 ≤ r ∧ r ≤ 7829 ∨ 7830 ≤ r ∧ r ≤ 1114111 := by omega
 have hm := and1 r (by omega);unfold TurR;rcases hc with c | c | c | c | c | c | c | c | c | c | c | c | c | c | c | c | c | c | c | c | c | c | c | c | c | c
 all_goals
  by_cases g65 : 65 ≤ (r : Int) <;> try (exfalso; omega)
  by_cases g192 : 192 ≤ (r : Int) <;> try (exfalso; omega)
  by_cases g913 : 913 ≤ (r : Int) <;> try (exfalso; omega)
  by_cases g1040 : 1040 ≤ (r : Int) <;> try (exfalso; omega)
  by_cases g1024 : 1024 ≤ (r : Int) <;> try (exfalso; omega)
  by_cases g256 : 256 ≤ (r : Int) <;> try (exfalso; omega)
  by_cases g330 : 330 ≤ (r : Int) <;> try (exfalso; omega)
  by_cases g7680 : 7680 ≤ (r : Int) <;> try (exfalso; omega)
  by_cases g313 : 313 ≤ (r : Int) <;> try (exfalso; omega)
  by_cases g377 : 377 ≤ (r : Int) <;> try (exfalso; omega)
  by_cases l90 : (r : Int) ≤ 90 <;> try (exfalso; omega)
  by_cases l222 : (r : Int) ≤ 222 <;> try (exfalso; omega)
  by_cases l937 : (r : Int) ≤ 937 <;> try (exfalso; omega)
  by_cases l1071 : (r : Int) ≤ 1071 <;> try (exfalso; omega)
  by_cases l1039 : (r : Int) ≤ 1039 <;> try (exfalso; omega)
  by_cases l311 : (r : Int) ≤ 311 <;> try (exfalso; omega)
  by_cases l375 : (r : Int) ≤ 375 <;> try (exfalso; omega)
  by_cases l7829 : (r : Int) ≤ 7829 <;> try (exfalso; omega)
  by_cases l328 : (r : Int) ≤ 328 <;> try (exfalso; omega)
  by_cases l382 : (r : Int) ≤ 382 <;> try (exfalso; omega)
  first | (have e962 : ((r : Int) == 962) = false := by rw [beq_eq_false_iff_ne]; omega) | (have e962 : ((r : Int) == 962) = true := by rw [beq_iff_eq]; omega)
  first | (have n215 : ((r : Int) != 215) = true := by rw [bne_iff_ne]; omega) | (have n215 : ((r : Int) != 215) = false := by rw [bne_eq_false_iff_eq]; omega)
  first | (have n930 : ((r : Int) != 930) = true := by rw [bne_iff_ne]; omega) | (have n930 : ((r : Int) != 930) = false := by rw [bne_eq_false_iff_eq]; omega)
  have hcc := hdn c;clear c h;go_enter Tryz.func183, Tryz.ntmps183;go_wp2;go_ret;have c := hcc.out;exact turn_fin _ _ w (by unfold turnN; (repeat' split) <;> omega)
end
section
open Go.RowKit Go.Maps
def fblk (r : Nat) : List UInt8 := if r = 223 ∨ r = 7838 then [115, 115] else runeL (turnN r : Nat)
def foldF : Nat -> List UInt8 -> List UInt8
 | 0, _ => []
 | f + 1, l => if l = [] then [] else fblk (Lib.decodeL l).1 ++ foldF f (l.drop (Lib.decodeL l).2)
def foldL (l : List UInt8) : List UInt8 := foldF l.length l
theorem turnN_lt (r : Nat) (h : r ≤ 1114111) : turnN r ≤ 1114111 := by
 unfold turnN
 repeat' split
 all_goals omega
theorem runeL_len (r : Int) : (runeL r).length ≤ 4 := by
 have := (Lib.runeCells_le r).2;rw [Lib.runeCells_length] at this;exact this
def FoW (s : ByteArray) (w : World) (L : List UInt8) (wr : World) : Prop :=
 ∃ (pos f : Nat) (acc : List UInt8), Bld 104 w.heap.size w.heap.size acc wr ∧ wr.heap[w.heap.size + 1]? = some (.stringIter s pos) ∧ Below w.heap.size w wr ∧ pos ≤ s.size ∧ s.size ≤ pos + f ∧ acc ++ foldF f (s.data.toList.drop pos) = L ∧ acc.length ≤ 4 * pos
def FoldR (w : World) (L : List UInt8) (e : Ending) (w' : World) : Prop := e = .returned (.string ⟨L.toArray⟩) ∧ Below w.heap.size w w'
theorem fold_any (s : ByteArray) (w : World) (hs : s.size ≤ 4294967296) : Calls Tryz.prog 154 #[.string s] w (FoldR w (foldL s.data.toList)) := by
 obtain ⟨L, hL⟩ : ∃ L, foldL s.data.toList = L := ⟨_, rfl⟩;rw [hL];have hl : s.data.toList.length = s.size := lTq;have H0 := hdn (show foldF s.size (s.data.toList.drop 0) = L by rw [<- hL, List.drop_zero]; unfold foldL; rw [hl]);clear hL;go_enter Tryz.func154, Tryz.ntmps154;go_wp2_with fail
 go_loopw [5] (fun _ wr => FoW s w L wr) (fun _ wr => s.size - wr.iterPos (w.heap.size + 1))
 case atStart =>
  refine ⟨0, s.size, [], (Bld.fresh 104 w).alloc _, ?_, ((Below.refl _ w).alloc (Nat.le_refl _) _).alloc (by simp) _, Nat.zero_le _, by omega, H0.out, by simp⟩;have := World.iter_heap (w.alloc (.cells #[.pointer none, .slice none 0 0] 104)) s 0;simpa using this
 case round =>
  obtain ⟨pos, f, acc, hB, hit, hbw, hps, hpf, hacc, hal⟩ := hrel;have hszr : w.heap.size + 1 < wr.heap.size := (gSq.1 hit).1
  by_cases hp : pos < s.size
  ·have hnx : ∀ ty, (Instr.next (.pointer (some ⟨w.heap.size + 1, 0, none⟩)) true ty).run Tryz.prog wr = _ := fun ty => Lib.run_next_any_at wr (w.heap.size + 1) s pos ty hit hp
   obtain ⟨f, rfl⟩ : ∃ f', f = f' + 1 := ⟨f - 1, by omega⟩;have hne : s.data.toList.drop pos ≠ [] := by intro e; have := congrArg List.length e; rw [List.length_drop, hl] at this; simp at this; omega
   have hdl : Lib.decodeL (s.data.toList.drop pos) = Utf8.decode s pos := Lib.decodeL_drop s pos;have hdw := Lib.decodeL_width (s.data.toList.drop pos);have hdr := Lib.decodeL_rune (s.data.toList.drop pos);have hdz := Lib.decodeL_le _ hne;rw [List.length_drop, hl] at hdz;rw [foldF, if_neg hne, List.drop_drop] at hacc;rw [hdl] at hdw hdr hdz hacc;have hB2 : Bld 104 w.heap.size w.heap.size acc (wr.iterAt (w.heap.size + 1) s (pos + (Utf8.decode s pos).2)) := Lib.IsBuilderF.iterAt hB hit _;have hit2 := Lib.iterAt_heap wr (w.heap.size + 1) s pos (pos + (Utf8.decode s pos).2) hit
   have hbw2 := Lib.below_iterAt hbw (k := w.heap.size + 1) (by omega) s (pos + (Utf8.decode s pos).2);have hpo : World.iterPos wr (w.heap.size + 1) = pos := by simp only [World.iterPos, hit]
   generalize hW : wr.iterAt (w.heap.size + 1) s (pos + (Utf8.decode s pos).2) = W at *;obtain ⟨⟨r, k⟩, hd⟩ : ∃ x, Utf8.decode s pos = x := ⟨_, rfl⟩;rw [hd] at hdw hdr hdz hacc hit2 hnx;simp only at hdw hdr hdz hacc hit2;have hsz2 : w.heap.size ≤ W.heap.size := hbw2.size;have HP := hdn hpo; have HACC := hdn hacc; have HIT2 := hdn hit2; have HB2 := hdn hB2; have HBW2 := hdn hbw2;have HT := hdn fun w9 => turned_any r w9 (by omega);clear hpo hacc hit hit2 hl hW hdl hd hne hB hB2 hbw hbw2
   by_cases hss : r = 223 ∨ r = 7838
   ·have HBK := hdn (show fblk r = [115, 115] by unfold fblk; rw [if_pos hss]);rcases hss with rfl | rfl
    all_goals
     go_wp2_with fail;refine cMq (bld_WriteString unb w.heap.size w.heap.size acc ⟨#[115, 115]⟩ W HB2.out (by rw [show (⟨#[115, 115]⟩ : ByteArray).size = 2 from rfl]; omega) hsz2) ?_;rintro e W1 ⟨rfl, h1, b1, k1⟩;have H1 := hdn h1; have B1 := hdn b1; have K1 := hdn k1;clear h1 b1 k1;go_wp2_with fail
     go_roundw
     case rel =>
      refine ⟨pos + k, f, _, H1.out, Lib.OthersKept.iter K1.out HIT2.out (by omega), HBW2.out.trans (B1.out.mono (Nat.le_refl _)), by omega, by omega, ?_, ?_⟩
      ·rw [<- HACC.out, HBK.out, List.append_assoc]
      ·rw [List.length_append]; show acc.length + 2 ≤ _; omega
     case measure =>
      rw [HP.out];have : World.iterPos W1 (w.heap.size + 1) = pos + k := by simp only [World.iterPos, Lib.OthersKept.iter K1.out HIT2.out (show w.heap.size + 1 ≠ w.heap.size by omega)]
      rw [this]; omega
   ·have HBK := hdn (show fblk r = runeL (turnN r : Nat) by unfold fblk; rw [if_neg hss]);have e1 : ((r : Int) == 223) = false := by rw [beq_eq_false_iff_ne]; omega
    have e2 : ((r : Int) == 7838) = false := by rw [beq_eq_false_iff_ne]; omega
    have htl := turnN_lt r hdr;have hrl := runeL_len (turnN r : Nat);have HRL := hdn hrl;clear hrl hss;go_wp2_with fail;refine cMq (HT.out _) ?_;rintro e W0 ⟨rfl, hw⟩;rw [hw];clear hw;go_wp2_with fail;refine cMq (bld_WriteRune unb w.heap.size w.heap.size acc (turnN r : Nat) (by omega) (by omega) W HB2.out (by omega) hsz2) ?_;rintro e W1 ⟨⟨z, rfl⟩, h1, b1, k1⟩;have H1 := hdn h1; have B1 := hdn b1; have K1 := hdn k1;clear h1 b1 k1;go_wp2_with fail
    go_roundw
    case rel =>
     refine ⟨pos + k, f, _, H1.out, Lib.OthersKept.iter K1.out HIT2.out (by omega), HBW2.out.trans (B1.out.mono (Nat.le_refl _)), by omega, by omega, ?_, ?_⟩
     ·rw [<- HACC.out, HBK.out, List.append_assoc]
     ·rw [List.length_append]; have := HRL.out; omega
    case measure =>
     rw [HP.out];have : World.iterPos W1 (w.heap.size + 1) = pos + k := by simp only [World.iterPos, Lib.OthersKept.iter K1.out HIT2.out (show w.heap.size + 1 ≠ w.heap.size by omega)]
     rw [this]; omega
  ·have hnx : ∀ ty, (Instr.next (.pointer (some ⟨w.heap.size + 1, 0, none⟩)) true ty).run Tryz.prog wr = _ := fun ty => Lib.run_next_end_at wr (w.heap.size + 1) s pos ty hit hp
   have hfin : acc = L := by
    rw [<- hacc]
    cases f with
    | zero => simp [foldF]
    | succ f =>
     rw [foldF, if_pos (by apply List.drop_eq_nil_of_le; omega), List.append_nil]
   have HB := hdn hB; have HBW := hdn hbw; have HF := hdn hfin;have hsz2 : w.heap.size ≤ wr.heap.size := hbw.size;clear hB hbw hfin hacc hl;go_wp2_with fail;refine cMq (bld_String 104 w.heap.size w.heap.size acc wr HB.out hsz2) ?_;rintro e W2 ⟨rfl, _, b2, _⟩;have B2 := hdn b2;clear b2;go_wp2;go_ret;exact ⟨congrArg (fun l : List UInt8 => Ending.returned (Value.string ⟨l.toArray⟩)) HF.out, HBW.out.trans B2.out⟩
end
