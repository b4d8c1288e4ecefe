/- utf.Newlines. -/
import Derived.Test.YtebfjlfkofibpaaGreatDoorRwA
import Derived.Test.YtebfjlfkofibpaaGreatDoorBkCo
import Derived.Deep.LoopGhost
namespace Go.Proofs.YtebfjlfkofibpaaGreatDoor
set_option maxHeartbeats 4000000
set_option maxRecDepth 100000
section
open Go.RowKit
theorem newlines_b (s : ByteArray) (w : World) (hs : s.size ≤ 1000000000) (hG : MaxB w) : Calls Tryz.prog 25 #[.string s] w (StrR w (nlL s.data.toList)) := by
 have hsl : s.data.toList.length = s.size := lTq;have hc := Lib.countB_mul_le ⟨#[13, 10]⟩ (by decide) s.size s (Nat.le_refl _);rw [show (⟨#[13, 10]⟩ : ByteArray).size = 2 from rfl] at hc;have h1 := replaceAll_any s ⟨#[13, 10]⟩ ⟨#[10]⟩ w (by omega) hG (by decide) (by decide) (by rw [show (⟨#[10]⟩ : ByteArray).size = 1 from rfl]; omega);obtain ⟨y, hy⟩ : ∃ y : ByteArray, (⟨(Lib.replaceK [13, 10] [10] (Lib.countB s ⟨#[13, 10]⟩) s.data.toList).toArray⟩ : ByteArray) = y := ⟨_, rfl⟩
 have hyl : y.data.toList = Lib.replaceK [13, 10] [10] (Lib.countB s ⟨#[13, 10]⟩) s.data.toList := by rw [<- hy]
 have hyc : Lib.replaceK [13, 10] [10] (Lib.countB s ⟨#[13, 10]⟩) s.data.toList = crL s.data.toList := rep_cr2 _ _ (Nat.le_refl _) _ (Nat.le_refl _);have hys : y.size ≤ s.size := by
  have := crL_len s.data.toList;rw [<- hyc, <- hyl] at this;rw [lTq, lTq] at this;exact this
 have hc2 := Lib.countB_mul_le ⟨#[13]⟩ (by decide) y.size y (Nat.le_refl _);rw [show (⟨#[13]⟩ : ByteArray).size = 1 from rfl] at hc2;have h2 := fun w' (h : MaxB w') => replaceAll_any y ⟨#[13]⟩ ⟨#[10]⟩ w' (by omega) h (by decide) (by decide) (by rw [show (⟨#[10]⟩ : ByteArray).size = 1 from rfl]; omega);have hfin : Lib.replaceK [13] [10] (Lib.countB y ⟨#[13]⟩) y.data.toList = nlL s.data.toList := by
  rw [show Lib.countB y ⟨#[13]⟩ = Lib.count y.data.toList [13] from rfl, hyl];exact nl_two s.data.toList _ _ (Nat.le_refl _) (by rw [<- hyc]; exact Nat.le_refl _)
 have h1 : Calls Tryz.prog 44 #[.string s, .string ⟨#[13, 10]⟩, .string ⟨#[10]⟩] w (RpR w (Lib.replaceK [13, 10] [10] (Lib.countB s ⟨#[13, 10]⟩) s.data.toList)) := h1;have h2 : ∀ w', MaxB w' -> Calls Tryz.prog 44 #[.string y, .string ⟨#[13]⟩, .string ⟨#[10]⟩] w' (RpR w' (Lib.replaceK [13] [10] (Lib.countB y ⟨#[13]⟩) y.data.toList)) := h2;unfold RpR at h1 h2;rw [hy] at h1;rw [hfin] at h2;have H1 := hdn h1; have H2 := hdn h2; have HG := hdn hG;clear h1 h2 hfin hc hc2 hys hyc hyl hy hG hsl
 go_enter Tryz.func25, Tryz.ntmps25;go_wp2_with fail;refine cMq H1.out ?_;rintro e w1 ⟨rfl, b1⟩;have HB1 := hdn b1;clear b1;go_wp2_with fail;refine cMq (H2.out _ (HG.out.later HB1.out)) ?_;rintro e w2 ⟨rfl, b2⟩;have HB2 := hdn (HB1.out.trans (b2.mono HB1.out.size));clear b2;go_wp2;go_ret;exact ⟨rfl, HB2.out⟩
end
section
open Go.RowKit
def LiAt (w : World) (pa ps : Nat) (s : ByteArray) (k : Nat) : Prop := w.heap[pa]? = some (.cells #[.int .i64 (k : Int)] 3 (0, 0)) ∧ w.heap[ps]? = some (.cells #[.string s] 9 (0, 0))
theorem LiAt.ne {w : World} {pa ps : Nat} {s : ByteArray} {k : Nat} (h : LiAt w pa ps s k) : pa ≠ ps := fun e => by
 have h1 := h.1;rw [e] at h1;have := h1.symm.trans h.2;simp at this
def NextR (w : World) (pa ps : Nat) (s : ByteArray) (k : Nat) (e : Ending) (w' : World) : Prop :=
 if s.size ≤ k then e = .returned (.tuple #[.string ⟨#[]⟩, .bool false]) ∧ w' = w
 else e = .returned (.tuple #[.string (cutS (s.extract k s.size) 10).1, .bool true]) ∧ LiAt w' pa ps s (k + (cutS (s.extract k s.size) 10).1.size + 1) ∧ w.grownBy w' (some pa)
theorem cutS_le (s : ByteArray) (c : UInt8) : (cutS s c).1.size ≤ s.size := by
 unfold cutS;split
 ·exact Nat.le_refl _
 ·show (s.extract 0 _).size ≤ _;rw [ByteArray.size_extract]; omega
theorem next_any (s : ByteArray) (k pa ps : Nat) (w : World) (hs : s.size ≤ 1099511627) (hk : k ≤ 1099511628) (h : LiAt w pa ps s k) :
  Calls Tryz.prog 26 #[.pointer (some ⟨pa, 0, none⟩), .pointer (some ⟨ps, 0, none⟩)] w (NextR w pa ps s k) := by
 have q1 := fun i => cell_of_row w pa i _ _ _ h.1;have q2 := fun i => cell_of_row w ps i _ _ _ h.2;unfold NextR
 by_cases hz : s.size ≤ k
 ·have hi : (s.size : Int) ≤ (k : Int) := by omega
  rw [show (fun e w' => if s.size ≤ k then e = Ending.returned (.tuple #[.string ⟨#[]⟩, .bool false]) ∧ w' = w else e = .returned (.tuple #[.string (cutS (s.extract k s.size) 10).1, .bool true]) ∧ LiAt w' pa ps s (k + (cutS (s.extract k s.size) 10).1.size + 1) ∧ w.grownBy w' (some pa)) = fun e w' => e = Ending.returned (.tuple #[.string ⟨#[]⟩, .bool false]) ∧ w' = w from funext fun e => funext fun w' => by rw [if_pos hz]];clear h;go_enter Tryz.func26, Tryz.ntmps26;go_wp2
  go_ret2
  exact ⟨rfl, rfl⟩
 ·have hi : ¬ (s.size : Int) ≤ (k : Int) := by omega
  have hi2 : (k : Int) ≤ (s.size : Int) := by omega
  rw [show (fun e w' => if s.size ≤ k then e = Ending.returned (.tuple #[.string ⟨#[]⟩, .bool false]) ∧ w' = w else e = .returned (.tuple #[.string (cutS (s.extract k s.size) 10).1, .bool true]) ∧ LiAt w' pa ps s (k + (cutS (s.extract k s.size) 10).1.size + 1) ∧ w.grownBy w' (some pa)) = fun e w' => e = Ending.returned (.tuple #[.string (cutS (s.extract k s.size) 10).1, .bool true]) ∧ LiAt w' pa ps s (k + (cutS (s.extract k s.size) 10).1.size + 1) ∧ w.grownBy w' (some pa) from funext fun e => funext fun w' => by rw [if_neg hz]];have hle := cutS_le (s.extract k s.size) 10
  rw [ByteArray.size_extract] at hle;have HC := hdn fun w' => cut_any (s.extract k s.size) 10 w' (by rw [ByteArray.size_extract]; omega);obtain ⟨⟨x, y, z⟩, hx⟩ : ∃ x, cutS (s.extract k s.size) 10 = x := ⟨_, rfl⟩;rw [hx] at HC hle ⊢;simp only at hle ⊢;unfold CutR at HC;simp only at HC;have f1 : ∀ i, w.frozen? ⟨pa, i, none⟩ = false := fun i => by simp [World.frozen?, h.1]
  have H := hdn h;have hxz : x.size ≤ 1099511627 := by omega
  clear hx h;go_enter Tryz.func26, Tryz.ntmps26;go_wp2_with fail;refine cMq (HC.out _) ?_;rintro e w1 ⟨rfl, d, rfl⟩;have hfin : LiAt ((w.drewN d).setCell ⟨pa, 0, none⟩ (.int .i64 ((k : Int) + ((x.size : Int) + 1)))) pa ps s (k + x.size + 1) := by
   refine ⟨?_, ?_⟩
   ·rw [Joins.block_setCell (show (w.drewN d).heap[pa]? = _ from H.out.1) _, show ((k + x.size + 1 : Nat) : Int) = (k : Int) + ((x.size : Int) + 1) by omega];rfl
   ·rw [Below.heap_setCell (w.drewN d) _ _ _ (fun e => H.out.ne e.symm)];exact H.out.2
  have HFin := hdn hfin;clear hfin;go_wp2
  go_ret2
  exact ⟨rfl, HFin.out, grown_put (grown_drewN (grown_refl w _) _) 0 _⟩
end
section
open Go.RowKit
def lnF : Nat -> ByteArray -> Nat -> List ByteArray
 | 0, _, _ => []
 | f + 1, s, k => if s.size ≤ k then [] else (cutS (s.extract k s.size) 10).1 :: lnF f s (k + (cutS (s.extract k s.size) 10).1.size + 1)
def nlB (s : ByteArray) : ByteArray := ⟨(nlL s.data.toList).toArray⟩
def linesL (s : ByteArray) : List ByteArray := lnF ((nlB s).size + 1) (nlB s) 0
theorem lnF_len : ∀ (f : Nat) (s : ByteArray) (k : Nat), (lnF f s k).length + k ≤ s.size + 1 ∨ lnF f s k = []
 | 0, _, _ => .inr rfl
 | f + 1, s, k => by
  unfold lnF
  by_cases h : s.size ≤ k
  ·rw [if_pos h]; exact .inr rfl
  ·rw [if_neg h];left;have hc := cutS_le (s.extract k s.size) 10;rw [ByteArray.size_extract] at hc;rcases lnF_len f s (k + (cutS (s.extract k s.size) 10).1.size + 1) with h2 | h2
   ·rw [List.length_cons]; omega
   ·rw [h2]; simp; omega
theorem nlB_size (s : ByteArray) : (nlB s).size ≤ s.size := by
 have h := nlL_len s.data.toList;have h2 : s.data.toList.length = s.size := lTq;show (nlL s.data.toList).toArray.size ≤ _;simp;omega
theorem ls_info : (Tryz.prog.info? 9).map (fun i => (i.zero, i.size, i.bytes)) = some (some (.string ⟨#[]⟩), 1, 16) := by kernel_rfl
theorem own_ge {w : World} {base : Nat} {e : TypeId} {size : Nat} {v : Value} {n : Nat} {xs : List Value} (h : w.ownsRow base e size v n xs) : ∀ g, v.ownBlock = some g -> base ≤ g := by
 intro g hg;rcases h.2 with ⟨rfl, _⟩ | ⟨g', cap, cur, rfl, hb, _⟩
 ·cases hg
 ·cases hg; exact hb
theorem next_post {w w' : World} {pa ps : Nat} {s : ByteArray} {k : Nat} {e : Ending} (h : LiAt w pa ps s k) (hn : NextR w pa ps s k e w') : ∃ v6 v7, e = .returned (.tuple #[v6, v7]) ∧ (v6, v7) = (if s.size ≤ k then (Value.string ⟨#[]⟩, Value.bool false) else (Value.string (cutS (s.extract k s.size) 10).1, Value.bool true)) ∧
  LiAt w' pa ps s (if s.size ≤ k then k else k + (cutS (s.extract k s.size) 10).1.size + 1) ∧ w.grownBy w' (some pa) := by
 unfold NextR at hn
 by_cases hk : s.size ≤ k
 ·rw [if_pos hk] at hn;obtain ⟨rfl, rfl⟩ := hn;exact ⟨_, _, rfl, by rw [if_pos hk], by rw [if_pos hk]; exact h, grown_refl _ _⟩
 ·rw [if_neg hk] at hn;obtain ⟨rfl, h1, h2⟩ := hn;exact ⟨_, _, rfl, by rw [if_neg hk], by rw [if_neg hk]; exact h1, h2⟩
def LsW (y : ByteArray) (E : List ByteArray) (pa ps N0 : Nat) (w : World) (g : Nat) (v5 v6 v7 : Value) (wr : World) : Prop := ∃ (k f : Nat) (acc : List ByteArray),
 (v6, v7) = (if y.size ≤ k then (Value.string ⟨#[]⟩, Value.bool false) else (Value.string (cutS (y.extract k y.size) 10).1, Value.bool true)) ∧
 LiAt wr pa ps y (if y.size ≤ k then k else k + (cutS (y.extract k y.size) 10).1.size + 1) ∧
 wr.ownsRow N0 9 1 v5 acc.length (acc.map Value.string) ∧ acc ++ lnF f y k = E ∧ y.size < k + f ∧ k ≤ y.size + 1 ∧ acc.length ≤ k ∧ g = y.size + 2 - k ∧ Below w.heap.size w wr ∧ N0 ≤ wr.heap.size
theorem lines_any (s : ByteArray) (w : World) (hs : s.size ≤ 1000000) (hm : MaxB w) :
  Calls Tryz.prog 19 #[.string s] w fun e w' => ∃ v, e = .returned v ∧ w'.ownsRow w.heap.size 9 1 v (linesL s).length ((linesL s).map Value.string) ∧ Below w.heap.size w w' := by
 have hys := nlB_size s;have hN := fun w' h => newlines_b s w' (by omega) h;unfold StrR at hN;obtain ⟨y, hy⟩ : ∃ y, nlB s = y := ⟨_, rfl⟩;unfold linesL;rw [hy] at hys ⊢;rw [show (⟨(nlL s.data.toList).toArray⟩ : ByteArray) = y from hy] at hN;obtain ⟨E, hE⟩ : ∃ E, lnF (y.size + 1) y 0 = E := ⟨_, rfl⟩;rw [hE];have hEl : E.length ≤ y.size + 1 := by
  rw [<- hE];rcases lnF_len (y.size + 1) y 0 with h | h
  ·omega
  ·rw [h]; simp
 have HN := hdn (hN (w.alloc (.cells #[.string s] 9)) (hm.later ((Below.refl _ w).alloc (Nat.le_refl _) _)));have HE := hdn hE;have b0 := Boxed.new w 9 (.string s);have c0 := b0.cell;clear hN hE hy hm;go_enter Tryz.func19, Tryz.ntmps19;go_wp2_with fail;refine cMq HN.out ?_;rintro e w1 ⟨rfl, b1⟩;have b01 : Boxed w1 w.heap.size 9 (.string s) := (b1.block _ b0.lt).trans b0;have c1 := b01.cell;have f1 := b01.frozen;have hz1 : w.heap.size < w1.heap.size := b01.lt
 have hb1 : Below w.heap.size w w1 := ((Below.refl _ w).alloc (Nat.le_refl _) _).trans (b1.mono (by simp));go_wp2_with fail;obtain ⟨W5, hW5⟩ : ∃ W5, (w1.setCell ⟨w.heap.size, 0, none⟩ (.string y)).alloc (.cells #[.int .i64 0] 3) = W5 := ⟨_, rfl⟩;have hz5 : (w1.setCell ⟨w.heap.size, 0, none⟩ (.string y)).heap.size = w1.heap.size := by simp [World.setCell]
 have hli : LiAt W5 w1.heap.size w.heap.size y 0 := by
  rw [<- hW5];refine ⟨?_, ?_⟩
  ·have := heap_alloc_new (w1.setCell ⟨w.heap.size, 0, none⟩ (.string y)) (.cells #[.int .i64 0] 3);rw [hz5] at this;exact this
  ·exact (Below.heap_alloc _ _ _ (by rw [hz5]; exact hz1)).trans (b01.set (.string y))
 have hb5 : Below w.heap.size w W5 := by rw [<- hW5]; exact (hb1.setCell (p := ⟨w.heap.size, 0, none⟩) (Nat.le_refl _) _).alloc (by rw [hz5]; omega) _
 have hN0 : W5.heap.size = w1.heap.size + 1 := by rw [<- hW5]; simp [World.setCell]
 rw [hW5];have HX := hdn (next_any y 0 w1.heap.size w.heap.size W5 (by omega) (by omega) hli);have HL := hdn hli;have HB5 := hdn hb5;have hpa : w1.heap.size < W5.heap.size := by omega
 clear c0 c1 f1 b0 b01 b1 hb1 hW5 hz5 hli hb5 HN;refine cMq HX.out ?_;intro e w6 hnx;obtain ⟨v6, v7, rfl, hv, hl6, hg6⟩ := next_post HL.out hnx;have H0 := hdn (show LsW y E w1.heap.size w.heap.size W5.heap.size w (y.size + 2) (.slice none 0 0) v6 v7 w6 from ⟨0, y.size + 1, [], hv, hl6, World.ownsRow_nil _ _ _ _, by rw [List.nil_append]; exact HE.out, by omega, by omega, Nat.le_refl _, by omega, HB5.out.grown hg6 (by omega) (fun k hk => by cases hk; omega), hg6.size⟩);obtain ⟨i0, hi, hz0, hz2, hz3⟩ := info_parts ls_info;clear hnx hv hl6 hg6 HX HL;go_wp2_with fail
 go_loopg [5, 6, 7] (y.size + 2) (fun g v5 v6 v7 wr => LsW y E w1.heap.size w.heap.size W5.heap.size w g v5 v6 v7 wr)
 case atStart => exact H0.out
 case round =>
  obtain ⟨k, f, acc, hv, hli, hown, hacc, hkf, hky, hak, hg, hbw, hNr⟩ := hrel;clear H0
  by_cases hk : y.size ≤ k
  ·rw [if_pos hk] at hv;injection hv with h6 h7;subst h6;subst h7;have hE2 : acc = E := by
    rw [<- hacc]
    cases f with
    | zero => simp [lnF]
    | succ f => unfold lnF; rw [if_pos hk, List.append_nil]
   have HO := hdn (show wr.ownsRow w.heap.size 9 1 _ E.length (E.map Value.string) by rw [<- hE2]; exact ownsRow_base_b hown (by omega));have HB := hdn hbw;clear hli hown hacc hbw hE2;go_wp2;go_ret;exact ⟨_, rfl, HO.out, HB.out⟩
  ·rw [if_neg hk] at hv hli;injection hv with h6 h7;subst h6;subst h7;obtain ⟨f, rfl⟩ : ∃ f', f = f' + 1 := ⟨f - 1, by omega⟩;unfold lnF at hacc;rw [if_neg hk] at hacc;have hcl := cutS_le (y.extract k y.size) 10;rw [ByteArray.size_extract] at hcl;obtain ⟨x, hx⟩ : ∃ x, (cutS (y.extract k y.size) 10).1 = x := ⟨_, rfl⟩;rw [hx] at hli hacc hcl ⊢;obtain ⟨A, c, rfl⟩ := bk_own_slice hown;have HLi := hdn hli; have HO := hdn hown; have HB := hdn hbw; have HAc := hdn hacc;clear hli hown hbw hacc hx;have HA1 := hdn (cell_one_new wr (.string x) 9)
   have HA2 := hdn (show ∀ u ∈ [Value.string x], u.oneCell' = true by simp [Value.oneCell']);have ha3 : acc.length + 1 ≤ maxLen := by unfold maxLen; omega
   have ha4 : (acc.length + 1) * 16 ≤ 140737488355328 := by omega
   have ha5 : W5.heap.size ≤ (wr.alloc (oneO x)).heap.size := by simp; omega
   have HOw := hdn (World.ownsRow.alloc (w := wr) HO.out (oneO x));go_wp2_with (at_builtin; refine wpList_append_own_at _ rfl _ _ 36 rfl W5.heap.size 9 i0 _ 1 16 Tryz.underlying36 hi hz0 hz2 hz3 rfl (by decide) _ acc.length (acc.map Value.string) rfl HOw.out ⟨wr.heap.size, 0, none⟩ 1 1 [.string x] rfl rfl HA1.out HA2.out ha3 ha4 ha5 ?_; intro v7 w7 hown7 hgrow _ hob7; obtain ⟨g7, cap7, rfl⟩ := Joins.ownsRow_form hown7 (by omega));have hli7 : LiAt w7 w1.heap.size w.heap.size y (k + x.size + 1) := by
    have hk7 : ∀ b, b < W5.heap.size -> w7.heap[b]? = wr.heap[b]? := fun b hb7 =>
     (hgrow.block b (by simp; omega) (fun e => by have := own_ge HO.out b e.symm; omega)).trans (Below.heap_alloc wr _ _ (by omega));exact ⟨(hk7 _ hpa).trans HLi.out.1, (hk7 _ (by omega)).trans HLi.out.2⟩
   have hb7 : Below w.heap.size w w7 := (HB.out.alloc (by omega) (oneO x)).grown hgrow (by simp; omega) (fun k hk => by have := own_ge HO.out k hk; omega);have hz7 : W5.heap.size ≤ w7.heap.size := by have := hgrow.size; simp at this; omega
   have HX7 := hdn (next_any y (k + x.size + 1) w1.heap.size w.heap.size w7 (by omega) (by omega) hli7);have HL7 := hdn hli7; have HB7 := hdn hb7; have HO7 := hdn hown7;clear hli7 hb7 hown7 hgrow hob7 HOw HA1 HA2;refine cMq HX7.out ?_;intro e w8 hnx;obtain ⟨v6, v7, rfl, hv8, hl8, hg8⟩ := next_post HL7.out hnx;have hown8 := own_keep HO7.out fun g hg => hg8.block g (own_lt HO7.out g hg) (fun e => by cases e; have := own_ge HO7.out _ hg; omega);have hb8 := HB7.out.grown hg8 (by omega) (fun k hk => by cases hk; omega);have hz8 := hg8.size
   have HV8 := hdn hv8; have HL8 := hdn hl8; have HO8 := hdn hown8; have HB8 := hdn hb8;clear hnx hv8 hl8 hg8 hown8 hb8 HX7 HL7 HO7 HB7;go_wp2
   go_roundg (y.size + 2 - (k + x.size + 1))
   case measure => omega
   case rel => exact ⟨k + x.size + 1, f, acc ++ [x], HV8.out, HL8.out, by rw [List.length_append, List.map_append]; exact HO8.out, by rw [List.append_assoc]; exact HAc.out, by omega, by omega, by rw [List.length_append]; simp; omega, rfl, HB8.out, by omega⟩
end
