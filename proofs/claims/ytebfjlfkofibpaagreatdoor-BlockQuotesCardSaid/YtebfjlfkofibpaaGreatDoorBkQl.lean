/- The ends of lines make no difference. The reference's Lines. With a quote's sign ahead of each line. -/
import Derived.Test.YtebfjlfkofibpaaGreatDoorBkKn
import Derived.Test.YtebfjlfkofibpaaGreatDoorBkNr
import Derived.Test.YtebfjlfkofibpaaGreatDoorBkLp
import Derived.Test.YtebfjlfkofibpaaGreatDoorBkPs
import Derived.Test.YtebfjlfkofibpaaGreatDoorBkQy
import Derived.Deep.RegionHeld3
namespace Go.Proofs.YtebfjlfkofibpaaGreatDoor
section
open Go.RowKit
def ParseG (n : Nat) (x : BD (List (TR n))) (R : List RefT) (dp : Nat) (w : World) (e : Ending) (w' : World) : Prop := ∃ va vk rv,
 e = .returned (.tuple #[.agg (blkCs x.kind x.level x.mark x.start x.tight x.info x.text va vk).toArray, rv, .int .i64 dp]) ∧
 AlS w' (fun k => k < w'.heap.size) va x.align ∧ BlksAt n w' (fun k => k < w'.heap.size) vk x.kids ∧ w'.ownsRow w.heap.size 43 3 rv R.length (refCells R) ∧ Below w.heap.size w w'
end
section
set_option maxHeartbeats 4000000
set_option maxRecDepth 100000
open Go.RowKit
theorem flat_len : ∀ ls : List ByteArray, (flatN ls).length = sumZ ls + ls.length
 | [] => rfl
 | l :: ls => by
  have h1 : l.data.toList.length = l.size := lTq;have hz : sumZ (l :: ls) = l.size + sumZ ls := by unfold sumZ; simp
  rw [flatN, List.length_append, List.length_cons, List.length_cons, flat_len ls, hz, h1];omega
def RlW (X : ByteArray) (N0 : Nat) (w : World) (v3 v4 v5 : Value) (wr : World) : Prop := ∃ (k fr : Nat) (out : List ByteArray),
 v5 = .int .i64 k ∧ v4 = .int .i64 fr ∧ fr ≤ k ∧ k ≤ X.size ∧ wr.ownsRow N0 9 1 v3 out.length (out.map Value.string) ∧ (∀ l ∈ out, Flat1 l) ∧ flatN out = X.data.toList.take fr ∧ (∀ b ∈ (X.data.toList.take k).drop fr, b ≠ 10) ∧ Below N0 w wr ∧ N0 ≤ wr.heap.size
theorem reflines_any (t : ByteArray) (w : World) (ht : t.size ≤ 1000000) : Calls Tryz.prog 14 #[.string t] w fun e w' =>
  ∃ (ls : List ByteArray) (v : Value), e = .returned v ∧ (∀ l ∈ ls, Flat1 l) ∧ sumZ ls + ls.length ≤ t.size + 1 ∧ w'.ownsRow w.heap.size 9 1 v ls.length (ls.map Value.string) ∧ Below w.heap.size w w' := by
 have HN := hdn (refnewlines_any t w (by omega));unfold StrR at HN;obtain ⟨X, hX⟩ : ∃ X, nlB t = X := ⟨_, rfl⟩;rw [show (⟨(nlL t.data.toList).toArray⟩ : ByteArray) = X from hX] at HN;have hXs : X.size ≤ t.size := by rw [<- hX]; exact nlB_size t
 have h13 : ∀ b ∈ X.data.toList, b ≠ 13 := by rw [<- hX]; exact nlS_no13 t.data.toList false
 have HXl := hdn (show X.data.toList.length = X.size from lTq);have H13 := hdn h13;obtain ⟨i0, hi, hz0, hz2, hz3⟩ := info_parts ls_info;clear hX h13;go_enter Tryz.func14, Tryz.ntmps14;go_wp2_with fail;refine cMq HN.out ?_;rintro e w1 ⟨rfl, b1⟩;have HB1 := hdn b1;have hs1 := b1.size;clear b1;go_wp2_with fail
 go_loopw [3, 4, 5] (fun v3 v4 v5 wr => RlW X w.heap.size w v3 v4 v5 wr) (fun _ _ i _ => X.size - (intOf i).toNat)
 case atStart => exact ⟨0, 0, [], rfl, rfl, Nat.le_refl _, Nat.zero_le _, World.ownsRow_nil _ _ _ _, (fun l h => by cases h), rfl, (fun b h => by simp at h), HB1.out, hs1⟩
 case round =>
  obtain ⟨k, fr, out, rfl, rfl, hfk, hk, hown, hfl, hfo, hno, hbw, hzw⟩ := hrel;obtain ⟨A, c, rfl⟩ := bk_own_slice hown;have hol : out.length ≤ fr := by
   have h1 := flat_len out;rw [hfo, List.length_take] at h1;omega
  by_cases hlt : k < X.size
  ·have hki : (k : Int) < (X.size : Int) := by omega
   obtain ⟨b, hbx⟩ : ∃ b, X[k] = b := ⟨_, rfl⟩;have hkl : k < X.data.toList.length := by rw [HXl.out]; exact hlt
   have hbl : X.data.toList[k] = b := by rw [<- hbx]; rfl
   have htk : X.data.toList.take (k + 1) = X.data.toList.take k ++ [b] := by rw [List.take_succ_eq_append_getElem hkl, hbl]
   by_cases h10 : b = 10
   ·subst h10;have z : (((10 : UInt8).toNat : Int) == 10) = true := rfl;obtain ⟨x, hx⟩ : ∃ x, X.extract fr k = x := ⟨_, rfl⟩;have hxl : x.data.toList = (X.data.toList.take k).drop fr := by rw [<- hx]; exact ext_to _ _ _
    have hfk2 : (fr : Int) ≤ (k : Int) := by omega
    have hks : (k : Int) ≤ (X.size : Int) := by omega
    have hF : ∀ l ∈ out ++ [x], Flat1 l := fun l hl => by
     rcases List.mem_append.1 hl with hl | hl
     ·exact hfl l hl
     ·rw [List.mem_singleton.1 hl];intro b hb;rw [hxl] at hb;exact ⟨hno b hb, H13.out b (List.mem_of_mem_take (List.mem_of_mem_drop hb))⟩
    have hT : flatN (out ++ [x]) = X.data.toList.take (k + 1) := by
     rw [flatN_append, hfo, htk];show _ ++ (x.data.toList ++ [10]) = _;rw [hxl, <- List.append_assoc]
     congr 1
     conv => rhs; rw [<- List.take_append_drop fr (X.data.toList.take k)]
     rw [List.take_take, Nat.min_eq_left hfk]
    have HF := hdn hF; have HT := hdn hT; have HO := hdn hown; have HB := hdn hbw;have HA1 := hdn (cell_one_new wr (.string x) 9);have HA2 := hdn (show ∀ u ∈ [Value.string x], u.oneCell' = true by simp [Value.oneCell']);have ha3 : out.length + 1 ≤ maxLen := by unfold maxLen; omega
    have ha4 : (out.length + 1) * 16 ≤ 140737488355328 := by omega
    have ha5 : w.heap.size ≤ (wr.alloc (oneO x)).heap.size := by simp; omega
    have HOw := hdn (World.ownsRow.alloc (w := wr) HO.out (oneO x));clear hown hfl hfo hno hbw htk hF hT hxl hkl hbl;go_wp2_with (at_builtin; refine wpList_append_own_at _ rfl _ _ 36 rfl w.heap.size 9 i0 _ 1 16 Tryz.underlying36 hi hz0 hz2 hz3 rfl (by decide) _ out.length (out.map Value.string) rfl HOw.out ⟨wr.heap.size, 0, none⟩ 1 1 [.string x] rfl rfl HA1.out HA2.out ha3 ha4 ha5 ?_; intro v7 w7 hown7 hgrow _ hob7; obtain ⟨g7, cap7, rfl⟩ := Joins.ownsRow_form hown7 (by omega))
    have hb7 : Below w.heap.size w w7 := (HB.out.alloc (by omega) (oneO x)).grown hgrow (by simp; omega) (fun k hk => by have := own_ge HO.out k hk; omega);have hz7 : w.heap.size ≤ w7.heap.size := by have := hgrow.size; simp at this; omega
    have HB7 := hdn hb7; have HO7 := hdn hown7;clear hb7 hown7 hgrow hob7 HOw HA1 HA2;go_wp2
    go_roundw
    case rel => exact ⟨k + 1, k + 1, out ++ [x], by go_num, by go_num, Nat.le_refl _, by omega, by rw [List.length_append, List.map_append]; exact HO7.out, HF.out, HT.out, (fun b hb => by rw [List.drop_of_length_le (by rw [List.length_take]; omega)] at hb; cases hb), HB7.out, hz7⟩
    case measure => simp [intOf]; omega
   ·have z : ((b.toNat : Int) == 10) = false := by rw [beq_eq_false_iff_ne]; intro e; exact h10 (UInt8.toNat_inj.1 (by show b.toNat = 10; omega))
    have hno2 : ∀ y ∈ (X.data.toList.take (k + 1)).drop fr, y ≠ 10 := fun y hy => by
     rw [htk, List.drop_append_of_le_length (by rw [List.length_take]; omega)] at hy;rcases List.mem_append.1 hy with hy | hy
     ·exact hno y hy
     ·rw [List.mem_singleton.1 hy]; exact h10
    have HF := hdn hfl; have HT := hdn hfo; have HO := hdn hown; have HB := hdn hbw; have HN2 := hdn hno2;clear hown hfl hfo hno hbw htk hno2 hkl hbl;go_wp2
    go_roundw
    case rel => exact ⟨k + 1, fr, out, by go_num, rfl, by omega, by omega, HO.out, HF.out, HT.out, HN2.out, HB.out, hzw⟩
    case measure => simp [intOf]; omega
  ·obtain rfl : k = X.size := by omega
   rw [<- HXl.out, List.take_length] at hno;have hfz := flat_len out;rw [hfo, List.length_take, HXl.out] at hfz
   by_cases hfr : fr < X.size
   ·have hfi : (fr : Int) < (X.size : Int) := by omega
    have hfi2 : (fr : Int) ≤ (X.size : Int) := by omega
    obtain ⟨x, hx⟩ : ∃ x, X.extract fr X.size = x := ⟨_, rfl⟩;have hxl : x.data.toList = X.data.toList.drop fr := by rw [<- hx]; exact ext_rest _ _
    have hxz : x.size = X.size - fr := by rw [<- hx, ByteArray.size_extract]; omega
    have hF : ∀ l ∈ out ++ [x], Flat1 l := fun l hl => by
     rcases List.mem_append.1 hl with hl | hl
     ·exact hfl l hl
     ·rw [List.mem_singleton.1 hl];intro b hb;rw [hxl] at hb;exact ⟨hno b hb, H13.out b (List.mem_of_mem_drop hb)⟩
    have hS : sumZ (out ++ [x]) + (out ++ [x]).length ≤ t.size + 1 := by
     rw [sumZ_snocK, List.length_append, List.length_singleton];omega
    have HF := hdn hF; have HS := hdn hS; have HO := hdn hown; have HB := hdn hbw;have HA1 := hdn (cell_one_new wr (.string x) 9);have HA2 := hdn (show ∀ u ∈ [Value.string x], u.oneCell' = true by simp [Value.oneCell']);have ha3 : out.length + 1 ≤ maxLen := by unfold maxLen; omega
    have ha4 : (out.length + 1) * 16 ≤ 140737488355328 := by omega
    have ha5 : w.heap.size ≤ (wr.alloc (oneO x)).heap.size := by simp; omega
    have HOw := hdn (World.ownsRow.alloc (w := wr) HO.out (oneO x));clear hown hfl hfo hno hbw hF hS hxl hfz hxz;go_wp2_with (at_builtin; refine wpList_append_own_at _ rfl _ _ 36 rfl w.heap.size 9 i0 _ 1 16 Tryz.underlying36 hi hz0 hz2 hz3 rfl (by decide) _ out.length (out.map Value.string) rfl HOw.out ⟨wr.heap.size, 0, none⟩ 1 1 [.string x] rfl rfl HA1.out HA2.out ha3 ha4 ha5 ?_; intro v7 w7 hown7 hgrow _ hob7; obtain ⟨g7, cap7, rfl⟩ := Joins.ownsRow_form hown7 (by omega))
    have hb7 : Below w.heap.size w w7 := (HB.out.alloc (by omega) (oneO x)).grown hgrow (by simp; omega) (fun k hk => by have := own_ge HO.out k hk; omega);have HB7 := hdn hb7; have HO7 := hdn hown7;clear hb7 hown7 hgrow hob7 HOw HA1 HA2;go_wp2;go_ret;exact ⟨out ++ [x], _, rfl, HF.out, HS.out, by rw [List.length_append, List.map_append]; exact HO7.out, HB7.out⟩
   ·obtain rfl : fr = X.size := by omega
    have hfi : ¬ (X.size : Int) < (X.size : Int) := by omega
    have HF := hdn hfl; have HO := hdn hown; have HB := hdn hbw;have hS : sumZ out + out.length ≤ t.size + 1 := by omega
    clear hown hfl hfo hno hbw hfz;go_wp2;go_ret;exact ⟨out, _, rfl, HF.out, hS, HO.out, HB.out⟩
end
section
set_option maxHeartbeats 8000000
set_option maxRecDepth 100000
open Go.RowKit
def dropTab (x : ByteArray) : ByteArray := ⟨(x.data.toList.filter fun b => decide (b ≠ 9)).toArray⟩
theorem dropTab_list (x : ByteArray) : (dropTab x).data.toList = x.data.toList.filter fun b => decide (b ≠ 9) := by unfold dropTab; simp
theorem dropTab_tab (x : ByteArray) : NoTab (dropTab x) := fun b hb => by
 rw [dropTab_list] at hb;simpa using (List.mem_filter.1 hb).2
theorem dropTab_flat {x : ByteArray} (h : Flat1 x) : Flat1 (dropTab x) := fun b hb => by
 rw [dropTab_list] at hb;exact h b (List.mem_filter.1 hb).1
theorem dropTab_size (x : ByteArray) : (dropTab x).size ≤ x.size := by
 have h1 : (dropTab x).data.toList.length = (dropTab x).size := lTq;have h2 : x.data.toList.length = x.size := lTq;rw [<- h1, <- h2, dropTab_list];exact List.length_filter_le _ _
theorem dropTab_sum : ∀ ls : List ByteArray, sumZ (ls.map dropTab) ≤ sumZ ls
 | [] => Nat.le_refl _
 | l :: ls => by
  have hz : ∀ (x : ByteArray) (r : List ByteArray), sumZ (x :: r) = x.size + sumZ r := fun x r => by unfold sumZ; simp
  rw [List.map_cons, hz, hz];have := dropTab_size l;have := dropTab_sum ls;omega
theorem quoteS_size (s : ByteArray) : (quoteS s).size = s.size + 2 := by
 have h1 : (quoteS s).data.toList.length = (quoteS s).size := lTq;have h2 : s.data.toList.length = s.size := lTq;rw [<- h1, <- h2, quoteS_list]; rfl
theorem quoteS_sum : ∀ ls : List ByteArray, sumZ (ls.map quoteS) = sumZ ls + 2 * ls.length
 | [] => rfl
 | l :: ls => by
  have hz : ∀ (x : ByteArray) (r : List ByteArray), sumZ (x :: r) = x.size + sumZ r := fun x r => by unfold sumZ; simp
  rw [List.map_cons, hz, hz, quoteS_size, quoteS_sum ls, List.length_cons];omega
theorem quoteS_flat {s : ByteArray} (h : Flat1 s) : Flat1 (quoteS s) := fun b hb => by
 rw [quoteS_list] at hb;rcases List.mem_cons.1 hb with rfl | hb
 ·decide
 ·rcases List.mem_cons.1 hb with rfl | hb
  ·decide
  ·exact h b hb
theorem lines_of {s : ByteArray} {ls : List ByteArray} (h : s.data.toList = flatN ls) (hf : ∀ l ∈ ls, Flat1 l) : linesL s = ls := by
 rw [lines_flat (cur := ⟨#[]⟩) (by rw [h]; simp) hf fun b hb => by cases hb];exact List.append_nil _
theorem parseR_with {t : ByteArray} {r : Rd} {f : Nat} (hF : finT t = r) (hf : r.nds.length = f) : ParseR t = ParseG (f + 2) (toldF f r 0) r.refs (deepT f r 0) := by
 subst hF;subst hf;rfl
def QTree (P Q : ByteArray) : Prop := ∃ (n : Nat) (x : BD (List (TR n))) (y : BD (List (TR (n + 1)))) (z : BD (List (TR n))) (R : List RefT) (dp : Nat), R.length ≤ 1000000 ∧ y.kids = [z] ∧ z.kind = 2 ∧ z.kids = x.kids ∧ dp ≤ 1000000 ∧
 (∀ w', GlobB w' -> Calls Tryz.prog 10 #[.string P] w' (ParseG n x R dp w')) ∧ ∀ w', GlobB w' -> Calls Tryz.prog 10 #[.string Q] w' (ParseG (n + 1) y R (dp + 1) w')
theorem deep_le (r : Rd) : ∀ (f i : Nat), deepT f r i ≤ f + 1
 | 0, i => by unfold deepT deepN; split <;> omega
 | f + 1, i => by
  have h : ∀ (l : List Nat) (a : Nat), a ≤ f + 1 -> (∀ k ∈ l, k ≤ f + 1) -> l.foldl max a ≤ f + 1 := fun l => by
   induction l with
   | nil => intro a ha _; exact ha
   | cons b l ih => intro a ha hl; exact ih _ (Nat.max_le.2 ⟨ha, hl b (List.mem_cons_self ..)⟩) fun k hk => hl k (List.mem_cons_of_mem _ hk)
  have := h ((r.nd i).kids.map (deepT f r)) 0 (by omega) fun k hk => by
   obtain ⟨j, _, rfl⟩ := List.mem_map.1 hk;exact deep_le r f j
  unfold deepT deepN;split <;> omega
theorem quote_trees {ls : List ByteArray} (hne : ls ≠ []) (hF : ∀ l ∈ ls, Flat1 l) (hS : sumZ ls + ls.length ≤ 1801) {P Q : ByteArray} (hP : P.data.toList = flatN (ls.map dropTab)) (hQ : Q.data.toList = flatN ((ls.map dropTab).map quoteS)) : QTree P Q := by
 have hF1 : ∀ l ∈ ls.map dropTab, Flat1 l := fun l hl => by
  obtain ⟨x, hx, rfl⟩ := List.mem_map.1 hl;exact dropTab_flat (hF x hx)
 have hF2 : ∀ l ∈ (ls.map dropTab).map quoteS, Flat1 l := fun l hl => by
  obtain ⟨x, hx, rfl⟩ := List.mem_map.1 hl;exact quoteS_flat (hF1 x hx)
 have hT : ∀ l ∈ ls.map dropTab, NoTab l := fun l hl => by
  obtain ⟨x, hx, rfl⟩ := List.mem_map.1 hl;exact dropTab_tab x
 have hds := dropTab_sum ls;have hll : (ls.map dropTab).length = ls.length := List.length_map ..;have hPz : P.size = sumZ (ls.map dropTab) + ls.length := by
  have h1 : P.data.toList.length = P.size := lTq;rw [<- h1, hP, flat_len, hll]
 have hQz : Q.size = sumZ (ls.map dropTab) + 2 * ls.length + ls.length := by
  have h1 : Q.data.toList.length = Q.size := lTq;rw [<- h1, hQ, flat_len, quoteS_sum];simp only [List.length_map]
 have hfp : finT P = Rd.final (ls.map dropTab) := by unfold finT; rw [lines_of hP hF1]
 have hfq : finT Q = Rd.final ((ls.map dropTab).map quoteS) := by unfold finT; rw [lines_of hQ hF2]
 have hff := fin_facts (t := P) (by omega);rw [hfp] at hff;obtain ⟨r, hr⟩ : ∃ r, Rd.final (ls.map dropTab) = r := ⟨_, rfl⟩;obtain ⟨q, hq⟩ : ∃ q, Rd.final ((ls.map dropTab).map quoteS) = q := ⟨_, rfl⟩;have hsim : FSim r q := by
  rw [<- hr, <- hq]
  cases hl : ls.map dropTab with
  | nil => rw [hl] at hll; exact absurd (List.length_eq_zero_iff.1 hll.symm) hne
  | cons a b =>
   rw [hl] at hT hds hll;exact quote_final a b hT (by rw [hll]; omega)
 rw [hr] at hfp hff;rw [hq] at hfq;obtain ⟨hok, _, hrf, _, hpos⟩ := hff;obtain ⟨f, hf⟩ : ∃ f, r.nds.length = f + 1 := ⟨r.nds.length - 1, by omega⟩;have hfew := hok.few;have hfq2 : q.nds.length = f + 2 := by rw [hsim.len, hf]
 obtain ⟨k1, k2, k3, k4⟩ := quote_told hsim hok f;have hdl := deep_le r (f + 1) 0;refine ⟨f + 3, toldF (f + 1) r 0, toldF (f + 2) q 0, toldF (f + 1) q 1, r.refs, deepT (f + 1) r 0, by omega, k3, k2, k1, by omega, fun w' hg => ?_, fun w' hg => ?_⟩
 ·have h := parse_any P w' (by omega) hg;rw [parseR_with hfp hf] at h;exact h
 ·have h := parse_any Q w' (by omega) hg;rw [parseR_with hfq hfq2, hsim.refs, k4] at h;exact h
def QuW (ls : List ByteArray) (w3 : World) (v4 v5 v6 : Value) (wr : World) : Prop := ∃ (i : Nat) (p q : ByteArray), v6 = .int .i64 i ∧ v4 = .string p ∧ v5 = .string q ∧ i ≤ ls.length ∧ p.data.toList = flatN ((ls.take i).map dropTab) ∧ q.data.toList = flatN (((ls.take i).map dropTab).map quoteS) ∧ wr = w3
def QiW (x : ByteArray) (w3 : World) (v7 v8 : Value) (wr : World) : Prop := ∃ (k : Nat) (acc : ByteArray), v8 = .int .i64 k ∧ v7 = .string acc ∧ k ≤ x.size ∧ acc.data.toList = (x.data.toList.take k).filter (fun b => decide (b ≠ 9)) ∧ wr = w3
theorem s_five {a b c d e : Prop} (h : a ∧ b ∧ c ∧ d ∧ e) : e := h.2.2.2.2
theorem flat_size {s : ByteArray} {ls : List ByteArray} (h : s.data.toList = flatN ls) : s.size = sumZ ls + ls.length := by
 have h1 : s.data.toList.length = s.size := lTq;rw [<- h1, h, flat_len]
theorem quotes_core (A : Option Addr) (m c : Nat) (l : List UInt8) (w : World) (hl : SlU8 w (.slice A m c) l) (hG : GlobB w) (hm : m = l.length) (hb : m ≤ 600) :
  Calls Tryz.prog 4 #[.slice A m c] w fun e w' => e = .returned (.bool true) ∧ Below w.heap.size w w' := by
 have hbi : ¬ (600 : Int) < (m : Int) := by omega
 have HK := hdn (known_any w hG);obtain ⟨t, ht⟩ : ∃ t : ByteArray, (⟨(textL l).toArray⟩ : ByteArray) = t := ⟨_, rfl⟩;have hts : t.size ≤ 1800 := by
  have := textL_len l;rw [<- ht];show (textL l).toArray.size ≤ _;simp;omega
 have HT := hdn fun w' (h : Below w.heap.size w w') => show Calls Tryz.prog _ #[.slice A m c] w' (StrR w' (textL l)) from reftext_any (.slice A m c) l w' (by omega) (hl.later h);unfold StrR at HT;rw [ht] at HT;have HLn := hdn fun w' => reflines_any t w' (by omega);have HG := hdn fun w' (h : Below w.heap.size w w') => hG.later h;clear hl hm ht hG;go_enter Tryz.func4, Tryz.ntmps4;go_wp2_with fail;refine cMq HK.out ?_;rintro e w1 ⟨rfl, hb1⟩;have HB1 := hdn hb1;clear hb1;go_wp2_with fail
 refine cMq (HT.out w1 HB1.out) ?_;rintro e w2 ⟨rfl, hb2⟩;have HB2 := hdn (HB1.out.trans (hb2.mono HB1.out.size));clear hb2;go_wp2_with fail;refine cMq (HLn.out w2) ?_;rintro e w3 ⟨ls, v, rfl, hF, hS, hown, hb3⟩;have HB3 := hdn (HB2.out.trans (hb3.mono HB2.out.size));have HV := hdn hown;obtain ⟨A2, c2, rfl⟩ := bk_own_slice hown;have HF := hdn hF; have HS := hdn hS;have hll : ls.length ≤ 1801 := by omega
 clear hown hb3 hF hS;go_wp2_with fail
 go_loopw [4, 5, 6] (fun v4 v5 v6 wr => QuW ls w3 v4 v5 v6 wr) (fun _ _ i _ => ls.length - (intOf i).toNat)
 case atStart => exact ⟨0, ⟨#[]⟩, ⟨#[]⟩, rfl, rfl, rfl, Nat.zero_le _, rfl, rfl, rfl⟩
 case round =>
  obtain ⟨i, p, q, rfl, rfl, rfl, hi, hp, hq, rfl⟩ := hrel
  by_cases hlt : i < ls.length
  ·have hii : (i : Int) < (ls.length : Int) := by omega
   obtain ⟨g, c', hsl, hcap, hgl, hcell⟩ := own_cellk HV.out i (by simpa using hlt);injection hsl with hA _ hc;subst hA;subst hc;rw [List.getElem_map] at hcell;obtain ⟨x, hx⟩ : ∃ x, ls[i] = x := ⟨_, rfl⟩;rw [hx] at hcell;have hxl : x.data.toList.length = x.size := lTq;have htk : ls.take (i + 1) = ls.take i ++ [x] := by rw [List.take_succ_eq_append_getElem hlt, hx]
   have hz1 := sumZ_takeP ls i;have hz2 := sumZ_takeP ls (i + 1);rw [htk, sumZ_snocK, List.length_append, List.length_singleton] at hz2;have hS0 := HS.out;have hps := flat_size hp;have hqs := flat_size hq;rw [quoteS_sum] at hqs;simp only [List.length_map] at hqs hps;have hds := dropTab_sum (ls.take i);have hltk : (ls.take i).length = i := by rw [List.length_take]; omega
   have hxz : x.size ≤ 2000 := by omega
   have hpz : p.size ≤ 2000 := by omega
   have hqz : q.size ≤ 6000 := by omega
   have hp2 : ∀ acc : ByteArray, acc.data.toList = x.data.toList.filter (fun b => decide (b ≠ 9)) -> (p ++ acc ++ ⟨#[10]⟩).data.toList = flatN ((ls.take (i + 1)).map dropTab) := fun acc ha => by
    rw [htk, List.map_append, flatN_append, <- hp];simp [ByteArray.data_append, flatN, ha, dropTab_list]
   have hq2 : ∀ acc : ByteArray, acc.data.toList = x.data.toList.filter (fun b => decide (b ≠ 9)) -> (q ++ ⟨#[62, 32]⟩ ++ acc ++ ⟨#[10]⟩).data.toList = flatN (((ls.take (i + 1)).map dropTab).map quoteS) := fun acc ha => by
    rw [htk, List.map_append, List.map_append, flatN_append, <- hq];simp [ByteArray.data_append, flatN, ha, dropTab_list, quoteS_list]
   have HP2 := hdn hp2; have HQ2 := hdn hq2;clear hp hq htk hz1 hz2 hS0 hps hqs hds hltk hp2 hq2;go_wp2_with fail
   go_loopw [7, 8] (fun v7 v8 wr2 => QiW x wr v7 v8 wr2) (fun _ k _ => x.size - (intOf k).toNat)
   case atStart => exact ⟨0, ⟨#[]⟩, rfl, rfl, Nat.zero_le _, rfl, rfl⟩
   case round =>
    obtain ⟨k, acc, rfl, rfl, hk, hacc, rfl⟩ := hrel;have hal : acc.size ≤ k := by
     have h1 : acc.data.toList.length = acc.size := lTq;have h2 := List.length_filter_le (fun b : UInt8 => decide (b ≠ 9)) (x.data.toList.take k);rw [<- h1, hacc];rw [List.length_take] at h2;omega
    by_cases hlk : k < x.size
    ·have hki : (k : Int) < (x.size : Int) := by omega
     obtain ⟨b, hbx⟩ : ∃ b, x[k] = b := ⟨_, rfl⟩;have hkl : k < x.data.toList.length := by rw [hxl]; exact hlk
     have hbl : x.data.toList[k] = b := by rw [<- hbx]; rfl
     have htk : x.data.toList.take (k + 1) = x.data.toList.take k ++ [b] := by rw [List.take_succ_eq_append_getElem hkl, hbl]
     have n2 : ¬ 9223372036854775807 < acc.size + (x.extract k (k + 1)).size := by rw [ByteArray.size_extract]; omega
     have hex : (x.extract k (k + 1)).data.toList = [b] := by
      rw [ext_to, htk, List.drop_append_of_le_length (by rw [List.length_take]; omega), List.drop_of_length_le (by rw [List.length_take]; omega)];rfl
     have HTk := hdn htk; have HAc := hdn hacc; have HEx := hdn hex;clear htk hacc hbl hkl hex
     by_cases h9 : b = 9
     ·have z : ((b.toNat : Int) != 9) = false := by rw [h9]; rfl
      go_wp2
      go_roundw
      case rel => exact ⟨k + 1, acc, by go_num, rfl, by omega, by rw [HTk.out, List.filter_append, <- HAc.out, h9]; simp, rfl⟩
      case measure => simp [intOf]; omega
     ·have z : ((b.toNat : Int) != 9) = true := by simp; intro e; exact h9 (UInt8.toNat_inj.1 (by show b.toNat = 9; omega))
      go_wp2
      go_roundw
      case rel => exact ⟨k + 1, acc ++ x.extract k (k + 1), by go_num, rfl, by omega, by rw [HTk.out, List.filter_append, <- HAc.out, ByteArray.data_append, Array.toList_append, HEx.out]; simp [h9], rfl⟩
      case measure => simp [intOf]; omega
    ·obtain rfl : k = x.size := by omega
     rw [<- hxl, List.take_length] at hacc;have HPa := hdn (HP2.out acc hacc); have HQa := hdn (HQ2.out acc hacc);have n1 : ¬ 9223372036854775807 < p.size + acc.size := by omega
     have n2 : ¬ 9223372036854775807 < (p ++ acc).size + (⟨#[10]⟩ : ByteArray).size := by rw [ByteArray.size_append, show (⟨#[10]⟩ : ByteArray).size = 1 from rfl]; omega
     have n3 : ¬ 9223372036854775807 < q.size + (⟨#[62, 32]⟩ : ByteArray).size := by rw [show (⟨#[62, 32]⟩ : ByteArray).size = 2 from rfl]; omega
     have n4 : ¬ 9223372036854775807 < (q ++ ⟨#[62, 32]⟩).size + acc.size := by rw [ByteArray.size_append, show (⟨#[62, 32]⟩ : ByteArray).size = 2 from rfl]; omega
     have n5 : ¬ 9223372036854775807 < (q ++ ⟨#[62, 32]⟩ ++ acc).size + (⟨#[10]⟩ : ByteArray).size := by rw [ByteArray.size_append, ByteArray.size_append, show (⟨#[62, 32]⟩ : ByteArray).size = 2 from rfl, show (⟨#[10]⟩ : ByteArray).size = 1 from rfl]; omega
     clear hacc;go_wp2
     go_roundw
     case rel => exact ⟨i + 1, p ++ acc ++ ⟨#[10]⟩, q ++ ⟨#[62, 32]⟩ ++ acc ++ ⟨#[10]⟩, by go_num, rfl, rfl, by omega, HPa.out, HQa.out, rfl⟩
     case measure => simp [intOf]; omega
  ·obtain rfl : i = ls.length := by omega
   rw [List.take_length] at hp hq
   by_cases hne : ls = []
   ·have hn0 : ls.length = 0 := by rw [hne]; rfl
    have hz : (ls.length : Int) = 0 := by omega
    go_wp2;go_ret;exact ⟨rfl, HB3.out⟩
   ·have hz : ¬ (ls.length : Int) = 0 := fun e => hne (List.length_eq_zero_iff.1 (by omega));obtain ⟨n, x, y, z, R, dp, hR, hyk, hzk, hzx, hdp, HPp, HPq⟩ := quote_trees hne HF.out (by have := HS.out; omega) hp hq;have HP1 := hdn fun w' (h : Below w.heap.size w w') => HPp w' (HG.out w' h);have HP2 := hdn fun w' (h : Below w.heap.size w w') => HPq w' (HG.out w' h);unfold ParseG blkCs at HP1 HP2;clear HPp HPq hp hq HV;go_wp2_with fail;refine cMq (HP1.out _ HB3.out) ?_;rintro e wa ⟨va1, vk1, rv1, rfl, ha1, hk1, hr1, hb4⟩;obtain ⟨A1, m1, c1, rfl, -⟩ := id ha1.1
    obtain ⟨A1k, c1k, hvk1⟩ := hk1.form;obtain ⟨N1, hN1⟩ : ∃ N1, vk1 = .slice A1k N1 c1k := ⟨_, hvk1⟩;clear hvk1;subst hN1;have HBa := hdn (HB3.out.trans (hb4.mono HB3.out.size));have HK1 := hdn hk1; have HR1 := hdn hr1;clear ha1 hk1 hr1 hb4;go_wp2_with fail;refine cMq (HP2.out _ (HBa.out.alloc HBa.out.size _)) ?_;rintro e wb ⟨va2, vk2, rv2, rfl, ha2, hk2, hr2, hb5⟩;obtain ⟨A2b, m2, c2b, rfl, -⟩ := id ha2.1;have hk2z := hk2;rw [hyk] at hk2z;obtain ⟨A2k, c2k, hvk2, -, hg2⟩ := hk2z.get2;obtain ⟨ad, -, A3, -, N3, -, c3, hA3, hS3, -, hk3, d0, -, -, -, -, -, -, -, d8, -⟩ := hg2 0 z rfl
    subst hA3;have hvk2 : vk2 = .slice (some ad) 1 c2k := hvk2;subst hvk2;rw [hzx] at hk3;rw [hzk] at d0;have add0 : ad.add (0 * 10) = ad := by unfold Addr.add; rw [if_pos rfl]
    rw [add0] at d0 d8;have hadl : ad.block < wb.heap.size := hS3;have R4 := hdn ((hb5.block _ (by simp)).trans (heap_alloc_new wa _));have HBab := hdn (((Below.refl _ wa).alloc (Nat.le_refl _) _).trans (hb5.mono (by simp)));have hsab : wa.heap.size < wb.heap.size := Nat.lt_of_lt_of_le (by simp) hb5.size;have HBb := hdn (HBa.out.trans (HBab.out.mono HBa.out.size));have HK3 := hdn hk3; have HR2 := hdn hr2; have D0 := hdn d0; have D8 := hdn d8;clear hk2 hk2z hg2 hk3 hr2 hb5 ha2 d0 d8 hyk
    go_upto_region 21 with fail
    obtain ⟨W0, hW0⟩ : ∃ W0, wb.alloc (.cells #[.int .u8 (y.kind : Int), .int .i64 y.level, .int .u8 (y.mark : Int), .int .i64 y.start, .bool y.tight, .string y.info, .string y.text, .slice A2b m2 c2b, .slice (some ad) 1 c2k, .slice none 0 0] 28) = W0 := ⟨_, rfl⟩;have hb0 : Below wb.heap.size wb W0 := by rw [<- hW0]; exact (Below.refl _ wb).alloc (Nat.le_refl _) _
    have r0 : W0.heap[wb.heap.size]? = some (.cells #[.int .u8 (y.kind : Int), .int .i64 y.level, .int .u8 (y.mark : Int), .int .i64 y.start, .bool y.tight, .string y.info, .string y.text, .slice A2b m2 c2b, .slice (some ad) 1 c2k, .slice none 0 0] 28 (0, 0)) := by rw [<- hW0]; exact heap_alloc_new _ _
    have hz0 : wb.heap.size < W0.heap.size := by rw [<- hW0]; simp
    rw [hW0];clear hW0;have hcl : ∀ W', Below W0.heap.size W0 W' -> (W'.cell? ⟨wb.heap.size, 8, none⟩ = some (.slice (some ad) 1 c2k) ∧ W'.cell? ad = some (.int .u8 2) ∧ W'.cell? ⟨ad.block, ad.off + 8, none⟩ = some (.slice A3 N3 c3) ∧ W'.cell? ⟨wa.heap.size, 8, none⟩ = some (.slice A1k N1 c1k) ∧ Below W0.heap.size W0 W') := fun W' hb => by
     have s1 := cell_of_row W' wb.heap.size 8 _ _ _ ((hb.block _ hz0).trans r0);have s2 := cell_of_row W' wa.heap.size 8 _ _ _ ((hb.block _ (by omega)).trans ((hb0.block _ hsab).trans R4.out));exact ⟨s1, (hb.cell (p := ad) (by omega)).trans ((hb0.cell (p := ad) hadl).trans D0.out), (hb.cell (p := ⟨ad.block, ad.off + 8, none⟩) (show ad.block < _ by omega)).trans ((hb0.cell (p := ⟨ad.block, ad.off + 8, none⟩) hadl).trans D8.out), s2, hb⟩
    have HC := hdn hcl; have HS0 := hdn (hcl W0 (Below.refl _ _));have HSb := hdn fun W' (hb : Below W0.heap.size W0 W') => same_blks n (.slice A1k N1 c1k) (.slice A3 N3 c3) x.kids (fun k => k < wa.heap.size) (fun k => k < wb.heap.size) W' (BlksAt.keep (fun k hk => (hb.block k (by omega)).trans ((hb0.block k (by omega)).trans (HBab.out.block k hk))) n HK1.out) (BlksAt.keep (fun k hk => (hb.block k (by omega)).trans (hb0.block k hk)) n HK3.out) (fun k hk => by have := hb.size; omega) (fun k hk => by have := hb.size; omega)
    have HRf := hdn fun W' (hb : Below W0.heap.size W0 W') => same_refs W' rv1 rv2 R _ _ (own_keep HR1.out fun g hg => by have := own_lt HR1.out g hg; exact (hb.block g (by omega)).trans ((hb0.block g (by omega)).trans (HBab.out.block g this))) (own_keep HR2.out fun g hg => by have := own_lt HR2.out g hg; exact (hb.block g (by omega)).trans (hb0.block g this)) hR;have HW := hdn (HBb.out.trans (hb0.mono HBb.out.size));have hww : IntKind.i64.wrap ((dp : Int) + 1) = (dp : Int) + 1 := IntWalk.i64_in _ (by omega);have HWW := hdn hww;clear hcl r0 hb0
    go_region_held3 (fun W' => W'.cell? ⟨wb.heap.size, 8, none⟩ = some (.slice (some ad) 1 c2k) ∧ W'.cell? ad = some (.int .u8 2) ∧ W'.cell? ⟨ad.block, ad.off + 8, none⟩ = some (.slice A3 N3 c3) ∧ W'.cell? ⟨wa.heap.size, 8, none⟩ = some (.slice A1k N1 c1k) ∧ Below W0.heap.size W0 W') (first | assumption | exact HS0.out | (with_reducible exact HC.out _ (Below.drew (Below.refl _ _))) | (with_reducible exact HC.out _ (Below.drew (s_five (by assumption)))) | (with_reducible exact HC.out _ (below_on (s_five (by assumption)) (by assumption)))) (first
     | (go_at_call 15; (with_reducible refine cMq (HSb.out _ (s_five (by assumption))) ?_); rintro e w5 ⟨rfl, b5⟩)
     | (go_at_call 13; (with_reducible refine cMq (HRf.out _ (s_five (by assumption))) ?_); rintro e w6 ⟨rfl, b6⟩))
    all_goals
     go_wp2;go_ret
     first
      | exact ⟨rfl, HW.out.trans (Below.mono (s_five (by assumption)) HW.out.size)⟩
      | exact ⟨by simp [HWW.out], HW.out.trans (Below.mono (s_five (by assumption)) HW.out.size)⟩
theorem quotes_law (A : Option Addr) (m c : Nat) (l : List UInt8) (w : World) (hl : SlU8 w (.slice A m c) l) (hll : l.length ≤ 9223372036854775807) (hG : GlobB w) : Calls Tryz.prog 4 #[.slice A m c] w fun e w' => e = .returned (.bool true) ∧ Below w.heap.size w w' := by
 have hm : m = l.length := by obtain ⟨_, _, _, e, h, _⟩ := hl; cases e; exact h
 by_cases hb : 600 < m
 ·have hbi : (600 : Int) < (m : Int) := by omega
  have HK := hdn (known_any w hG);clear hl hm;go_enter Tryz.func4, Tryz.ntmps4;go_wp2_with fail;refine cMq HK.out ?_;rintro e w1 ⟨rfl, hb1⟩;go_wp2;go_ret;exact ⟨rfl, hb1⟩
 ·exact quotes_core A m c l w hl hG hm (by omega)
end
end Go.Proofs.YtebfjlfkofibpaaGreatDoor
