/- rows.cells, and its cells collected. -/
import Derived.Test.YtebfjlfkofibpaaGreatDoorRwC
import Derived.Test.YtebfjlfkofibpaaGreatDoorBkBe
namespace Go.Proofs.YtebfjlfkofibpaaGreatDoor
set_option maxHeartbeats 4000000
set_option maxRecDepth 100000
open Go.RowKit Go.Shelf
attribute [local go_sem] Oper.semAt_some
theorem str_infoR : (Tryz.prog.info? 9).map (fun i => (i.zero, i.size, i.bytes)) = some (some (.string ⟨#[]⟩), 1, 16) := by kernel_rfl
theorem ownsRow_base_b {W : World} {base base' : Nat} {e : TypeId} {size : Nat} {v : Value} {k : Nat} {xs : List Value} (h : W.ownsRow base e size v k xs) (hb : base' ≤ base) : W.ownsRow base' e size v k xs := by
 refine ⟨h.1, ?_⟩;rcases h.2 with h1 | ⟨g, cap, cur, rfl, hg, rest⟩
 ·exact .inl h1
 ·exact .inr ⟨g, cap, cur, rfl, Nat.le_trans hb hg, rest⟩
theorem suf_one (l : List UInt8) (c : UInt8) : Lib.hasSuffix l [c] = decide (l.getLast? = some c) := by
 unfold Lib.hasSuffix;rcases List.eq_nil_or_concat l with rfl | ⟨y, d, rfl⟩
 ·rfl
 ·rw [List.concat_eq_append, List.getLast?_concat];have h : ([c] : List UInt8).isSuffixOf (y ++ [d]) = (c == d) := by
   unfold List.isSuffixOf;rw [List.reverse_append];simp [List.isPrefixOf]
  rw [h]
  by_cases hcd : c = d
  ·subst hcd; simp
  ·rw [beq_eq_false_iff_ne.2 hcd, decide_eq_false (by simpa using fun e => hcd e.symm)]
theorem suf_two (l : List UInt8) (c d : UInt8) : Lib.hasSuffix l [d, c] = (decide (l.getLast? = some c) && decide (l.dropLast.getLast? = some d)) := by
 unfold Lib.hasSuffix;rcases List.eq_nil_or_concat l with rfl | ⟨y, x, rfl⟩
 ·rfl
 ·rw [List.concat_eq_append, List.getLast?_concat, List.dropLast_concat];have h : ([d, c] : List UInt8).isSuffixOf (y ++ [x]) = (c == x && ([d] : List UInt8).isSuffixOf y) := by
   unfold List.isSuffixOf;rw [List.reverse_append];simp [List.isPrefixOf]
  rw [h];have h1 := suf_one y d;unfold Lib.hasSuffix at h1;rw [h1]
  by_cases hcx : c = x
  ·subst hcx; simp
  ·rw [beq_eq_false_iff_ne.2 hcx, decide_eq_false (show ¬ some x = some c from fun e => hcx (Option.some.inj e).symm)]
theorem cells_any (s : ByteArray) (w : World) (hs : s.size ≤ 1000000) :
  Calls Tryz.prog 79 #[.string s] w fun e w' => e = .returned (.func (.func 117) #[] #[.pointer (some ⟨w.heap.size, 0, none⟩)]) ∧ w'.heap[w.heap.size]? = some (.cells #[.string ⟨(barS s.data.toList).toArray⟩] 9 (0, 0)) ∧ Below w.heap.size w w' := by
 have hl : s.data.toList.length = s.size := lTq;have HT := hdn fun w' => colsTrim_any s w' (by omega);unfold StrB at HT;obtain ⟨t, ht⟩ : ∃ t : ByteArray, (⟨(blankT s.data.toList).toArray⟩ : ByteArray) = t := ⟨_, rfl⟩;rw [ht] at HT;have hts : t.data.toList = blankT s.data.toList := by rw [<- ht]
 have htz : t.size ≤ s.size := by
  have h1 : (blankT s.data.toList).length ≤ s.data.toList.length := trimS_len s.data.toList [32, 9];have h2 : t.data.toList.length = t.size := lTq;rw [hts] at h2;omega
 have HTP := hdn fun w' => Tryz.strings_TrimPrefix t ⟨#[124]⟩ w';obtain ⟨u, hu⟩ : ∃ u : ByteArray, (⟨(Lib.trimPrefix t.data.toList (⟨#[124]⟩ : ByteArray).data.toList).toArray⟩ : ByteArray) = u := ⟨_, rfl⟩;rw [hu] at HTP;have hus : u.data.toList = if (blankT s.data.toList).head? = some 124 then (blankT s.data.toList).drop 1 else blankT s.data.toList := by
  rw [<- hu];show (Lib.trimPrefix t.data.toList [124]) = _;rw [hts];unfold Lib.trimPrefix Lib.hasPrefix
  cases blankT s.data.toList with
  | nil => rfl
  | cons b l =>
   have h : ([124] : List UInt8).isPrefixOf (b :: l) = ((124 : UInt8) == b) := by simp [List.isPrefixOf]
   rw [h]
   by_cases hb : b = 124
   ·subst hb; rfl
   ·rw [beq_eq_false_iff_ne.2 (fun e => hb e.symm), if_neg Bool.false_ne_true, if_neg (show ¬ (b :: l).head? = some 124 from fun e => hb (Option.some.inj e))]
 have huz : u.size ≤ 1000000 := by
  have h2 : u.data.toList.length = u.size := lTq;have h3 : t.data.toList.length = t.size := lTq;rw [hus] at h2;rw [hts] at h3;split at h2
  ·rw [List.length_drop] at h2; omega
  ·omega
 have HS1 := hdn fun w' => Tryz.strings_HasSuffix u ⟨#[124]⟩ w' (by omega);have HS2 := hdn fun w' => Tryz.strings_HasSuffix u ⟨#[92, 124]⟩ w' (by omega);rw [show (⟨#[124]⟩ : ByteArray).data.toList = [124] from rfl, suf_one] at HS1;rw [show (⟨#[92, 124]⟩ : ByteArray).data.toList = [92, 124] from rfl, suf_two] at HS2;have hbar : barS s.data.toList = if u.data.toList.getLast? = some 124 ∧ u.data.toList.dropLast.getLast? ≠ some 92 then u.data.toList.dropLast else u.data.toList := by
  unfold barS;simp only;rw [hus]
 obtain ⟨B1, hB1⟩ : ∃ B1, decide (u.data.toList.getLast? = some 124) = B1 := ⟨_, rfl⟩;obtain ⟨B2, hB2⟩ : ∃ B2, decide (u.data.toList.dropLast.getLast? = some 92) = B2 := ⟨_, rfl⟩;rw [hB1] at HS1;rw [hB1, hB2] at HS2;have hbox : ∀ (W : World) (v : ByteArray), W.heap[w.heap.size]? = some (.cells #[.string v] 9 (0, 0)) -> ∀ x : ByteArray, (W.setCell ⟨w.heap.size, 0, none⟩ (.string x)).heap[w.heap.size]? = some (.cells #[.string x] 9 (0, 0)) := fun W v h x => by rw [Joins.block_setCell h _]; rfl
 have HBox := hdn hbox;have hul : u.data.toList.length = u.size := lTq;have HBar := hdn hbar; have HB1 := hdn hB1; have HB2 := hdn hB2;clear ht hu hts hus hbar hbox hB1 hB2;go_enter Tryz.func79, Tryz.ntmps79;go_wp2_with fail;refine cMq (HT.out _) ?_;rintro e w1 ⟨rfl, b1⟩;go_wp2_with fail;refine cMq (HTP.out _) ?_;rintro e w2 ⟨rfl, rfl⟩;have h1 : w2.heap[w.heap.size]? = some (.cells #[.string s] 9 (0, 0)) := (b1.block _ (by simp)).trans (heap_alloc_new w _)
 have hb1 : Below w.heap.size w w2 := ((Below.refl _ w).alloc (Nat.le_refl _) _).trans (b1.mono (by simp));have q1 := fun i => cell_of_row w2 w.heap.size i _ _ _ h1;have f1 : ∀ i, w2.frozen? ⟨w.heap.size, i, none⟩ = false := fun i => by simp [World.frozen?, h1]
 have h2 := HBox.out w2 s h1 u;have hb2 := hb1.setCell (p := ⟨w.heap.size, 0, none⟩) (Nat.le_refl _) (.string u);have H2 := hdn h2; have HBe := hdn hb2;clear b1 h1 hb1 h2 hb2
 go_upto_region 2 with fail
 obtain ⟨W2, hW2⟩ : ∃ W2, w2.setCell ⟨w.heap.size, 0, none⟩ (.string u) = W2 := ⟨_, rfl⟩;have h2 := H2.out;have hb2 := HBe.out;rw [hW2] at h2 hb2 ⊢;clear hW2 H2 HBe q1 f1;have q2 := fun i => cell_of_row W2 w.heap.size i _ _ _ h2;have f2 : ∀ i, W2.frozen? ⟨w.heap.size, i, none⟩ = false := fun i => by simp [World.frozen?, h2]
 have H2 := hdn h2; have HBe := hdn hb2;clear h2 hb2
 cases B1 with
 | false =>
  have hv : barS s.data.toList = u.data.toList := by rw [HBar.out, if_neg (fun h => of_decide_eq_false HB1.out h.1)]
  have HV := hdn hv;clear hv;go_wp2_with fail;refine cMq (HS1.out _) ?_;rintro e w3 ⟨rfl, rfl⟩;go_wp2;go_ret;exact ⟨rfl, by rw [HV.out]; exact H2.out, HBe.out⟩
 | true =>
  cases B2 with
  | true =>
   have hv : barS s.data.toList = u.data.toList := by rw [HBar.out, if_neg (fun h => h.2 (of_decide_eq_true HB2.out))]
   have HV := hdn hv;clear hv;go_wp2_with fail;refine cMq (HS1.out _) ?_;rintro e w3 ⟨rfl, rfl⟩;go_wp2_with fail;refine cMq (HS2.out _) ?_;rintro e w4 ⟨rfl, rfl⟩;go_wp2;go_ret;exact ⟨rfl, by rw [HV.out]; exact H2.out, HBe.out⟩
  | false =>
   have hg := of_decide_eq_true HB1.out;have hv : barS s.data.toList = u.data.toList.dropLast := by rw [HBar.out, if_pos ⟨hg, of_decide_eq_false HB2.out⟩]
   have hu1 : 1 ≤ u.size := by
    rw [<- hul]
    cases hc : u.data.toList with
    | nil => rw [hc] at hg; cases hg
    | cons _ _ => simp
   obtain ⟨m, hm⟩ : ∃ m, u.size = m + 1 := ⟨u.size - 1, by omega⟩;have hex : u.data.toList.dropLast = (u.extract 0 m).data.toList := by
    rw [Lib.extract_data, List.drop_zero, List.dropLast_eq_take, hul, hm];rfl
   have h3 := HBox.out W2 u H2.out (u.extract 0 m);have hb3 := HBe.out.setCell (p := ⟨w.heap.size, 0, none⟩) (Nat.le_refl _) (.string (u.extract 0 m));have H3 := hdn h3; have HB3 := hdn hb3;have HV := hdn (hv.trans hex);have hmi : (u.size : Int) - 1 = (m : Int) := by omega
   clear hv hex h3 hb3 hg;go_wp2_with fail;refine cMq (HS1.out _) ?_;rintro e w3 ⟨rfl, rfl⟩;go_wp2_with fail;refine cMq (HS2.out _) ?_;rintro e w4 ⟨rfl, rfl⟩;go_wp2;go_ret;exact ⟨rfl, by rw [HV.out]; exact H3.out, HB3.out⟩
theorem keepY_app {n₀ Bs B T E : Nat} {W w1 : World} {base k : Nat} {xs : List Value} {v u : Value} {o : Obj} (hn : Below n₀ W (w1.setCell ⟨B, 0, none⟩ u)) (hs : (w1.setCell ⟨B, 0, none⟩ u).heap[Bs]? = W.heap[Bs]?) (hv : ∃ v0, Boxed W B T v0) (hT : T ≠ 87) (hE : E ≠ 87) (hrow : W.ownsRow base E 1 v k xs) (hgrow : (W.alloc o).grownBy w1 v.ownBlock) : KeepY n₀ Bs W (w1.setCell ⟨B, 0, none⟩ u) := by
 refine ⟨⟨hn, hs⟩, fun b cs fr hb => ?_⟩;have hlt := (gSq.1 hb).1;obtain ⟨v0, hv0⟩ := hv;have hbB : b ≠ B := fun e => by
  rw [e, show W.heap[B]? = _ from hv0] at hb;injection hb with h1;injection h1 with h2 h3 h4;exact hT h3
 rw [Below.heap_setCell _ _ _ _ hbB];have hnr : some b ≠ v.ownBlock := fun e => by
  rcases hrow.2 with ⟨h1, _⟩ | ⟨g', cap, cur, h1, _, h2, _⟩
  ·rw [h1] at e; cases e
  ·rw [h1] at e
   cases e
   rw [h2] at hb;injection hb with h1;injection h1 with h2 h3 h4;exact hE h3
 exact (hgrow.block b (by simp; omega) hnr).trans (Below.heap_alloc W _ _ hlt)
theorem append_in (lb : Array Value) (nk N : Nat) (Bs : Nat) (S Sp : List Sb -> Prop) (hN : N ≤ 2000000) (_ : ∀ xs, S xs -> xs.length ≤ N) (w : World) (hseq : SeqStopsK Fence.wide 9 Tryz.prog 117 lb (fun x : Sb => #[Value.string x.1]) (KeepY nk Bs) S Sp N w) (hnk : nk ≤ w.heap.size) (hBs : Bs < w.heap.size) :
  CallsIn Fence.wide 10 Tryz.prog 114 #[.slice none 0 0, .func (.func 117) #[] lb] w fun e W' => ∃ v xs, e = .returned v ∧ S xs ∧ W'.ownsRow w.heap.size 9 1 v xs.length ((sbs xs).map Value.string) ∧ Below w.heap.size w W' := by
 obtain ⟨i0, hi, hz0, hz1, hz2⟩ := info_parts str_infoR;refine callsIn_of_wp_marks Tryz.func114 rfl trivial ?_ rfl;simp only [Tryz.ntmps114, List.size_toArray, List.length_cons, List.length_nil, Nat.reduceAdd, Nat.reduceSub, Array.replicate_succ, Array.replicate_zero, List.push_toArray, List.append_toArray, List.nil_append, List.cons_append]
 gi_wp2
 have bO := Boxed.new w 36 (.slice none 0 0);have hB0 : Below w.heap.size w (w.alloc (.cells #[.slice none 0 0] 36)) := (Below.refl _ w).alloc (Nat.le_refl _) _;refine wpIn_rangeFunc_ownG rfl (by omega) (gf := 117) (lb := lb) rfl trivial (enters_of Tryz.func117 (by kernel_rfl) rfl)
  hseq KeepY.trans (keepY_b (by simp; omega) (by simp; omega)) hB0 (fun _ => rfl)
  (fun pre W => (∃ v, Boxed W w.heap.size 36 v ∧ W.ownsRow w.heap.size 9 1 v pre.length ((sbs pre).map Value.string) ∧ True) ∧ Below w.heap.size w W)
  (fun _ _ _ => False)
  (OwnFrom.and (Own.from (holdsRow_own w.heap.size w.heap.size 36 9 1 (fun pre : List Sb => pre.length) (fun pre => (sbs pre).map Value.string) (fun _ _ => True)) _) (ownFrom_below (Nat.le_refl _) (by simp)))
  (fun _ _ _ _ _ hs _ _ => hs)
  ⟨⟨_, bO, World.ownsRow_nil _ _ _ _, trivial⟩, hB0⟩
  (fun x => { tmps := #[.slice none 0 0, .func (.func 117) #[] lb, .pointer (some ⟨w.heap.size, 0, none⟩), undef, .slice none 0 0, .string x.1, .func (.func 117) #[] lb, .string x.1, undef, undef, undef, undef, undef], defers := [] }) ?assign ?body ?done ?stop
 case assign =>
  intro l x W K hK
  gi_wp2
  exact hK
 case body =>
  rintro l pre x W ⟨⟨v, hv, hrow, _⟩, hB⟩ hlt;have hc := hv.cell;have hsl := sbs_len pre
  gi_wp2_with (gi_at_builtin; refine wpListIn_append_own _ rfl _ _ 36 rfl w.heap.size 9 i0 (.string ⟨#[]⟩) 1 16 Tryz.underlying36 hi hz0 hz1 hz2 rfl (by decide) _ _ _ rfl (hrow.alloc _) ⟨W.heap.size, 0, none⟩ 1 1 [.string x.1] rfl rfl (cell_one_new _ _ _) (by simp [Value.oneCell']) (by unfold maxLen; omega) (by omega) (by have := hB.size; simp; omega) ?_; intro v' w1 hown' hgrow _; obtain ⟨g', cap', rfl⟩ := ownsRow_succ hown'; obtain ⟨hv1, hv2, hr2, hk2, hb2⟩ := hv.appended (by decide) hrow hB.size (Nat.le_refl _) hown' hgrow; have hc1 := hv1.cell; have hf1 := hv1.frozen)
  exact ⟨hk2.from _, keepY_app (hb2.mono hnk) (hb2.block Bs hBs) ⟨_, hv⟩ (by decide) (by decide) hrow hgrow, ⟨_, hv2, by rw [sbs_snoc, List.length_append, List.map_append]; exact hr2, trivial⟩, hB.trans hb2⟩
 case done =>
  rintro D ys W hD hys ⟨⟨v, hv, hrow, _⟩, hB⟩ hK;have hc := hv.cell
  gi_wp2
  refine ⟨by simp, .inl ⟨_, _, rfl, run_takeDeferred hK, ?_⟩⟩;exact ⟨_, results_tmp rfl _ _ _, v, ys, rfl, hys, ownsRow_putObj hrow _ hK rfl, hB.trans (belowK_b (w := w) (Nat.le_refl _) W D _ _ (by simp at hD; omega) hK rfl rfl)⟩
 case stop =>
  rintro D c pre W _ _ h _;exact h.elim
theorem row_any_b (s : ByteArray) (w : World) (hs : s.size ≤ 1000000) (hm : MaxB w) :
  Calls Tryz.prog 41 #[.string s] w fun e w' => ∃ v, e = .returned v ∧ w'.ownsRow w.heap.size 9 1 v (rowL s).length ((rowL s).map Value.string) ∧ Below w.heap.size w w' := by
 have HC := hdn (cells_any s w hs);have hbl := barS_len s.data.toList;have hl : s.data.toList.length = s.size := lTq;obtain ⟨b, hb⟩ : ∃ b : ByteArray, (⟨(barS s.data.toList).toArray⟩ : ByteArray) = b := ⟨_, rfl⟩;have hbd : b.data.toList = barS s.data.toList := by rw [<- hb]
 rw [hb] at HC;have hbz : b.size ≤ 1000000 := by
  have h2 : b.data.toList.length = b.size := lTq;rw [hbd] at h2;omega
 have HRow : rowL s = (cutCells b.data.toList 0 []).map cellT := by rw [rowL_eq, hbd]
 rw [HRow];have hcl := cut_len b.data.toList 0 [];obtain ⟨Y, hY⟩ : ∃ Y, (cutCells b.data.toList 0 []).map cellT = Y := ⟨_, rfl⟩;rw [hY];have hbl2 : b.data.toList.length = b.size := lTq;have hcol : ∀ w1 : World, w1.heap[w.heap.size]? = some (.cells #[.string b] 9 (0, 0)) -> Below w.heap.size w w1 -> Calls Tryz.prog 78 #[.func (.func 117) #[] #[.pointer (some ⟨w.heap.size, 0, none⟩)]] w1 fun e w' => ∃ v, e = .returned v ∧ w'.ownsRow w.heap.size 9 1 v Y.length (Y.map Value.string) ∧ Below w.heap.size w w' := by
  intro w1 h1 hb1;have hlt := (gSq.1 h1).1;have hA := append_in #[.pointer (some ⟨w.heap.size, 0, none⟩)] w1.heap.size (cutCells b.data.toList 0 []).length w.heap.size _ _ (by omega) (fun xs h => by rw [<- sbs_len, h, List.length_map]; exact Nat.le_refl _) w1 (cells_stops 9 w.heap.size w1.heap.size b w1 hbz hlt (Nat.le_refl _) h1 ⟨w, hm, hb1.size, hb1⟩) (Nat.le_refl _) hlt;have HA := hdn (callsIn_wide.1 hA);have HB := hdn hb1;clear hA h1 hb1 HRow hb hbd hcl hl hbl;go_enter Tryz.func78, Tryz.ntmps78;go_wp2_with fail
  refine cMq HA.out ?_;rintro e w2 ⟨v, xs, rfl, hxs, hown, hb2⟩;rw [<- sbs_len, hxs, hY] at hown;clear hxs;have HO := hdn (ownsRow_base_b hown HB.out.size);have HB2 := hdn (HB.out.trans (hb2.mono HB.out.size));obtain ⟨A, c, rfl⟩ := bk_own_slice hown;clear hown hb2;go_wp2;go_ret;exact ⟨_, rfl, HO.out, HB2.out⟩
 have HCol := hdn hcol;clear hcol hb hbd HRow hcl hbl hl hY;go_enter Tryz.func41, Tryz.ntmps41;go_wp2_with fail;refine cMq HC.out ?_;rintro e w1 ⟨rfl, h1, b1⟩;have HC1 := hdn (HCol.out w1 h1 b1);clear h1 b1;go_wp2_with fail;refine cMq HC1.out ?_;rintro e w2 ⟨v, rfl, hown, hb2⟩;have HO := hdn hown; have HB2 := hdn hb2;obtain ⟨A, c, rfl⟩ := bk_own_slice hown;clear hown hb2;go_wp2;go_ret;exact ⟨_, rfl, HO.out, HB2.out⟩
