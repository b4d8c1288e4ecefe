/- Between fences that are longer than any row of their sign all lines st. -/
import Derived.Test.YtebfjlfkofibpaaGreatDoorBkPw
import Derived.Test.YtebfjlfkofibpaaGreatDoorBkFq
import Derived.Test.YtebfjlfkofibpaaGreatDoorBkNr
namespace Go.Proofs.YtebfjlfkofibpaaGreatDoor
set_option maxHeartbeats 8000000
set_option maxRecDepth 100000
open Go.RowKit
theorem conv_three (x : UInt8) (W : World) : (convert 22 9 (.slice (some ⟨W.heap.size, 0, none⟩) 3 3)).run Tryz.prog (W.alloc (.cells #[.int .u8 (x.toNat : Int), .int .u8 (x.toNat : Int), .int .u8 (x.toNat : Int)] 5)) =
  .ok (.string ⟨#[x, x, x]⟩) (W.alloc (.cells #[.int .u8 (x.toNat : Int), .int .u8 (x.toNat : Int), .int .u8 (x.toNat : Int)] 5)) := by
 refine run_convert_bytes_back (P := Tryz.prog) _ 22 9 5 ⟨W.heap.size, 0, none⟩ 3 [x, x, x] Tryz.underlying22 Tryz.underlying5 Tryz.underlying9 ?_;intro j hj;have := new_cells W [.int .u8 (x.toNat : Int), .int .u8 (x.toNat : Int), .int .u8 (x.toNat : Int)] 5 j (.int .u8 ([x, x, x][j].toNat : Int));refine this ?_
 match j, hj with
 | 0, _ => rfl
 | 1, _ => rfl
 | 2, _ => rfl
theorem fn_one {c : UInt8} (hc : FenC c) {bs : List ByteArray} (hb : ∀ x ∈ bs, Flat1 x) {m : Nat} (hm : m = (fenF c (flatN bs)).2) {t s : ByteArray} (hs : s.data.toList = flatN bs) (ht : t.data.toList = List.replicate m c ++ [32, 120, 10] ++ s.data.toList ++ List.replicate m c) (hts : t.size ≤ 10000) (w : World) (hG : GlobB w) :
  Calls Tryz.prog 10 #[.string t] w fun e w' => ∃ kd lv mk st tg inf tx A m c ad1 c1 rvA rvc tg1 A2 m2 c2,
  e = .returned (.tuple #[aggB kd lv mk st tg inf tx A m c (.slice (some ad1) 1 c1), .slice rvA 0 rvc, .int .i64 0]) ∧ KidP w' ad1 7 tg1 s A2 m2 c2 ∧ w'.cell? ⟨ad1.block, ad1.off + 5, none⟩ = some (.string ⟨#[120]⟩) ∧ Below w.heap.size w w' := by
 refine (parse_any t w hts hG).mono ?_;intro e w' hp;obtain ⟨kd, lv, mk, st, tg, inf, tx, A, m, c, vk, rv, rfl, hb2, hr, hbw⟩ := hp.open;obtain ⟨h1, ⟨y, y1, y2, y3, y4⟩, h4⟩ := fen_fin hc hb hm hs ht;rw [h1] at hr;obtain ⟨Ar, cr, rfl⟩ := bk_own_slice hr;rw [h4];have hy : (BD.kids (K := List (TR (fueT t + 2))) (treT t))[0]? = some y := by rw [y1]; rfl
 obtain ⟨ad1, c1, A2, c2, hv, hk1, hp1⟩ := BlksAt.kid (n := fueT t + 1) hb2 (fun _ h => h) 0 (y := y) hy;obtain ⟨A', c', hv', _, hg⟩ := BlksAt.get2 (n := fueT t + 1) hb2;obtain ⟨ad', _, _, _, _, _, _, hA, _, _, _, _, _, _, _, _, d5, _⟩ := hg 0 y hy;rw [hv'] at hv;injection hv with e1 _ _;rw [hA] at e1
 cases e1
 rw [add_zero_a, y4] at d5;rw [y1] at hv';rw [y2, y3, add_zero_a] at hp1;subst hv';subst hA;exact ⟨kd, lv, mk, st, tg, inf, tx, A, m, c, ad1, c', Ar, cr, _, _, _, _, rfl, hp1, d5, hbw⟩
def FdW (c : UInt8) (S : ByteArray) (W0 : World) (v7 v8 v9 : Value) (wr : World) : Prop := ∃ (i : Nat) (F : ByteArray), v9 = .int .i64 i ∧ v8 = .int .i64 ((fenF c (S.data.toList.take i)).1 : Nat) ∧ v7 = .string F ∧ F.data.toList = List.replicate (fenF c (S.data.toList.take i)).2 c ∧ i ≤ S.size ∧ Below W0.heap.size W0 wr
theorem fenF_snoc (c : UInt8) (l : List UInt8) (b : UInt8) : fenF c (l ++ [b]) = fenS c (fenF c l) b := by
 unfold fenF;rw [List.foldl_append];rfl
theorem not_nl {x : UInt8} (h : x ≠ 10) : ((x.toNat : Int) != 10) = true := by
 simp;intro e;exact h (UInt8.toNat_inj.1 (by show x.toNat = 10; omega))
theorem fd_text (y : ByteArray) (h13 : ∀ b ∈ y.data.toList, b ≠ 13) : (y.size = 0 ∧ ∃ bs, y.data.toList = flatN bs ∧ ∀ x ∈ bs, Flat1 x) ∨ (y.size ≠ 0 ∧ ∃ x, y.data.toList.getLast? = some x ∧
  ((x = 10 ∧ ∃ bs, y.data.toList = flatN bs ∧ ∀ x ∈ bs, Flat1 x) ∨ (x ≠ 10 ∧ ∃ bs, (y ++ (⟨#[10]⟩ : ByteArray)).data.toList = flatN bs ∧ ∀ x ∈ bs, Flat1 x))) := by
 obtain ⟨ls, cur, h1, h2, h3⟩ := split_lines y.data.toList h13;have hl : y.data.toList.length = y.size := Array.length_toList
 by_cases h0 : y.size = 0
 ·refine .inl ⟨h0, [], ?_, by simp⟩;exact List.eq_nil_of_length_eq_zero (hl.trans h0)
 ·refine .inr ⟨h0, ?_⟩;rcases snoc_cases cur.data.toList with hc | ⟨z, b, hc⟩
  ·rw [hc, List.append_nil] at h1;rcases snoc_cases ls with rfl | ⟨u, x, rfl⟩
   ·rw [h1] at hl; exact absurd hl.symm h0
   ·refine ⟨10, ?_, .inl ⟨rfl, _, h1, h2⟩⟩;rw [h1, flatN_append];show (flatN u ++ (x.data.toList ++ 10 :: [])).getLast? = _;rw [<- List.append_assoc];exact List.getLast?_concat
  ·refine ⟨b, ?_, .inr ⟨(h3 b (by rw [hc]; simp)).1, ls ++ [cur], ?_, ?_⟩⟩
   ·rw [h1, hc, <- List.append_assoc];exact List.getLast?_concat
   ·rw [app_data, h1, flatN_append];simp [flatN]
   ·intro x hx;rcases List.mem_append.1 hx with hx | hx
    ·exact h2 x hx
    ·rw [List.mem_singleton.1 hx]; exact h3
theorem fenced_law (A : Option Addr) (m c : Nat) (l : List UInt8) (w : World) (hl : SlU8 w (.slice A m c) l) (hll : l.length ≤ 9223372036854775807) (hG : GlobB w) (tl : Bool) : Calls Tryz.prog 7 #[.slice A m c, .bool tl] w fun e w' => e = .returned (.bool true) ∧ Below w.heap.size w w' := by
 have hm : m = l.length := by obtain ⟨_, _, _, e, h, _⟩ := hl; cases e; exact h
 have HK := hdn (known_any w hG)
 by_cases hb : 600 < m
 ·have hbi : (600 : Int) < (m : Int) := by omega
  clear hl hm;go_enter Tryz.func7, Tryz.ntmps7;go_wp2_with fail;refine Calls.mono HK.out ?_;rintro e w1 ⟨rfl, hb1⟩;go_wp2;go_ret;exact ⟨rfl, hb1⟩
 ·have hbi : ¬ (600 : Int) < (m : Int) := by omega
  obtain ⟨t, ht⟩ : ∃ t : ByteArray, (⟨(textL l).toArray⟩ : ByteArray) = t := ⟨_, rfl⟩;have hts : t.size ≤ 1800 := by
   have := textL_len l;rw [<- ht];show (textL l).toArray.size ≤ _;simp;omega
  have HT := hdn fun w' (h : Below w.heap.size w w') => show Calls Tryz.prog _ #[.slice A m c] w' (StrR w' (textL l)) from reftext_any (.slice A m c) l w' (by omega) (hl.later h);unfold StrR at HT;rw [ht] at HT;obtain ⟨y, hy⟩ : ∃ y, nlB t = y := ⟨_, rfl⟩;have HN := hdn fun w' => refnewlines_any t w' (by omega);unfold StrR at HN;rw [show (⟨(nlL t.data.toList).toArray⟩ : ByteArray) = y from hy] at HN;have hys : y.size ≤ 1800 := by rw [<- hy]; exact Nat.le_trans (nlB_size t) hts
  have hft := fd_text y (by rw [<- hy]; exact nlS_no13 t.data.toList false);have HG := hdn hG;clear hl hm ht hts hy hG;go_enter Tryz.func7, Tryz.ntmps7;go_wp2_with fail;refine Calls.mono HK.out ?_;rintro e w1 ⟨rfl, hb1⟩;have HB1 := hdn hb1;clear hb1;go_wp2_with fail;refine Calls.mono (HT.out w1 HB1.out) ?_;rintro e w2 ⟨rfl, hb2⟩;have HB2 := hdn (HB1.out.trans (hb2.mono HB1.out.size));clear hb2;go_wp2_with fail;refine Calls.mono (HN.out w2) ?_;rintro e w3 ⟨rfl, hb3⟩;have HB3 := hdn (HB2.out.trans (hb3.mono HB2.out.size))
  clear hb3;obtain ⟨C, hC⟩ : ∃ C : UInt8, (if tl = true then 126 else 96 : UInt8) = C := ⟨_, rfl⟩;have HCf := hdn (show FenC C from by rw [<- hC]; cases tl; exact .inl rfl; exact .inr rfl);have n10 : ¬ 9223372036854775807 < y.size + (⟨#[10]⟩ : ByteArray).size := by rw [show (⟨#[10]⟩ : ByteArray).size = 1 from rfl]; omega
  obtain ⟨Y, hY⟩ : ∃ Y, y ++ (⟨#[10]⟩ : ByteArray) = Y := ⟨_, rfl⟩;have hYs : Y.size = y.size + 1 := by rw [<- hY, ByteArray.size_append]; rfl
  rw [hY] at hft;have key : ∃ S bs, S.data.toList = flatN bs ∧ (∀ x ∈ bs, Flat1 x) ∧ S.size ≤ 1801 ∧ ((y.size = 0 ∧ S = y) ∨ (y.size ≠ 0 ∧ S = y ∧ ∃ x, x = 10 ∧ y.data.toList.getLast? = some x) ∨ (y.size ≠ 0 ∧ S = Y ∧ ∃ x, x ≠ 10 ∧ y.data.toList.getLast? = some x)) := by
   rcases hft with ⟨h0, bs, h1, h2⟩ | ⟨h0, x, hx, ⟨rfl, bs, h1, h2⟩ | ⟨h10, bs, h1, h2⟩⟩
   ·exact ⟨y, bs, h1, h2, by omega, .inl ⟨h0, rfl⟩⟩
   ·exact ⟨y, bs, h1, h2, by omega, .inr (.inl ⟨h0, rfl, 10, rfl, hx⟩)⟩
   ·exact ⟨Y, bs, h1, h2, by omega, .inr (.inr ⟨h0, rfl, x, h10, hx⟩)⟩
  clear hft hYs;obtain ⟨S, bs, hS, hbs, hSs, hcase⟩ := key;have HS := hdn hS; have HBs := hdn hbs;clear hS hbs;rcases hcase with hcase | hcase | hcase
  ·obtain ⟨h0, hSy⟩ := hcase;subst hSy;obtain ⟨e1, e2⟩ := bytes_no h0
   go_upto_region 6 with fail
   clear e1 e2
   cases tl
   ·subst hC;have kc : ∀ W : World, (convert 22 9 (.slice (some ⟨W.heap.size, 0, none⟩) 1 1)).run Tryz.prog (W.alloc (.cells #[.int .u8 96] 5)) = .ok (.string ⟨#[96]⟩) (W.alloc (.cells #[.int .u8 96] 5)) := fun W => conv_one 96 W;have kc3 : ∀ W : World, (convert 22 9 (.slice (some ⟨W.heap.size, 0, none⟩) 3 3)).run Tryz.prog (W.alloc (.cells #[.int .u8 96, .int .u8 96, .int .u8 96] 5)) = .ok (.string ⟨#[96, 96, 96]⟩) (W.alloc (.cells #[.int .u8 96, .int .u8 96, .int .u8 96] 5)) := fun W => conv_three 96 W
    have H0 := hdn (show FdW 96 S (w3.alloc (.cells #[.int .u8 96, .int .u8 96, .int .u8 96] 5)) (.string ⟨#[96, 96, 96]⟩) (.int .i64 0) (.int .i64 0) (w3.alloc (.cells #[.int .u8 96, .int .u8 96, .int .u8 96] 5)) from ⟨0, ⟨#[96, 96, 96]⟩, rfl, rfl, rfl, rfl, Nat.zero_le _, Below.refl _ _⟩);have HB4 := hdn (HB3.out.alloc HB3.out.size (.cells #[.int .u8 96, .int .u8 96, .int .u8 96] 5));go_wp2_with fail
    go_loopw [7, 8, 9] (fun v7 v8 v9 wr => FdW 96 S (w3.alloc (.cells #[.int .u8 96, .int .u8 96, .int .u8 96] 5)) v7 v8 v9 wr) (fun _ _ i _ => S.size - (intOf i).toNat)
    case atStart => exact H0.out
    case round =>
     obtain ⟨i, F, rfl, rfl, rfl, hF, hi, hbw⟩ := hrel;clear H0;have hSl : S.data.toList.length = S.size := Array.length_toList;obtain ⟨nm, hnm⟩ : ∃ nm, fenF 96 (S.data.toList.take i) = nm := ⟨_, rfl⟩;obtain ⟨q1, q2, q3⟩ := fenF_at 96 (S.data.toList.take i);rw [hnm] at q1 q2 q3 hF ⊢;obtain ⟨nn, M⟩ := nm;simp only at q1 q2 q3 hF ⊢;rw [List.length_take] at q3;have hFs : F.size = M := by
      have h1 : F.data.toList.length = F.size := Array.length_toList;rw [hF, List.length_replicate] at h1;exact h1.symm
     by_cases hlt : i < S.size
     ·exact absurd hlt (by omega)
     ·obtain rfl : i = S.size := by omega
      rw [<- hSl, List.take_length] at hnm;have hMm : M = (fenF 96 (flatN bs)).2 := by rw [<- HS.out, hnm]
      have hMs : M ≤ 1804 := by omega
      obtain ⟨G, hG⟩ : ∃ G, ((F ++ (⟨#[32, 120, 10]⟩ : ByteArray)) ++ S) ++ F = G := ⟨_, rfl⟩;have hGd : G.data.toList = List.replicate M 96 ++ [32, 120, 10] ++ S.data.toList ++ List.replicate M 96 := by rw [<- hG]; simp [ByteArray.data_append, hF]
      have hz1 : (F ++ (⟨#[32, 120, 10]⟩ : ByteArray)).size = M + 3 := by rw [ByteArray.size_append, hFs]; rfl
      have hz2 : ((F ++ (⟨#[32, 120, 10]⟩ : ByteArray)) ++ S).size = M + 3 + S.size := by rw [ByteArray.size_append, hz1]
      have hGs : G.size ≤ 10000 := by rw [<- hG, ByteArray.size_append, hz2, hFs]; omega
      have n1 : ¬ 9223372036854775807 < F.size + (⟨#[32, 120, 10]⟩ : ByteArray).size := by rw [show (⟨#[32, 120, 10]⟩ : ByteArray).size = 3 from rfl]; omega
      have n2 : ¬ 9223372036854775807 < (F ++ (⟨#[32, 120, 10]⟩ : ByteArray)).size + S.size := by omega
      have n3 : ¬ 9223372036854775807 < ((F ++ (⟨#[32, 120, 10]⟩ : ByteArray)) ++ S).size + F.size := by omega
      have HBw := hdn (HB4.out.trans (hbw.mono HB4.out.size));have HP := hdn (fn_one HCf.out HBs.out hMm HS.out hGd hGs wr (HG.out.later HBw.out));unfold aggB at HP;clear hbw hGd hMm hF hnm hz1 hz2;go_wp2_with fail
      (try rw [hG])
      refine Calls.mono HP.out ?_;rintro e w5 ⟨kd, lv, mk, st, tg, inf, tx, A2, m2, c2, ad1, c1, rvA, rvc, tg1, A3, m3, c3, rfl, hp, hp5, hb5⟩;have hpa := fun o => hp.later ((Below.refl _ w5).alloc (Nat.le_refl _) o);have u1 := fun o => (hpa o).2.1;have u2 := fun o => (hpa o).2.2.2.1;have u3 := fun o => (((Below.refl _ w5).alloc (Nat.le_refl _) o).cell (p := ⟨ad1.block, ad1.off + 5, none⟩) hp.1).trans hp5;clear hp hpa hp5;go_wp2;go_ret;exact ⟨rfl, ((HBw.out.trans (hb5.mono HBw.out.size)).alloc (Nat.le_trans HBw.out.size hb5.size) _)⟩
   ·subst hC;have kc : ∀ W : World, (convert 22 9 (.slice (some ⟨W.heap.size, 0, none⟩) 1 1)).run Tryz.prog (W.alloc (.cells #[.int .u8 126] 5)) = .ok (.string ⟨#[126]⟩) (W.alloc (.cells #[.int .u8 126] 5)) := fun W => conv_one 126 W;have kc3 : ∀ W : World, (convert 22 9 (.slice (some ⟨W.heap.size, 0, none⟩) 3 3)).run Tryz.prog (W.alloc (.cells #[.int .u8 126, .int .u8 126, .int .u8 126] 5)) = .ok (.string ⟨#[126, 126, 126]⟩) (W.alloc (.cells #[.int .u8 126, .int .u8 126, .int .u8 126] 5)) := fun W => conv_three 126 W
    have H0 := hdn (show FdW 126 S (w3.alloc (.cells #[.int .u8 126, .int .u8 126, .int .u8 126] 5)) (.string ⟨#[126, 126, 126]⟩) (.int .i64 0) (.int .i64 0) (w3.alloc (.cells #[.int .u8 126, .int .u8 126, .int .u8 126] 5)) from ⟨0, ⟨#[126, 126, 126]⟩, rfl, rfl, rfl, rfl, Nat.zero_le _, Below.refl _ _⟩);have HB4 := hdn (HB3.out.alloc HB3.out.size (.cells #[.int .u8 126, .int .u8 126, .int .u8 126] 5));go_wp2_with fail
    go_loopw [7, 8, 9] (fun v7 v8 v9 wr => FdW 126 S (w3.alloc (.cells #[.int .u8 126, .int .u8 126, .int .u8 126] 5)) v7 v8 v9 wr) (fun _ _ i _ => S.size - (intOf i).toNat)
    case atStart => exact H0.out
    case round =>
     obtain ⟨i, F, rfl, rfl, rfl, hF, hi, hbw⟩ := hrel;clear H0;have hSl : S.data.toList.length = S.size := Array.length_toList;obtain ⟨nm, hnm⟩ : ∃ nm, fenF 126 (S.data.toList.take i) = nm := ⟨_, rfl⟩;obtain ⟨q1, q2, q3⟩ := fenF_at 126 (S.data.toList.take i);rw [hnm] at q1 q2 q3 hF ⊢;obtain ⟨nn, M⟩ := nm;simp only at q1 q2 q3 hF ⊢;rw [List.length_take] at q3;have hFs : F.size = M := by
      have h1 : F.data.toList.length = F.size := Array.length_toList;rw [hF, List.length_replicate] at h1;exact h1.symm
     by_cases hlt : i < S.size
     ·exact absurd hlt (by omega)
     ·obtain rfl : i = S.size := by omega
      rw [<- hSl, List.take_length] at hnm;have hMm : M = (fenF 126 (flatN bs)).2 := by rw [<- HS.out, hnm]
      have hMs : M ≤ 1804 := by omega
      obtain ⟨G, hG⟩ : ∃ G, ((F ++ (⟨#[32, 120, 10]⟩ : ByteArray)) ++ S) ++ F = G := ⟨_, rfl⟩;have hGd : G.data.toList = List.replicate M 126 ++ [32, 120, 10] ++ S.data.toList ++ List.replicate M 126 := by rw [<- hG]; simp [ByteArray.data_append, hF]
      have hz1 : (F ++ (⟨#[32, 120, 10]⟩ : ByteArray)).size = M + 3 := by rw [ByteArray.size_append, hFs]; rfl
      have hz2 : ((F ++ (⟨#[32, 120, 10]⟩ : ByteArray)) ++ S).size = M + 3 + S.size := by rw [ByteArray.size_append, hz1]
      have hGs : G.size ≤ 10000 := by rw [<- hG, ByteArray.size_append, hz2, hFs]; omega
      have n1 : ¬ 9223372036854775807 < F.size + (⟨#[32, 120, 10]⟩ : ByteArray).size := by rw [show (⟨#[32, 120, 10]⟩ : ByteArray).size = 3 from rfl]; omega
      have n2 : ¬ 9223372036854775807 < (F ++ (⟨#[32, 120, 10]⟩ : ByteArray)).size + S.size := by omega
      have n3 : ¬ 9223372036854775807 < ((F ++ (⟨#[32, 120, 10]⟩ : ByteArray)) ++ S).size + F.size := by omega
      have HBw := hdn (HB4.out.trans (hbw.mono HB4.out.size));have HP := hdn (fn_one HCf.out HBs.out hMm HS.out hGd hGs wr (HG.out.later HBw.out));unfold aggB at HP;clear hbw hGd hMm hF hnm hz1 hz2;go_wp2_with fail
      (try rw [hG])
      refine Calls.mono HP.out ?_;rintro e w5 ⟨kd, lv, mk, st, tg, inf, tx, A2, m2, c2, ad1, c1, rvA, rvc, tg1, A3, m3, c3, rfl, hp, hp5, hb5⟩;have hpa := fun o => hp.later ((Below.refl _ w5).alloc (Nat.le_refl _) o);have u1 := fun o => (hpa o).2.1;have u2 := fun o => (hpa o).2.2.2.1;have u3 := fun o => (((Below.refl _ w5).alloc (Nat.le_refl _) o).cell (p := ⟨ad1.block, ad1.off + 5, none⟩) hp.1).trans hp5;clear hp hpa hp5;go_wp2;go_ret;exact ⟨rfl, ((HBw.out.trans (hb5.mono HBw.out.size)).alloc (Nat.le_trans HBw.out.size hb5.size) _)⟩
  case' inr.inl =>
   obtain ⟨h0, hSy, x, hx10, hx⟩ := hcase;subst hSy;obtain ⟨e1, e2⟩ := bytes_ne h0;have hxg := last_get h0 hx;have hx1 : ((x.toNat : Int) != 10) = false := by rw [hx10]; rfl
   have hsz : 1 ≤ S.size := by omega
   clear hx hx10
   go_upto_region 6 with fail
   clear e1 e2 hxg hx1
  case' inr.inr =>
   obtain ⟨h0, hSy, x, hx10, hx⟩ := hcase;subst hSy;obtain ⟨e1, e2⟩ := bytes_ne h0;have hxg := last_get h0 hx;have hx1 := not_nl hx10;have hsz : 1 ≤ y.size := by omega
   clear hx hx10
   go_upto_region 6 with fail
   clear e1 e2 hxg hx1 hY
  all_goals
   cases tl
   ·subst hC;have kc : ∀ W : World, (convert 22 9 (.slice (some ⟨W.heap.size, 0, none⟩) 1 1)).run Tryz.prog (W.alloc (.cells #[.int .u8 96] 5)) = .ok (.string ⟨#[96]⟩) (W.alloc (.cells #[.int .u8 96] 5)) := fun W => conv_one 96 W;have kc3 : ∀ W : World, (convert 22 9 (.slice (some ⟨W.heap.size, 0, none⟩) 3 3)).run Tryz.prog (W.alloc (.cells #[.int .u8 96, .int .u8 96, .int .u8 96] 5)) = .ok (.string ⟨#[96, 96, 96]⟩) (W.alloc (.cells #[.int .u8 96, .int .u8 96, .int .u8 96] 5)) := fun W => conv_three 96 W
    have H0 := hdn (show FdW 96 S (w3.alloc (.cells #[.int .u8 96, .int .u8 96, .int .u8 96] 5)) (.string ⟨#[96, 96, 96]⟩) (.int .i64 0) (.int .i64 0) (w3.alloc (.cells #[.int .u8 96, .int .u8 96, .int .u8 96] 5)) from ⟨0, ⟨#[96, 96, 96]⟩, rfl, rfl, rfl, rfl, Nat.zero_le _, Below.refl _ _⟩);have HB4 := hdn (HB3.out.alloc HB3.out.size (.cells #[.int .u8 96, .int .u8 96, .int .u8 96] 5));go_wp2_with fail
    go_loopw [7, 8, 9] (fun v7 v8 v9 wr => FdW 96 S (w3.alloc (.cells #[.int .u8 96, .int .u8 96, .int .u8 96] 5)) v7 v8 v9 wr) (fun _ _ i _ => S.size - (intOf i).toNat)
    case atStart => exact H0.out
    case round =>
     obtain ⟨i, F, rfl, rfl, rfl, hF, hi, hbw⟩ := hrel;clear H0;have hSl : S.data.toList.length = S.size := Array.length_toList;obtain ⟨nm, hnm⟩ : ∃ nm, fenF 96 (S.data.toList.take i) = nm := ⟨_, rfl⟩;obtain ⟨q1, q2, q3⟩ := fenF_at 96 (S.data.toList.take i);rw [hnm] at q1 q2 q3 hF ⊢;obtain ⟨nn, M⟩ := nm;simp only at q1 q2 q3 hF ⊢;rw [List.length_take] at q3;have hFs : F.size = M := by
      have h1 : F.data.toList.length = F.size := Array.length_toList;rw [hF, List.length_replicate] at h1;exact h1.symm
     by_cases hlt : i < S.size
     ·have hki : (i : Int) < (S.size : Int) := by omega
      obtain ⟨b, hbx⟩ : ∃ b, S[i] = b := ⟨_, rfl⟩;have hkl : i < S.data.toList.length := by rw [hSl]; exact hlt
      have hbl : S.data.toList[i] = b := by rw [<- hbx]; rfl
      have hE : fenF 96 (S.data.toList.take (i + 1)) = fenS 96 (nn, M) b := by
       rw [List.take_succ_eq_append_getElem hkl, hbl, fenF_snoc, hnm]
      have n1 : ¬ 9223372036854775807 < F.size + (⟨#[96]⟩ : ByteArray).size := by rw [show (⟨#[96]⟩ : ByteArray).size = 1 from rfl]; omega
      have HE := hdn hE; have HF := hdn hF; have HBw := hdn hbw;clear hE hF hbw hbl hSl hnm
      by_cases hbc : b = 96
      ·have z : ((b.toNat : Int) == 96) = true := by rw [hbc]; rfl
       have hfs := HE.out;rw [hbc] at hfs;have HBc := hdn hbc;clear hbc
       by_cases hge : M ≤ nn + 1
       ·have g : (F.size : Int) ≤ (nn : Int) + 1 := by omega
        have hf2 : fenS 96 (nn, M) 96 = (nn + 1, M + 1) := by unfold fenS; simp only; rw [if_pos trivial, if_pos hge]
        rw [hf2] at hfs;have HS2 := hdn hfs;clear hfs hf2;go_wp2
        go_roundw
        case rel => exact ⟨i + 1, F ++ ⟨#[96]⟩, by go_num, by first | (rw [HS2.out]; done) | (rw [HS2.out]; go_num), rfl, by rw [HS2.out, app_data, HF.out]; exact List.replicate_succ'.symm, by omega, HBw.out.alloc HBw.out.size _⟩
        case measure => first | (simp [intOf]; done) | (simp [intOf]; omega)
       ·have g : ¬ (F.size : Int) ≤ (nn : Int) + 1 := by omega
        have hf2 : fenS 96 (nn, M) 96 = (nn + 1, M) := by unfold fenS; simp only; rw [if_pos trivial, if_neg hge]
        rw [hf2] at hfs;have HS2 := hdn hfs;clear hfs hf2;go_wp2
        go_roundw
        case rel => exact ⟨i + 1, F, by go_num, by first | (rw [HS2.out]; done) | (rw [HS2.out]; go_num), rfl, by rw [HS2.out]; exact HF.out, by omega, HBw.out⟩
        case measure => first | (simp [intOf]; done) | (simp [intOf]; omega)
      ·have z : ((b.toNat : Int) == 96) = false := by rw [beq_eq_false_iff_ne]; intro e; exact hbc (UInt8.toNat_inj.1 (by show b.toNat = 96; omega))
       have g : ¬ (F.size : Int) ≤ 0 := by omega
       have hf2 : fenS 96 (nn, M) b = (0, M) := by unfold fenS; simp only; rw [if_neg hbc, if_neg (by omega)]
       have hfs := HE.out;rw [hf2] at hfs;have HS2 := hdn hfs;clear hfs hf2;go_wp2
       go_roundw
       case rel => exact ⟨i + 1, F, by go_num, by first | (rw [HS2.out]; done) | (rw [HS2.out]; rfl), rfl, by rw [HS2.out]; exact HF.out, by omega, HBw.out⟩
       case measure => first | (simp [intOf]; done) | (simp [intOf]; omega)
     ·obtain rfl : i = S.size := by omega
      rw [<- hSl, List.take_length] at hnm;have hMm : M = (fenF 96 (flatN bs)).2 := by rw [<- HS.out, hnm]
      have hMs : M ≤ 1804 := by omega
      obtain ⟨G, hG⟩ : ∃ G, ((F ++ (⟨#[32, 120, 10]⟩ : ByteArray)) ++ S) ++ F = G := ⟨_, rfl⟩;have hGd : G.data.toList = List.replicate M 96 ++ [32, 120, 10] ++ S.data.toList ++ List.replicate M 96 := by rw [<- hG]; simp [ByteArray.data_append, hF]
      have hz1 : (F ++ (⟨#[32, 120, 10]⟩ : ByteArray)).size = M + 3 := by rw [ByteArray.size_append, hFs]; rfl
      have hz2 : ((F ++ (⟨#[32, 120, 10]⟩ : ByteArray)) ++ S).size = M + 3 + S.size := by rw [ByteArray.size_append, hz1]
      have hGs : G.size ≤ 10000 := by rw [<- hG, ByteArray.size_append, hz2, hFs]; omega
      have n1 : ¬ 9223372036854775807 < F.size + (⟨#[32, 120, 10]⟩ : ByteArray).size := by rw [show (⟨#[32, 120, 10]⟩ : ByteArray).size = 3 from rfl]; omega
      have n2 : ¬ 9223372036854775807 < (F ++ (⟨#[32, 120, 10]⟩ : ByteArray)).size + S.size := by omega
      have n3 : ¬ 9223372036854775807 < ((F ++ (⟨#[32, 120, 10]⟩ : ByteArray)) ++ S).size + F.size := by omega
      have HBw := hdn (HB4.out.trans (hbw.mono HB4.out.size));have HP := hdn (fn_one HCf.out HBs.out hMm HS.out hGd hGs wr (HG.out.later HBw.out));unfold aggB at HP;clear hbw hGd hMm hF hnm hz1 hz2;go_wp2_with fail
      (try rw [hG])
      refine Calls.mono HP.out ?_;rintro e w5 ⟨kd, lv, mk, st, tg, inf, tx, A2, m2, c2, ad1, c1, rvA, rvc, tg1, A3, m3, c3, rfl, hp, hp5, hb5⟩;have hpa := fun o => hp.later ((Below.refl _ w5).alloc (Nat.le_refl _) o);have u1 := fun o => (hpa o).2.1;have u2 := fun o => (hpa o).2.2.2.1;have u3 := fun o => (((Below.refl _ w5).alloc (Nat.le_refl _) o).cell (p := ⟨ad1.block, ad1.off + 5, none⟩) hp.1).trans hp5;clear hp hpa hp5;go_wp2;go_ret;exact ⟨rfl, ((HBw.out.trans (hb5.mono HBw.out.size)).alloc (Nat.le_trans HBw.out.size hb5.size) _)⟩
   ·subst hC;have kc : ∀ W : World, (convert 22 9 (.slice (some ⟨W.heap.size, 0, none⟩) 1 1)).run Tryz.prog (W.alloc (.cells #[.int .u8 126] 5)) = .ok (.string ⟨#[126]⟩) (W.alloc (.cells #[.int .u8 126] 5)) := fun W => conv_one 126 W;have kc3 : ∀ W : World, (convert 22 9 (.slice (some ⟨W.heap.size, 0, none⟩) 3 3)).run Tryz.prog (W.alloc (.cells #[.int .u8 126, .int .u8 126, .int .u8 126] 5)) = .ok (.string ⟨#[126, 126, 126]⟩) (W.alloc (.cells #[.int .u8 126, .int .u8 126, .int .u8 126] 5)) := fun W => conv_three 126 W
    have H0 := hdn (show FdW 126 S (w3.alloc (.cells #[.int .u8 126, .int .u8 126, .int .u8 126] 5)) (.string ⟨#[126, 126, 126]⟩) (.int .i64 0) (.int .i64 0) (w3.alloc (.cells #[.int .u8 126, .int .u8 126, .int .u8 126] 5)) from ⟨0, ⟨#[126, 126, 126]⟩, rfl, rfl, rfl, rfl, Nat.zero_le _, Below.refl _ _⟩);have HB4 := hdn (HB3.out.alloc HB3.out.size (.cells #[.int .u8 126, .int .u8 126, .int .u8 126] 5));go_wp2_with fail
    go_loopw [7, 8, 9] (fun v7 v8 v9 wr => FdW 126 S (w3.alloc (.cells #[.int .u8 126, .int .u8 126, .int .u8 126] 5)) v7 v8 v9 wr) (fun _ _ i _ => S.size - (intOf i).toNat)
    case atStart => exact H0.out
    case round =>
     obtain ⟨i, F, rfl, rfl, rfl, hF, hi, hbw⟩ := hrel;clear H0;have hSl : S.data.toList.length = S.size := Array.length_toList;obtain ⟨nm, hnm⟩ : ∃ nm, fenF 126 (S.data.toList.take i) = nm := ⟨_, rfl⟩;obtain ⟨q1, q2, q3⟩ := fenF_at 126 (S.data.toList.take i);rw [hnm] at q1 q2 q3 hF ⊢;obtain ⟨nn, M⟩ := nm;simp only at q1 q2 q3 hF ⊢;rw [List.length_take] at q3;have hFs : F.size = M := by
      have h1 : F.data.toList.length = F.size := Array.length_toList;rw [hF, List.length_replicate] at h1;exact h1.symm
     by_cases hlt : i < S.size
     ·have hki : (i : Int) < (S.size : Int) := by omega
      obtain ⟨b, hbx⟩ : ∃ b, S[i] = b := ⟨_, rfl⟩;have hkl : i < S.data.toList.length := by rw [hSl]; exact hlt
      have hbl : S.data.toList[i] = b := by rw [<- hbx]; rfl
      have hE : fenF 126 (S.data.toList.take (i + 1)) = fenS 126 (nn, M) b := by
       rw [List.take_succ_eq_append_getElem hkl, hbl, fenF_snoc, hnm]
      have n1 : ¬ 9223372036854775807 < F.size + (⟨#[126]⟩ : ByteArray).size := by rw [show (⟨#[126]⟩ : ByteArray).size = 1 from rfl]; omega
      have HE := hdn hE; have HF := hdn hF; have HBw := hdn hbw;clear hE hF hbw hbl hSl hnm
      by_cases hbc : b = 126
      ·have z : ((b.toNat : Int) == 126) = true := by rw [hbc]; rfl
       have hfs := HE.out;rw [hbc] at hfs;have HBc := hdn hbc;clear hbc
       by_cases hge : M ≤ nn + 1
       ·have g : (F.size : Int) ≤ (nn : Int) + 1 := by omega
        have hf2 : fenS 126 (nn, M) 126 = (nn + 1, M + 1) := by unfold fenS; simp only; rw [if_pos trivial, if_pos hge]
        rw [hf2] at hfs;have HS2 := hdn hfs;clear hfs hf2;go_wp2
        go_roundw
        case rel => exact ⟨i + 1, F ++ ⟨#[126]⟩, by go_num, by first | (rw [HS2.out]; done) | (rw [HS2.out]; go_num), rfl, by rw [HS2.out, app_data, HF.out]; exact List.replicate_succ'.symm, by omega, HBw.out.alloc HBw.out.size _⟩
        case measure => first | (simp [intOf]; done) | (simp [intOf]; omega)
       ·have g : ¬ (F.size : Int) ≤ (nn : Int) + 1 := by omega
        have hf2 : fenS 126 (nn, M) 126 = (nn + 1, M) := by unfold fenS; simp only; rw [if_pos trivial, if_neg hge]
        rw [hf2] at hfs;have HS2 := hdn hfs;clear hfs hf2;go_wp2
        go_roundw
        case rel => exact ⟨i + 1, F, by go_num, by first | (rw [HS2.out]; done) | (rw [HS2.out]; go_num), rfl, by rw [HS2.out]; exact HF.out, by omega, HBw.out⟩
        case measure => first | (simp [intOf]; done) | (simp [intOf]; omega)
      ·have z : ((b.toNat : Int) == 126) = false := by rw [beq_eq_false_iff_ne]; intro e; exact hbc (UInt8.toNat_inj.1 (by show b.toNat = 126; omega))
       have g : ¬ (F.size : Int) ≤ 0 := by omega
       have hf2 : fenS 126 (nn, M) b = (0, M) := by unfold fenS; simp only; rw [if_neg hbc, if_neg (by omega)]
       have hfs := HE.out;rw [hf2] at hfs;have HS2 := hdn hfs;clear hfs hf2;go_wp2
       go_roundw
       case rel => exact ⟨i + 1, F, by go_num, by first | (rw [HS2.out]; done) | (rw [HS2.out]; rfl), rfl, by rw [HS2.out]; exact HF.out, by omega, HBw.out⟩
       case measure => first | (simp [intOf]; done) | (simp [intOf]; omega)
     ·obtain rfl : i = S.size := by omega
      rw [<- hSl, List.take_length] at hnm;have hMm : M = (fenF 126 (flatN bs)).2 := by rw [<- HS.out, hnm]
      have hMs : M ≤ 1804 := by omega
      obtain ⟨G, hG⟩ : ∃ G, ((F ++ (⟨#[32, 120, 10]⟩ : ByteArray)) ++ S) ++ F = G := ⟨_, rfl⟩;have hGd : G.data.toList = List.replicate M 126 ++ [32, 120, 10] ++ S.data.toList ++ List.replicate M 126 := by rw [<- hG]; simp [ByteArray.data_append, hF]
      have hz1 : (F ++ (⟨#[32, 120, 10]⟩ : ByteArray)).size = M + 3 := by rw [ByteArray.size_append, hFs]; rfl
      have hz2 : ((F ++ (⟨#[32, 120, 10]⟩ : ByteArray)) ++ S).size = M + 3 + S.size := by rw [ByteArray.size_append, hz1]
      have hGs : G.size ≤ 10000 := by rw [<- hG, ByteArray.size_append, hz2, hFs]; omega
      have n1 : ¬ 9223372036854775807 < F.size + (⟨#[32, 120, 10]⟩ : ByteArray).size := by rw [show (⟨#[32, 120, 10]⟩ : ByteArray).size = 3 from rfl]; omega
      have n2 : ¬ 9223372036854775807 < (F ++ (⟨#[32, 120, 10]⟩ : ByteArray)).size + S.size := by omega
      have n3 : ¬ 9223372036854775807 < ((F ++ (⟨#[32, 120, 10]⟩ : ByteArray)) ++ S).size + F.size := by omega
      have HBw := hdn (HB4.out.trans (hbw.mono HB4.out.size));have HP := hdn (fn_one HCf.out HBs.out hMm HS.out hGd hGs wr (HG.out.later HBw.out));unfold aggB at HP;clear hbw hGd hMm hF hnm hz1 hz2;go_wp2_with fail
      (try rw [hG])
      refine Calls.mono HP.out ?_;rintro e w5 ⟨kd, lv, mk, st, tg, inf, tx, A2, m2, c2, ad1, c1, rvA, rvc, tg1, A3, m3, c3, rfl, hp, hp5, hb5⟩;have hpa := fun o => hp.later ((Below.refl _ w5).alloc (Nat.le_refl _) o);have u1 := fun o => (hpa o).2.1;have u2 := fun o => (hpa o).2.2.2.1;have u3 := fun o => (((Below.refl _ w5).alloc (Nat.le_refl _) o).cell (p := ⟨ad1.block, ad1.off + 5, none⟩) hp.1).trans hp5;clear hp hpa hp5;go_wp2;go_ret;exact ⟨rfl, ((HBw.out.trans (hb5.mono HBw.out.size)).alloc (Nat.le_trans HBw.out.size hb5.size) _)⟩
