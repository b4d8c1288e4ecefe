/- The law of BlockPlain. -/
import Derived.Test.YtebfjlfkofibpaaGreatDoorBkPw
namespace Go.Proofs.YtebfjlfkofibpaaGreatDoor
set_option maxHeartbeats 8000000
set_option maxRecDepth 100000
open Go.RowKit
theorem plain_law (A : Option Addr) (m c : Nat) (l : List UInt8) (w : World) (hl : SlU8 w (.slice A m c) l) (hll : l.length ≤ 9223372036854775807) (hG : GlobB w) : Calls Tryz.prog 6 #[.slice A m c] w fun e w' => e = .returned (.bool true) ∧ Below w.heap.size w w' := by
 have hm : m = l.length ∧ m ≤ c ∧ (0 < m -> ∃ b off, A = some ⟨b, off, none⟩ ∧ b < w.heap.size ∧ BytesOf w b off l) := by obtain ⟨_, _, _, e, h, h2, h3⟩ := hl; cases e; exact ⟨h, h2, h3⟩
 have HK := hdn (known_any w hG)
 by_cases hb : 1200 < m
 ·have hbi : (1200 : Int) < (m : Int) := by omega
  clear hl hm;go_enter Tryz.func6, Tryz.ntmps6;go_wp2_with fail;refine Calls.mono HK.out ?_;rintro e w1 ⟨rfl, hb1⟩;go_wp2;go_ret;exact ⟨rfl, hb1⟩
 ·have hbi : ¬ (1200 : Int) < (m : Int) := by omega
  have HL := hdn hm.2.2;have hmc := hm.2.1;have hml := hm.1;have HG := hdn hG;clear hl hm hG;go_enter Tryz.func6, Tryz.ntmps6;go_wp2_with fail;refine Calls.mono HK.out ?_;rintro e w1 ⟨rfl, hb1⟩;have HB1 := hdn hb1;have H0 := hdn (show PwW w1 m (.string ⟨#[]⟩) (.int .i64 0) w1 from ⟨0, ⟨#[]⟩, [], [], rfl, rfl, Nat.zero_le _, Nat.le_refl _, GoodS.nil, Below.refl _ _⟩);clear hb1;go_wp2_with fail
  go_loopw [3, 4] (fun v3 v4 wr => PwW w1 m v3 v4 wr) (fun _ i _ => m - (intOf i).toNat)
  case atStart => exact H0.out
  case round =>
   obtain ⟨k, s, ls, cur, rfl, rfl, hk, hsk, hgs, hbw⟩ := hrel;clear H0;have hss : ¬ 9223372036854775807 < s.size + 1 := by omega
   by_cases hlt : k < m
   ·have hki : (k : Int) < (m : Int) := by omega
    obtain ⟨b0, off, rfl, hbl, hby⟩ := HL.out (by omega);obtain ⟨b, hbe⟩ : ∃ b, l[k]'(by omega) = b := ⟨_, rfl⟩;have hc0 := hby k (by omega);rw [hbe] at hc0;have hcell := (hbw.cell (p := ⟨b0, off + k, none⟩) (by have := HB1.out.size; show b0 < _; omega)).trans ((HB1.out.cell (p := ⟨b0, off + k, none⟩) hbl).trans hc0);have hnb : ¬ 9223372036854775807 < s.size + (⟨#[b]⟩ : ByteArray).size := by rw [show (⟨#[b]⟩ : ByteArray).size = 1 from rfl]; omega
    have kc := conv_one b;have HGs := hdn hgs; have HBw := hdn hbw;clear hgs hbw hby hbe hc0
    by_cases hlet : LetB b
    ·have g1 : (97 : Int) ≤ (b.toNat : Int) := by have := hlet.1; omega
     have g2 : (b.toNat : Int) ≤ 122 := by have := hlet.2; omega
     go_wp2
     go_roundw
     case rel => exact ⟨k + 1, s ++ ⟨#[b]⟩, ls, cur ++ [b], by go_num, rfl, by omega, by rw [ByteArray.size_append]; show s.size + 1 ≤ _; omega, HGs.out.letter hlet (app_data s b), HBw.out.alloc HBw.out.size _⟩
     case measure => simp [intOf]; omega
    ·by_cases h10 : b = 10
     ·have g1 : ¬ (97 : Int) ≤ (b.toNat : Int) := by rw [h10]; decide
      have g3 : ((b.toNat : Int) == 10) = true := by rw [h10]; rfl
      have H10 := hdn h10;clear h10
      by_cases hs0 : s.size = 0
      ·obtain ⟨e1, e2⟩ := bytes_no hs0;go_wp2
       go_roundw
       case rel => exact ⟨k + 1, s, ls, cur, by go_num, rfl, by omega, by omega, HGs.out, HBw.out⟩
       case measure => simp [intOf]; omega
      ·obtain ⟨e1, e2⟩ := bytes_ne hs0;obtain ⟨x, hx, hx10⟩ := HGs.out.last hs0;have hxg := last_get hs0 hx;have hsz : 1 ≤ s.size := by omega
       by_cases hcur : cur = []
       ·have hx1 : ((x.toNat : Int) != 10) = false := by rw [hx10.2 hcur]; rfl
        clear hx hx10;go_wp2
        go_roundw
        case rel => exact ⟨k + 1, s, ls, cur, by go_num, rfl, by omega, by omega, HGs.out, HBw.out⟩
        case measure => simp [intOf]; omega
       ·have hx1 : ((x.toNat : Int) != 10) = true := by
         have : x ≠ 10 := fun e => hcur (hx10.1 e);simp;intro e;exact this (UInt8.toNat_inj.1 (by show x.toNat = 10; omega))
        clear hx hx10;go_wp2
        go_roundw
        case rel => exact ⟨k + 1, s ++ ⟨#[b]⟩, _, _, by go_num, rfl, by omega, by rw [ByteArray.size_append]; show s.size + 1 ≤ _; omega, HGs.out.line hcur (by rw [app_data, H10.out]), HBw.out.alloc HBw.out.size _⟩
        case measure => simp [intOf]; omega
     ·have g3 : ((b.toNat : Int) == 10) = false := by rw [beq_eq_false_iff_ne]; intro e; exact h10 (UInt8.toNat_inj.1 (by show b.toNat = 10; omega))
      by_cases g97 : 97 ≤ b.toNat
      ·have g1 : (97 : Int) ≤ (b.toNat : Int) := by omega
       have g2 : ¬ (b.toNat : Int) ≤ 122 := by have : ¬ b.toNat ≤ 122 := fun h => hlet ⟨g97, h⟩; omega
       go_wp2
       go_roundw
       case rel => exact ⟨k + 1, s, ls, cur, by go_num, rfl, by omega, by omega, HGs.out, HBw.out⟩
       case measure => simp [intOf]; omega
      ·have g1 : ¬ (97 : Int) ≤ (b.toNat : Int) := by omega
       go_wp2
       go_roundw
       case rel => exact ⟨k + 1, s, ls, cur, by go_num, rfl, by omega, by omega, HGs.out, HBw.out⟩
       case measure => simp [intOf]; omega
   ·obtain rfl : k = m := by omega
    have HBw := hdn (HB1.out.trans (hbw.mono HB1.out.size));have hgl := HG.out.later HBw.out
    by_cases hs0 : s.size = 0
    ·obtain ⟨e1, e2⟩ := bytes_no hs0;have hq : linesG ls cur = [] := by
      have h0 := hgs.eq;rw [show s.data.toList = [] from List.eq_nil_of_length_eq_zero (by rw [Array.length_toList]; exact hs0)] at h0;have h1 := List.append_eq_nil_iff.1 h0.symm;have h2 : ls = [] := by
       cases ls with
       | nil => rfl
       | cons x r => have h3 := h1.1; simp [flatN] at h3
      rw [h2, h1.2];rfl
     have HP := hdn (pq_none hgs (by omega) hq wr hgl);unfold aggB at HP;clear hgs hbw hgl hq;go_wp2_with fail;refine Calls.mono HP.out ?_;rintro e w2 ⟨kd, lv, mk, st, tg, inf, tx, A2, m2, c2, Ak, ck, rvA, rvc, rfl, hb2⟩;go_wp2;go_ret;exact ⟨rfl, ((HBw.out.trans (hb2.mono HBw.out.size)).alloc (Nat.le_trans HBw.out.size hb2.size) _)⟩
    ·obtain ⟨e1, e2⟩ := bytes_ne hs0;obtain ⟨x, hx, hx10⟩ := hgs.last hs0;have hxg := last_get hs0 hx;have hsz : 1 ≤ s.size := by omega
     have hq : linesG ls cur ≠ [] := fun hq => by
      unfold linesG at hq;have h1 := List.append_eq_nil_iff.1 hq;have hc : cur = [] := by
       by_cases hc : cur = []
       ·exact hc
       ·have := h1.2; rw [if_neg hc] at this; cases this
      have h0 := hgs.eq;rw [h1.1, hc] at h0;have h2 : s.data.toList.length = s.size := Array.length_toList;rw [h0] at h2;exact hs0 h2.symm
     have hT0 : (joinN (linesG ls cur)).size ≠ 0 := fun h0 => by
      cases hl : linesG ls cur with
      | nil => exact hq hl
      | cons y ys =>
       obtain ⟨⟨z, hz, _⟩, _⟩ := join_ends y ys (by rw [<- hl]; exact hgs.lines.2);rw [hl] at h0;have h3 : (joinLK (y :: ys)).toArray.size = 0 := h0;rw [show joinLK (y :: ys) = [] from List.eq_nil_of_length_eq_zero (by simpa using h3)] at hz
       cases hz
     have hT := hgs.want;have HP := hdn (pq_one hgs (by omega) hq wr hgl);unfold aggB at HP;obtain ⟨T, hTe⟩ : ∃ T, joinN (linesG ls cur) = T := ⟨_, rfl⟩;rw [hTe] at HP hT hT0;obtain ⟨t1, t2⟩ := bytes_ne hT0;clear hgs hbw hgl hq hTe
     by_cases hcur : cur = []
     ·have hx1 : ((x.toNat : Int) == 10) = true := by rw [hx10.2 hcur]; rfl
      rw [if_pos hcur] at hT;have hTx : s.extract 0 (s.size - 1) = T := by
       refine (ba_list ?_).trans (ba_list hT).symm;rw [ext_to, List.drop_zero, List.dropLast_eq_take, Array.length_toList];rfl
      clear hx hx10 hT;go_wp2_with fail;refine Calls.mono HP.out ?_;rintro e w2 ⟨kd, lv, mk, st, tg, inf, tx, A2, m2, c2, ad1, c1, rvA, rvc, tg1, A3, m3, c3, rfl, hp, hb2⟩;have hpa := fun o => hp.later ((Below.refl _ w2).alloc (Nat.le_refl _) o);have u1 := fun o => (hpa o).2.1;have u2 := fun o => (hpa o).2.2.2.1;clear hp hpa;go_wp2;go_ret;exact ⟨rfl, ((HBw.out.trans (hb2.mono HBw.out.size)).alloc (Nat.le_trans HBw.out.size hb2.size) _)⟩
     ·have hx1 : ((x.toNat : Int) == 10) = false := by
       have : x ≠ 10 := fun e => hcur (hx10.1 e);rw [beq_eq_false_iff_ne];intro e;exact this (UInt8.toNat_inj.1 (by show x.toNat = 10; omega))
      rw [if_neg hcur] at hT;obtain rfl : s = T := (ba_list rfl).trans ((ba_list hT).symm);clear hx hx10 hT;go_wp2_with fail;refine Calls.mono HP.out ?_;rintro e w2 ⟨kd, lv, mk, st, tg, inf, tx, A2, m2, c2, ad1, c1, rvA, rvc, tg1, A3, m3, c3, rfl, hp, hb2⟩;have hpa := fun o => hp.later ((Below.refl _ w2).alloc (Nat.le_refl _) o);have u1 := fun o => (hpa o).2.1;have u2 := fun o => (hpa o).2.2.2.1;clear hp hpa;go_wp2;go_ret;exact ⟨rfl, ((HBw.out.trans (hb2.mono HBw.out.size)).alloc (Nat.le_trans HBw.out.size hb2.size) _)⟩
