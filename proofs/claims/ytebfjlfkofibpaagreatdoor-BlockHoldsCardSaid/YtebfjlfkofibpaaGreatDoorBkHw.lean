/- Told blocks hold together. -/
import Derived.Test.YtebfjlfkofibpaaGreatDoorBkSm
import Derived.Test.YtebfjlfkofibpaaGreatDoorBkHp
namespace Go.Proofs.YtebfjlfkofibpaaGreatDoor
set_option maxHeartbeats 8000000
set_option maxRecDepth 100000
open Go.RowKit
def HolC (n : Nat) : Prop := ∀ (x : BD (List (TR n))) (va vk : Value) (S : Nat -> Prop) (w : World) (c : Nat), AlS w S va x.align -> BlksAt n w S vk x.kids -> (∀ k, S k -> k < w.heap.size) -> HoldP (n + 1) x c ->
 Calls Tryz.prog 16 #[.agg (blkCs x.kind x.level x.mark x.start x.tight x.info x.text va vk).toArray, .int .u8 c] w fun e w' => e = .returned (.tuple #[.int .i64 (deepX (n + 1) x : Nat), .bool true]) ∧ Below w.heap.size w w'
def KidF (w : World) (A2 : Option Addr) (k kd dv : Nat) : Prop := ∃ (ad : Addr) (kd2 mk2 : Nat) (lv2 st2 : Int) (tg2 : Bool) (inf2 tx2 : ByteArray) (A3 A4 : Option Addr) (m3 m4 c3 c4 : Nat), A2 = some ad ∧ ad.block < w.heap.size ∧
 w.cell? (ad.add (k * 10)) = some (.int .u8 kd2) ∧ w.cell? ⟨(ad.add (k * 10)).block, (ad.add (k * 10)).off + 1, none⟩ = some (.int .i64 lv2) ∧ w.cell? ⟨(ad.add (k * 10)).block, (ad.add (k * 10)).off + 2, none⟩ = some (.int .u8 mk2) ∧
 w.cell? ⟨(ad.add (k * 10)).block, (ad.add (k * 10)).off + 3, none⟩ = some (.int .i64 st2) ∧ w.cell? ⟨(ad.add (k * 10)).block, (ad.add (k * 10)).off + 4, none⟩ = some (.bool tg2) ∧ w.cell? ⟨(ad.add (k * 10)).block, (ad.add (k * 10)).off + 5, none⟩ = some (.string inf2) ∧
 w.cell? ⟨(ad.add (k * 10)).block, (ad.add (k * 10)).off + 6, none⟩ = some (.string tx2) ∧ w.cell? ⟨(ad.add (k * 10)).block, (ad.add (k * 10)).off + 7, none⟩ = some (.slice A3 m3 c3) ∧ w.cell? ⟨(ad.add (k * 10)).block, (ad.add (k * 10)).off + 8, none⟩ = some (.slice A4 m4 c4) ∧
 w.cell? ⟨(ad.add (k * 10)).block, (ad.add (k * 10)).off + 9, none⟩ = some (.slice none 0 0) ∧
 ∀ w', Below w.heap.size w w' -> Calls Tryz.prog 16 #[.agg #[.int .u8 kd2, .int .i64 lv2, .int .u8 mk2, .int .i64 st2, .bool tg2, .string inf2, .string tx2, .slice A3 m3 c3, .slice A4 m4 c4, .slice none 0 0], .int .u8 kd] w' fun e w'' => e = .returned (.tuple #[.int .i64 (dv : Nat), .bool true]) ∧ Below w'.heap.size w' w''
theorem hol_bools {kd c a b : Nat} (h : kd = a ↔ c = b) : ∃ B : Bool, ((kd : Int) == (a : Int)) = B ∧ ((c : Int) == (b : Int)) = B := by
 by_cases h1 : kd = a
 ·exact ⟨true, by rw [beq_iff_eq]; omega, by have := h.1 h1; rw [beq_iff_eq]; omega⟩
 ·exact ⟨false, by rw [beq_eq_false_iff_ne]; omega, by have := fun e => h1 (h.2 e); rw [beq_eq_false_iff_ne]; omega⟩
theorem hol_step (n : Nat) (x : BD (List (TR n))) (va vk : Value) (S : Nat -> Prop) (w : World) (c : Nat) (ha : AlS w S va x.align) (hk : BlksAt n w S vk x.kids) (hx : HoldP (n + 1) x c) (dp : TR n -> Nat) (hdp : ∀ y ∈ x.kids, dp y = deepX n y ∧ dp y ≤ 1000000) (hlen : x.kids.length ≤ 9223372036854775807)
  (hkid : ∀ (k : Nat) (hkl : k < x.kids.length) A2 m2 c2, vk = .slice A2 m2 c2 -> KidF w A2 k x.kind (dp x.kids[k])) :
  Calls Tryz.prog 16 #[.agg (blkCs x.kind x.level x.mark x.start x.tight x.info x.text va vk).toArray, .int .u8 c] w fun e w' => e = .returned (.tuple #[.int .i64 (deepX (n + 1) x : Nat), .bool true]) ∧ Below w.heap.size w w' := by
 obtain ⟨hb, _⟩ := hx
 obtain ⟨A1, m1, c1, rfl, -⟩ := id ha.1
 obtain ⟨A2, c2, hvk⟩ := hk.form
 have HKid := hdn fun k hkl => hkid k hkl A2 _ c2 hvk
 obtain ⟨kd, hkd⟩ : ∃ kd, x.kind = kd := ⟨_, rfl⟩
 obtain ⟨N, hN⟩ : ∃ N, x.kids.length = N := ⟨_, rfl⟩
 have hdeep : deepX (n + 1) x = if 2 ≤ kd ∧ kd ≤ 4 then (x.kids.map dp).foldl max 0 + 1 else (x.kids.map dp).foldl max 0 := by
  rw [<- hkd, List.map_congr_left fun y hy => (hdp y hy).1]
  rfl
 have hD : ∀ j, ((x.kids.take j).map dp).foldl max 0 ≤ 1000000 := fun j => foldl_le _ _ (fun z hz => by obtain ⟨y, hy, rfl⟩ := List.mem_map.1 hz; exact (hdp y (List.mem_of_mem_take hy)).2) (Nat.zero_le _)
 have hD1 := hD N
 rw [<- hN, List.take_length] at hD1
 obtain ⟨DM, hDM⟩ : ∃ DM, (x.kids.map dp).foldl max 0 = DM := ⟨_, rfl⟩
 rw [hDM] at hdeep hD1
 rw [hdeep]
 have h1 := hb.kind
 obtain ⟨B4, b4, b3⟩ := hol_bools hb.item
 obtain ⟨B11, b11, b10⟩ := hol_bools hb.row
 obtain ⟨B12, b12, b11'⟩ := hol_bools hb.cell
 rw [hkd] at h1 b4 b11 b12
 have htx := hb.txt; have hki := hb.kids; have hpa := hb.para
 rw [hkd] at htx hki hpa
 have HDM := hdn hDM; have HD := hdn hD
 subst hvk
 rw [hkd, hN]
 rw [hN] at hlen
 rw [hkd] at HKid
 clear hkid hdeep hdp hb ha hk hD hDM
 have b4 : ((kd : Int) == 4) = B4 := b4
 have b3 : ((c : Int) == 3) = B4 := b3
 have b11 : ((kd : Int) == 11) = B11 := b11
 have b10 : ((c : Int) == 10) = B11 := b10
 have b12 : ((kd : Int) == 12) = B12 := b12
 have b11' : ((c : Int) == 11) = B12 := b11'
 have n4 : (B4 != B4) = false := by simp
 have n11 : (B11 != B11) = false := by simp
 have n12 : (B12 != B12) = false := by simp
 have l1 : ¬ (kd : Int) < 1 := by omega
 have l12 : ¬ (12 : Int) < (kd : Int) := by omega
 obtain ⟨tx, htxe⟩ : ∃ tx, x.text = tx := ⟨_, rfl⟩
 rw [htxe] at htx hpa ⊢
 have hN0 : ¬ BoxK kd -> N = 0 := fun h => by rw [<- hN, hki h]; rfl
 clear hki
 have HZ : (((kd : Int) ≤ 4 ∧ ((kd : Int) == 10) = false ∧ B11 = false ∧ ((kd : Int) == 5) = false ∧ (tx.toList.isEmpty = true ∧ tx.toList = [])) ∨ (¬ (kd : Int) ≤ 4 ∧ ((kd : Int) == 10) = true ∧ B11 = false ∧ ((kd : Int) == 5) = false ∧ (tx.toList.isEmpty = true ∧ tx.toList = [])) ∨ (¬ (kd : Int) ≤ 4 ∧ ((kd : Int) == 10) = false ∧ B11 = true ∧ ((kd : Int) == 5) = false ∧ (tx.toList.isEmpty = true ∧ tx.toList = []))) ∨
   (¬ (kd : Int) ≤ 4 ∧ ((kd : Int) == 10) = false ∧ B11 = false ∧ ((kd : Int) == 5) = true ∧ (tx.toList.isEmpty = false ∧ ¬ tx.toList = [])) ∨ (¬ (kd : Int) ≤ 4 ∧ ((kd : Int) == 10) = false ∧ B11 = false ∧ ((kd : Int) == 5) = false ∧ True) := by
  have e11 : kd ≠ 11 -> B11 = false := fun h => by rw [<- b11, beq_eq_false_iff_ne]; omega
  by_cases h4 : kd ≤ 4
  ·exact .inl (.inl ⟨by omega, by rw [beq_eq_false_iff_ne]; omega, e11 (by omega), by rw [beq_eq_false_iff_ne]; omega, bytes_no (htx (.inl h4))⟩)
  ·by_cases h10 : kd = 10
   ·exact .inl (.inr (.inl ⟨by omega, by rw [beq_iff_eq]; omega, e11 (by omega), by rw [beq_eq_false_iff_ne]; omega, bytes_no (htx (.inr (.inl h10)))⟩))
   ·by_cases h11 : kd = 11
    ·exact .inl (.inr (.inr ⟨by omega, by rw [beq_eq_false_iff_ne]; omega, by rw [<- b11, beq_iff_eq]; omega, by rw [beq_eq_false_iff_ne]; omega, bytes_no (htx (.inr (.inr h11)))⟩))
    ·by_cases h5 : kd = 5
     ·exact .inr (.inl ⟨by omega, by rw [beq_eq_false_iff_ne]; omega, e11 h11, by rw [beq_iff_eq]; omega, bytes_ne (hpa h5)⟩)
     ·exact .inr (.inr ⟨by omega, by rw [beq_eq_false_iff_ne]; omega, e11 h11, by rw [beq_eq_false_iff_ne]; omega, trivial⟩)
 have HN0 : (¬ (kd : Int) ≤ 4 ∧ ((kd : Int) == 10) = false ∧ B11 = false) -> N = 0 := fun ⟨h1, h2, h3⟩ => hN0 (by
  unfold BoxK
  rw [beq_eq_false_iff_ne] at h2
  rw [h3, beq_eq_false_iff_ne] at b11
  omega)
 obtain ⟨RR, hRR⟩ : ∃ RR, (if 2 ≤ kd ∧ kd ≤ 4 then DM + 1 else DM) = RR := ⟨_, rfl⟩
 rw [hRR]
 have HR : (2 ≤ (kd : Int) ∧ (kd : Int) ≤ 4 ∧ RR = DM + 1) ∨ (¬ 2 ≤ (kd : Int) ∧ RR = DM) ∨ (¬ (kd : Int) ≤ 4 ∧ RR = DM) := by
  by_cases h2 : 2 ≤ kd
  ·by_cases h4 : kd ≤ 4
   ·exact .inl ⟨by omega, by omega, by rw [<- hRR, if_pos ⟨h2, h4⟩]⟩
   ·exact .inr (.inr ⟨by omega, by rw [<- hRR, if_neg (by omega)]⟩)
  ·exact .inr (.inl ⟨by omega, by rw [<- hRR, if_neg (by omega)]⟩)
 clear hRR htx hpa hN0 h1
 have HR := hdn HR
 obtain ⟨W1, hW1⟩ : ∃ W1, w.alloc (.cells #[.int .u8 kd, .int .i64 x.level, .int .u8 x.mark, .int .i64 x.start, .bool x.tight, .string x.info, .string tx, .slice A1 m1 c1, .slice A2 N c2, .slice none 0 0] 28) = W1 := ⟨_, rfl⟩
 have hz1 : W1.heap.size = w.heap.size + 1 := by rw [<- hW1]; simp
 have hr1 : W1.heap[w.heap.size]? = some (.cells #[.int .u8 kd, .int .i64 x.level, .int .u8 x.mark, .int .i64 x.start, .bool x.tight, .string x.info, .string tx, .slice A1 m1 c1, .slice A2 N c2, .slice none 0 0] 28 (0, 0)) := by rw [<- hW1]; exact heap_alloc_new w _
 have hb1 : Below w.heap.size w W1 := by rw [<- hW1]; exact (Below.refl _ w).alloc (Nat.le_refl _) _
 have q1 := fun i => cell_of_row W1 w.heap.size i _ _ _ hr1
 have HR1 := hdn hr1; have HB1 := hdn hb1; have HNl := hdn hN
 have H0 := hdn (show ∃ k : Nat, (Value.int .i64 0) = .int .i64 k ∧ (Value.int .i64 0) = .int .i64 ((((x.kids.take k).map dp).foldl max 0 : Nat)) ∧ k ≤ N ∧ Below W1.heap.size W1 W1 from ⟨0, rfl, rfl, Nat.zero_le _, Below.refl _ _⟩)
 clear hr1 hb1 hN
 unfold blkCs
 rcases HZ with HZ | HZ
 ·rcases HZ with ⟨z1, z2, z3, z4, z5, z6⟩ | ⟨z1, z2, z3, z4, z5, z6⟩ | ⟨z1, z2, z3, z4, z5, z6⟩
  all_goals
   subst z3
   go_enter Tryz.func16, Tryz.ntmps16
   go_wp2
   clear q1
   go_loopw [10, 11] (fun d i wr => ∃ k : Nat, i = .int .i64 k ∧ d = .int .i64 ((((x.kids.take k).map dp).foldl max 0 : Nat)) ∧ k ≤ N ∧ Below W1.heap.size W1 wr) (fun _ i _ => N - (intOf i).toNat)
   case atStart => exact H0.out
   case round =>
    obtain ⟨k, rfl, rfl, hk, hbw⟩ := hrel
    have hrw := (hbw.block w.heap.size (by omega)).trans HR1.out
    have q := fun i => cell_of_row wr w.heap.size i _ _ _ hrw
    have qd := fun i => show wr.drew.cell? ⟨w.heap.size, i, none⟩ = _ from q i
    have hD0 := HD.out k
    by_cases hlt : k < N
    ·have hlt' : k < x.kids.length := by rw [HNl.out]; exact hlt
     obtain ⟨ad, kd2, mk2, lv2, st2, tg2, inf2, tx2, A3, A4, m3, m4, c3, c4, hA, hbl, d0, d1, d2, d3, d4, d5, d6, d7, d8, d9, hC⟩ := HKid.out k hlt'
     subst hA
     have hbw2 : Below w.heap.size w wr := HB1.out.trans (hbw.mono HB1.out.size)
     have hfold : ((x.kids.take (k + 1)).map dp).foldl max 0 = max (((x.kids.take k).map dp).foldl max 0) (dp x.kids[k]) := by
      rw [List.take_succ_eq_append_getElem hlt', List.map_append, List.foldl_append]; rfl
     have hD2 := HD.out (k + 1)
     rw [hfold] at hD2
     obtain ⟨dk, hdk⟩ : ∃ dk, dp x.kids[k] = dk := ⟨_, rfl⟩
     obtain ⟨dj, hdj⟩ : ∃ dj, ((x.kids.take k).map dp).foldl max 0 = dj := ⟨_, rfl⟩
     rw [hdk, hdj] at hfold hD2
     rw [hdk] at hC
     rw [hdj]
     have HF := hdn hfold
     have p : ∀ (a : Addr) (j : Nat), a.block < w.heap.size -> wr.drew.cell? ⟨(a.add (k * 10)).block, j, none⟩ = w.cell? ⟨(a.add (k * 10)).block, j, none⟩ := fun a j ha => hbw2.cell (by rw [block_of_add]; exact ha)
     have d0 := (show wr.drew.cell? (ad.add (k * 10)) = _ from hbw2.cell (p := ad.add (k * 10)) (by rw [block_of_add]; exact hbl)).trans d0
     have d1 := (p ad _ hbl).trans d1
     have d2 := (p ad _ hbl).trans d2
     have d3 := (p ad _ hbl).trans d3
     have d4 := (p ad _ hbl).trans d4
     have d5 := (p ad _ hbl).trans d5
     have d6 := (p ad _ hbl).trans d6
     have d7 := (p ad _ hbl).trans d7
     have d8 := (p ad _ hbl).trans d8
     have d9 := (p ad _ hbl).trans d9
     have HC := hdn (hC wr.drew hbw2.drew)
     clear hC p hfold hdk hdj hbw2 hrw
     go_wp2_with fail
     go_region_with (first
      | (go_at_call 16; refine Calls.mono HC.out ?_; rintro e w2 ⟨rfl, hb2⟩))
     all_goals
      go_wp2
      go_roundw
      case rel => exact ⟨k + 1, by go_num, by rw [HF.out]; congr 1; first | omega | exact (Int.ofNat_max _ _).symm | simp, by omega, hbw.drew.trans (hb2.mono hbw.size)⟩
      case measure => simp [intOf]; omega
    ·obtain rfl : k = N := by omega
     have HT := HDM.out
     rw [<- HNl.out, List.take_length, HT] at *
     clear hrw
     rcases HR.out with ⟨r1, r2, rfl⟩ | ⟨r1, rfl⟩ | ⟨r1, rfl⟩
     all_goals try (exfalso; omega)
     all_goals
      go_wp2
      go_ret2
      exact ⟨rfl, HB1.out.trans (hbw.mono HB1.out.size)⟩
 ·rcases HZ with ⟨z1, z2, z3, z4, z5, z6⟩ | ⟨z1, z2, z3, z4, z5⟩
  all_goals
   have hN0 : N = 0 := HN0 ⟨z1, z2, z3⟩
   subst z3
   have hDM0 : DM = 0 := by rw [<- HDM.out, List.eq_nil_of_length_eq_zero (HNl.out.trans hN0)]; rfl
   subst hN0
   subst hDM0
   go_enter Tryz.func16, Tryz.ntmps16
   go_wp2
   clear q1
   go_loopw [10, 11] (fun d i wr => ∃ k : Nat, i = .int .i64 k ∧ d = .int .i64 ((((x.kids.take k).map dp).foldl max 0 : Nat)) ∧ k ≤ 0 ∧ Below W1.heap.size W1 wr) (fun _ i _ => 0 - (intOf i).toNat)
   case atStart => exact H0.out
   case round =>
    obtain ⟨k, rfl, rfl, hk, hbw⟩ := hrel
    have hrw := (hbw.block w.heap.size (by omega)).trans HR1.out
    have q := fun i => cell_of_row wr w.heap.size i _ _ _ hrw
    have qd := fun i => show wr.drew.cell? ⟨w.heap.size, i, none⟩ = _ from q i
    have hD0 := HD.out k
    obtain rfl : k = 0 := by omega
    clear hrw
    rcases HR.out with ⟨r1, r2, rfl⟩ | ⟨r1, rfl⟩ | ⟨r1, rfl⟩
    all_goals try (exfalso; omega)
    all_goals
     go_wp2
     go_ret2
     exact ⟨rfl, HB1.out.trans (hbw.mono HB1.out.size)⟩
theorem deepX_le : ∀ (n : Nat) (x : TR n), deepX n x ≤ n
 | 0, x => x.elim
 | n + 1, x => by
  have h := foldl_le n ((BD.kids (K := List (TR n)) x).map (deepX n)) (fun z hz => by obtain ⟨y, _, rfl⟩ := List.mem_map.1 hz; exact deepX_le n y) (Nat.zero_le _)
  unfold deepX
  split <;> omega
theorem hol_all : ∀ n : Nat, n ≤ 200000 -> HolC n
 | 0, _ => fun x va vk S w c ha hk _ hx => hol_step 0 x va vk S w c ha hk hx (deepX 0) (fun y _ => y.elim) (by
   match hq : x.kids with
   | [] => exact Nat.zero_le _
   | y :: _ => exact y.elim) (fun k hkl => (x.kids[k]).elim)
 | n + 1, hn => fun x va vk S w c ha hk hS hx => by
  have IH := hol_all n (by omega)
  obtain ⟨A, cc, hv, hl, hg⟩ := BlksAt.get2 (l := x.kids) hk
  refine hol_step (n + 1) x va vk S w c ha hk hx (deepX (n + 1)) (fun y _ => ⟨rfl, Nat.le_trans (deepX_le (n + 1) y) (by omega)⟩) hl (fun k hkl A2 m2 c2 hvk => ?_)
  rw [hv] at hvk
  injection hvk with e1 e2 e3
  subst e1
  obtain ⟨y, hy⟩ : ∃ y : BD (List (TR n)), x.kids[k]? = some y := ⟨_, List.getElem?_eq_getElem hkl⟩
  have hyk : x.kids[k] = y := by
   have := List.getElem?_eq_getElem hkl
   rw [this] at hy
   exact Option.some.inj hy
  obtain ⟨ad, A3, A4, m3, m4, c3, c4, hA, hb, hal, hki, d0, d1, d2, d3, d4, d5, d6, d7, d8, d9⟩ := hg k y hy
  refine ⟨ad, _, _, _, _, _, _, _, A3, A4, m3, m4, c3, c4, hA, hS _ hb, d0, d1, d2, d3, d4, d5, d6, d7, d8, d9, fun w' hw => ?_⟩
  rw [hyk]
  exact IH y (.slice A3 m3 c3) (.slice A4 m4 c4) S w' x.kind (hal.keep fun b hb2 => hw.block b (hS b hb2)) (BlksAt.keep (fun b hb2 => hw.block b (hS b hb2)) n hki) (fun b hb2 => by have := hS b hb2; have := hw.size; omega) (hx.2 y (by rw [<- hyk]; exact List.getElem_mem hkl))
end Go.Proofs.YtebfjlfkofibpaaGreatDoor
