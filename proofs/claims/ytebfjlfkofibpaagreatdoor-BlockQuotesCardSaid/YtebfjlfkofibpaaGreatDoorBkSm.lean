/- Told blocks are alike, and so are references. -/
import Derived.Test.YtebfjlfkofibpaaGreatDoorBkTd
namespace Go.Proofs.YtebfjlfkofibpaaGreatDoor
set_option maxHeartbeats 4000000
set_option maxRecDepth 100000
open Go.RowKit
theorem SlU8.conv {w : World} {v : Value} {l : List UInt8} (h : SlU8 w v l) : (convert 22 9 v).run Tryz.prog w = .ok (.string ⟨l.toArray⟩) w := by
 obtain ⟨A, m, c, rfl, hm, hc, hb⟩ := h;subst hm
 cases A with
 | none =>
  have h0 : l = [] := by
   cases l with
   | nil => rfl
   | cons x l =>
    obtain ⟨b, off, e, _⟩ := hb (by simp)
    cases e
  subst h0;exact run_convert_bytes_nil w 22 5 Tryz.underlying22 Tryz.underlying5 0 c 9 Tryz.underlying9
 | some a =>
  refine run_convert_bytes_back (P := Tryz.prog) w 22 9 5 a c l Tryz.underlying22 Tryz.underlying5 Tryz.underlying9 ?_;intro j hj;obtain ⟨b, off, e, _, hby⟩ := hb (by omega)
  cases e
  have := hby j hj;have hadd : (⟨b, off, none⟩ : Addr).add j = ⟨b, off + j, none⟩ := by
   unfold Addr.add;split
   ·rename_i h0; rw [h0, Nat.add_zero]
   ·rfl
  rw [hadd];exact this
theorem BlksAt.get2 {n : Nat} {w : World} {S : Nat -> Prop} {v : Value} {l : List (BD (List (TR n)))} (h : BlksAt (n + 1) w S v l) :
  ∃ A c, v = .slice A l.length c ∧ l.length ≤ 9223372036854775807 ∧ ∀ (k : Nat) (x : BD (List (TR n))), l[k]? = some x -> ∃ (ad : Addr) (A1 A2 : Option Addr) (m1 m2 c1 c2 : Nat), A = some ad ∧ S ad.block ∧ AlS w S (.slice A1 m1 c1) x.align ∧ BlksAt n w S (.slice A2 m2 c2) x.kids ∧
   w.cell? (ad.add (k * 10)) = some (.int .u8 x.kind) ∧ w.cell? ⟨(ad.add (k * 10)).block, (ad.add (k * 10)).off + 1, none⟩ = some (.int .i64 x.level) ∧ w.cell? ⟨(ad.add (k * 10)).block, (ad.add (k * 10)).off + 2, none⟩ = some (.int .u8 x.mark) ∧
   w.cell? ⟨(ad.add (k * 10)).block, (ad.add (k * 10)).off + 3, none⟩ = some (.int .i64 x.start) ∧ w.cell? ⟨(ad.add (k * 10)).block, (ad.add (k * 10)).off + 4, none⟩ = some (.bool x.tight) ∧ w.cell? ⟨(ad.add (k * 10)).block, (ad.add (k * 10)).off + 5, none⟩ = some (.string x.info) ∧
   w.cell? ⟨(ad.add (k * 10)).block, (ad.add (k * 10)).off + 6, none⟩ = some (.string x.text) ∧ w.cell? ⟨(ad.add (k * 10)).block, (ad.add (k * 10)).off + 7, none⟩ = some (.slice A1 m1 c1) ∧ w.cell? ⟨(ad.add (k * 10)).block, (ad.add (k * 10)).off + 8, none⟩ = some (.slice A2 m2 c2) ∧
   w.cell? ⟨(ad.add (k * 10)).block, (ad.add (k * 10)).off + 9, none⟩ = some (.slice none 0 0) := by
 obtain ⟨A, c, hv, hl, h0, h1⟩ := h;refine ⟨A, c, hv, hl, fun k x hx => ?_⟩;have hk := (List.getElem?_eq_some_iff.1 hx).1;obtain ⟨ad, vs, hA, hlie, va, vk, rfl, ha, hkid⟩ := h1 k x hx;obtain ⟨ad', hA', hb'⟩ := h0 (Nat.lt_of_le_of_lt (Nat.zero_le k) hk);rw [hA] at hA'
 cases hA'
 obtain ⟨A1, m1, c1, rfl, _⟩ := ha.1;obtain ⟨A2, c2, rfl⟩ := hkid.form;exact ⟨ad, A1, A2, m1, _, c1, c2, hA, hb', ha, hkid, hlie.fst, hlie.nth 0 _ rfl, hlie.nth 1 _ rfl, hlie.nth 2 _ rfl, hlie.nth 3 _ rfl, hlie.nth 4 _ rfl, hlie.nth 5 _ rfl, hlie.nth 6 _ rfl, hlie.nth 7 _ rfl, hlie.nth 8 _ rfl⟩
theorem same_in (w : World) : Calls Tryz.prog 23 #[.slice none 0 0, .slice none 0 0] w fun e w' => e = .returned (.bool true) ∧ w' = w := by
 go_enter Tryz.func23, Tryz.ntmps23;go_wp2;refine wp_loop_rounds 1 ?_;rw [rounds_succ];go_wp2;go_ret;exact ⟨rfl, rfl⟩
def SbsC (n : Nat) : Prop := ∀ (v v' : Value) (l : List (TR n)) (S S' : Nat -> Prop) (w : World), BlksAt n w S v l -> BlksAt n w S' v' l -> (∀ k, S k -> k < w.heap.size) -> (∀ k, S' k -> k < w.heap.size) ->
 Calls Tryz.prog 15 #[v, v'] w fun e w' => e = .returned (.bool true) ∧ Below w.heap.size w w'
theorem same_blk {n : Nat} (ih : SbsC n) (x : BD (List (TR n))) (va vk va' vk' : Value) (S S' : Nat -> Prop) (w : World) (ha : AlS w S va x.align) (hk : BlksAt n w S vk x.kids) (ha' : AlS w S' va' x.align) (hk' : BlksAt n w S' vk' x.kids) (hS : ∀ k, S k -> k < w.heap.size) (hS' : ∀ k, S' k -> k < w.heap.size) :
  Calls Tryz.prog 12 #[.agg (blkCs x.kind x.level x.mark x.start x.tight x.info x.text va vk).toArray, .agg (blkCs x.kind x.level x.mark x.start x.tight x.info x.text va' vk').toArray] w fun e w' => e = .returned (.bool true) ∧ Below w.heap.size w w' := by
 obtain ⟨A1, m1, c1, rfl, -⟩ := id ha.1;obtain ⟨A1', m1', c1', rfl, -⟩ := id ha'.1;obtain ⟨A2, c2, rfl⟩ := hk.form;obtain ⟨A2', c2', rfl⟩ := hk'.form;have hold : ∀ (o o' : Obj) (b : Nat), b < w.heap.size -> ((w.alloc o).alloc o').heap[b]? = w.heap[b]? := fun o o' b hb => (Below.heap_alloc _ _ _ (by simp; omega)).trans (Below.heap_alloc _ _ _ hb);have hcv := fun o o' => (ha.keep fun b hb => hold o o' b (hS b hb)).1.conv
 have hcv' := fun o o' => (ha'.keep fun b hb => hold o o' b (hS' b hb)).1.conv
 have HK := hdn fun o o' => ih _ _ x.kids S S' _ (BlksAt.keep (fun b hb => hold o o' b (hS b hb)) n hk) (BlksAt.keep (fun b hb => hold o o' b (hS' b hb)) n hk') (fun b hb => by have := hS b hb; simp; omega) (fun b hb => by have := hS' b hb; simp; omega);obtain ⟨N1, hN1⟩ : ∃ N1, x.kids.length = N1 := ⟨_, rfl⟩;rw [hN1] at HK ⊢;have HI := hdn same_in;clear hN1 ha ha' hk hk' hold ih hS hS';unfold blkCs;go_enter Tryz.func12, Tryz.ntmps12;go_wp2_with fail;refine cMq (HI.out _) ?_;rintro e w2 ⟨rfl, rfl⟩;go_wp2_with fail
 refine cMq (HK.out _ _) ?_;rintro e w2 ⟨rfl, hb2⟩;go_wp2;go_ret;exact ⟨rfl, (((Below.refl _ w).alloc (Nat.le_refl _) _).alloc (by simp) _).trans (hb2.mono (by simp; omega))⟩
theorem same_blks : ∀ n : Nat, SbsC n
 | 0 => by
  intro v v' l S S' w h h' _ _
  match l, h, h' with
  | [], h, h' =>
   obtain ⟨A, c, rfl⟩ := h.form;obtain ⟨A', c', rfl⟩ := h'.form;clear h h';go_enter Tryz.func15, Tryz.ntmps15;go_wp2;refine wp_loop_rounds 1 ?_;rw [rounds_succ];go_wp2;go_ret;exact ⟨rfl, Below.refl _ _⟩
 | n + 1 => by
  intro v v' (l : List (BD (List (TR n)))) S S' w h h' hS hS';have IH := hdn (same_blks n);obtain ⟨A, c, rfl, hl, hget⟩ := BlksAt.get2 (l := l) h;obtain ⟨A', c', rfl, _, hget'⟩ := BlksAt.get2 (l := l) h';have HG := hdn hget;have HG' := hdn hget';obtain ⟨N, hN⟩ : ∃ N, l.length = N := ⟨_, rfl⟩;have hne : ((N : Int) != (N : Int)) = false := by simp
  have HN := hdn hN;rw [hN] at hl ⊢;clear hget hget' h h' hN;go_enter Tryz.func15, Tryz.ntmps15;go_wp2
  go_loopw [5] (fun i wr => ∃ k : Nat, i = .int .i64 k ∧ k ≤ N ∧ Below w.heap.size w wr) (fun i _ => N - (intOf i).toNat)
  case atStart => exact ⟨0, rfl, Nat.zero_le _, Below.refl _ _⟩
  case round =>
   obtain ⟨k, rfl, hk, hbw⟩ := hrel;have hws := hbw.size
   by_cases hlt : k < N
   ·obtain ⟨x, hx⟩ : ∃ x : BD (List (TR n)), l[k]? = some x := ⟨_, List.getElem?_eq_getElem (by rw [HN.out]; exact hlt)⟩;obtain ⟨ad, A1, A2, m1, m2, c1, c2, hA, hbl, hal, hki, d0, d1, d2, d3, d4, d5, d6, d7, d8, d9⟩ := HG.out k x hx;obtain ⟨ad', A1', A2', m1', m2', c1', c2', hA', hbl', hal', hki', e0, e1, e2, e3, e4, e5, e6, e7, e8, e9⟩ := HG'.out k x hx;subst hA;subst hA';have hb1 := hS _ hbl;have hb2 := hS' _ hbl';have hbd : ∀ b, b < w.heap.size -> wr.drew.heap[b]? = w.heap[b]? := fun b hb => hbw.block b hb
    have hB := hdn (same_blk (same_blks n) x _ _ _ _ S S' wr.drew (hal.keep fun b hb => hbd b (hS b hb)) (BlksAt.keep (fun b hb => hbd b (hS b hb)) n hki) (hal'.keep fun b hb => hbd b (hS' b hb)) (BlksAt.keep (fun b hb => hbd b (hS' b hb)) n hki') (fun b hb => by have := hS b hb; show b < wr.heap.size; omega) (fun b hb => by have := hS' b hb; show b < wr.heap.size; omega));unfold blkCs at hB
    have q : ∀ (a : Addr) (j : Nat), a.block < w.heap.size -> wr.drew.cell? ⟨(a.add (k * 10)).block, j, none⟩ = w.cell? ⟨(a.add (k * 10)).block, j, none⟩ := fun a j ha => hbw.cell (by rw [block_of_add]; exact ha);have q0 : ∀ (a : Addr), a.block < w.heap.size -> wr.drew.cell? (a.add (k * 10)) = w.cell? (a.add (k * 10)) := fun a ha => hbw.cell (p := a.add (k * 10)) (by rw [block_of_add]; exact ha);have d0 := (q0 ad hb1).trans d0;have d1 := (q ad _ hb1).trans d1;have d2 := (q ad _ hb1).trans d2;have d3 := (q ad _ hb1).trans d3;have d4 := (q ad _ hb1).trans d4;have d5 := (q ad _ hb1).trans d5
    have d6 := (q ad _ hb1).trans d6;have d7 := (q ad _ hb1).trans d7;have d8 := (q ad _ hb1).trans d8;have d9 := (q ad _ hb1).trans d9;have e0 := (q0 ad' hb2).trans e0;have e1 := (q ad' _ hb2).trans e1;have e2 := (q ad' _ hb2).trans e2;have e3 := (q ad' _ hb2).trans e3;have e4 := (q ad' _ hb2).trans e4;have e5 := (q ad' _ hb2).trans e5;have e6 := (q ad' _ hb2).trans e6;have e7 := (q ad' _ hb2).trans e7;have e8 := (q ad' _ hb2).trans e8;have e9 := (q ad' _ hb2).trans e9;clear hal hki hal' hki' hbl hbl' q q0 hbd hx;go_wp2_with fail
    go_region_with (first
     | (go_at_call 12; refine cMq hB.out ?_; rintro e w2 ⟨rfl, hb2'⟩))
    all_goals
     go_wp2
     go_roundw
     case rel => exact ⟨k + 1, by go_num, by omega, hbw.drew.trans (hb2'.mono hws)⟩
     case measure => simp [intOf]; omega
   ·go_wp2;go_ret;exact ⟨rfl, hbw⟩
theorem same_refs (w : World) (v v' : Value) (l : List RefT) (b b' : Nat) (h : w.ownsRow b 43 3 v l.length (refCells l)) (h' : w.ownsRow b' 43 3 v' l.length (refCells l)) (hl : l.length ≤ 1000000) : Calls Tryz.prog 13 #[v, v'] w fun e w' => e = .returned (.bool true) ∧ Below w.heap.size w w' := by
 obtain ⟨A, c, rfl, hk⟩ := own_three h;obtain ⟨A', c', rfl, hk'⟩ := own_three h';have HK := hdn hk; have HK' := hdn hk';have hne : ((l.length : Int) != (l.length : Int)) = false := by simp
 clear hk hk' h h';go_enter Tryz.func13, Tryz.ntmps13;go_wp2
 go_loopw [5] (fun i wr => ∃ k : Nat, i = .int .i64 k ∧ k ≤ l.length ∧ Below w.heap.size w wr) (fun i _ => l.length - (intOf i).toNat)
 case atStart => exact ⟨0, rfl, Nat.zero_le _, Below.refl _ _⟩
 case round =>
  obtain ⟨k, rfl, hkl, hbw⟩ := hrel
  by_cases hlt : k < l.length
  ·obtain ⟨g, hA, hgl, c0, c1, c2⟩ := HK.out k hlt;obtain ⟨g', hA', hgl', c0', c1', c2'⟩ := HK'.out k hlt;subst hA;subst hA';have d0 := (hbw.cell (p := ⟨g, k * 3, none⟩) hgl).trans c0;have d1 := (hbw.cell (p := ⟨g, k * 3 + 1, none⟩) hgl).trans c1;have d2 := (hbw.cell (p := ⟨g, k * 3 + 2, none⟩) hgl).trans c2;have d0' := (hbw.cell (p := ⟨g', k * 3, none⟩) hgl').trans c0';have d1' := (hbw.cell (p := ⟨g', k * 3 + 1, none⟩) hgl').trans c1';have d2' := (hbw.cell (p := ⟨g', k * 3 + 2, none⟩) hgl').trans c2';have HB := hdn hbw;clear c0 c1 c2 c0' c1' c2' hbw;go_wp2_with fail
   go_quiet (fail)
   go_wp2
   go_roundw
   case rel => exact ⟨k + 1, by go_num, by omega, below_drewN HB.out _⟩
   case measure => simp [intOf]; omega
  ·go_wp2;go_ret;exact ⟨rfl, hbw⟩
