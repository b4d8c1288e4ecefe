/- Are inlines alike: of one thing, twice, yes. -/
import Derived.Test.YtibaoocklempnaaGreatDoorILent
namespace Go.Proofs.YtibaoocklempnaaGreatDoor
open Go.RowKit

set_option maxHeartbeats 4000000 in
set_option maxRecDepth 100000 in
theorem same_inls (n : Nat) : ∀ (v v' : Value) (l : List (IT n)) (S S' : Nat → Prop) (w : World), InlsAt n w S v l → InlsAt n w S' v' l → (∀ k, S k → k < w.heap.size) → (∀ k, S' k → k < w.heap.size) →
    Calls Tryz.prog 32 #[v, v'] w fun e w' => e = .returned (.bool true) ∧ Below w.heap.size w w' := by
  induction n with
  | zero =>
    intro v v' l S S' w h h' hS hS'
    obtain ⟨A, c, rfl⟩ := h.none_
    obtain ⟨A', c', rfl⟩ := h'.none_
    go_enter Tryz.func32, Tryz.ntmps32
    go_wp2
    refine wp_loop_rounds 1 ?_
    rw [rounds_succ]
    go_wp2
    go_ret
    exact ⟨rfl, Below.refl _ _⟩
  | succ n ih =>
    intro v v' l S S' w h h' hS hS'
    obtain ⟨A, c, rfl, hl, hget⟩ := h.get
    obtain ⟨A', c', rfl, _, hget'⟩ := h'.get
    have HG := Lib.hid hget
    have HG' := Lib.hid hget'
    have IH := Lib.hid ih
    clear hget hget' h h' ih
    have hne : ((l.length : Int) != (l.length : Int)) = false := by simp
    go_enter Tryz.func32, Tryz.ntmps32
    go_wp2
    go_loopw [5] (fun i wr => ∃ k : Nat, i = .int .i64 k ∧ k ≤ l.length ∧ Below w.heap.size w wr) (fun i _ => l.length - (intOf i).toNat)
    case atStart => exact ⟨0, rfl, Nat.zero_le _, Below.refl _ _⟩
    case round =>
      obtain ⟨k, rfl, hk, hbw⟩ := hrel
      have hws := hbw.size
      by_cases hlt : k < l.length
      · obtain ⟨ad, vk, hA, hkids, htx, hds, htl, hki, hbl, c0, c1, c2, c3, c4⟩ := HG.out k hlt
        obtain ⟨ad', vk', hA', hkids', _, _, _, _, hbl', c0', c1', c2', c3', c4'⟩ := HG'.out k hlt
        subst hA
        subst hA'
        obtain ⟨A3, m3, c3x, rfl⟩ := hkids.shape
        obtain ⟨A5, m5, c5x, rfl⟩ := hkids'.shape
        have hb1 := hS _ hbl
        have hb2 := hS' _ hbl'
        have q : ∀ (a : Addr) (k j : Nat), a.block < w.heap.size → wr.cell? ⟨(a.add k).block, j, none⟩ = w.cell? ⟨(a.add k).block, j, none⟩ := fun a k j ha => hbw.cell (by rw [block_of_add]; exact ha)
        have d0 := (hbw.cell (p := ad.add (k * 5)) (by rw [block_of_add]; exact hb1)).trans c0
        have d1 := (q ad (k * 5) _ hb1).trans c1
        have d2 := (q ad (k * 5) _ hb1).trans c2
        have d3 := (q ad (k * 5) _ hb1).trans c3
        have d4 := (q ad (k * 5) _ hb1).trans c4
        clear c0 c1 c2 c3 c4
        have q' : ∀ (o : Obj) (a : Addr) (k j : Nat), a.block < w.heap.size → (wr.alloc o).cell? ⟨(a.add k).block, j, none⟩ = w.cell? ⟨(a.add k).block, j, none⟩ := fun o a k j ha => (World.cell?_alloc_lt wr o _ (by simp [block_of_add]; omega)).trans (q a k j ha)
        have e0 := fun o : Obj => ((World.cell?_alloc_lt wr o (ad'.add (k * 5)) (by rw [block_of_add]; omega)).trans (hbw.cell (p := ad'.add (k * 5)) (by rw [block_of_add]; exact hb2))).trans c0'
        have e1 := fun o : Obj => (q' o ad' (k * 5) _ hb2).trans c1'
        have e2 := fun o : Obj => (q' o ad' (k * 5) _ hb2).trans c2'
        have e3 := fun o : Obj => (q' o ad' (k * 5) _ hb2).trans c3'
        have e4 := fun o : Obj => (q' o ad' (k * 5) _ hb2).trans c4'
        clear c0' c1' c2' c3' c4' q q'
        have HK := Lib.hid hkids; have HK' := Lib.hid hkids'
        clear hkids hkids'
        have hold : ∀ (o o' : Obj) (b : Nat), b < w.heap.size → ((wr.alloc o).alloc o').heap[b]? = w.heap[b]? := fun o o' b hb => (Below.heap_alloc _ _ _ (by simp; omega)).trans ((Below.heap_alloc _ _ _ (by omega)).trans (hbw.block b hb))
        have HOLD := Lib.hid hold
        clear hold
        go_wp2_with fail
        refine (IH.out _ _ (InlD.kids l[k]) S S' _ (by exact InlsAt.keep (fun b hb => HOLD.out _ _ b (hS b hb)) n HK.out) (by exact InlsAt.keep (fun b hb => HOLD.out _ _ b (hS' b hb)) n HK'.out) (by intro b hb; have := hS b hb; simp; omega) (by intro b hb; have := hS' b hb; simp; omega)).mono ?_
        rintro e w2 ⟨rfl, hb2'⟩
        go_wp2
        go_roundw
        case rel => exact ⟨k + 1, by go_num, by omega, ((hbw.alloc hws _).alloc (by simp; omega) _).trans (hb2'.mono (by simp; omega))⟩
        case measure => simp [intOf]; omega
      · go_wp2
        go_ret
        exact ⟨rfl, hbw⟩
end Go.Proofs.YtibaoocklempnaaGreatDoor
