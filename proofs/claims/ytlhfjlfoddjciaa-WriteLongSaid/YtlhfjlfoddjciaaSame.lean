/- Are nodes alike: of one thing, twice, yes. -/
import Derived.Test.YtlhfjlfoddjciaaLent
namespace Go.Proofs.Ytlhfjlfoddjciaa
open Go.RowKit

set_option maxHeartbeats 2000000 in
set_option maxRecDepth 100000 in
theorem same_attrs (v v' : Value) (l : List AttrD) (S S' : Nat → Prop) (w : World) (h : AttrsAt w S v l) (h' : AttrsAt w S' v' l) :
    Calls Try.prog 21 #[v, v'] w fun e w' => e = .returned (.bool true) ∧ ∃ d, w' = w.drewN d := by
  obtain ⟨A, c, rfl, hl, hget⟩ := h.get
  obtain ⟨A', c', rfl, _, hget'⟩ := h'.get
  have HG := Lib.hid hget
  have HG' := Lib.hid hget'
  clear hget hget' h h'
  have hne : ((l.length : Int) != (l.length : Int)) = false := by simp
  go_enter Try.func21, Try.ntmps21
  go_wp2
  go_loopw [5] (fun i wr => ∃ k : Nat, i = .int .i64 k ∧ k ≤ l.length ∧ ∃ d, wr = w.drewN d) (fun i _ => l.length - (intOf i).toNat)
  case atStart => exact ⟨0, rfl, Nat.zero_le _, 0, rfl⟩
  case round =>
    obtain ⟨k, rfl, hk, d, rfl⟩ := hrel
    by_cases hlt : k < l.length
    · obtain ⟨ad, hA, hn, hv, _, c0, c1⟩ := HG.out k hlt
      obtain ⟨ad', hA', _, _, _, c0', c1'⟩ := HG'.out k hlt
      subst hA
      subst hA'
      go_wp2
      go_quiet (fail)
      go_wp2
      go_roundw
      case rel => exact ⟨k + 1, by go_num, by omega, _, rfl⟩
      case measure => simp [intOf]; omega
    · go_wp2
      go_ret
      exact ⟨rfl, _, rfl⟩

def Yes (w : World) (e : Ending) (w' : World) : Prop := e = .returned (.bool true) ∧ Below w.heap.size w w'

set_option maxHeartbeats 4000000 in
set_option maxRecDepth 100000 in
theorem same_nodes (n : Nat) : ∀ (v v' : Value) (l : List (NT n)) (S S' : Nat → Prop) (w : World), NodesAt n w S v l → NodesAt n w S' v' l → (∀ k, S k → k < w.heap.size) → (∀ k, S' k → k < w.heap.size) →
    Calls Try.prog 12 #[v, v'] w (Yes w) := by
  induction n with
  | zero =>
    intro v v' l S S' w h h' hS hS'
    obtain ⟨A, c, rfl⟩ := h.none_
    obtain ⟨A', c', rfl⟩ := h'.none_
    go_enter Try.func12, Try.ntmps12
    go_wp2
    refine wp_loop_rounds 1 ?_
    rw [rounds_succ]
    go_wp2
    go_ret
    exact ⟨rfl, Below.refl _ _⟩
  | succ n ih =>
    intro v v' l S S' w h h' hS hS'
    obtain ⟨A, c, rfl, hl, hget⟩ := h.get
    obtain ⟨A', c', rfl, _, hget'⟩ := h'.get
    have HG := Lib.hid hget
    have HG' := Lib.hid hget'
    have IH := Lib.hid ih
    clear hget hget' h h' ih
    have hne : ((l.length : Int) != (l.length : Int)) = false := by simp
    go_enter Try.func12, Try.ntmps12
    go_wp2
    go_loopw [5] (fun i wr => ∃ k : Nat, i = .int .i64 k ∧ k ≤ l.length ∧ Below w.heap.size w wr) (fun i _ => l.length - (intOf i).toNat)
    case atStart => exact ⟨0, rfl, Nat.zero_le _, Below.refl _ _⟩
    case round =>
      obtain ⟨k, rfl, hk, hbw⟩ := hrel
      have hws := hbw.size
      by_cases hlt : k < l.length
      · obtain ⟨ad, va, vk, hA, hatt, hkids, hnm, htx, hki, hsp, hbl, c0, c1, c2, c3, c4, c5⟩ := HG.out k hlt
        obtain ⟨ad', va', vk', hA', hatt', hkids', _, _, _, _, hbl', c0', c1', c2', c3', c4', c5'⟩ := HG'.out k hlt
        subst hA
        subst hA'
        obtain ⟨A2, m2, c2x, rfl⟩ := hatt.shape
        obtain ⟨A3, m3, c3x, rfl⟩ := hkids.shape
        obtain ⟨A4, m4, c4x, rfl⟩ := hatt'.shape
        obtain ⟨A5, m5, c5x, rfl⟩ := hkids'.shape
        have hb1 := hS _ hbl
        have hb2 := hS' _ hbl'
        have q : ∀ (a : Addr) (k j : Nat), a.block < w.heap.size → wr.cell? ⟨(a.add k).block, j, none⟩ = w.cell? ⟨(a.add k).block, j, none⟩ := fun a k j ha => hbw.cell (by rw [block_of_add]; exact ha)
        have d0 := (hbw.cell (p := ad.add (k * 6)) (by rw [block_of_add]; exact hb1)).trans c0
        have d1 := (q ad (k * 6) _ hb1).trans c1
        have d2 := (q ad (k * 6) _ hb1).trans c2
        have d3 := (q ad (k * 6) _ hb1).trans c3
        have d4 := (q ad (k * 6) _ hb1).trans c4
        have d5 := (q ad (k * 6) _ hb1).trans c5
        clear c0 c1 c2 c3 c4 c5
        have q' : ∀ (o : Obj) (a : Addr) (k j : Nat), a.block < w.heap.size → (wr.alloc o).cell? ⟨(a.add k).block, j, none⟩ = w.cell? ⟨(a.add k).block, j, none⟩ := fun o a k j ha => (World.cell?_alloc_lt wr o _ (by simp [block_of_add]; omega)).trans (q a k j ha)
        have e0 := fun o : Obj => ((World.cell?_alloc_lt wr o (ad'.add (k * 6)) (by rw [block_of_add]; omega)).trans (hbw.cell (p := ad'.add (k * 6)) (by rw [block_of_add]; exact hb2))).trans c0'
        have e1 := fun o : Obj => (q' o ad' (k * 6) _ hb2).trans c1'
        have e2 := fun o : Obj => (q' o ad' (k * 6) _ hb2).trans c2'
        have e3 := fun o : Obj => (q' o ad' (k * 6) _ hb2).trans c3'
        have e4 := fun o : Obj => (q' o ad' (k * 6) _ hb2).trans c4'
        have e5 := fun o : Obj => (q' o ad' (k * 6) _ hb2).trans c5'
        clear c0' c1' c2' c3' c4' c5' q q'
        have HAT := Lib.hid hatt; have HK := Lib.hid hkids; have HAT' := Lib.hid hatt'; have HK' := Lib.hid hkids'
        clear hatt hkids hatt' hkids'
        have hold : ∀ (o o' : Obj) (b : Nat), b < w.heap.size → ((wr.alloc o).alloc o').heap[b]? = w.heap[b]? := fun o o' b hb => (Below.heap_alloc _ _ _ (by simp; omega)).trans ((Below.heap_alloc _ _ _ (by omega)).trans (hbw.block b hb))
        have HOLD := Lib.hid hold
        clear hold
        go_wp2_with fail
        refine (same_attrs _ _ (NodeD.attrs l[k]) S S' _ (by exact HAT.out.keep fun b hb => HOLD.out _ _ b (hS b hb)) (by exact HAT'.out.keep fun b hb => HOLD.out _ _ b (hS' b hb))).mono ?_
        rintro e w1 ⟨rfl, d, rfl⟩
        go_wp2_with fail
        refine (IH.out _ _ (NodeD.kids l[k]) S S' _ (by exact NodesAt.drewN (NodesAt.keep (fun b hb => HOLD.out _ _ b (hS b hb)) n HK.out) d) (by exact NodesAt.drewN (NodesAt.keep (fun b hb => HOLD.out _ _ b (hS' b hb)) n HK'.out) d) (by intro b hb; have := hS b hb; simp; omega) (by intro b hb; have := hS' b hb; simp; omega)).mono ?_
        rintro e w2 ⟨rfl, hb2'⟩
        go_wp2
        go_roundw
        case rel => exact ⟨k + 1, by go_num, by omega, (((hbw.alloc hws _).alloc (by simp; omega) _).trans (below_drewN (Below.refl _ _) d)).trans (hb2'.mono (by simp; omega))⟩
        case measure => simp [intOf]; omega
      · go_wp2
        go_ret
        exact ⟨rfl, hbw⟩
end Go.Proofs.Ytlhfjlfoddjciaa
