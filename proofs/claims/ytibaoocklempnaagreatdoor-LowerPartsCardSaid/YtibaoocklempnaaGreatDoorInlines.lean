/- lower's writer: inlines, one behind the other, of any depth; lower.Inlines. -/
import Derived.Test.YtibaoocklempnaaGreatDoorIAny
namespace Go.Proofs.YtibaoocklempnaaGreatDoor
open Go.RowKit

def InlsW (w : World) (n : Nat) (l : List (IT (n + 1))) (acc : List UInt8) (B b : Nat) (i : Value) (wr : World) : Prop :=
  ∃ k : Nat, i = .int .i64 k ∧ k ≤ l.length ∧ Bld 83 B b (acc ++ inlOut (n + 1) (l.take k)) wr ∧ Below B w wr ∧ Kept b w wr
theorem rowInl_split {K : Type} (f p : K → List UInt8) (l : List (InlD K)) (k : Nat) : rowInl f p l = rowInl f p (l.take k) ++ rowInl f p (l.drop k) := by
  unfold rowInl
  rw [← List.flatten_append, ← List.map_append, List.take_append_drop]
theorem inlOut_split (n : Nat) (l : List (IT (n + 1))) (k : Nat) (hk : k < l.length) : (inlOut (n + 1) (l.take k)).length + (inl1 (inlOut n) (plainOut n) l[k]).length ≤ (inlOut (n + 1) l).length := by
  have h1 := inlOut_take n l k hk
  have h2 : inlOut (n + 1) l = inlOut (n + 1) (l.take (k + 1)) ++ inlOut (n + 1) (l.drop (k + 1)) := by
    show rowInl (K := List (IT n)) (inlOut n) (plainOut n) l = rowInl (K := List (IT n)) (inlOut n) (plainOut n) (List.take (k + 1) l) ++ rowInl (K := List (IT n)) (inlOut n) (plainOut n) (List.drop (k + 1) l)
    exact rowInl_split (K := List (IT n)) (inlOut n) (plainOut n) l (k + 1)
  rw [h2, h1, List.length_append, List.length_append]
  omega

set_option maxHeartbeats 4000000 in
set_option maxRecDepth 100000 in
theorem inlines_any (n : Nat) : ∀ (v : Value) (l : List (IT n)) (S : Nat → Prop) (w : World) (B b : Nat) (acc : List UInt8), InlsAt n w S v l → (∀ k, S k → k < B) → Bld 83 B b acc w → iwt n l ≤ 1000000 → acc.length + (inlOut n l).length ≤ 1000000000000 →
    Calls Tryz.prog 64 #[.pointer (some ⟨b, 0, none⟩), v] w (WrR w B b (acc ++ inlOut n l)) := by
  induction n with
  | zero =>
    intro v l S w B b acc h hS hB hw hlen
    obtain ⟨A, c, rfl⟩ := h.none_
    have HB := Lib.hid hB
    clear hB
    go_enter Tryz.func64, Tryz.ntmps64
    go_wp2
    refine wp_loop_rounds 1 ?_
    rw [rounds_succ]
    go_wp2
    go_end0
    exact ⟨rfl, by simpa [inlOut] using HB.out, Below.refl _ _, Kept.refl _ _⟩
  | succ n ih =>
    intro v l S w B b acc h hS hB hw hlen
    have hBw : B ≤ w.heap.size := Nat.le_trans hB.le (Nat.le_of_lt hB.lt)
    have hlw := iwt_len n l
    obtain ⟨A, c, rfl, hl, hget⟩ := h.get
    have HG := Lib.hid hget
    have IH := Lib.hid ih
    have HS := Lib.hid hS
    have HB := Lib.hid hB
    clear hget h ih hS hB
    go_enter Tryz.func64, Tryz.ntmps64
    go_wp2_with fail
    go_loopw [8] (fun i wr => InlsW w n l acc B b i wr) (fun i _ => l.length - (intOf i).toNat)
    case atStart => exact ⟨0, rfl, Nat.zero_le _, by rw [show inlOut (n + 1) (List.take 0 l) = [] from rfl, List.append_nil]; exact HB.out, Below.refl _ _, Kept.refl _ _⟩
    case round =>
      obtain ⟨k, rfl, hk, hbd, hbw, hkp⟩ := hrel
      have hws := hbw.size
      by_cases hlt : k < l.length
      · obtain ⟨ad, vk, hA, hkids, htx, hds, htl, hki, hbl, c0, c1, c2, c3, c4⟩ := HG.out k hlt
        subst hA
        obtain ⟨A3, m3, c3x, rfl⟩ := hkids.shape
        have hbl2 := HS.out _ hbl
        have q : ∀ j : Nat, wr.cell? ⟨(ad.add (k * 5)).block, j, none⟩ = w.cell? ⟨(ad.add (k * 5)).block, j, none⟩ := fun j => hbw.cell (by rw [block_of_add]; exact hbl2)
        have d0 := (hbw.cell (p := ad.add (k * 5)) (by rw [block_of_add]; exact hbl2)).trans c0
        have d1 := (q _).trans c1
        have d2 := (q _).trans c2
        have d3 := (q _).trans c3
        have d4 := (q _).trans c4
        have hup := iwt_upto n l k hlt
        have hpk := plainOut_le n (InlD.kids l[k])
        have htk := inlOut_take n l k hlt
        have hsp := inlOut_split n l k hlt
        have hk1 : inl1 (inlOut n) (plainOut n) l[k] = inlK (InlD.kind l[k]) (InlD.text l[k]) (InlD.dest l[k]) (InlD.title l[k]) (inlOut n (InlD.kids l[k])) (plainOut n (InlD.kids l[k])) := rfl
        rw [hk1] at htk hsp
        have hbl1 : ∀ o : Obj, Below B w (wr.alloc o) := fun o => hbw.alloc (by omega) o
        have hkc : ∀ o : Obj, KidC (.slice A3 m3 c3x) (inlOut n (InlD.kids l[k])) (wr.alloc o) B b := fun o w' acc' h1 h2 h3 =>
          IH.out _ (InlD.kids l[k]) S w' B b acc' (InlsAt.keep (fun j hj => ((hbl1 o).trans h2).block j (HS.out j hj)) n hkids) HS.out h1 (by omega) h3
        have hpc : ∀ o : Obj, PlC (.slice A3 m3 c3x) (plainOut n (InlD.kids l[k])) (wr.alloc o) B := fun o w' h2 =>
          plain_any n _ (InlD.kids l[k]) S w' (InlsAt.keep (fun j hj => ((hbl1 o).trans h2).block j (HS.out j hj)) n hkids) (fun j hj => by have := HS.out j hj; have := ((hbl1 o).trans h2).size; omega) (by omega)
        have HKC := Lib.hid hkc
        have HPC := Lib.hid hpc
        have HBD := Lib.hid hbd
        have HTK := Lib.hid htk
        have HSP := Lib.hid hsp
        have HLEN := Lib.hid hlen
        have e1 : (InlD.text l[k]).size ≤ 10000000 := by omega
        have e2 : (InlD.dest l[k]).size ≤ 10000000 := by omega
        have e3 : (InlD.title l[k]).size ≤ 10000000 := by omega
        have e4 : (plainOut n (InlD.kids l[k])).length ≤ 10000000 := by omega
        have HE4 := Lib.hid e4
        clear hk1 hkids hbd htk hsp hkc hpc hbl1 c0 c1 c2 c3 c4 q hup hpk e4
        go_wp2_with fail
        refine Calls.mono (inline_any B b _ (inlOut n (InlD.kids l[k])) (plainOut n (InlD.kids l[k])) _ _ _ _ A3 m3 c3x _ (HBD.out.alloc _) (HKC.out _) (HPC.out _) e1 e2 e3 HE4.out (by have := HSP.out; have := HLEN.out; rw [List.length_append]; omega)) ?_
        rintro e w1 ⟨rfl, h1, b1, k1⟩
        have H1 := Lib.hid h1
        have HB1 := Lib.hid b1
        have HK1 := Lib.hid k1
        clear h1 b1 k1
        go_wp2
        go_roundw
        case rel => exact ⟨k + 1, by go_num, hlt, by rw [HTK.out, ← List.append_assoc]; exact H1.out, (hbw.alloc (by omega) _).trans HB1.out, (hkp.alloc _).trans HK1.out⟩
        case measure => simp [intOf]; omega
      · obtain rfl : k = l.length := by omega
        rw [List.take_of_length_le (Nat.le_refl _)] at hbd
        go_wp2
        go_end0
        exact ⟨rfl, hbd, hbw, hkp⟩
end Go.Proofs.YtibaoocklempnaaGreatDoor
