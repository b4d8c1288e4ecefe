/- slices.ContainsFunc at attributes, and at nodes. (*clean.keeper).bare: an element with the attributes that stay. What the recursion over a tree promises; (*clean.keeper).inner. A round over nodes, in the words of memory. -/
import Derived.Test.YtdkjenbncmedbaaGreatDoorClnM
import Derived.Test.YtdkjenbncmedbaaGreatDoorClnX
import Derived.Test.YtdkjenbncmedbaaGreatDoorBase
namespace Go.Proofs.YtdkjenbncmedbaaGreatDoor
open Go.RowKit

def attrV (x : AttrD) : Value := .agg #[.string x.name, .string x.value]
def FirstR (w : World) (b : Bool) (e : Ending) (w' : World) : Prop := ∃ z : Int, e = .returned (.int .i64 z) ∧ decide (0 ≤ z) = b ∧ Below w.heap.size w w'
theorem any_take {α : Type} (P : α → Bool) (l : List α) (k : Nat) (hk : k < l.length) : (l.take (k + 1)).any P = ((l.take k).any P || P l[k]) := by
  rw [List.take_succ_eq_append_getElem hk, List.any_append]
  simp
theorem any_yes {α : Type} (P : α → Bool) (l : List α) (k : Nat) (hk : k < l.length) (h : P l[k] = true) : l.any P = true := List.any_eq_true.2 ⟨_, List.getElem_mem hk, h⟩
set_option maxHeartbeats 2000000 in
set_option maxRecDepth 100000 in
theorem first_name (l : List AttrD) (P : AttrD → Bool) (v : Value) (g : Nat) (S : Nat → Prop) (w : World) (hv : AttrsAt w S v l) (hS : ∀ k, S k → k < w.heap.size)
    (hm : ∀ x ∈ l, ∀ w', Below w.heap.size w w' → Calls Tryz.prog 94 #[.agg #[.string x.name, .string x.value], .pointer (some ⟨g, 0, none⟩)] w' (BoolR w' (P x))) : Calls Tryz.prog 72 #[v, .func (.func 94) #[] #[.pointer (some ⟨g, 0, none⟩)]] w (FirstR w (l.any P)) := by
  obtain ⟨A, c, rfl, hl, hk⟩ := hv.get
  have HK := Lib.hid hk; have HM := Lib.hid hm; have HS := Lib.hid hS
  clear hk hv hm hS
  go_enter Tryz.func72, Tryz.ntmps72
  go_wp2_with fail
  go_loopw [8] (fun v wr => ∃ k : Nat, v = .int .i64 k ∧ k ≤ l.length ∧ (l.take k).any P = false ∧ Below w.heap.size w wr) (fun v _ => l.length - (intOf v).toNat)
  case atStart => exact ⟨0, rfl, Nat.zero_le _, rfl, Below.refl _ _⟩
  case round =>
    obtain ⟨k, rfl, hk, hu, hb⟩ := hrel
    have HU := Lib.hid hu; have HB := Lib.hid hb
    clear hu hb
    by_cases hlt : k < l.length
    · have hki : (k : Int) < (l.length : Int) := by omega
      obtain ⟨ad, hA, _, _, hbl, c0, c1⟩ := HK.out k hlt
      subst hA
      have hbw := HS.out _ hbl
      have d0 := (HB.out.cell (p := ad.add (k * 2)) (by rw [block_of_add]; exact hbw)).trans c0
      have d1 := (HB.out.cell (p := ⟨(ad.add (k * 2)).block, (ad.add (k * 2)).off + 1, none⟩) (by show (ad.add (k * 2)).block < _; rw [block_of_add]; exact hbw)).trans c1
      clear c0 c1
      have ht := any_take P l k hlt
      rw [HU.out, Bool.false_or] at ht
      have HY := Lib.hid (any_yes P l k hlt)
      have HMx := Lib.hid (HM.out l[k] (List.getElem_mem hlt))
      obtain ⟨x, hx⟩ : ∃ x, l[k] = x := ⟨_, rfl⟩
      rw [hx] at ht HY HMx d0 d1
      clear hx
      obtain ⟨b, hPb⟩ : ∃ b, P x = b := ⟨_, rfl⟩
      rw [hPb] at ht HY HMx
      clear hPb
      have HT := Lib.hid ht
      clear ht
      go_wp2_with fail
      refine Calls.mono (HMx.out _ HB.out) ?_
      rintro e w1 ⟨rfl, b1⟩
      have HB1 := Lib.hid (HB.out.trans (b1.mono HB.out.size))
      clear b1
      cases b with
      | true =>
        go_wp2
        go_ret
        exact ⟨_, rfl, by rw [HY.out (by first | exact trivial | rfl)]; simp, HB1.out⟩
      | false =>
        go_wp2
        go_roundw
        case rel => exact ⟨k + 1, by go_num, hlt, HT.out, HB1.out⟩
        case measure => simp [intOf]; omega
    · obtain rfl : k = l.length := by omega
      have hv := HU.out
      rw [List.take_length] at hv
      have HV := Lib.hid hv
      clear hv HU
      go_wp2
      go_ret
      exact ⟨_, rfl, by rw [HV.out]; decide, HB.out⟩
set_option maxHeartbeats 2000000 in
set_option maxRecDepth 100000 in
theorem contains_name (l : List AttrD) (P : AttrD → Bool) (v : Value) (g : Nat) (S : Nat → Prop) (w : World) (hv : AttrsAt w S v l) (hS : ∀ k, S k → k < w.heap.size)
    (hm : ∀ x ∈ l, ∀ w', Below w.heap.size w w' → Calls Tryz.prog 94 #[.agg #[.string x.name, .string x.value], .pointer (some ⟨g, 0, none⟩)] w' (BoolR w' (P x))) : Calls Tryz.prog 47 #[v, .func (.func 94) #[] #[.pointer (some ⟨g, 0, none⟩)]] w (BoolR w (l.any P)) := by
  have HI := Lib.hid (first_name l P v g S w hv hS hm)
  obtain ⟨A, c, rfl, _, _⟩ := hv.get
  clear hv hm hS
  go_enter Tryz.func47, Tryz.ntmps47
  go_wp2_with fail
  refine Calls.mono HI.out ?_
  rintro e w1 ⟨z, rfl, hz, b1⟩
  have HZ := Lib.hid hz; have HB1 := Lib.hid b1
  clear hz b1
  go_wp2
  go_ret
  exact ⟨by rw [← HZ.out]; rfl, HB1.out⟩
set_option maxHeartbeats 2000000 in
set_option maxRecDepth 100000 in
theorem first_lost (l : List AttrD) (P : AttrD → Bool) (v : Value) (g g2 : Nat) (S : Nat → Prop) (w : World) (hv : AttrsAt w S v l) (hS : ∀ k, S k → k < w.heap.size)
    (hm : ∀ x ∈ l, ∀ w', Below w.heap.size w w' → Calls Tryz.prog 46 #[.agg #[.string x.name, .string x.value], .pointer (some ⟨g, 0, none⟩), .pointer (some ⟨g2, 0, none⟩)] w' (BoolR w' (P x))) : Calls Tryz.prog 72 #[v, .func (.func 46) #[] #[.pointer (some ⟨g, 0, none⟩), .pointer (some ⟨g2, 0, none⟩)]] w (FirstR w (l.any P)) := by
  obtain ⟨A, c, rfl, hl, hk⟩ := hv.get
  have HK := Lib.hid hk; have HM := Lib.hid hm; have HS := Lib.hid hS
  clear hk hv hm hS
  go_enter Tryz.func72, Tryz.ntmps72
  go_wp2_with fail
  go_loopw [8] (fun v wr => ∃ k : Nat, v = .int .i64 k ∧ k ≤ l.length ∧ (l.take k).any P = false ∧ Below w.heap.size w wr) (fun v _ => l.length - (intOf v).toNat)
  case atStart => exact ⟨0, rfl, Nat.zero_le _, rfl, Below.refl _ _⟩
  case round =>
    obtain ⟨k, rfl, hk, hu, hb⟩ := hrel
    have HU := Lib.hid hu; have HB := Lib.hid hb
    clear hu hb
    by_cases hlt : k < l.length
    · have hki : (k : Int) < (l.length : Int) := by omega
      obtain ⟨ad, hA, _, _, hbl, c0, c1⟩ := HK.out k hlt
      subst hA
      have hbw := HS.out _ hbl
      have d0 := (HB.out.cell (p := ad.add (k * 2)) (by rw [block_of_add]; exact hbw)).trans c0
      have d1 := (HB.out.cell (p := ⟨(ad.add (k * 2)).block, (ad.add (k * 2)).off + 1, none⟩) (by show (ad.add (k * 2)).block < _; rw [block_of_add]; exact hbw)).trans c1
      clear c0 c1
      have ht := any_take P l k hlt
      rw [HU.out, Bool.false_or] at ht
      have HY := Lib.hid (any_yes P l k hlt)
      have HMx := Lib.hid (HM.out l[k] (List.getElem_mem hlt))
      obtain ⟨x, hx⟩ : ∃ x, l[k] = x := ⟨_, rfl⟩
      rw [hx] at ht HY HMx d0 d1
      clear hx
      obtain ⟨b, hPb⟩ : ∃ b, P x = b := ⟨_, rfl⟩
      rw [hPb] at ht HY HMx
      clear hPb
      have HT := Lib.hid ht
      clear ht
      go_wp2_with fail
      refine Calls.mono (HMx.out _ HB.out) ?_
      rintro e w1 ⟨rfl, b1⟩
      have HB1 := Lib.hid (HB.out.trans (b1.mono HB.out.size))
      clear b1
      cases b with
      | true =>
        go_wp2
        go_ret
        exact ⟨_, rfl, by rw [HY.out (by first | exact trivial | rfl)]; simp, HB1.out⟩
      | false =>
        go_wp2
        go_roundw
        case rel => exact ⟨k + 1, by go_num, hlt, HT.out, HB1.out⟩
        case measure => simp [intOf]; omega
    · obtain rfl : k = l.length := by omega
      have hv := HU.out
      rw [List.take_length] at hv
      have HV := Lib.hid hv
      clear hv HU
      go_wp2
      go_ret
      exact ⟨_, rfl, by rw [HV.out]; decide, HB.out⟩
set_option maxHeartbeats 2000000 in
set_option maxRecDepth 100000 in
theorem contains_lost (l : List AttrD) (P : AttrD → Bool) (v : Value) (g g2 : Nat) (S : Nat → Prop) (w : World) (hv : AttrsAt w S v l) (hS : ∀ k, S k → k < w.heap.size)
    (hm : ∀ x ∈ l, ∀ w', Below w.heap.size w w' → Calls Tryz.prog 46 #[.agg #[.string x.name, .string x.value], .pointer (some ⟨g, 0, none⟩), .pointer (some ⟨g2, 0, none⟩)] w' (BoolR w' (P x))) : Calls Tryz.prog 47 #[v, .func (.func 46) #[] #[.pointer (some ⟨g, 0, none⟩), .pointer (some ⟨g2, 0, none⟩)]] w (BoolR w (l.any P)) := by
  have HI := Lib.hid (first_lost l P v g g2 S w hv hS hm)
  obtain ⟨A, c, rfl, _, _⟩ := hv.get
  clear hv hm hS
  go_enter Tryz.func47, Tryz.ntmps47
  go_wp2_with fail
  refine Calls.mono HI.out ?_
  rintro e w1 ⟨z, rfl, hz, b1⟩
  have HZ := Lib.hid hz; have HB1 := Lib.hid b1
  clear hz b1
  go_wp2
  go_ret
  exact ⟨by rw [← HZ.out]; rfl, HB1.out⟩
set_option maxHeartbeats 2000000 in
set_option maxRecDepth 100000 in
/-- Is a name another one? -/
theorem same_name (x : AttrD) (nm : ByteArray) (g : Nat) (w : World) (hg : w.cell? ⟨g, 0, none⟩ = some (.string nm)) (hlt : g < w.heap.size) : Calls Tryz.prog 94 #[.agg #[.string x.name, .string x.value], .pointer (some ⟨g, 0, none⟩)] w (BoolR w (isT x.name nm)) := by
  have hc := fun o => (World.cell?_alloc_lt w o ⟨g, 0, none⟩ hlt).trans hg
  go_enter Tryz.func94, Tryz.ntmps94
  go_wp2
  go_ret
  exact ⟨rfl, (Below.refl _ _).alloc (Nat.le_refl _) _⟩

theorem infoR : (Tryz.prog.info? 27).map (fun i => (i.zero, i.size, i.bytes)) = some (some (.agg #[.string ⟨#[]⟩, .string ⟨#[]⟩]), 2, 32) := by kernel_rfl
def bareV (nm : ByteArray) (v : Value) : Array Value := #[.int .u8 1, .int .u8 0, .string nm, v, .string ⟨#[]⟩, .slice none 0 0]
def BareR (w : World) (nm : ByteArray) (l : List AttrD) (e : Ending) (w' : World) : Prop := ∃ v', e = .returned (.agg (bareV nm v')) ∧ AttrsAt w' (New w w') v' l ∧ Below w.heap.size w w'
def Fits (l : List AttrD) : Prop := ∀ x ∈ l, x.name.size ≤ 9223372036854775807 ∧ x.value.size ≤ 100000000
def BareW (W0 : World) (nb : Nat) (nm : ByteArray) (L : Nat → List AttrD) (n : Nat) (i : Value) (wr : World) : Prop :=
  ∃ (k : Nat) (v : Value), i = .int .i64 k ∧ k ≤ n ∧ wr.heap[nb]? = some (.cells (bareV nm v) 48 (0, 0)) ∧ wr.ownsRow (nb + 1) 27 2 v (L k).length ((L k).map attrCells).flatten ∧ (L k).length ≤ k ∧ Fits (L k) ∧ Beside nb (nb + 1) W0 wr
theorem own_attrs {base : Nat} {w : World} {v : Value} {l : List AttrD} (h : w.ownsRow base 27 2 v l.length (l.map attrCells).flatten) (hf : Fits l) (hl : l.length ≤ 1000000) : AttrsAt w (fun k => base ≤ k ∧ k < w.heap.size) v l := by
  refine Row.of_own (l.map attrCells) h (fun k hk => ⟨(h.lt k hk).1, (h.lt k hk).2⟩) (by omega) (attr_two l) (by simp) ?_
  intro i cs x hc hx
  have hi' := (List.getElem?_eq_some_iff.1 hx).1
  simp [hx] at hc
  have hm : x ∈ l := List.mem_of_getElem? hx
  exact ⟨hc.symm, (hf x hm).1, by have := (hf x hm).2; omega⟩
theorem bareStep_no {E : List ByteArray} {A : Prs} {S : List ByteArray} {el : ByteArray} {out : List AttrD} {a : AttrD} (h : (!(out.any fun x => isT x.name a.name) && keepsB E A S el a.name a.value) = false) : bareStep E A S el out a = out := by
  unfold bareStep
  rw [h]
  rfl
theorem bareStep_yes {E : List ByteArray} {A : Prs} {S : List ByteArray} {el : ByteArray} {out : List AttrD} {a : AttrD} (h : (!(out.any fun x => isT x.name a.name) && keepsB E A S el a.name a.value) = true) : bareStep E A S el out a = out ++ [⟨a.name, ⟨(nlL a.value.data.toList).toArray⟩⟩] := by
  unfold bareStep
  rw [if_pos h]
theorem s_seven {a b c d e f g : Prop} (s : a ∧ b ∧ c ∧ d ∧ e ∧ f ∧ g) : g := s.2.2.2.2.2.2
theorem six_end {w W : World} {n : Nat} {u0 u1 u2 u3 u4 u5 a b c d e f : Value} (h : w.heap[n]? = some (.cells #[u0, u1, u2, u3, u4, u5] 48 (0, 0))) (hW : (((((w.setCell ⟨n, 0, none⟩ a).setCell ⟨n, 1, none⟩ b).setCell ⟨n, 2, none⟩ c).setCell ⟨n, 3, none⟩ d).setCell ⟨n, 4, none⟩ e).setCell ⟨n, 5, none⟩ f = W) :
    W.heap[n]? = some (.cells #[a, b, c, d, e, f] 48 (0, 0)) ∧ Below n w W ∧ W.heap.size = w.heap.size ∧ ∀ j, j ≠ n → W.heap[j]? = w.heap[j]? := by
  subst hW
  have h1 := Joins.block_setCell h (i := 0) a
  have h2 := Joins.block_setCell h1 (i := 1) b
  have h3 := Joins.block_setCell h2 (i := 2) c
  have h4 := Joins.block_setCell h3 (i := 3) d
  have h5 := Joins.block_setCell h4 (i := 4) e
  have h6 := Joins.block_setCell h5 (i := 5) f
  refine ⟨h6, ((((((Below.refl n w).setCell (p := ⟨n, 0, none⟩) (Nat.le_refl n) _).setCell (p := ⟨n, 1, none⟩) (Nat.le_refl n) _).setCell (p := ⟨n, 2, none⟩) (Nat.le_refl n) _).setCell (p := ⟨n, 3, none⟩) (Nat.le_refl n) _).setCell (p := ⟨n, 4, none⟩) (Nat.le_refl n) _).setCell (p := ⟨n, 5, none⟩) (Nat.le_refl n) _, by simp only [size_setCell], fun j hj => ?_⟩
  rw [Below.heap_setCell _ _ _ _ hj, Below.heap_setCell _ _ _ _ hj, Below.heap_setCell _ _ _ _ hj, Below.heap_setCell _ _ _ _ hj, Below.heap_setCell _ _ _ _ hj, Below.heap_setCell _ _ _ _ hj]
/-- A round that adds none. -/
theorem bare_same {W0 wr w2 : World} {nb n k : Nat} {nm : ByteArray} {L : Nat → List AttrD} {v : Value} (hlt : k < n) (hz : nb < W0.heap.size) (hb : wr.heap[nb]? = some (.cells (bareV nm v) 48 (0, 0))) (hown : wr.ownsRow (nb + 1) 27 2 v (L k).length ((L k).map attrCells).flatten) (hl : (L k).length ≤ k) (hf : Fits (L k)) (hs : Beside nb (nb + 1) W0 wr)
    (hw : Below wr.heap.size wr w2) (hL : L (k + 1) = L k) : BareW W0 nb nm L n (.int .i64 ((k + 1 : Nat) : Int)) w2 := by
  have hzr := hs.size
  exact ⟨k + 1, v, rfl, hlt, (hw.block nb (by omega)).trans hb, by rw [hL]; exact own_later hown hw, by rw [hL]; omega, by rw [hL]; exact hf, hs.trans (Beside.of_below hw (Nat.lt_succ_self _) (by omega))⟩
/-- A round that adds one. -/
theorem bare_next {W0 wr w4 w5 : World} {nb n k : Nat} {nm : ByteArray} {L : Nat → List AttrD} {v v' : Value} {a : AttrD} (hlt : k < n) (hz : nb < W0.heap.size) (hb : wr.heap[nb]? = some (.cells (bareV nm v) 48 (0, 0))) (hown : wr.ownsRow (nb + 1) 27 2 v (L k).length ((L k).map attrCells).flatten) (hl : (L k).length ≤ k) (hf : Fits (L k)) (hs : Beside nb (nb + 1) W0 wr)
    (hw : Below wr.heap.size wr w4) (hg : w4.grownBy w5 v.ownBlock) (hown5 : w5.ownsRow (nb + 1) 27 2 v' ((L k).length + 1) (((L k).map attrCells).flatten ++ attrCells a)) (hL : L (k + 1) = L k ++ [a]) (hfa : a.name.size ≤ 9223372036854775807 ∧ a.value.size ≤ 100000000) :
    BareW W0 nb nm L n (.int .i64 ((k + 1 : Nat) : Int)) (w5.setCell ⟨nb, 3, none⟩ v') := by
  have hzr := hs.size
  have hlow := hown.lt
  have hzw := hw.size
  have hblk : ∀ j, j < wr.heap.size → v.ownBlock ≠ some j → w5.heap[j]? = wr.heap[j]? := fun j hj hne => (hg.block j (by omega) (fun e => hne e.symm)).trans (hw.block j hj)
  have hnb : v.ownBlock ≠ some nb := fun e => by have := (hlow _ e).1; omega
  have hb5 : w5.heap[nb]? = some (.cells (bareV nm v) 48 (0, 0)) := (hblk nb (by omega) hnb).trans hb
  refine ⟨k + 1, v', rfl, hlt, Joins.block_setCell hb5 (i := 3) v', ?_, by rw [hL, List.length_append]; show _ + 1 ≤ _; omega, ?_, hs.trans ⟨Below.setCell (p := ⟨nb, 3, none⟩) ?_ (Nat.le_refl nb) v', fun j hj hne => ?_⟩⟩
  · rw [hL, List.length_append, List.map_append, List.flatten_append]
    have := ownsRow_same (w' := w5.setCell ⟨nb, 3, none⟩ v') hown5 (fun g hg1 _ => Below.heap_setCell _ _ _ _ (by show g ≠ nb; omega))
    simpa using this
  · rw [hL]
    intro y hy
    rcases List.mem_append.1 hy with h | h
    · exact hf y h
    · rw [List.mem_singleton.1 h]; exact hfa
  · exact ⟨hg.os.trans hw.os, hg.tape.trans hw.tape, hg.output.trans hw.output, Nat.le_trans hw.size hg.size, fun j hj => hblk j (by omega) fun e => by have := (hlow _ e).1; omega⟩
  · rw [Below.heap_setCell _ _ _ _ hne]
    exact hblk j (by omega) fun e => by have := (hlow _ e).1; omega
set_option maxHeartbeats 8000000 in
set_option maxRecDepth 100000 in
theorem bare_any (kb : Nat) (x : Pl) (vE vA vS v : Value) (E : List ByteArray) (A : Prs) (S : List ByteArray) (kind space : Nat) (nm text : ByteArray) (va vk : Value) (l : List AttrD) (Sa : Nat → Prop) (w : World) (hk : KeepAt kb w x vE vA vS v) (hp : PolAt w (.agg #[vE, vA, vS]) E A S) (hG : Glob w)
    (ha : AttrsAt w Sa va l) (hSa : ∀ k, Sa k → k < w.heap.size) (hf : Fits l) (hl : l.length ≤ 100000) (hvk : ∃ A m c, vk = .slice A m c) :
    Calls Tryz.prog 62 #[.pointer (some ⟨kb, 0, none⟩), .agg #[.int .u8 kind, .int .u8 space, .string nm, va, .string text, vk]] w (BareR w nm (bareA E A S nm l)) := by
  obtain ⟨iR, hiR, hzR0, hzR1, hzR2⟩ := info_parts infoR
  obtain ⟨Ak, mk, ck, rfl⟩ := hvk
  obtain ⟨Aa, ca, rfl, _, hget⟩ := ha.get
  have hkb : kb < w.heap.size := (Array.getElem?_eq_some_iff.1 (show w.heap[kb]? = _ from hk)).1
  obtain ⟨W0, hW0⟩ : ∃ W0, ((w.alloc (.cells #[.int .u8 kind, .int .u8 space, .string nm, .slice Aa l.length ca, .string text, .slice Ak mk ck] 48)).alloc (.cells #[.int .u8 0, .int .u8 0, .string ⟨#[]⟩, .slice none 0 0, .string ⟨#[]⟩, .slice none 0 0] 48)).alloc (.cells #[.int .u8 1, .int .u8 0, .string nm, .slice none 0 0, .string ⟨#[]⟩, .slice none 0 0] 48) = W0 := ⟨_, rfl⟩
  have b0 : Below w.heap.size w W0 := by rw [← hW0]; exact (((Below.refl _ w).alloc (Nat.le_refl _) _).alloc (by simp) _).alloc (by simp; omega) _
  have z0 : W0.heap.size = w.heap.size + 1 + 1 + 1 := by rw [← hW0]; simp
  have n0 : W0.heap[w.heap.size]? = some (.cells #[.int .u8 kind, .int .u8 space, .string nm, .slice Aa l.length ca, .string text, .slice Ak mk ck] 48 (0, 0)) := by rw [← hW0]; exact (Below.heap_alloc _ _ _ (by simp; omega)).trans ((Below.heap_alloc _ _ _ (by simp)).trans (heap_alloc_new w _))
  have n1 : W0.heap[w.heap.size + 1]? = some (.cells #[.int .u8 0, .int .u8 0, .string ⟨#[]⟩, .slice none 0 0, .string ⟨#[]⟩, .slice none 0 0] 48 (0, 0)) := by rw [← hW0]; exact (Below.heap_alloc _ _ _ (by simp)).trans (by rw [show w.heap.size + 1 = (w.alloc (.cells #[.int .u8 kind, .int .u8 space, .string nm, .slice Aa l.length ca, .string text, .slice Ak mk ck] 48)).heap.size by simp]; exact heap_alloc_new _ _)
  have n2 : W0.heap[w.heap.size + 1 + 1]? = some (.cells (bareV nm (.slice none 0 0)) 48 (0, 0)) := by rw [← hW0, show w.heap.size + 1 + 1 = ((w.alloc (.cells #[.int .u8 kind, .int .u8 space, .string nm, .slice Aa l.length ca, .string text, .slice Ak mk ck] 48)).alloc (.cells #[.int .u8 0, .int .u8 0, .string ⟨#[]⟩, .slice none 0 0, .string ⟨#[]⟩, .slice none 0 0] 48)).heap.size by simp]; exact heap_alloc_new _ _
  obtain ⟨L, hLd⟩ : ∃ L : Nat → List AttrD, (fun k => bareA E A S nm (l.take k)) = L := ⟨_, rfl⟩
  have hLs : ∀ (k : Nat) (hk : k < l.length), L (k + 1) = bareStep E A S nm (L k) l[k] := fun k hk => by rw [← hLd]; exact bareA_take E A S nm l k hk
  have hLe : bareA E A S nm l = L l.length := by rw [← hLd]; show bareA E A S nm l = bareA E A S nm (l.take l.length); rw [List.take_length]
  have hL0 : L 0 = [] := by rw [← hLd]; rfl
  rw [hLe]
  have HLs := Lib.hid hLs
  have HG := Lib.hid hget; have HK := Lib.hid hk; have HP := Lib.hid hp; have HGl := Lib.hid hG; have HB0 := Lib.hid b0; have HW0 := Lib.hid hW0; have HS := Lib.hid hSa; have HF := Lib.hid hf
  have N0 := Lib.hid n0; have N1 := Lib.hid n1; have Z0 := Lib.hid z0
  have H0 := Lib.hid (show BareW W0 (w.heap.size + 1 + 1) nm L l.length (.int .i64 (0 : Nat)) W0 from ⟨0, _, rfl, Nat.zero_le _, n2, by rw [hL0]; exact World.ownsRow_nil _ _ _ _, by rw [hL0]; exact Nat.zero_le _, (by rw [hL0]; intro _ h; cases h), Beside.refl _ _ _⟩)
  clear hLd hLs hLe hL0 hget hk hp hG b0 hW0 ha hSa hf n0 n1 n2 z0
  go_enter Tryz.func62, Tryz.ntmps62
  go_wp2_with fail
  rw [HW0.out]
  go_loopw [15] (fun vi wr => BareW W0 (w.heap.size + 1 + 1) nm L l.length vi wr) (fun vi _ => l.length - (intOf vi).toNat)
  case atStart => exact H0.out
  case round =>
    obtain ⟨k, vO, rfl, hk, hob, hown, hlk, hfk, hbs⟩ := hrel
    have HBs := Lib.hid hbs; have HOb := Lib.hid hob; have HOwn := Lib.hid hown; have HFk := Lib.hid hfk
    have hzr := hbs.size
    rw [Z0.out] at hzr
    have hbw : Below w.heap.size w wr := HB0.out.trans (hbs.1.mono (by omega))
    have HBw := Lib.hid hbw
    have hnode := (hbs.2 w.heap.size (by omega) (by omega)).trans N0.out
    have hres := (hbs.2 (w.heap.size + 1) (by omega) (by omega)).trans N1.out
    clear hbs hbw H0 hob hown hfk
    by_cases hlt : k < l.length
    · have hki : (k : Int) < (l.length : Int) := by omega
      obtain ⟨ad, hA, hn1, hv1, hbl, c0, c1⟩ := HG.out k hlt
      subst hA
      have hbw := HS.out _ hbl
      have d0 := (HBw.out.cell (p := ad.add (k * 2)) (by rw [block_of_add]; exact hbw)).trans c0
      have d1 := (HBw.out.cell (p := ⟨(ad.add (k * 2)).block, (ad.add (k * 2)).off + 1, none⟩) (by show (ad.add (k * 2)).block < _; rw [block_of_add]; exact hbw)).trans c1
      have hL := HLs.out k hlt
      have hfa := HF.out _ (List.getElem_mem hlt)
      obtain ⟨a, hae⟩ : ∃ a, l[k] = a := ⟨_, rfl⟩
      rw [hae] at hL hfa d0 d1
      have hkw : KeepAt kb wr x vE vA vS v := HK.out.below HBw.out hkb
      have hbA : Below wr.heap.size wr (wr.alloc (.cells #[.string a.name, .string a.value] 27)) := (Below.refl _ wr).alloc (Nat.le_refl _) _
      obtain ⟨wa, hwa⟩ : ∃ wa, wr.alloc (.cells #[.string a.name, .string a.value] 27) = wa := ⟨_, rfl⟩
      have hga : wa.heap[wr.heap.size]? = some (.cells #[.string a.name, .string a.value] 27 (0, 0)) := by rw [← hwa]; exact heap_alloc_new _ _
      have hza : wa.heap.size = wr.heap.size + 1 := by rw [← hwa]; simp
      rw [hwa] at hbA
      have HBA := Lib.hid hbA; have HGA := Lib.hid hga; have HWA := Lib.hid hwa; have HFA := Lib.hid hfa; have HL := Lib.hid hL
      obtain ⟨Ao, co, hvO⟩ : ∃ A c, vO = .slice A (L k).length c := by
        rcases HOwn.out.2 with ⟨h, h0⟩ | ⟨g, cap, cur, h, _⟩
        · exact ⟨none, 0, by rw [h, h0]⟩
        · exact ⟨_, _, h⟩
      subst hvO
      have hoa := own_attrs (own_later HOwn.out hbA) HFk.out (by omega)
      have HCt := Lib.hid (contains_name (L k) (fun x => isT x.name a.name) _ wr.heap.size _ wa hoa (fun j hj => hj.2) (fun y _ w' hb => same_name y a.name wr.heap.size w' (cell_of_row w' wr.heap.size 0 _ _ _ ((hb.block _ (by omega)).trans hga)) (by have := hb.size; omega)))
      obtain ⟨tw, htw⟩ : ∃ tw, (L k).any (fun x => isT x.name a.name) = tw := ⟨_, rfl⟩
      rw [htw] at HCt
      have hoc := fun i => cell_of_row wr (w.heap.size + 1 + 1) i _ _ _ HOb.out
      unfold bareV at hoc
      have ra := fun (o : Obj) i => (World.cell?_alloc_lt wr o ⟨w.heap.size + 1 + 1, i, none⟩ (by show w.heap.size + 1 + 1 < _; omega)).trans (hoc i)
      clear c0 c1 hbA hga hwa hfa hL hoa
      go_wp2_with fail
      rw [HWA.out]
      refine Calls.mono HCt.out ?_
      rintro e w1 ⟨rfl, b1⟩
      have B1 := Lib.hid b1
      have hcells : ∀ w' : World, Below wa.heap.size wa w' → (w'.cell? ⟨wr.heap.size, 0, none⟩ = some (.string a.name) ∧ w'.cell? ⟨wr.heap.size, 1, none⟩ = some (.string a.value) ∧ w'.cell? ⟨w.heap.size, 2, none⟩ = some (.string nm) ∧ w'.cell? ⟨kb, 6, none⟩ = some vE ∧ w'.cell? ⟨kb, 7, none⟩ = some vA ∧ w'.cell? ⟨kb, 8, none⟩ = some vS ∧ Below wa.heap.size wa w') := fun w' hb => by
        have q1 := fun i => cell_of_row w' wr.heap.size i _ _ _ ((hb.block _ (by omega)).trans HGA.out)
        have q2 := fun i => cell_of_row w' w.heap.size i _ _ _ ((hb.block _ (by omega)).trans ((HBA.out.block _ (by omega)).trans hnode))
        have q3 := (KeepAt.below (hkw.below HBA.out (by omega)) hb (by omega)).cell
        exact ⟨q1 0, q1 1, q2 2, q3 6, q3 7, q3 8, hb⟩
      have HCe := Lib.hid hcells
      clear b1 ra hoc hcells
      cases tw with
      | true =>
        have hsame := HL.out.trans (bareStep_no (by rw [htw]; rfl))
        have HSame := Lib.hid hsame
        clear hsame htw
        go_wp2_with fail
        go_quiet (fail)
        all_goals
          go_wp2
          go_roundw
          case rel => exact bare_same hlt (by rw [Z0.out]; omega) HOb.out HOwn.out hlk HFk.out HBs.out (by have hB := HBA.out.trans (B1.out.mono HBA.out.size); first | exact hB | exact hB.drew | exact row_drewN hB _) HSame.out
          case measure => simp [intOf]; omega
      | false =>
        have HKp := Lib.hid fun (w' : World) (hb : Below wa.heap.size wa w') => keeps_any (.agg #[vE, vA, vS]) E A S nm a.name a.value w' (HP.out.later (below_on HBw.out (below_on HBA.out hb))) (HGl.out.later (below_on HBw.out (below_on HBA.out hb))) (by have := HFA.out.2; omega)
        obtain ⟨kp, hkp⟩ : ∃ kp, keepsB E A S nm a.name a.value = kp := ⟨_, rfl⟩
        rw [hkp] at HKp
        have HS0 := Lib.hid (HCe.out w1 B1.out)
        cases kp with
        | false =>
          have hsame := HL.out.trans (bareStep_no (by rw [htw, hkp]; rfl))
          have HSame := Lib.hid hsame
          clear hsame htw hkp
          go_wp2_with fail
          go_region_held3 (fun w' => w'.cell? ⟨wr.heap.size, 0, none⟩ = some (.string a.name) ∧ w'.cell? ⟨wr.heap.size, 1, none⟩ = some (.string a.value) ∧ w'.cell? ⟨w.heap.size, 2, none⟩ = some (.string nm) ∧ w'.cell? ⟨kb, 6, none⟩ = some vE ∧ w'.cell? ⟨kb, 7, none⟩ = some vA ∧ w'.cell? ⟨kb, 8, none⟩ = some vS ∧ Below wa.heap.size wa w') (first | assumption | exact HS0.out | exact HCe.out _ (Below.drew B1.out) | exact HCe.out _ (Below.drew (s_seven (by assumption))) | exact HCe.out _ (below_on (s_seven (by assumption)) (by assumption))) (first
            | (go_at_call 11; refine Calls.mono (HKp.out _ (s_seven (by assumption))) ?_; rintro e w2 ⟨rfl, b2⟩))
          all_goals
            have hB := below_on HBA.out (s_seven (by assumption))
            go_wp2
            go_roundw
            case rel => exact bare_same hlt (by rw [Z0.out]; omega) HOb.out HOwn.out hlk HFk.out HBs.out hB HSame.out
            case measure => simp [intOf]; omega
        | true =>
          have hsame := HL.out.trans (bareStep_yes (by rw [htw, hkp]; rfl))
          have HSame := Lib.hid hsame
          clear hsame htw hkp
          go_wp2_with fail
          go_region_held3 (fun w' => w'.cell? ⟨wr.heap.size, 0, none⟩ = some (.string a.name) ∧ w'.cell? ⟨wr.heap.size, 1, none⟩ = some (.string a.value) ∧ w'.cell? ⟨w.heap.size, 2, none⟩ = some (.string nm) ∧ w'.cell? ⟨kb, 6, none⟩ = some vE ∧ w'.cell? ⟨kb, 7, none⟩ = some vA ∧ w'.cell? ⟨kb, 8, none⟩ = some vS ∧ Below wa.heap.size wa w') (first | assumption | exact HS0.out | exact HCe.out _ (Below.drew B1.out) | exact HCe.out _ (Below.drew (s_seven (by assumption))) | exact HCe.out _ (below_on (s_seven (by assumption)) (by assumption))) (first
            | (go_at_call 11; refine Calls.mono (HKp.out _ (s_seven (by assumption))) ?_; rintro e w2 ⟨rfl, b2⟩))
          all_goals
            have hb2 : Below wa.heap.size wa w2 := s_seven (by assumption)
            have HB2 := Lib.hid hb2
            have HNl := Lib.hid (newlines_any a.value w2 (by have := HFA.out.2; omega) (HGl.out.later (below_on HBw.out (below_on HBA.out hb2))))
            obtain ⟨t, ht⟩ : ∃ t : ByteArray, (⟨(nlL a.value.data.toList).toArray⟩ : ByteArray) = t := ⟨_, rfl⟩
            have hts : t.size ≤ 100000000 := by
              have h1 := nlL_len a.value.data.toList
              have h2 : a.value.data.toList.length = a.value.size := Array.length_toList
              have h3 := HFA.out.2
              rw [← ht, size_list]
              omega
            unfold StrR at HNl
            rw [ht] at HNl HSame
            clear b2 hb2 ht
            go_wp2_with fail
            refine Calls.mono HNl.out ?_
            rintro e w3 ⟨rfl, b3⟩
            have hb3 := below_on HB2.out b3
            have h3 := HCe.out w3 hb3
            obtain ⟨e1, e2, e3, e4, e5, e6, _⟩ := h3
            have hab3 : w3.heap[wr.heap.size]? = some (.cells #[.string a.name, .string a.value] 27 (0, 0)) := (hb3.block _ (by omega)).trans HGA.out
            have fa3 : ∀ i, w3.frozen? ⟨wr.heap.size, i, none⟩ = false := fun i => by simp [World.frozen?, hab3]
            have hob3 : w3.heap[w.heap.size + 1 + 1]? = some (.cells (bareV nm (.slice Ao (L k).length co)) 48 (0, 0)) := (hb3.block _ (by omega)).trans ((HBA.out.block _ (by omega)).trans HOb.out)
            have ho3 := fun i => cell_of_row w3 (w.heap.size + 1 + 1) i _ _ _ hob3
            have hz3 : wr.heap.size < w3.heap.size := by have := hb3.size; omega
            have hne3 : ¬ w.heap.size + 1 + 1 = wr.heap.size := by omega
            have hne4 : ¬ wr.heap.size = w.heap.size + 1 + 1 := by omega
            unfold bareV at ho3
            have HB3 := Lib.hid hb3; have HOB3 := Lib.hid hob3
            clear b3 hb3 hob3
            have hz3' : (w3.setCell ⟨wr.heap.size, 1, none⟩ (.string t)).heap.size = w3.heap.size := size_setCell _ _ _
            have hlow : ∀ j, j < wr.heap.size → (w3.setCell ⟨wr.heap.size, 1, none⟩ (.string t)).heap[j]? = wr.heap[j]? := fun j hj => (Below.heap_setCell _ _ _ _ (show j ≠ wr.heap.size by omega)).trans ((HB3.out.block j (by omega)).trans (HBA.out.block j hj))
            have hown3 : ((w3.setCell ⟨wr.heap.size, 1, none⟩ (.string t)).alloc (.cells #[.string a.name, .string t] 27)).ownsRow (w.heap.size + 1 + 1 + 1) 27 2 (.slice Ao (L k).length co) (L k).length ((L k).map attrCells).flatten := World.ownsRow.alloc (ownsRow_same HOwn.out fun g _ hg => hlow g hg) _
            have hnews := cells_two (w3.setCell ⟨wr.heap.size, 1, none⟩ (.string t)) (.string a.name) (.string t) 27
            rw [hz3'] at hnews
            have hw4 : Below wr.heap.size wr ((w3.setCell ⟨wr.heap.size, 1, none⟩ (.string t)).alloc (.cells #[.string a.name, .string t] 27)) := Below.alloc (Below.setCell (below_on HBA.out HB3.out) (Nat.le_refl wr.heap.size) _) (by rw [hz3']; omega) _
            have HO3 := Lib.hid hown3; have HNw := Lib.hid hnews; have HW4 := Lib.hid hw4; have HLow := Lib.hid hlow
            clear hown3 hnews hw4 hlow
            go_wp2_with (first
              | (at_builtin; refine wpList_append_own_at _ rfl _ _ 46 rfl (w.heap.size + 1 + 1 + 1) 27 iR _ 2 32 Tryz.underlying46 hiR hzR0 hzR1 hzR2 rfl (by decide) _ (L k).length _ rfl HO3.out ⟨w3.heap.size, 0, none⟩ 1 1 [.string a.name, .string t] rfl rfl HNw.out (by simp [Value.oneCell']) (by unfold maxLen; omega) (by omega) (by rw [World.size_alloc, hz3']; omega) ?_; intro v5 w5 hown5 hgrow _ _; have p5 := (hgrow.block (w.heap.size + 1 + 1) (by rw [World.size_alloc, hz3']; omega) (by intro he; have := (HO3.out.lt _ he.symm).1; omega)).trans ((Below.heap_alloc _ _ _ (by rw [hz3']; omega)).trans ((HLow.out _ (by omega)).trans HOb.out)); have c5 := (fun i => cell_of_row w5 (w.heap.size + 1 + 1) i _ _ _ p5); have f5 : ∀ i, w5.frozen? ⟨w.heap.size + 1 + 1, i, none⟩ = false := (fun i => by simp [World.frozen?, p5]); unfold bareV at c5; obtain ⟨g5, cap5, rfl⟩ := Joins.ownsRow_form hown5 (by omega); have HG5 := Lib.hid hgrow; have HO5 := Lib.hid hown5; clear hgrow hown5)
              | fail)
            go_roundw
            case rel => exact bare_next (a := ⟨a.name, t⟩) hlt (by rw [Z0.out]; omega) HOb.out HOwn.out hlk HFk.out HBs.out HW4.out HG5.out HO5.out HSame.out ⟨HFA.out.1, hts⟩
            case measure => simp [intOf]; omega
    · obtain rfl : k = l.length := by omega
      have hAt := own_attrs HOwn.out HFk.out (by omega)
      have HAt := Lib.hid hAt
      obtain ⟨Ao, co, hvO⟩ : ∃ A c, vO = .slice A (L l.length).length c := by
        rcases HOwn.out.2 with ⟨h, h0⟩ | ⟨g, cap, cur, h, _⟩
        · exact ⟨none, 0, by rw [h, h0]⟩
        · exact ⟨_, _, h⟩
      subst hvO
      have hoc := fun i => cell_of_row wr (w.heap.size + 1 + 1) i _ _ _ HOb.out
      have hrc := fun i => cell_of_row wr (w.heap.size + 1) i _ _ _ hres
      have hrf : ∀ i, wr.frozen? ⟨w.heap.size + 1, i, none⟩ = false := fun i => by simp [World.frozen?, hres]
      unfold bareV at hoc
      clear hAt
      go_wp2
      obtain ⟨W9, hW9⟩ : ∃ W9, (((((wr.setCell ⟨w.heap.size + 1, 0, none⟩ (.int .u8 1)).setCell ⟨w.heap.size + 1, 1, none⟩ (.int .u8 0)).setCell ⟨w.heap.size + 1, 2, none⟩ (.string nm)).setCell ⟨w.heap.size + 1, 3, none⟩ (.slice Ao (L l.length).length co)).setCell ⟨w.heap.size + 1, 4, none⟩ (.string ⟨#[]⟩)).setCell ⟨w.heap.size + 1, 5, none⟩ (.slice none 0 0) = W9 := ⟨_, rfl⟩
      have hE := six_end hres hW9
      rw [hW9]
      (try simp only [Exit.inBlock, Exit.then])
      refine bodyPost_ret (results_cell_row rfl _ W9 (w.heap.size + 1) _ _ _ _ rfl hE.1 Tryz.underlying48 rfl (by kernel_rfl)) rfl ?_
      refine ⟨_, rfl, (HAt.out.keep fun j hj => hE.2.2.2 j (by omega)).mono fun j hj => ⟨by omega, by have := hj.2; have := hE.2.2.1; omega⟩, HBw.out.trans (hE.2.1.mono (by omega))⟩

/-- What stands in an old world. -/
structure Ctx (w0 : World) (vE vA vS : Value) (E : List ByteArray) (A : Prs) (S : List ByteArray) : Prop where
  pol : PolAt w0 (.agg #[vE, vA, vS]) E A S
  glob : Glob w0
  sp : SpTab w0
def namesL (g : Nat) : List ByteArray := if g = 3 then [⟨#[116, 98, 111, 100, 121, 32, 116, 102, 111, 111, 116, 32, 116, 104, 101, 97, 100]⟩, ⟨#[116, 114]⟩, ⟨#[116, 100, 32, 116, 104]⟩] else if g = 2 then [⟨#[116, 114]⟩, ⟨#[116, 100, 32, 116, 104]⟩] else [⟨#[116, 100, 32, 116, 104]⟩]
def KidsR (w : World) (D : Nat) (l : List (NT D)) (e : Ending) (w' : World) : Prop := ∃ v', e = .returned v' ∧ NodesAt D w' (New w w') v' l ∧ Below w.heap.size w w'
def NodesC (E : List ByteArray) (A : Prs) (S : List ByteArray) (n : Nat) : Prop :=
  ∀ (D kb base : Nat) (x : Pl) (vE vA vS v vl : Value) (acc : List (NodeD (List (NT D)))) (l : List (NT n)) (S0 : Nat → Prop) (w0 w : World), n ≤ D + 1 → Ctx w0 vE vA vS E A S → NodesAt n w0 S0 vl l → (∀ k, S0 k → k < w0.heap.size) → Below w0.heap.size w0 w → w0.heap.size ≤ kb → kb < base → base ≤ w.heap.size →
    KeepAt kb w x vE vA vS v → OutAt base D w v acc → wt n l + wt (D + 1) acc ≤ 100000 → Calls Tryz.prog 41 #[.pointer (some ⟨kb, 0, none⟩), vl] w (TextR kb base D x vE vA vS w (cl E A S n D 0 x l acc))
def InnerC (E : List ByteArray) (A : Prs) (S : List ByteArray) (n : Nat) : Prop :=
  ∀ (D kb : Nat) (x px : Pl) (vE vA vS v vl : Value) (l : List (NT n)) (S0 : Nat → Prop) (w0 w : World), n ≤ D → Ctx w0 vE vA vS E A S → NodesAt n w0 S0 vl l → (∀ k, S0 k → k < w0.heap.size) → Below w0.heap.size w0 w →
    KeepAt kb w x vE vA vS v → wt n l ≤ 100000 → Calls Tryz.prog 64 #[.pointer (some ⟨kb, 0, none⟩), vl, px.val] w (KidsR w D (kidsN E A S n D 0 px l))
def GridC (E : List ByteArray) (A : Prs) (S : List ByteArray) (n : Nat) : Prop :=
  ∀ (D kb g : Nat) (x : Pl) (vE vA vS v vl vn : Value) (l : List (NT n)) (S0 : Nat → Prop) (w0 w : World), n ≤ D → 1 ≤ g → g ≤ 3 → Ctx w0 vE vA vS E A S → NodesAt n w0 S0 vl l → (∀ k, S0 k → k < w0.heap.size) → Below w0.heap.size w0 w →
    KeepAt kb w x vE vA vS v → SlS w vn (namesL g) → wt n l ≤ 100000 → Calls Tryz.prog 63 #[.pointer (some ⟨kb, 0, none⟩), vl, vn] w (KidsR w D (kidsN E A S n D g x l))
theorem nt_zero : ∀ l : List (NT 0), l = []
  | [] => rfl
  | x :: _ => Empty.elim x
theorem cl_nil (E : List ByteArray) (A : Prs) (S : List ByteArray) (n D g : Nat) (x : Pl) (acc : List (NT (D + 1))) : cl E A S n D g x [] acc = acc := by
  cases n with
  | zero => rfl
  | succ n => rw [cl_succ]; rfl
/-- What a keeper of one's own holds at the end. -/
theorem kids_of (E : List ByteArray) (A : Prs) (S : List ByteArray) {n D g base : Nat} {x : Pl} {l : List (NT n)} {w : World} {v : Value} (hn : n ≤ D) (hD : ∀ D', D = D' + 1 → OutAt base D' w v (cl E A S n D' g x l [])) (hD0 : D = 0 → OutAt base 0 w v ([] : List (NodeD (List (NT 0))))) (hl : wt n l ≤ 100000) :
    NodesAt D w (fun k => base ≤ k ∧ k < w.heap.size) v (kidsN E A S n D g x l) := by
  cases D with
  | zero =>
    have := (hD0 rfl)
    obtain ⟨A', c, rfl⟩ := this.form
    obtain ⟨css, h1, h2, h3, h4⟩ := this
    rcases h3.2 with ⟨h, _⟩ | ⟨g, cap, cur, h, hb, hh, _⟩
    · rw [h]; exact nodes_nil _ _ _
    · cases h
      exact ⟨_, _, rfl, Nat.zero_le _, fun h => absurd h (Nat.lt_irrefl 0), fun i x hx => by cases i <;> cases hx⟩
  | succ D' =>
    have ho := hD D' rfl
    have hw := cl_wt E A S n D' g x l []
    have h0 : wt (D' + 1) [] = 0 := rfl
    have hlen := wt_len D' (cl E A S n D' g x l [])
    exact ho.nodes (by show (cl E A S n D' g x l []).length ≤ _; omega)
set_option maxHeartbeats 4000000 in
set_option maxRecDepth 100000 in
theorem inner_any (E : List ByteArray) (A : Prs) (S : List ByteArray) (n : Nat) (hN : NodesC E A S n) : InnerC E A S n := by
  intro D kb x px vE vA vS v vl l S0 w0 w hn hc hv hS hb hk hwt
  have hkb : kb < w.heap.size := (Array.getElem?_eq_some_iff.1 (show w.heap[kb]? = _ from hk)).1
  have k1 := hk.cell
  have k2 := fun (o : Obj) i => (World.cell?_alloc_lt w o ⟨kb, i, none⟩ hkb).trans (k1 i)
  obtain ⟨Al, ml, cl', rfl⟩ := hv.shape
  obtain ⟨p1, p2, p3, p4, p5, p6⟩ := px
  rw [show Pl.val ⟨p1, p2, p3, p4, p5, p6⟩ = .agg #[.bool p1, .bool p2, .bool p3, .bool p4, .bool p5, .bool p6] from rfl]
  have hw0 := hb.size
  obtain ⟨W, hW⟩ : ∃ W, ((w.alloc (.cells #[.bool p1, .bool p2, .bool p3, .bool p4, .bool p5, .bool p6] 66)).alloc (.cells #[.bool p1, .bool p2, .bool p3, .bool p4, .bool p5, .bool p6, vE, vA, vS, .slice none 0 0] 68)).drew = W := ⟨_, rfl⟩
  have hbW : Below w.heap.size w W := by rw [← hW]; exact (((Below.refl _ w).alloc (Nat.le_refl _) _).alloc (by simp) _).drew
  have hzW : W.heap.size = w.heap.size + 1 + 1 := by rw [← hW]; simp
  have hkW : KeepAt (w.heap.size + 1) W ⟨p1, p2, p3, p4, p5, p6⟩ vE vA vS (.slice none 0 0) := by
    rw [← hW]
    show ((w.alloc (.cells #[.bool p1, .bool p2, .bool p3, .bool p4, .bool p5, .bool p6] 66)).alloc (.cells #[.bool p1, .bool p2, .bool p3, .bool p4, .bool p5, .bool p6, vE, vA, vS, .slice none 0 0] 68)).heap[w.heap.size + 1]? = _
    exact two_new w _ _ _
  have hcall := hN (D - 1) (w.heap.size + 1) (w.heap.size + 1 + 1) ⟨p1, p2, p3, p4, p5, p6⟩ vE vA vS (.slice none 0 0) _ [] l S0 w0 W (by omega) hc hv hS (hb.trans (hbW.mono hw0)) (by omega) (by omega) (by omega) hkW (OutAt.nil _ _ _) (by rw [show wt (D - 1 + 1) ([] : List (NodeD (List (NT (D - 1))))) = 0 from rfl]; omega)
  have HC := Lib.hid hcall; have HW := Lib.hid hW; have HBW := Lib.hid hbW; have HZ := Lib.hid hzW
  clear hN hc hb hcall hW hbW hkW hzW hv hS
  go_enter Tryz.func64, Tryz.ntmps64
  go_wp2_with fail
  go_region
  all_goals
    go_wp2_with fail
    rw [HW.out]
    refine Calls.mono HC.out ?_
    rintro e w1 ⟨rfl, v', hk1, ho1, hb1⟩
    have q1 := hk1.cell
    obtain ⟨A1, c1, hv1⟩ := ho1.form
    subst hv1
    have hsz := hb1.size
    have HO1 := Lib.hid ho1; have HB1 := Lib.hid hb1
    clear ho1 hb1 hk1
    go_wp2
    go_ret
    refine ⟨_, rfl, NodesAt.mono (fun j hj => ⟨by have := HZ.out; omega, hj.2⟩) D (kids_of E A S (base := w.heap.size + 1 + 1) hn (fun D' e => ?_) (fun e => ?_) hwt), HBW.out.trans (HB1.out.1.mono (by omega))⟩
    · subst e
      exact HO1.out
    · subst e
      have hn0 : n = 0 := by omega
      subst hn0
      exact HO1.out

/-- Where a walk over nodes stands: L k is what has been kept behind k of them. -/
def NodW (kb base D : Nat) (x : Pl) (vE vA vS : Value) (L : Nat → List (NodeD (List (NT D)))) (n : Nat) (w : World) (i : Value) (wr : World) : Prop :=
  ∃ (k : Nat) (v : Value), i = .int .i64 k ∧ k ≤ n ∧ KeepAt kb wr x vE vA vS v ∧ OutAt base D wr v (L k) ∧ Beside kb base w wr
theorem nod_same {kb base D n k : Nat} {x : Pl} {vE vA vS v : Value} {L : Nat → List (NodeD (List (NT D)))} {w wr w' : World} (hlt : k < n) (h1 : kb < base) (h2 : base ≤ w.heap.size) (hk : KeepAt kb wr x vE vA vS v) (ho : OutAt base D wr v (L k)) (hs : Beside kb base w wr) (hb : Below wr.heap.size wr w') (hL : L (k + 1) = L k) :
    NodW kb base D x vE vA vS L n w (.int .i64 ((k + 1 : Nat) : Int)) w' := by
  have hz := hs.size
  exact ⟨k + 1, v, rfl, hlt, hk.below hb (by omega), by rw [hL]; exact ho.later hb, hs.trans (Beside.of_below hb h1 (by omega))⟩
theorem nod_text {kb base D n k : Nat} {x : Pl} {vE vA vS : Value} {L : Nat → List (NodeD (List (NT D)))} {w wr wa w' : World} {e : Ending} {ac : List (NodeD (List (NT D)))} (hlt : k < n) (h1 : kb < base) (h2 : base ≤ w.heap.size) (hs : Beside kb base w wr) (hb : Below wr.heap.size wr wa) (ht : TextR kb base D x vE vA vS wa ac e w') (hL : L (k + 1) = ac) :
    NodW kb base D x vE vA vS L n w (.int .i64 ((k + 1 : Nat) : Int)) w' := by
  have hz := hs.size
  obtain ⟨_, v', k1, o1, s1⟩ := ht
  exact ⟨k + 1, v', rfl, hlt, k1, by rw [hL]; exact o1, (hs.trans (Beside.of_below hb h1 (by omega))).trans s1⟩
/-- Behind the append of an element. -/
theorem nod_push {kb base D n k : Nat} {x : Pl} {vE vA vS v : Value} {L : Nat → List (NodeD (List (NT D)))} {w wr w1 w7 : World} {ac : List (NodeD (List (NT D)))} {y : NodeD (List (NT D))} {css : List (List Value)} {ob : Obj} {g cap o : Nat} {a0 a1 a2 a3 a4 a5 : Value} (ho : o = ac.length * 6) (hlt : k < n) (h1 : kb < base) (h2 : base ≤ w.heap.size) (hs : Beside kb base w wr) (b1 : Below wr.heap.size wr w1) (hK : KeepAt kb w1 x vE vA vS v)
    (c1 : css.length = ac.length) (c2 : ∀ c ∈ css, c.length = 6) (h3 : w1.ownsRow base 48 6 v ac.length css.flatten) (h4 : ∀ (j : Nat) (c : List Value) (x : NodeD (List (NT D))), css[j]? = some c → ac[j]? = some x → NodeIs (NodesAt D) w1 (Mine base v w1) c x) (hy : NodeIs (NodesAt D) w1 (Mine base v w1) [a0, a1, a2, a3, a4, a5] y)
    (hg7 : (w1.drew.alloc ob).grownBy w7 v.ownBlock) (hob : (Value.slice (some ⟨g, 0, none⟩) (ac.length + 1) cap).ownBlock = v.ownBlock ∨ (Value.slice (some ⟨g, 0, none⟩) (ac.length + 1) cap).ownBlock = some (w1.drew.alloc ob).heap.size)
    (hown7 : w7.ownsRow base 48 6 (.slice (some ⟨g, 0, none⟩) (ac.length + 1) cap) (ac.length + 1) (css.flatten ++ zeroN)) (hL : L (k + 1) = ac ++ [y]) :
    NodW kb base D x vE vA vS L n w (.int .i64 ((k : Int) + 1)) (((((((w7.setCell ⟨g, o, none⟩ a0).setCell ⟨g, o + 1, none⟩ a1).setCell ⟨g, o + 2, none⟩ a2).setCell ⟨g, o + 3, none⟩ a3).setCell ⟨g, o + 4, none⟩ a4).setCell ⟨g, o + 5, none⟩ a5).setCell ⟨kb, 9, none⟩ (.slice (some ⟨g, 0, none⟩) (ac.length + 1) cap)) := by
  subst ho
  have hz := hs.size
  have hz1 := b1.size
  have hlow := h3.lt
  have hkne : v.ownBlock ≠ some kb := fun e => by have := (hlow _ e).1; omega
  obtain ⟨p1, p2, p3, p4, p5⟩ := out_push zeroN [a0, a1, a2, a3, a4, a5] y c1 c2 h3 h4 rfl rfl hy (by omega) hg7 hob hown7
  have e : w7.setCells g (ac.length * 6) [a0, a1, a2, a3, a4, a5] = (((((w7.setCell ⟨g, ac.length * 6, none⟩ a0).setCell ⟨g, ac.length * 6 + 1, none⟩ a1).setCell ⟨g, ac.length * 6 + 2, none⟩ a2).setCell ⟨g, ac.length * 6 + 3, none⟩ a3).setCell ⟨g, ac.length * 6 + 4, none⟩ a4).setCell ⟨g, ac.length * 6 + 5, none⟩ a5 := rfl
  rw [e] at p1 p2 p3 p5
  refine ⟨k + 1, _, rfl, hlt, KeepAt.put ((p5 kb (by omega) hkne).trans hK) _, by rw [hL]; exact p1.setBelow (show kb < base from h1) _, hs.trans ⟨Below.setCell (p := ⟨kb, 9, none⟩) ((Below.mono (B' := kb) b1 (by omega)).trans (p2.mono (by omega))) (Nat.le_refl kb) _, fun j hj hne => ?_⟩⟩
  rw [Below.heap_setCell _ _ _ _ hne, p2.block j (by omega), b1.block j (by omega)]
theorem nod_push2 {kb base D n k : Nat} {x : Pl} {vE vA vS v : Value} {L : Nat → List (NodeD (List (NT D)))} {w wr w1 w7 : World} {ac : List (NodeD (List (NT D)))} {y : NodeD (List (NT D))} {css : List (List Value)} {ob : Obj} {g cap o : Nat} {a0 a1 a2 a3 a4 a5 : Value} (ho : o = ac.length * 6) (hlt : k < n) (h1 : kb < base) (h2 : base ≤ w.heap.size) (hs : Beside kb base w wr) (b1 : Below wr.heap.size wr w1) (hK : KeepAt kb w1 x vE vA vS v)
    (c1 : css.length = ac.length) (c2 : ∀ c ∈ css, c.length = 6) (h3 : w1.ownsRow base 48 6 v ac.length css.flatten) (h4 : ∀ (j : Nat) (c : List Value) (x : NodeD (List (NT D))), css[j]? = some c → ac[j]? = some x → NodeIs (NodesAt D) w1 (Mine base v w1) c x) (hy : NodeIs (NodesAt D) w1 (Mine base v w1) [a0, a1, a2, a3, a4, a5] y)
    (hg7 : (w1.drew.alloc ob).grownBy w7 v.ownBlock) (hob : (Value.slice (some ⟨g, 0, none⟩) (ac.length + 1) cap).ownBlock = v.ownBlock ∨ (Value.slice (some ⟨g, 0, none⟩) (ac.length + 1) cap).ownBlock = some (w1.drew.alloc ob).heap.size)
    (hown7 : w7.ownsRow base 48 6 (.slice (some ⟨g, 0, none⟩) (ac.length + 1) cap) (ac.length + 1) (css.flatten ++ zeroN)) (hL : L (k + 1) = ac ++ [y]) :
    NodW kb base D x vE vA vS L n w (.int .i64 ((k : Int) + 1)) (((((((w7.setCell ⟨kb, 9, none⟩ (.slice (some ⟨g, 0, none⟩) (ac.length + 1) cap)).setCell ⟨g, o, none⟩ a0).setCell ⟨g, o + 1, none⟩ a1).setCell ⟨g, o + 2, none⟩ a2).setCell ⟨g, o + 3, none⟩ a3).setCell ⟨g, o + 4, none⟩ a4).setCell ⟨g, o + 5, none⟩ a5) := by
  have hne : kb ≠ g := fun e => by have := (hown7.lt g rfl).1; omega
  have hs := nod_push ho hlt h1 h2 hs b1 hK c1 c2 h3 h4 hy hg7 hob hown7 hL
  have hc : ∀ (w : World) (i : Nat) (u v : Value), (w.setCell ⟨g, i, none⟩ u).setCell ⟨kb, 9, none⟩ v = (w.setCell ⟨kb, 9, none⟩ v).setCell ⟨g, i, none⟩ u := fun w i u v => setCell_comm w _ _ _ _ (fun e => hne e.symm)
  rw [hc, hc, hc, hc, hc, hc] at hs
  exact hs
/-- An element that has been made: its attributes and its kids lie in memory of their own. -/
theorem elem_is {base D : Nat} {v v1 v2 : Value} {w1 wA wB wC wD : World} {nm : ByteArray} {at' : List AttrD} {kd : List (NT D)} (hlow : ∀ g, v.ownBlock = some g → g < wA.heap.size) (hbA : base ≤ wA.heap.size) (hA : AttrsAt wB (New wA wB) v1 at') (hK : NodesAt D wD (New wC wD) v2 kd) (h1 : ∀ j, j < wB.heap.size → wA.heap.size ≤ j → w1.heap[j]? = wB.heap[j]?) (h2 : ∀ j, j < wD.heap.size → wC.heap.size ≤ j → w1.heap[j]? = wD.heap[j]?)
    (zB : wB.heap.size ≤ w1.heap.size) (zD : wD.heap.size ≤ w1.heap.size) (zC : wA.heap.size ≤ wC.heap.size) (hnm : nm.size ≤ 9223372036854775807) : NodeIs (NodesAt D) w1 (Mine base v w1) [.int .u8 1, .int .u8 0, .string nm, v1, .string ⟨#[]⟩, v2] ⟨1, 0, nm, at', ByteArray.empty, kd⟩ := by
  have hmine : ∀ j, wA.heap.size ≤ j → j < w1.heap.size → Mine base v w1 j := fun j h h' => ⟨by omega, h', fun e => by have := hlow j e; omega⟩
  exact ⟨v1, v2, rfl, (hA.keep fun j hj => h1 j hj.2 hj.1).mono fun j hj => hmine j hj.1 (by have := hj.2; omega), NodesAt.mono (fun j hj => hmine j (by have := hj.1; omega) (by have := hj.2; omega)) D (NodesAt.keep (fun j hj => h2 j hj.2 hj.1) D hK), hnm, Nat.zero_le _, (by decide : (1 : Nat) < 256), (by decide : (0 : Nat) < 256)⟩
theorem wt_take_le (n : Nat) (l : List (NT (n + 1))) (k : Nat) : wt (n + 1) (l.take k) ≤ wt (n + 1) l := by
  induction l generalizing k with
  | nil => rw [List.take_nil]; exact Nat.le_refl _
  | cons a l ih =>
    cases k with
    | zero => exact Nat.zero_le _
    | succ k =>
      rw [List.take_succ_cons, wt_cons, wt_cons]
      have := ih k
      omega
end Go.Proofs.YtdkjenbncmedbaaGreatDoor
