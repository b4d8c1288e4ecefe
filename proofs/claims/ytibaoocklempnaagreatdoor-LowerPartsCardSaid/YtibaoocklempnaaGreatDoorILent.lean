/- Own copies of inlines; are inlines alike. -/
import Derived.Test.YtibaoocklempnaaGreatDoorInl
namespace Go.Proofs.YtibaoocklempnaaGreatDoor
open Go.RowKit

theorem inl_info : (Tryz.prog.info? 80).map (fun i => (i.zero, i.size, i.bytes)) = some (some (.agg #[.int .u8 0, .string ⟨#[]⟩, .string ⟨#[]⟩, .string ⟨#[]⟩, .slice none 0 0]), 5, 80) := by kernel_rfl
def inlCells {K : Type} (x : InlD K) (v : Value) : List Value := [.int .u8 x.kind, .string x.text, .string x.dest, .string x.title, v]
theorem rowIwt_get {K : Type} (f : K → Nat) (l : List (InlD K)) (k : Nat) (hk : k < l.length) : 1 + l[k].text.size / 8 + l[k].dest.size / 8 + l[k].title.size / 8 + f l[k].kids ≤ rowIwt f l := by
  unfold rowIwt
  induction l generalizing k with
  | nil => simp at hk
  | cons x r ih =>
    rw [List.map_cons, List.sum_cons]
    match k with
    | 0 => exact Nat.le_add_right _ _
    | k + 1 =>
      have := ih k (by simpa using hk)
      simp only [List.getElem_cons_succ]
      omega
theorem rowIwt_len {K : Type} (f : K → Nat) (l : List (InlD K)) : l.length ≤ rowIwt f l := by
  unfold rowIwt
  induction l with
  | nil => simp
  | cons x r ih => simp at *; omega
theorem iwt_get (n : Nat) (l : List (IT (n + 1))) (k : Nat) (hk : k < l.length) : 1 + (InlD.text l[k]).size / 8 + (InlD.dest l[k]).size / 8 + (InlD.title l[k]).size / 8 + iwt n (InlD.kids l[k]) ≤ iwt (n + 1) l :=
  rowIwt_get (K := List (IT n)) (iwt n) l k hk
theorem iwt_len (n : Nat) (l : List (IT (n + 1))) : l.length ≤ iwt (n + 1) l := rowIwt_len (K := List (IT n)) (iwt n) l

def LentI (w : World) (n : Nat) (l : List (IT n)) (e : Ending) (w' : World) : Prop := ∃ v', e = .returned v' ∧ Below w.heap.size w w' ∧ InlsAt n w' (New w w') v' l
def OutI (w : World) (n : Nat) (l : List (IT (n + 1))) (v i : Value) (wr : World) : Prop :=
  ∃ (k : Nat) (css : List (List Value)), i = .int .i64 k ∧ k ≤ l.length ∧ css.length = k ∧ (∀ c ∈ css, List.length c = 5) ∧ wr.ownsRow w.heap.size 80 5 v k css.flatten ∧ Below w.heap.size w wr ∧
    ∀ (j : Nat) (c : List Value) (x : InlD (List (IT n))), css[j]? = some c → l[j]? = some x → InlIs (InlsAt n) wr (Own w v wr) c x
theorem InlIs.keep {n : Nat} {w w' : World} {S S' : Nat → Prop} {c : List Value} {x : InlD (List (IT n))} (h : InlIs (InlsAt n) w S c x) (hb : ∀ k, S k → w'.heap[k]? = w.heap[k]?) (hS : ∀ k, S k → S' k) : InlIs (InlsAt n) w' S' c x := by
  obtain ⟨vk, e, hk, r⟩ := h
  exact ⟨vk, e, InlsAt.mono hS n (InlsAt.keep hb n hk), r⟩
theorem lentI_end {w wr : World} {n : Nat} {l : List (IT (n + 1))} {v i : Value} (h : OutI w n l v i wr) (hi : i = .int .i64 l.length) (hl : l.length ≤ 9223372036854775807) : LentI w (n + 1) l (.returned v) wr := by
  obtain ⟨k, css, hik, hk, hcl, hc6, hown, hb, hE⟩ := h
  rw [hi] at hik
  have e : k = l.length := by injection hik with _ e; omega
  subst e
  refine ⟨v, rfl, hb, ?_⟩
  refine Row.of_own (α := InlD (List (IT n))) css hown (fun k hk => ⟨(hown.lt k hk).1, (hown.lt k hk).2⟩) hl hc6 hcl ?_
  intro j c x hc hx
  exact (hE j c x hc hx).keep (fun _ _ => rfl) (fun k hk => ⟨hk.1, hk.2.1⟩)
theorem InlsAt.shape {w : World} {S : Nat → Prop} {v : Value} : ∀ {n : Nat} {l : List (IT n)}, InlsAt n w S v l → ∃ A m c, v = .slice A m c
  | 0, _, h => by obtain ⟨A, c, rfl⟩ := h.none_; exact ⟨_, _, _, rfl⟩
  | _ + 1, _, h => by obtain ⟨A, c, rfl, _⟩ := h.get; exact ⟨_, _, _, rfl⟩
theorem inls_zero (w : World) (S : Nat → Prop) (l : List (IT 0)) : InlsAt 0 w S (.slice none 0 0) l := by
  match l with
  | [] =>
    refine ⟨none, 0, rfl, Nat.zero_le _, fun h => absurd h (by decide), fun i x hx => ?_⟩
    exact Empty.elim x
  | x :: _ => exact Empty.elim x

theorem lentI_step {n : Nat} {w wr w0 w2 w3 w4 : World} {l : List (IT (n + 1))} {k : Nat} {css : List (List Value)} {u3 v' v2 : Value} (hcl : css.length = k) (hc6 : ∀ c ∈ css, List.length c = 5) (hlt : k < l.length)
    (hE : ∀ (j : Nat) (c : List Value) (x : InlD (List (IT n))), css[j]? = some c → l[j]? = some x → InlIs (InlsAt n) wr (Own w u3 wr) c x) (ho : ∀ g, u3.ownBlock = some g → w.heap.size ≤ g ∧ g < wr.heap.size)
    (hW2 : ∀ b, b < wr.heap.size → w3.heap[b]? = wr.heap[b]?) (hW3 : ∀ b, wr.heap.size < b → b < w2.heap.size → w3.heap[b]? = w2.heap[b]?)
    (hz3 : w2.heap.size < w3.heap.size) (hz0 : wr.heap.size < w0.heap.size) (hz : w.heap.size ≤ wr.heap.size) (hb2 : Below w0.heap.size w0 w2)
    (hbw3 : Below w.heap.size w w3) (ha2 : InlsAt n w2 (New w0 w2) v2 (InlD.kids l[k]))
    (htx : (InlD.text l[k]).size ≤ 9223372036854775807) (hds : (InlD.dest l[k]).size ≤ 9223372036854775807) (htl : (InlD.title l[k]).size ≤ 9223372036854775807) (hki : InlD.kind l[k] < 256)
    (hown4 : w4.ownsRow w.heap.size 80 5 v' (k + 1) (css.flatten ++ [.int .u8 (InlD.kind l[k]), .string (InlD.text l[k]), .string (InlD.dest l[k]), .string (InlD.title l[k]), v2]))
    (hg4 : w3.grownBy w4 u3.ownBlock) (hob4 : v'.ownBlock = u3.ownBlock ∨ v'.ownBlock = some w3.heap.size) : OutI w n l v' (.int .i64 ((k : Int) + 1)) w4 := by
  have hz4 := hg4.size
  have hs2 := hb2.size
  have ho4 : ∀ b, w.heap.size ≤ b → b < w3.heap.size → u3.ownBlock ≠ some b → Own w v' w4 b := fun b h1 h2 h3 => ⟨h1, by omega, by
    rcases hob4 with e | e
    · rw [e]; exact h3
    · rw [e]; intro e2; cases e2; omega⟩
  have hne : ∀ b, wr.heap.size < b → u3.ownBlock ≠ some b := fun b hb e => by have := (ho b e).2; omega
  refine ⟨k + 1, css ++ [[.int .u8 (InlD.kind l[k]), .string (InlD.text l[k]), .string (InlD.dest l[k]), .string (InlD.title l[k]), v2]], by go_num, by omega, by simp [hcl], ?_, by simpa using hown4, hbw3.grown hg4 (by have := hbw3.size; omega) (fun g hg => (ho g hg).1), ?_⟩
  · intro c hc
    rcases List.mem_append.1 hc with h | h
    · exact hc6 c h
    · simp at h; subst h; rfl
  · intro j c x hc hx
    by_cases hjk : j < k
    · rw [List.getElem?_append_left (by omega)] at hc
      refine (hE j c x hc hx).keep (fun b hb => ?_) (fun b hb => ho4 b hb.1 (by have := hb.2.1; omega) hb.2.2)
      rw [hg4.block b (by have := hb.2.1; omega) (fun e => hb.2.2 e.symm)]
      exact hW2 b hb.2.1
    · have hj : j = k := by
        have := (List.getElem?_eq_some_iff.1 hc).1
        simp at this; omega
      subst hj
      rw [List.getElem?_append_right (by omega), hcl] at hc
      simp at hc
      subst hc
      have hxk : l[j] = x := by rw [List.getElem?_eq_getElem hlt] at hx; exact Option.some.inj hx
      subst hxk
      refine ⟨v2, rfl, ?_, htx, hds, htl, hki⟩
      refine InlsAt.mono (fun b hb => ho4 b (by have := hb.1; omega) (by have := hb.2; omega) (hne b (by have := hb.1; omega))) n (InlsAt.keep (w' := w4) (fun b hb => ?_) n ha2)
      obtain ⟨h1, h2⟩ := hb
      rw [hg4.block b (by omega) (fun e => hne b (by omega) e.symm), hW3 b (by omega) (by omega)]

set_option maxHeartbeats 4000000 in
set_option maxRecDepth 100000 in
theorem lent_inls (n : Nat) : ∀ (v : Value) (l : List (IT n)) (S : Nat → Prop) (w : World), InlsAt n w S v l → (∀ k, S k → k < w.heap.size) → iwt n l ≤ 1000000 → Calls Tryz.prog 26 #[v] w (LentI w n l) := by
  induction n with
  | zero =>
    intro v l S w h hS hw
    obtain ⟨A, c, rfl⟩ := h.none_
    go_enter Tryz.func26, Tryz.ntmps26
    go_wp2
    refine wp_loop_rounds 1 ?_
    rw [rounds_succ]
    go_wp2
    go_ret
    refine ⟨_, rfl, Below.refl _ _, ?_⟩
    exact inls_zero _ _ _
  | succ n ih =>
    intro v l S w h hS hw
    have hlw := iwt_len n l
    obtain ⟨i0, hi, hz0, hz1, hz2⟩ := info_parts inl_info
    obtain ⟨A, c, rfl, hl, hget⟩ := h.get
    have HG := Lib.hid hget
    have HN := Lib.hid h
    have IH := Lib.hid ih
    clear hget h ih
    go_enter Tryz.func26, Tryz.ntmps26
    go_wp2
    go_loopw [3, 4] (fun v i wr => OutI w n l v i wr) (fun _ i _ => l.length - (intOf i).toNat)
    case atStart => exact ⟨0, [], rfl, Nat.zero_le _, rfl, by simp, World.ownsRow_nil _ _ _ _, Below.refl _ _, by simp⟩
    case round =>
      obtain ⟨k, css, rfl, hk, hcl, hc6, hown, hbw, hE⟩ := hrel
      by_cases hlt : k < l.length
      · obtain ⟨ad, vk, hA, hkids, htx, hds, htl, hki, hbl, c0, c1, c2, c3, c4⟩ := HG.out k hlt
        subst hA
        have hwg := iwt_get n l k hlt
        have hbl2 := hS _ hbl
        have hblk : ∀ j : Nat, wr.cell? ⟨(ad.add (k * 5)).block, j, none⟩ = w.cell? ⟨(ad.add (k * 5)).block, j, none⟩ := fun j => hbw.cell (by rw [block_of_add]; exact hbl2)
        have d0 : wr.cell? (ad.add (k * 5)) = some (.int .u8 (InlD.kind l[k])) := (hbw.cell (by rw [block_of_add]; exact hbl2)).trans c0
        have d1 := (hblk _).trans c1
        have d2 := (hblk _).trans c2
        have d3 := (hblk _).trans c3
        have d4 := (hblk _).trans c4
        have HCL := Lib.hid hcl; have HC6 := Lib.hid hc6; have HE := Lib.hid hE; have HW := Lib.hid hwg
        have HK := Lib.hid hkids
        clear hcl hc6 hE hwg c0 c1 c2 c3 c4 hblk hkids
        obtain ⟨A3, m3, c3, rfl⟩ := HK.out.shape
        have hws := hbw.size
        have hold0 := old_alloc hbw hws (Obj.cells #[.int .u8 (InlD.kind l[k]), .string (InlD.text l[k]), .string (InlD.dest l[k]), .string (InlD.title l[k]), .slice A3 m3 c3] 80)
        have hkid0 := InlsAt.keep (fun b hb => hold0 b (hS b hb)) n HK.out
        have HX0 := Lib.hid (Box.new wr 80 #[.int .u8 (InlD.kind l[k]), .string (InlD.text l[k]), .string (InlD.dest l[k]), .string (InlD.title l[k]), .slice A3 m3 c3])
        have HBW0 : Hid (Below w.heap.size w (wr.alloc (Obj.cells #[.int .u8 (InlD.kind l[k]), .string (InlD.text l[k]), .string (InlD.dest l[k]), .string (InlD.title l[k]), .slice A3 m3 c3] 80))) := hbw.alloc hws _
        have hsz1 := HBW0.out.size
        have hwk := HW.out
        clear hold0
        go_wp2_with fail
        refine (IH.out _ (InlD.kids l[k]) S _ hkid0 (fun b hb => Nat.lt_of_lt_of_le (hS b hb) hsz1) (by omega)).mono ?_
        rintro e w2 ⟨v2, rfl, hb2, ha2⟩
        obtain ⟨A6, m6, c6', rfl⟩ := ha2.shape
        have hx2 := HX0.out.below hb2 (by simp)
        have hz2' := hx2.lt
        have e4b := hx2.cell 4
        have f4 := hx2.free 4
        have hx3 := hx2.set 4 (.slice A6 m6 c6')
        have g0 := hx3.cell 0
        have g1 := hx3.cell 1
        have g2 := hx3.cell 2
        have g3 := hx3.cell 3
        have g4 := hx3.cell 4
        simp only [List.getElem?_toArray, List.getElem?_cons_succ, List.getElem?_cons_zero, List.setIfInBounds_toArray, List.set_cons_succ, List.set_cons_zero] at e4b g0 g1 g2 g3 g4
        have HB2 := Lib.hid hb2; have HA2 := Lib.hid ha2
        clear hx2 hx3 hb2 ha2 hkid0
        have hW2 : ∀ b, b < wr.heap.size → ((w2.setCell ⟨wr.heap.size, 4, none⟩ (.slice A6 m6 c6')).alloc (.cells #[.int .u8 (InlD.kind l[k]), .string (InlD.text l[k]), .string (InlD.dest l[k]), .string (InlD.title l[k]), .slice A6 m6 c6'] 80)).heap[b]? = wr.heap[b]? := fun b hb => by
          have hz := HB2.out.size
          rw [Below.heap_alloc _ _ _ (by simp [World.setCell]; omega), Below.heap_setCell _ _ _ _ (by simp; omega), HB2.out.block b (by simp; omega)]
          exact Below.heap_alloc _ _ _ hb
        have hown2 := ownsRow_same hown (fun g _ hg => hW2 g hg)
        have hW3 : ∀ b, wr.heap.size < b → b < w2.heap.size → ((w2.setCell ⟨wr.heap.size, 4, none⟩ (.slice A6 m6 c6')).alloc (.cells #[.int .u8 (InlD.kind l[k]), .string (InlD.text l[k]), .string (InlD.dest l[k]), .string (InlD.title l[k]), .slice A6 m6 c6'] 80)).heap[b]? = w2.heap[b]? := fun b hb hb2 => by
          rw [Below.heap_alloc _ _ _ (by rw [size_setCell]; exact hb2), Below.heap_setCell _ _ _ _ (by simp; omega)]
        have HN3 := Lib.hid (Box.new (w2.setCell ⟨wr.heap.size, 4, none⟩ (.slice A6 m6 c6')) 80 #[.int .u8 (InlD.kind l[k]), .string (InlD.text l[k]), .string (InlD.dest l[k]), .string (InlD.title l[k]), .slice A6 m6 c6'])
        have HO := Lib.hid (fun g hg => hown.lt g hg)
        have HW3 := Lib.hid hW3
        have HW2 := Lib.hid hW2
        clear hW3
        have HZ2 := Lib.hid HB2.out.size
        clear hW2 hown
        go_wp2_with (at_builtin; refine wpList_append_own_at _ rfl _ _ 31 rfl w.heap.size 80 i0 _ 5 80 Tryz.underlying31 hi hz0 hz1 hz2 rfl (by decide) _ k css.flatten rfl hown2 ⟨w2.heap.size, 0, none⟩ 1 1 [.int .u8 (InlD.kind l[k]), .string (InlD.text l[k]), .string (InlD.dest l[k]), .string (InlD.title l[k]), .slice A6 m6 c6'] rfl rfl ?c1 ?c2 ?c3 ?c4 ?c5 ?_)
        case c1 =>
          have := box_lie HN3.out
          rw [size_setCell] at this
          exact fun j u hu => this j u (by simpa using hu)
        case c2 =>
          intro u hu
          simp at hu
          rcases hu with rfl | rfl | rfl | rfl | rfl <;> rfl
        case c3 => unfold maxLen; omega
        case c4 => omega
        case c5 => have := HZ2.out; rw [World.size_alloc, size_setCell]; simp at this; omega
        intro v' w4 hown4 hg4 _ hob4
        go_wp2
        go_roundw
        case rel =>
          exact lentI_step HCL.out HC6.out hlt HE.out HO.out HW2.out HW3.out (by rw [World.size_alloc, size_setCell]; omega) (by simp) hws HB2.out
            (((HBW0.out.trans (HB2.out.mono hsz1)).setCell (by simp; omega) _).alloc (by rw [size_setCell]; have := HZ2.out; omega) _) HA2.out htx hds htl hki hown4 hg4 (by rw [World.size_alloc, size_setCell]; exact hob4)
        case measure => simp [intOf]; omega
      · go_wp2
        go_ret
        refine lentI_end ⟨k, css, rfl, hk, hcl, hc6, hown, hbw, hE⟩ ?_ hl
        rw [show k = l.length by omega]
end Go.Proofs.YtibaoocklempnaaGreatDoor
