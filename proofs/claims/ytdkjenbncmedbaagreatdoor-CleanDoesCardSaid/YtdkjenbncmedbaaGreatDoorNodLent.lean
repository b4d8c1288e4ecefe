/- Own copies of nodes; are nodes alike. Are nodes alike: of one thing, twice, yes. -/
import Derived.Test.YtdkjenbncmedbaaGreatDoorNod
import Derived.Maps.AppendAt
namespace Go.Proofs.YtdkjenbncmedbaaGreatDoor
open Go.RowKit

theorem run_app_nn (w : World) (t ty e : TypeId) (i : TypeInfo) (ht : Tryz.prog.underlying t = some (.slice e)) (hi : Tryz.prog.info? e = some i) (c : Nat) :
    (Builtin.append_ #[t, t] ty #[.slice none 0 0, .slice none 0 c]).run Tryz.prog w = .ok (.slice none 0 0) w := by
  simp [Builtin.append_, run_underlying ht, sizeOf, typeInfo, hi, Builtin.lenOf, Builtin.firstCells]

theorem info37 : (Tryz.prog.info? 27).map (fun i => (i.zero, i.size, i.bytes)) = some (some (.agg #[.string ⟨#[]⟩, .string ⟨#[]⟩]), 2, 32) := by kernel_rfl
theorem info35 : (Tryz.prog.info? 48).map (fun i => (i.zero, i.size, i.bytes)) = some (some (.agg #[.int .u8 0, .int .u8 0, .string ⟨#[]⟩, .slice none 0 0, .string ⟨#[]⟩, .slice none 0 0]), 6, 88) := by kernel_rfl

theorem attr_one (l : List AttrD) : ∀ u ∈ (l.map attrCells).flatten, u.oneCell' = true := by
  intro u hu
  obtain ⟨c, hc, huc⟩ := List.mem_flatten.1 hu
  obtain ⟨a, _, rfl⟩ := List.mem_map.1 hc
  simp [attrCells] at huc
  rcases huc with rfl | rfl <;> rfl
theorem attr_len (l : List AttrD) : (l.map attrCells).flatten.length = l.length * 2 := by
  induction l with
  | nil => rfl
  | cons x r ih => simp [attrCells] at *; omega
theorem attr_two (l : List AttrD) : ∀ d ∈ l.map attrCells, List.length d = 2 := by
  intro d hd; simp [attrCells] at hd; obtain ⟨_, _, rfl⟩ := hd; rfl
theorem AttrsAt.cells {w : World} {S : Nat → Prop} {ad : Addr} {c : Nat} {l : List AttrD} (h : AttrsAt w S (.slice (some ad) l.length c) l) : ∀ j u, (l.map attrCells).flatten[j]? = some u → w.cell? (ad.add j) = some u := by
  obtain ⟨A, c', hv, _, _, h1⟩ := h
  cases hv
  intro j u hu
  have hj := (List.getElem?_eq_some_iff.1 hu).1
  rw [attr_len] at hj
  have hi : j / 2 < l.length := by omega
  have e : j = j / 2 * 2 + j % 2 := by omega
  obtain ⟨ad', vs, hA, hlie, hvs, _⟩ := h1 (j / 2) _ (List.getElem?_eq_getElem hi)
  cases hA
  subst hvs
  have := flatten_get 2 (l.map attrCells) (j / 2) (j % 2) (attrCells l[j / 2]) (attr_two l) (by simp [List.getElem?_eq_getElem hi]) (by omega)
  rw [← e, hu] at this
  have h2 := hlie (j % 2) u this.symm
  rw [add_of_add, ← e] at h2
  exact h2

def LentA (w : World) (l : List AttrD) (e : Ending) (w' : World) : Prop := ∃ v', e = .returned v' ∧ Below w.heap.size w w' ∧ AttrsAt w' (New w w') v' l
def LentN (w : World) (n : Nat) (l : List (NT n)) (e : Ending) (w' : World) : Prop := ∃ v', e = .returned v' ∧ Below w.heap.size w w' ∧ NodesAt n w' (New w w') v' l

set_option maxHeartbeats 1000000 in
theorem lent_attrs (v : Value) (l : List AttrD) (S : Nat → Prop) (w : World) (h : AttrsAt w S v l) (hl : l.length ≤ 1000000) : Calls Tryz.prog 40 #[v] w (LentA w l) := by
  obtain ⟨i0, hi, hz0, hz1, hz2⟩ := info_parts info37
  obtain ⟨A, c, rfl, _, hget⟩ := h.get
  cases A with
  | none =>
    have hl0 : l = [] := by
      rcases Nat.eq_zero_or_pos l.length with h0 | h0
      · exact List.length_eq_zero_iff.1 h0
      · obtain ⟨ad, hA, _⟩ := hget 0 h0; cases hA
    subst hl0
    clear hget h hz0 hz1 hz2
    simp only [List.length_nil]
    go_enter Tryz.func40, Tryz.ntmps40
    go_wp2
    go_ret
    exact ⟨_, rfl, Below.refl _ _, none, 0, rfl, by simp, by simp, by simp⟩
  | some ad =>
    have hcs := h.cells
    have HC := Lib.hid hcs
    have HG := Lib.hid hget
    clear hcs hget h
    go_enter Tryz.func40, Tryz.ntmps40
    go_wp2_with (at_builtin; refine wpList_append_own_at _ rfl _ _ 46 rfl w.heap.size 27 i0 _ 2 32 Tryz.underlying46 hi hz0 hz1 hz2 rfl (by decide) (.slice none 0 0) 0 [] rfl (World.ownsRow_nil w _ _ _) ad l.length c (l.map attrCells).flatten rfl (attr_len l) HC.out (attr_one l) (by unfold maxLen; omega) (by omega) (Nat.le_refl _) ?_)
    intro v' w' hown hg _ hob
    go_wp2
    go_ret
    refine ⟨v', rfl, ?_, ?_⟩
    · exact (Below.refl _ w).grown hg (Nat.le_refl _) (by intro k hk; simp [Value.ownBlock] at hk)
    · refine Row.of_own (l.map attrCells) hown (fun k hk => ⟨(hown.lt k hk).1, (hown.lt k hk).2⟩) (by omega) (attr_two l) (by simp) ?_
      intro i cs x hc hx
      have hi' := (List.getElem?_eq_some_iff.1 hx).1
      simp [hx] at hc
      obtain ⟨ad2, _, hn, hv, _⟩ := HG.out i hi'
      have e : l[i] = x := by rw [List.getElem?_eq_getElem hi'] at hx; exact Option.some.inj hx
      rw [e] at hn hv
      exact ⟨hc.symm, hn, hv⟩

theorem attrs_len_le (l : List AttrD) : l.length ≤ attrsWt l := by
  unfold attrsWt
  induction l with
  | nil => simp
  | cons x r ih => simp at *; omega
theorem rowWt_get {K : Type} (f : K → Nat) (l : List (NodeD K)) : ∀ (k : Nat) (hk : k < l.length), 1 + l[k].text.size / 8 + l[k].name.size / 8 + attrsWt l[k].attrs + f l[k].kids ≤ rowWt f l := by
  unfold rowWt
  induction l with
  | nil => intro k hk; simp at hk
  | cons x r ih =>
    intro k hk
    cases k with
    | zero => simp
    | succ k =>
      have := ih k (by simpa using hk)
      simp only [List.map_cons, List.sum_cons, List.getElem_cons_succ] at *
      omega
theorem rowWt_len {K : Type} (f : K → Nat) (l : List (NodeD K)) : l.length ≤ rowWt f l := by
  unfold rowWt
  induction l with
  | nil => simp
  | cons x r ih => simp at *; omega
theorem wt_get (n : Nat) (l : List (NT (n + 1))) (k : Nat) (hk : k < l.length) : 1 + (NodeD.text l[k]).size / 8 + (NodeD.name l[k]).size / 8 + attrsWt (NodeD.attrs l[k]) + wt n (NodeD.kids l[k]) ≤ wt (n + 1) l :=
  rowWt_get (K := List (NT n)) (wt n) l k hk
theorem wt_len (n : Nat) (l : List (NT (n + 1))) : l.length ≤ wt (n + 1) l := rowWt_len (K := List (NT n)) (wt n) l

def OutRel (w : World) (n : Nat) (l : List (NT (n + 1))) (v i : Value) (wr : World) : Prop :=
  ∃ (k : Nat) (css : List (List Value)), i = .int .i64 k ∧ k ≤ l.length ∧ css.length = k ∧ (∀ c ∈ css, List.length c = 6) ∧ wr.ownsRow w.heap.size 48 6 v k css.flatten ∧ Below w.heap.size w wr ∧
    ∀ (j : Nat) (c : List Value) (x : NodeD (List (NT n))), css[j]? = some c → l[j]? = some x → NodeIs (NodesAt n) wr (Own w v wr) c x

theorem NodeIs.keep {n : Nat} {w w' : World} {S S' : Nat → Prop} {c : List Value} {x : NodeD (List (NT n))} (h : NodeIs (NodesAt n) w S c x) (hb : ∀ k, S k → w'.heap[k]? = w.heap[k]?) (hS : ∀ k, S k → S' k) : NodeIs (NodesAt n) w' S' c x := by
  obtain ⟨va, vk, e, ha, hk, r⟩ := h
  exact ⟨va, vk, e, (ha.keep hb).mono hS, NodesAt.mono hS n (NodesAt.keep hb n hk), r⟩

theorem lent_end {w wr : World} {n : Nat} {l : List (NT (n + 1))} {v i : Value} (h : OutRel w n l v i wr) (hi : i = .int .i64 l.length) (hl : l.length ≤ 9223372036854775807) : LentN w (n + 1) l (.returned v) wr := by
  obtain ⟨k, css, hik, hk, hcl, hc6, hown, hb, hE⟩ := h
  rw [hi] at hik
  have e : k = l.length := by injection hik with _ e; omega
  subst e
  refine ⟨v, rfl, hb, ?_⟩
  refine Row.of_own (α := NodeD (List (NT n))) css hown (fun k hk => ⟨(hown.lt k hk).1, (hown.lt k hk).2⟩) hl hc6 hcl ?_
  intro j c x hc hx
  exact (hE j c x hc hx).keep (fun _ _ => rfl) (fun k hk => ⟨hk.1, hk.2.1⟩)

theorem NodesAt.shape {w : World} {S : Nat → Prop} {v : Value} : ∀ {n : Nat} {l : List (NT n)}, NodesAt n w S v l → ∃ A m c, v = .slice A m c
  | 0, _, h => by obtain ⟨A, c, rfl⟩ := h.none_; exact ⟨_, _, _, rfl⟩
  | _ + 1, _, h => by obtain ⟨A, c, rfl, _⟩ := h.get; exact ⟨_, _, _, rfl⟩
theorem AttrsAt.shape {w : World} {S : Nat → Prop} {v : Value} {l : List AttrD} (h : AttrsAt w S v l) : ∃ A m c, v = .slice A m c := by
  obtain ⟨A, c, rfl, _⟩ := h; exact ⟨_, _, _, rfl⟩

theorem nodes_zero (w : World) (S : Nat → Prop) (l : List (NT 0)) : NodesAt 0 w S (.slice none 0 0) l := by
  match l with
  | [] =>
    refine ⟨none, 0, rfl, Nat.zero_le _, fun h => absurd h (by decide), fun i x hx => ?_⟩
    exact Empty.elim x
  | x :: _ => exact Empty.elim x

theorem lent_step {n : Nat} {w wr w0 w1 w1' w2 w3 w4 : World} {l : List (NT (n + 1))} {k : Nat} {css : List (List Value)} {u3 v' v1 v2 : Value} (hcl : css.length = k) (hc6 : ∀ c ∈ css, List.length c = 6) (hlt : k < l.length)
    (hE : ∀ (j : Nat) (c : List Value) (x : NodeD (List (NT n))), css[j]? = some c → l[j]? = some x → NodeIs (NodesAt n) wr (Own w u3 wr) c x) (ho : ∀ g, u3.ownBlock = some g → w.heap.size ≤ g ∧ g < wr.heap.size)
    (hW2 : ∀ b, b < wr.heap.size → w3.heap[b]? = wr.heap[b]?) (hW3 : ∀ b, wr.heap.size < b → b < w2.heap.size → w3.heap[b]? = w2.heap[b]?)
    (hz3 : w2.heap.size < w3.heap.size) (hz0 : wr.heap.size < w0.heap.size) (hz01 : w0.heap.size ≤ w1.heap.size) (hz : w.heap.size ≤ wr.heap.size) (hz1 : w1'.heap.size = w1.heap.size) (hb2 : Below w1'.heap.size w1' w2) (h11 : ∀ b, wr.heap.size < b → w1'.heap[b]? = w1.heap[b]?)
    (hbw3 : Below w.heap.size w w3) (ha1 : AttrsAt w1 (New w0 w1) v1 (NodeD.attrs l[k])) (ha2 : NodesAt n w2 (New w1' w2) v2 (NodeD.kids l[k]))
    (hnm : (NodeD.name l[k]).size ≤ 9223372036854775807) (htx : (NodeD.text l[k]).size ≤ 9223372036854775807) (hki : NodeD.kind l[k] < 256) (hsp : NodeD.space l[k] < 256)
    (hown4 : w4.ownsRow w.heap.size 48 6 v' (k + 1) (css.flatten ++ [.int .u8 (NodeD.kind l[k]), .int .u8 (NodeD.space l[k]), .string (NodeD.name l[k]), v1, .string (NodeD.text l[k]), v2]))
    (hg4 : w3.grownBy w4 u3.ownBlock) (hob4 : v'.ownBlock = u3.ownBlock ∨ v'.ownBlock = some w3.heap.size) : OutRel w n l v' (.int .i64 ((k : Int) + 1)) w4 := by
  have hz4 := hg4.size
  have hs2 := hb2.size
  have ho4 : ∀ b, w.heap.size ≤ b → b < w3.heap.size → u3.ownBlock ≠ some b → Own w v' w4 b := fun b h1 h2 h3 => ⟨h1, by omega, by
    rcases hob4 with e | e
    · rw [e]; exact h3
    · rw [e]; intro e2; cases e2; omega⟩
  have hne : ∀ b, wr.heap.size < b → u3.ownBlock ≠ some b := fun b hb e => by have := (ho b e).2; omega
  refine ⟨k + 1, css ++ [[.int .u8 (NodeD.kind l[k]), .int .u8 (NodeD.space l[k]), .string (NodeD.name l[k]), v1, .string (NodeD.text l[k]), v2]], by go_num, by omega, by simp [hcl], ?_, by simpa using hown4, hbw3.grown hg4 (by have := hbw3.size; omega) (fun g hg => (ho g hg).1), ?_⟩
  · intro c hc
    rcases List.mem_append.1 hc with h | h
    · exact hc6 c h
    · simp at h; subst h; rfl
  · intro j c x hc hx
    by_cases hjk : j < k
    · rw [List.getElem?_append_left (by omega)] at hc
      refine (hE j c x hc hx).keep (fun b hb => ?_) (fun b hb => ho4 b hb.1 (by have := hb.2.1; omega) hb.2.2)
      rw [hg4.block b (by have := hb.2.1; omega) (fun e => hb.2.2 e.symm)]
      exact hW2 b hb.2.1
    · have hj : j = k := by
        have := (List.getElem?_eq_some_iff.1 hc).1
        simp at this; omega
      subst hj
      rw [List.getElem?_append_right (by omega), hcl] at hc
      simp at hc
      subst hc
      have hxk : l[j] = x := by rw [List.getElem?_eq_getElem hlt] at hx; exact Option.some.inj hx
      subst hxk
      refine ⟨v1, v2, rfl, ?_, ?_, hnm, htx, hki, hsp⟩
      · refine (ha1.keep (w' := w4) fun b hb => ?_).mono fun b hb => ho4 b (by have := hb.1; omega) (by have := hb.2; omega) (hne b (by have := hb.1; omega))
        obtain ⟨h1, h2⟩ := hb
        rw [hg4.block b (by omega) (fun e => hne b (by omega) e.symm), hW3 b (by omega) (by omega), hb2.block b (by omega)]
        exact h11 b (by omega)
      · refine NodesAt.mono (fun b hb => ho4 b (by have := hb.1; omega) (by have := hb.2; omega) (hne b (by have := hb.1; omega))) n (NodesAt.keep (w' := w4) (fun b hb => ?_) n ha2)
        obtain ⟨h1, h2⟩ := hb
        rw [hg4.block b (by omega) (fun e => hne b (by omega) e.symm), hW3 b (by omega) (by omega)]

set_option maxHeartbeats 4000000 in
set_option maxRecDepth 100000 in
theorem lent_nodes (n : Nat) : ∀ (v : Value) (l : List (NT n)) (S : Nat → Prop) (w : World), NodesAt n w S v l → (∀ k, S k → k < w.heap.size) → wt n l ≤ 1000000 → Calls Tryz.prog 14 #[v] w (LentN w n l) := by
  induction n with
  | zero =>
    intro v l S w h hS hw
    obtain ⟨A, c, rfl⟩ := h.none_
    go_enter Tryz.func14, Tryz.ntmps14
    go_wp2
    refine wp_loop_rounds 1 ?_
    rw [rounds_succ]
    go_wp2
    go_ret
    refine ⟨_, rfl, Below.refl _ _, ?_⟩
    exact nodes_zero _ _ _
  | succ n ih =>
    intro v l S w h hS hw
    have hlw := wt_len n l
    obtain ⟨i0, hi, hz0, hz1, hz2⟩ := info_parts info35
    obtain ⟨A, c, rfl, hl, hget⟩ := h.get
    have HG := Lib.hid hget
    have HN := Lib.hid h
    have IH := Lib.hid ih
    clear hget h ih
    go_enter Tryz.func14, Tryz.ntmps14
    go_wp2
    go_loopw [3, 4] (fun v i wr => OutRel w n l v i wr) (fun _ i _ => l.length - (intOf i).toNat)
    case atStart => exact ⟨0, [], rfl, Nat.zero_le _, rfl, by simp, World.ownsRow_nil _ _ _ _, Below.refl _ _, by simp⟩
    case round =>
      obtain ⟨k, css, rfl, hk, hcl, hc6, hown, hbw, hE⟩ := hrel
      by_cases hlt : k < l.length
      · obtain ⟨ad, va, vk, hA, hatt, hkids, hnm, htx, hki, hsp, hbl, c0, c1, c2, c3, c4, c5⟩ := HG.out k hlt
        subst hA
        have hwg := wt_get n l k hlt
        have hbl2 := hS _ hbl
        have hblk : ∀ j : Nat, wr.cell? ⟨(ad.add (k * 6)).block, j, none⟩ = w.cell? ⟨(ad.add (k * 6)).block, j, none⟩ := fun j => hbw.cell (by rw [block_of_add]; exact hbl2)
        have d0 : wr.cell? (ad.add (k * 6)) = some (.int .u8 (NodeD.kind l[k])) := (hbw.cell (by rw [block_of_add]; exact hbl2)).trans c0
        have d1 := (hblk _).trans c1
        have d2 := (hblk _).trans c2
        have d3 := (hblk _).trans c3
        have d4 := (hblk _).trans c4
        have d5 := (hblk _).trans c5
        have HCL := Lib.hid hcl; have HC6 := Lib.hid hc6; have HE := Lib.hid hE; have HW := Lib.hid hwg
        have HAT := Lib.hid hatt; have HK := Lib.hid hkids
        clear hcl hc6 hE hwg c0 c1 c2 c3 c4 c5 hblk hatt hkids
        obtain ⟨A2, m2, c2, rfl⟩ := HAT.out.shape
        obtain ⟨A3, m3, c3, rfl⟩ := HK.out.shape
        have hws := hbw.size
        have hold0 := old_alloc hbw hws (Obj.cells #[.int .u8 (NodeD.kind l[k]), .int .u8 (NodeD.space l[k]), .string (NodeD.name l[k]), .slice A2 m2 c2, .string (NodeD.text l[k]), .slice A3 m3 c3] 48)
        have hat0 := AttrsAt.keep HAT.out fun b hb => hold0 b (hS b hb)
        have HX0 := Lib.hid (Box.new wr 48 #[.int .u8 (NodeD.kind l[k]), .int .u8 (NodeD.space l[k]), .string (NodeD.name l[k]), .slice A2 m2 c2, .string (NodeD.text l[k]), .slice A3 m3 c3])
        have HOLD0 := Lib.hid hold0
        clear hold0
        have hla := attrs_len_le (NodeD.attrs l[k])
        have hwk := HW.out
        go_wp2_with fail
        refine (lent_attrs _ (NodeD.attrs l[k]) S _ hat0 (by omega)).mono ?_
        rintro e w1 ⟨v1, rfl, hb1, ha1⟩
        obtain ⟨A4, m4, c4', rfl⟩ := ha1.shape
        have hx1 := HX0.out.below hb1 (by simp)
        have hz1' := hx1.lt
        have e3 := hx1.cell 3
        have f3 := hx1.free 3
        have e5 := (hx1.set 3 (.slice A4 m4 c4')).cell 5
        simp only [List.getElem?_toArray, List.getElem?_cons_succ, List.getElem?_cons_zero, List.setIfInBounds_toArray, List.set_cons_succ, List.set_cons_zero] at e3 e5
        have HX1 := Lib.hid (hx1.set 3 (.slice A4 m4 c4')); have HB1 := Lib.hid hb1; have HA1 := Lib.hid ha1
        clear hx1 hb1 ha1 hat0
        have hlt1 : wr.heap.size < (w1.setCell ⟨wr.heap.size, 3, none⟩ (.slice A4 m4 c4')).heap.size := HX1.out.lt
        have hW1 : ∀ b, b < w.heap.size → (w1.setCell ⟨wr.heap.size, 3, none⟩ (.slice A4 m4 c4')).heap[b]? = w.heap[b]? := fun b hb => (Below.heap_setCell _ _ _ _ (by simp; omega)).trans ((HB1.out.block b (by simp; omega)).trans (HOLD0.out b hb))
        have hkid1 := NodesAt.keep (fun b hb => hW1 b (hS b hb)) n HK.out
        have HBW1 : Hid (Below w.heap.size w (w1.setCell ⟨wr.heap.size, 3, none⟩ (.slice A4 m4 c4'))) := ((hbw.alloc hws _).trans (HB1.out.mono (by simp; omega))).setCell (by simp; omega) _
        have hsz1 := HBW1.out.size
        have HW1 := Lib.hid hW1
        clear hW1
        go_wp2_with fail
        refine (IH.out _ (NodeD.kids l[k]) S _ hkid1 (fun b hb => Nat.lt_of_lt_of_le (hS b hb) hsz1) (by omega)).mono ?_
        rintro e w2 ⟨v2, rfl, hb2, ha2⟩
        obtain ⟨A6, m6, c6', rfl⟩ := ha2.shape
        have hx2 := HX1.out.below hb2 hlt1
        have hz2' := hx2.lt
        have e5b := hx2.cell 5
        have f5 := hx2.free 5
        have hx3 := hx2.set 5 (.slice A6 m6 c6')
        have g0 := hx3.cell 0
        have g1 := hx3.cell 1
        have g2 := hx3.cell 2
        have g3 := hx3.cell 3
        have g4 := hx3.cell 4
        have g5 := hx3.cell 5
        simp only [List.getElem?_toArray, List.getElem?_cons_succ, List.getElem?_cons_zero, List.setIfInBounds_toArray, List.set_cons_succ, List.set_cons_zero] at e5b g0 g1 g2 g3 g4 g5
        have HB2 := Lib.hid hb2; have HA2 := Lib.hid ha2
        clear hx2 hx3 hb2 ha2 hkid1
        have hW2 : ∀ b, b < wr.heap.size → ((w2.setCell ⟨wr.heap.size, 5, none⟩ (.slice A6 m6 c6')).alloc (.cells #[.int .u8 (NodeD.kind l[k]), .int .u8 (NodeD.space l[k]), .string (NodeD.name l[k]), .slice A4 m4 c4', .string (NodeD.text l[k]), .slice A6 m6 c6'] 48)).heap[b]? = wr.heap[b]? := fun b hb => by
          have hz := HB2.out.size
          rw [Below.heap_alloc _ _ _ (by simp [World.setCell]; omega), Below.heap_setCell _ _ _ _ (by simp; omega), HB2.out.block b (by omega), Below.heap_setCell _ _ _ _ (by simp; omega), HB1.out.block b (by simp; omega)]
          exact Below.heap_alloc _ _ _ hb
        have hown2 := ownsRow_same hown (fun g _ hg => hW2 g hg)
        have hW3 : ∀ b, wr.heap.size < b → b < w2.heap.size → ((w2.setCell ⟨wr.heap.size, 5, none⟩ (.slice A6 m6 c6')).alloc (.cells #[.int .u8 (NodeD.kind l[k]), .int .u8 (NodeD.space l[k]), .string (NodeD.name l[k]), .slice A4 m4 c4', .string (NodeD.text l[k]), .slice A6 m6 c6'] 48)).heap[b]? = w2.heap[b]? := fun b hb hb2 => by
          rw [Below.heap_alloc _ _ _ (by rw [size_setCell]; exact hb2), Below.heap_setCell _ _ _ _ (by simp; omega)]
        have HN3 := Lib.hid (Box.new (w2.setCell ⟨wr.heap.size, 5, none⟩ (.slice A6 m6 c6')) 48 #[.int .u8 (NodeD.kind l[k]), .int .u8 (NodeD.space l[k]), .string (NodeD.name l[k]), .slice A4 m4 c4', .string (NodeD.text l[k]), .slice A6 m6 c6'])
        have HO := Lib.hid (fun g hg => hown.lt g hg)
        have HW3 := Lib.hid hW3
        have HW2 := Lib.hid hW2
        clear hW3
        have HZ2 := Lib.hid HB2.out.size
        clear hW2 hown
        go_wp2_with (at_builtin; refine wpList_append_own_at _ rfl _ _ 37 rfl w.heap.size 48 i0 _ 6 88 Tryz.underlying37 hi hz0 hz1 hz2 rfl (by decide) _ k css.flatten rfl hown2 ⟨w2.heap.size, 0, none⟩ 1 1 [.int .u8 (NodeD.kind l[k]), .int .u8 (NodeD.space l[k]), .string (NodeD.name l[k]), .slice A4 m4 c4', .string (NodeD.text l[k]), .slice A6 m6 c6'] rfl rfl ?c1 ?c2 ?c3 ?c4 ?c5 ?_)
        case c1 =>
          have := box_lie HN3.out
          rw [size_setCell] at this
          exact fun j u hu => this j u (by simpa using hu)
        case c2 =>
          intro u hu
          simp at hu
          rcases hu with rfl | rfl | rfl | rfl | rfl | rfl <;> rfl
        case c3 => unfold maxLen; omega
        case c4 => omega
        case c5 => have := HZ2.out; rw [World.size_alloc, size_setCell]; omega
        intro v' w4 hown4 hg4 _ hob4
        go_wp2
        go_roundw
        case rel =>
          exact lent_step HCL.out HC6.out hlt HE.out HO.out HW2.out HW3.out (by rw [World.size_alloc, size_setCell]; omega) (by simp) HB1.out.size hws (size_setCell _ _ _) HB2.out (fun b hb => Below.heap_setCell _ _ _ _ (by simp; omega))
            (((HBW1.out.trans (HB2.out.mono hsz1)).setCell (by simp; omega) _).alloc (by rw [size_setCell]; have := HZ2.out; omega) _) HA1.out HA2.out hnm htx hki hsp hown4 hg4 (by rw [World.size_alloc, size_setCell]; exact hob4)
        case measure => simp [intOf]; omega
      · go_wp2
        go_ret
        refine lent_end ⟨k, css, rfl, hk, hcl, hc6, hown, hbw, hE⟩ ?_ hl
        rw [show k = l.length by omega]

set_option maxHeartbeats 2000000 in
set_option maxRecDepth 100000 in
theorem same_attrs (v v' : Value) (l : List AttrD) (S S' : Nat → Prop) (w : World) (h : AttrsAt w S v l) (h' : AttrsAt w S' v' l) :
    Calls Tryz.prog 42 #[v, v'] w fun e w' => e = .returned (.bool true) ∧ ∃ d, w' = w.drewN d := by
  obtain ⟨A, c, rfl, hl, hget⟩ := h.get
  obtain ⟨A', c', rfl, _, hget'⟩ := h'.get
  have HG := Lib.hid hget
  have HG' := Lib.hid hget'
  clear hget hget' h h'
  have hne : ((l.length : Int) != (l.length : Int)) = false := by simp
  go_enter Tryz.func42, Tryz.ntmps42
  go_wp2
  go_loopw [5] (fun i wr => ∃ k : Nat, i = .int .i64 k ∧ k ≤ l.length ∧ ∃ d, wr = w.drewN d) (fun i _ => l.length - (intOf i).toNat)
  case atStart => exact ⟨0, rfl, Nat.zero_le _, 0, rfl⟩
  case round =>
    obtain ⟨k, rfl, hk, d, rfl⟩ := hrel
    by_cases hlt : k < l.length
    · obtain ⟨ad, hA, hn, hv, _, c0, c1⟩ := HG.out k hlt
      obtain ⟨ad', hA', _, _, _, c0', c1'⟩ := HG'.out k hlt
      subst hA
      subst hA'
      go_wp2
      go_quiet (fail)
      go_wp2
      go_roundw
      case rel => exact ⟨k + 1, by go_num, by omega, _, rfl⟩
      case measure => simp [intOf]; omega
    · go_wp2
      go_ret
      exact ⟨rfl, _, rfl⟩

def YesS (w : World) (e : Ending) (w' : World) : Prop := e = .returned (.bool true) ∧ Below w.heap.size w w'

set_option maxHeartbeats 4000000 in
set_option maxRecDepth 100000 in
theorem same_nodes (n : Nat) : ∀ (v v' : Value) (l : List (NT n)) (S S' : Nat → Prop) (w : World), NodesAt n w S v l → NodesAt n w S' v' l → (∀ k, S k → k < w.heap.size) → (∀ k, S' k → k < w.heap.size) →
    Calls Tryz.prog 16 #[v, v'] w (YesS w) := by
  induction n with
  | zero =>
    intro v v' l S S' w h h' hS hS'
    obtain ⟨A, c, rfl⟩ := h.none_
    obtain ⟨A', c', rfl⟩ := h'.none_
    go_enter Tryz.func16, Tryz.ntmps16
    go_wp2
    refine wp_loop_rounds 1 ?_
    rw [rounds_succ]
    go_wp2
    go_ret
    exact ⟨rfl, Below.refl _ _⟩
  | succ n ih =>
    intro v v' l S S' w h h' hS hS'
    obtain ⟨A, c, rfl, hl, hget⟩ := h.get
    obtain ⟨A', c', rfl, _, hget'⟩ := h'.get
    have HG := Lib.hid hget
    have HG' := Lib.hid hget'
    have IH := Lib.hid ih
    clear hget hget' h h' ih
    have hne : ((l.length : Int) != (l.length : Int)) = false := by simp
    go_enter Tryz.func16, Tryz.ntmps16
    go_wp2
    go_loopw [5] (fun i wr => ∃ k : Nat, i = .int .i64 k ∧ k ≤ l.length ∧ Below w.heap.size w wr) (fun i _ => l.length - (intOf i).toNat)
    case atStart => exact ⟨0, rfl, Nat.zero_le _, Below.refl _ _⟩
    case round =>
      obtain ⟨k, rfl, hk, hbw⟩ := hrel
      have hws := hbw.size
      by_cases hlt : k < l.length
      · obtain ⟨ad, va, vk, hA, hatt, hkids, hnm, htx, hki, hsp, hbl, c0, c1, c2, c3, c4, c5⟩ := HG.out k hlt
        obtain ⟨ad', va', vk', hA', hatt', hkids', _, _, _, _, hbl', c0', c1', c2', c3', c4', c5'⟩ := HG'.out k hlt
        subst hA
        subst hA'
        obtain ⟨A2, m2, c2x, rfl⟩ := hatt.shape
        obtain ⟨A3, m3, c3x, rfl⟩ := hkids.shape
        obtain ⟨A4, m4, c4x, rfl⟩ := hatt'.shape
        obtain ⟨A5, m5, c5x, rfl⟩ := hkids'.shape
        have hb1 := hS _ hbl
        have hb2 := hS' _ hbl'
        have q : ∀ (a : Addr) (k j : Nat), a.block < w.heap.size → wr.cell? ⟨(a.add k).block, j, none⟩ = w.cell? ⟨(a.add k).block, j, none⟩ := fun a k j ha => hbw.cell (by rw [block_of_add]; exact ha)
        have d0 := (hbw.cell (p := ad.add (k * 6)) (by rw [block_of_add]; exact hb1)).trans c0
        have d1 := (q ad (k * 6) _ hb1).trans c1
        have d2 := (q ad (k * 6) _ hb1).trans c2
        have d3 := (q ad (k * 6) _ hb1).trans c3
        have d4 := (q ad (k * 6) _ hb1).trans c4
        have d5 := (q ad (k * 6) _ hb1).trans c5
        clear c0 c1 c2 c3 c4 c5
        have q' : ∀ (o : Obj) (a : Addr) (k j : Nat), a.block < w.heap.size → (wr.alloc o).cell? ⟨(a.add k).block, j, none⟩ = w.cell? ⟨(a.add k).block, j, none⟩ := fun o a k j ha => (World.cell?_alloc_lt wr o _ (by simp [block_of_add]; omega)).trans (q a k j ha)
        have e0 := fun o : Obj => ((World.cell?_alloc_lt wr o (ad'.add (k * 6)) (by rw [block_of_add]; omega)).trans (hbw.cell (p := ad'.add (k * 6)) (by rw [block_of_add]; exact hb2))).trans c0'
        have e1 := fun o : Obj => (q' o ad' (k * 6) _ hb2).trans c1'
        have e2 := fun o : Obj => (q' o ad' (k * 6) _ hb2).trans c2'
        have e3 := fun o : Obj => (q' o ad' (k * 6) _ hb2).trans c3'
        have e4 := fun o : Obj => (q' o ad' (k * 6) _ hb2).trans c4'
        have e5 := fun o : Obj => (q' o ad' (k * 6) _ hb2).trans c5'
        clear c0' c1' c2' c3' c4' c5' q q'
        have HAT := Lib.hid hatt; have HK := Lib.hid hkids; have HAT' := Lib.hid hatt'; have HK' := Lib.hid hkids'
        clear hatt hkids hatt' hkids'
        have hold : ∀ (o o' : Obj) (b : Nat), b < w.heap.size → ((wr.alloc o).alloc o').heap[b]? = w.heap[b]? := fun o o' b hb => (Below.heap_alloc _ _ _ (by simp; omega)).trans ((Below.heap_alloc _ _ _ (by omega)).trans (hbw.block b hb))
        have HOLD := Lib.hid hold
        clear hold
        go_wp2_with fail
        refine (same_attrs _ _ (NodeD.attrs l[k]) S S' _ (by exact HAT.out.keep fun b hb => HOLD.out _ _ b (hS b hb)) (by exact HAT'.out.keep fun b hb => HOLD.out _ _ b (hS' b hb))).mono ?_
        rintro e w1 ⟨rfl, d, rfl⟩
        go_wp2_with fail
        refine (IH.out _ _ (NodeD.kids l[k]) S S' _ (by exact NodesAt.drewN (NodesAt.keep (fun b hb => HOLD.out _ _ b (hS b hb)) n HK.out) d) (by exact NodesAt.drewN (NodesAt.keep (fun b hb => HOLD.out _ _ b (hS' b hb)) n HK'.out) d) (by intro b hb; have := hS b hb; simp; omega) (by intro b hb; have := hS' b hb; simp; omega)).mono ?_
        rintro e w2 ⟨rfl, hb2'⟩
        go_wp2
        go_roundw
        case rel => exact ⟨k + 1, by go_num, by omega, (((hbw.alloc hws _).alloc (by simp; omega) _).trans (below_drewN (Below.refl _ _) d)).trans (hb2'.mono (by simp; omega))⟩
        case measure => simp [intOf]; omega
      · go_wp2
        go_ret
        exact ⟨rfl, hbw⟩
end Go.Proofs.YtdkjenbncmedbaaGreatDoor
