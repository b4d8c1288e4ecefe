/- (*clean.keeper).text. -/
import Derived.Test.YtdkjenbncmedbaaGreatDoorClnM
namespace Go.Proofs.YtdkjenbncmedbaaGreatDoor
open Go.RowKit

theorem infoN : (Tryz.prog.info? 48).map (fun i => (i.zero, i.size, i.bytes)) = some (some (.agg #[.int .u8 0, .int .u8 0, .string ⟨#[]⟩, .slice none 0 0, .string ⟨#[]⟩, .slice none 0 0]), 6, 88) := by kernel_rfl
theorem infoN6 : (Tryz.prog.info? 48).map (·.size) = some 6 := by kernel_rfl
def KeepAt (kb : Nat) (w : World) (x : Pl) (vE vA vS v : Value) : Prop := w.heap[kb]? = some (.cells #[.bool x.para, .bool x.link, .bool x.item, .bool x.pair, .bool x.head, .bool x.pre, vE, vA, vS, v] 68 (0, 0))
theorem KeepAt.below {kb B : Nat} {w w' : World} {x : Pl} {vE vA vS v : Value} (h : KeepAt kb w x vE vA vS v) (hb : Below B w w') (hk : kb < B) : KeepAt kb w' x vE vA vS v := (hb.block kb hk).trans h
theorem KeepAt.cell {kb : Nat} {w : World} {x : Pl} {vE vA vS v : Value} (h : KeepAt kb w x vE vA vS v) (i : Nat) : w.cell? ⟨kb, i, none⟩ = #[Value.bool x.para, .bool x.link, .bool x.item, .bool x.pair, .bool x.head, .bool x.pre, vE, vA, vS, v][i]? := cell_of_row w kb i _ _ _ h
theorem KeepAt.free {kb : Nat} {w : World} {x : Pl} {vE vA vS v : Value} (h : KeepAt kb w x vE vA vS v) (i : Nat) : w.frozen? ⟨kb, i, none⟩ = false := by
  have h' : w.heap[kb]? = _ := h
  simp [World.frozen?, h']
theorem KeepAt.put {kb : Nat} {w : World} {x : Pl} {vE vA vS v : Value} (h : KeepAt kb w x vE vA vS v) (u : Value) : KeepAt kb (w.setCell ⟨kb, 9, none⟩ u) x vE vA vS u := by
  have := Joins.block_setCell h (i := 9) u
  exact this
def zeroN : List Value := [.int .u8 0, .int .u8 0, .string ⟨#[]⟩, .slice none 0 0, .string ⟨#[]⟩, .slice none 0 0]
def zeroO : Obj := .cells #[.int .u8 0, .int .u8 0, .string ⟨#[]⟩, .slice none 0 0, .string ⟨#[]⟩, .slice none 0 0] 48
theorem zero_cells {w : World} : ∀ (j : Nat) u, zeroN[j]? = some u → (w.alloc (.cells #[.int .u8 0, .int .u8 0, .string ⟨#[]⟩, .slice none 0 0, .string ⟨#[]⟩, .slice none 0 0] 48)).cell? ((⟨w.heap.size, 0, none⟩ : Addr).add j) = some u := fun j u hu => by
  rw [add_off, Nat.zero_add, cell_of_row _ _ j _ _ _ (heap_alloc_new w _)]
  simpa [zeroN] using hu
def TextR (kb base D : Nat) (x : Pl) (vE vA vS : Value) (w : World) (acc : List (NodeD (List (NT D)))) (e : Ending) (w' : World) : Prop :=
  e = .returned (.tuple #[]) ∧ ∃ v', KeepAt kb w' x vE vA vS v' ∧ OutAt base D w' v' acc ∧ Beside kb base w w'
/-- The last node of a row of one's own. -/
theorem OutAt.last {base D : Nat} {w : World} {v : Value} {p : List (NodeD (List (NT D)))} {y : NodeD (List (NT D))} (h : OutAt base D w v (p ++ [y])) : ∃ g cap, v = .slice (some ⟨g, 0, none⟩) (p.length + 1) cap ∧ base ≤ g ∧ g < w.heap.size ∧ y.kind < 256 ∧
    w.cell? ⟨g, p.length * 6, none⟩ = some (.int .u8 y.kind) ∧ w.cell? ⟨g, p.length * 6 + 4, none⟩ = some (.string y.text) ∧
    w.frozen? ⟨g, p.length * 6 + 4, none⟩ = false ∧
    ∀ t : ByteArray, t.size ≤ 9223372036854775807 → OutAt base D (w.setCell ⟨g, p.length * 6 + 4, none⟩ (.string t)) v (p ++ [{ y with text := t }]) := by
  obtain ⟨css, h1, h2, h3, h4⟩ := h
  have hcl := flat_six css h2
  rw [h1] at hcl
  rw [show (p ++ [y]).length = p.length + 1 by simp] at h1 h3 hcl
  obtain ⟨g, cap, rfl⟩ := Joins.ownsRow_form h3 (by omega)
  obtain ⟨q, c, rfl⟩ : ∃ q c, css = q ++ [c] := ⟨css.dropLast, css.getLast (by intro e; rw [e] at h1; cases h1), (List.dropLast_concat_getLast _).symm⟩
  have hql : q.length = p.length := by simpa using h1
  have hcE := h4 q.length c y (by simp) (by rw [hql]; simp)
  obtain ⟨va, vk, rfl, ha, hk, hn, ht, hki, hsp⟩ := hcE
  have hqf : q.flatten.length = p.length * 6 := by
    have := hcl
    rw [List.flatten_append, List.length_append, show ([[Value.int .u8 y.kind, .int .u8 y.space, .string y.name, va, .string y.text, vk]] : List (List Value)).flatten.length = 6 from rfl] at this
    omega
  have hcell : ∀ i u, [Value.int .u8 y.kind, .int .u8 y.space, .string y.name, va, .string y.text, vk][i]? = some u → w.cell? ⟨g, p.length * 6 + i, none⟩ = some u := fun i u hu => by
    have hi : i < 6 := (List.getElem?_eq_some_iff.1 hu).1
    rw [h3.cellAt _ (by omega), List.flatten_append, List.getElem?_append_right (by omega), hqf, show p.length * 6 + i - p.length * 6 = i by omega]
    simpa using hu
  have hown := h3.lt g rfl
  refine ⟨g, cap, rfl, hown.1, hown.2, hki, hcell 0 _ rfl, hcell 4 _ rfl, h3.frozenAt _, fun t ht2 => ?_⟩
  obtain ⟨s1, s2⟩ := h3.stored (p.length * 6 + 4) (.string t)
  have hfl : (q ++ [[Value.int .u8 y.kind, .int .u8 y.space, .string y.name, va, .string y.text, vk]]).flatten.set (p.length * 6 + 4) (.string t) = (q ++ [[Value.int .u8 y.kind, .int .u8 y.space, .string y.name, va, .string t, vk]]).flatten := by
    rw [List.flatten_append, List.flatten_append, List.set_append_right _ _ (by omega), hqf, show p.length * 6 + 4 - p.length * 6 = 4 by omega]
    rfl
  rw [hfl] at s1
  have hkeep : ∀ k, Mine base (.slice (some ⟨g, 0, none⟩) (p.length + 1) cap) w k → (w.setCell ⟨g, p.length * 6 + 4, none⟩ (.string t)).heap[k]? = w.heap[k]? := fun k hk => s2.block k hk.2.1 (fun e => hk.2.2 e.symm)
  have hmine : ∀ k, Mine base (.slice (some ⟨g, 0, none⟩) (p.length + 1) cap) w k → Mine base (.slice (some ⟨g, 0, none⟩) (p.length + 1) cap) (w.setCell ⟨g, p.length * 6 + 4, none⟩ (.string t)) k := fun k hk => ⟨hk.1, by rw [size_setCell]; exact hk.2.1, hk.2.2⟩
  refine ⟨q ++ [[Value.int .u8 y.kind, .int .u8 y.space, .string y.name, va, .string t, vk]], by simp [hql], ?_, (show (w.setCell ⟨g, p.length * 6 + 4, none⟩ (.string t)).ownsRow base 48 6 (.slice (some ⟨g, 0, none⟩) (p.length + 1) cap) (p ++ [{ y with text := t }]).length _ from by rw [List.length_append]; exact s1), ?_⟩
  · intro d hd
    rcases List.mem_append.1 hd with hd | hd
    · exact h2 d (by simp [hd])
    · rw [List.mem_singleton.1 hd]; rfl
  · intro j d z hd hz
    by_cases hj : j < p.length
    · rw [List.getElem?_append_left (by omega)] at hd
      rw [List.getElem?_append_left hj] at hz
      exact (h4 j d z (by rw [List.getElem?_append_left (by omega)]; exact hd) (by rw [List.getElem?_append_left hj]; exact hz)).keep hkeep hmine
    · have hjl := (List.getElem?_eq_some_iff.1 hz).1
      rw [List.length_append] at hjl
      have hj : j = p.length := by simp at hjl; omega
      subst hj
      rw [List.getElem?_append_right (by omega), hql] at hd
      rw [List.getElem?_append_right (Nat.le_refl _)] at hz
      simp at hd hz
      subst hd
      subst hz
      have hold : NodeIs (NodesAt D) w (Mine base (.slice (some ⟨g, 0, none⟩) (p.length + 1) cap) w) [Value.int .u8 y.kind, .int .u8 y.space, .string y.name, va, .string t, vk] { y with text := t } := ⟨va, vk, rfl, ha, hk, hn, ht2, hki, hsp⟩
      exact hold.keep hkeep hmine
theorem Row.nil {α : Type} (size : Nat) (E : World → (Nat → Prop) → List Value → α → Prop) (w : World) (S : Nat → Prop) : Row size E w S (.slice none 0 0) ([] : List α) := ⟨none, 0, rfl, Nat.zero_le _, fun h => absurd h (Nat.lt_irrefl 0), fun i x hx => by cases i <;> cases hx⟩
theorem nodes_nil (D : Nat) (w : World) (S : Nat → Prop) : NodesAt D w S (.slice none 0 0) [] := by
  cases D with
  | zero => exact nodes_zero _ _ _
  | succ D => exact Row.nil (α := NodeD (List (NT D))) 6 (NodeIs (NodesAt D)) w S
theorem text_put {kb base D : Nat} {x : Pl} {vE vA vS : Value} {w w1 : World} {p : List (NodeD (List (NT D)))} {y : NodeD (List (NT D))} {g cap : Nat} {t : ByteArray} (h1 : kb < base) (h2 : base ≤ w.heap.size) (b1 : Below w.heap.size w w1) (hbg : base ≤ g) (hK : KeepAt kb w1 x vE vA vS (.slice (some ⟨g, 0, none⟩) (p.length + 1) cap))
    (hO : OutAt base D (w1.setCell ⟨g, p.length * 6 + 4, none⟩ (.string (y.text ++ t))) (.slice (some ⟨g, 0, none⟩) (p.length + 1) cap) (p ++ [{ y with text := y.text ++ t }])) :
    TextR kb base D x vE vA vS w (p ++ [{ y with text := y.text ++ t }]) (.returned (.tuple #[])) (w1.setCell ⟨g, p.length * 6 + 4, none⟩ (.string (y.text ++ t))) := by
  refine ⟨rfl, _, (Below.heap_setCell _ _ _ _ (show kb ≠ g by omega)).trans hK, hO, Below.setCell (Below.mono (B' := kb) b1 (by omega)) (show kb ≤ g by omega) _, fun j hj hne => ?_⟩
  exact (Below.heap_setCell w1 ⟨g, p.length * 6 + 4, none⟩ _ _ (show j ≠ g by omega)).trans (b1.block j (by omega))
theorem text_node {D : Nat} {w : World} {S : Nat → Prop} {t : ByteArray} (ht : t.size ≤ 9223372036854775807) : NodeIs (NodesAt D) w S [.int .u8 2, .int .u8 0, .string ⟨#[]⟩, .slice none 0 0, .string t, .slice none 0 0] ⟨2, 0, ByteArray.empty, [], t, []⟩ :=
  ⟨.slice none 0 0, .slice none 0 0, rfl, Row.nil _ _ _ _, nodes_nil _ _ _, Nat.zero_le _, ht, (by decide : (2 : Nat) < 256), (by decide : (0 : Nat) < 256)⟩
theorem setCell_comm (w : World) (a b : Addr) (u v : Value) (h : a.block ≠ b.block) : (w.setCell a u).setCell b v = (w.setCell b v).setCell a u := by
  unfold World.setCell
  congr 1
  apply Array.ext_getElem?
  intro i
  rw [Array.getElem?_modify, Array.getElem?_modify, Array.getElem?_modify, Array.getElem?_modify]
  by_cases h1 : a.block = i
  · have h2 : ¬ b.block = i := fun e => h (h1.trans e.symm)
    simp [h1, h2]
  · simp [h1]
/-- Behind the append of a text. -/
theorem text_snoc0 {kb base D : Nat} {x : Pl} {vE vA vS : Value} {w w1 w7 : World} {v : Value} {acc : List (NodeD (List (NT D)))} {css : List (List Value)} {o : Obj} {g cap : Nat} {t : ByteArray} (h1 : kb < base) (h2 : base ≤ w.heap.size) (b1 : Below w.heap.size w w1) (hK : KeepAt kb w1 x vE vA vS v)
    (c1 : css.length = acc.length) (c2 : ∀ c ∈ css, c.length = 6) (h3 : w1.ownsRow base 48 6 v acc.length css.flatten) (h4 : ∀ (j : Nat) (c : List Value) (x : NodeD (List (NT D))), css[j]? = some c → acc[j]? = some x → NodeIs (NodesAt D) w1 (Mine base v w1) c x) (ht : t.size ≤ 9223372036854775807)
    (hg7 : (w1.drew.alloc o).grownBy w7 v.ownBlock) (hob : (Value.slice (some ⟨g, 0, none⟩) (acc.length + 1) cap).ownBlock = v.ownBlock ∨ (Value.slice (some ⟨g, 0, none⟩) (acc.length + 1) cap).ownBlock = some (w1.drew.alloc o).heap.size)
    (hown7 : w7.ownsRow base 48 6 (.slice (some ⟨g, 0, none⟩) (acc.length + 1) cap) (acc.length + 1) (css.flatten ++ zeroN)) :
    TextR kb base D x vE vA vS w (acc ++ [⟨2, 0, ByteArray.empty, [], t, []⟩]) (.returned (.tuple #[])) ((w7.setCells g (acc.length * 6) [.int .u8 2, .int .u8 0, .string ⟨#[]⟩, .slice none 0 0, .string t, .slice none 0 0]).setCell ⟨kb, 9, none⟩ (.slice (some ⟨g, 0, none⟩) (acc.length + 1) cap)) := by
  have hs1 := b1.size
  have hlow := h3.lt
  have hkne : v.ownBlock ≠ some kb := fun e => by have := (hlow _ e).1; omega
  obtain ⟨p1, p2, p3, p4, p5⟩ := out_push zeroN [.int .u8 2, .int .u8 0, .string ⟨#[]⟩, .slice none 0 0, .string t, .slice none 0 0] ⟨2, 0, ByteArray.empty, [], t, []⟩ c1 c2 h3 h4 rfl rfl (text_node ht) (by omega) hg7 hob hown7
  refine ⟨rfl, _, KeepAt.put ((p5 kb (by omega) hkne).trans hK) _, p1.setBelow (show kb < base from h1) _, Below.setCell ((Below.mono (B' := kb) b1 (by omega)).trans (p2.mono (by omega))) (Nat.le_refl _) _, fun j hj hne => ?_⟩
  rw [Below.heap_setCell _ _ _ _ hne, p2.block j (by omega), b1.block j (by omega)]
theorem text_snoc {kb base D : Nat} {x : Pl} {vE vA vS : Value} {w w1 w7 : World} {v : Value} {acc : List (NodeD (List (NT D)))} {n : Nat} (hn : acc.length = n) {css : List (List Value)} {ob : Obj} {g cap : Nat} {t : ByteArray} {o : Nat} (ho : o = n * 6) (h1 : kb < base) (h2 : base ≤ w.heap.size) (b1 : Below w.heap.size w w1) (hK : KeepAt kb w1 x vE vA vS v)
    (c1 : css.length = acc.length) (c2 : ∀ c ∈ css, c.length = 6) (h3 : w1.ownsRow base 48 6 v n css.flatten) (h4 : ∀ (j : Nat) (c : List Value) (x : NodeD (List (NT D))), css[j]? = some c → acc[j]? = some x → NodeIs (NodesAt D) w1 (Mine base v w1) c x) (ht : t.size ≤ 9223372036854775807)
    (hg7 : (w1.drew.alloc ob).grownBy w7 v.ownBlock) (hob : (Value.slice (some ⟨g, 0, none⟩) (n + 1) cap).ownBlock = v.ownBlock ∨ (Value.slice (some ⟨g, 0, none⟩) (n + 1) cap).ownBlock = some (w1.drew.alloc ob).heap.size)
    (hown7 : w7.ownsRow base 48 6 (.slice (some ⟨g, 0, none⟩) (n + 1) cap) (n + 1) (css.flatten ++ zeroN)) :
    TextR kb base D x vE vA vS w (acc ++ [⟨2, 0, ByteArray.empty, [], t, []⟩]) (.returned (.tuple #[])) (((((((w7.setCell ⟨g, o, none⟩ (.int .u8 2)).setCell ⟨g, o + 1, none⟩ (.int .u8 0)).setCell ⟨g, o + 2, none⟩ (.string ⟨#[]⟩)).setCell ⟨g, o + 3, none⟩ (.slice none 0 0)).setCell ⟨g, o + 4, none⟩ (.string t)).setCell ⟨g, o + 5, none⟩ (.slice none 0 0)).setCell ⟨kb, 9, none⟩ (.slice (some ⟨g, 0, none⟩) (n + 1) cap)) := by
  subst hn
  subst ho
  exact text_snoc0 h1 h2 b1 hK c1 c2 h3 h4 ht hg7 hob hown7
theorem text_snoc2 {kb base D : Nat} {x : Pl} {vE vA vS : Value} {w w1 w7 : World} {v : Value} {acc : List (NodeD (List (NT D)))} {n : Nat} (hn : acc.length = n) {css : List (List Value)} {ob : Obj} {g cap : Nat} {t : ByteArray} {o : Nat} (ho : o = n * 6) (h1 : kb < base) (h2 : base ≤ w.heap.size) (b1 : Below w.heap.size w w1) (hK : KeepAt kb w1 x vE vA vS v)
    (c1 : css.length = acc.length) (c2 : ∀ c ∈ css, c.length = 6) (h3 : w1.ownsRow base 48 6 v n css.flatten) (h4 : ∀ (j : Nat) (c : List Value) (x : NodeD (List (NT D))), css[j]? = some c → acc[j]? = some x → NodeIs (NodesAt D) w1 (Mine base v w1) c x) (ht : t.size ≤ 9223372036854775807)
    (hg7 : (w1.drew.alloc ob).grownBy w7 v.ownBlock) (hob : (Value.slice (some ⟨g, 0, none⟩) (n + 1) cap).ownBlock = v.ownBlock ∨ (Value.slice (some ⟨g, 0, none⟩) (n + 1) cap).ownBlock = some (w1.drew.alloc ob).heap.size)
    (hown7 : w7.ownsRow base 48 6 (.slice (some ⟨g, 0, none⟩) (n + 1) cap) (n + 1) (css.flatten ++ zeroN)) :
    TextR kb base D x vE vA vS w (acc ++ [⟨2, 0, ByteArray.empty, [], t, []⟩]) (.returned (.tuple #[])) (((((((w7.setCell ⟨kb, 9, none⟩ (.slice (some ⟨g, 0, none⟩) (n + 1) cap)).setCell ⟨g, o, none⟩ (.int .u8 2)).setCell ⟨g, o + 1, none⟩ (.int .u8 0)).setCell ⟨g, o + 2, none⟩ (.string ⟨#[]⟩)).setCell ⟨g, o + 3, none⟩ (.slice none 0 0)).setCell ⟨g, o + 4, none⟩ (.string t)).setCell ⟨g, o + 5, none⟩ (.slice none 0 0)) := by
  subst hn
  have hne : kb ≠ g := fun e => by have := (hown7.lt g rfl).1; omega
  have hs := text_snoc rfl ho h1 h2 b1 hK c1 c2 h3 h4 ht hg7 hob hown7
  have hc : ∀ (w : World) (i : Nat) (u v : Value), (w.setCell ⟨g, i, none⟩ u).setCell ⟨kb, 9, none⟩ v = (w.setCell ⟨kb, 9, none⟩ v).setCell ⟨g, i, none⟩ u := fun w i u v => setCell_comm w _ _ _ _ (fun e => hne e.symm)
  rw [hc, hc, hc, hc, hc, hc] at hs
  exact hs
theorem text_snocL {kb base D : Nat} {x : Pl} {vE vA vS : Value} {w w1 w7 : World} {v : Value} {css : List (List Value)} {ob : Obj} {g cap : Nat} {t : ByteArray} (h1 : kb < base) (h2 : base ≤ w.heap.size) (b1 : Below w.heap.size w w1) (hK : KeepAt kb w1 x vE vA vS v)
    (c1 : css.length = ([] : List (NodeD (List (NT D)))).length) (c2 : ∀ c ∈ css, c.length = 6) (h3 : w1.ownsRow base 48 6 v 0 css.flatten) (h4 : ∀ (j : Nat) (c : List Value) (x : NodeD (List (NT D))), css[j]? = some c → ([] : List (NodeD (List (NT D))))[j]? = some x → NodeIs (NodesAt D) w1 (Mine base v w1) c x) (ht : t.size ≤ 9223372036854775807)
    (hg7 : (w1.drew.alloc ob).grownBy w7 v.ownBlock) (hob : (Value.slice (some ⟨g, 0, none⟩) 1 cap).ownBlock = v.ownBlock ∨ (Value.slice (some ⟨g, 0, none⟩) 1 cap).ownBlock = some (w1.drew.alloc ob).heap.size)
    (hown7 : w7.ownsRow base 48 6 (.slice (some ⟨g, 0, none⟩) 1 cap) (0 + 1) (css.flatten ++ zeroN)) :
    TextR kb base D x vE vA vS w [⟨2, 0, ByteArray.empty, [], t, []⟩] (.returned (.tuple #[])) (((((((w7.setCell ⟨g, 0, none⟩ (.int .u8 2)).setCell ⟨g, 1, none⟩ (.int .u8 0)).setCell ⟨g, 2, none⟩ (.string ⟨#[]⟩)).setCell ⟨g, 3, none⟩ (.slice none 0 0)).setCell ⟨g, 4, none⟩ (.string t)).setCell ⟨g, 5, none⟩ (.slice none 0 0)).setCell ⟨kb, 9, none⟩ (.slice (some ⟨g, 0, none⟩) 1 cap)) :=
  text_snoc (acc := []) rfl rfl h1 h2 b1 hK c1 c2 h3 h4 ht hg7 hob hown7
theorem text_snocM {kb base D : Nat} {x : Pl} {vE vA vS : Value} {w w1 w7 : World} {v : Value} {css : List (List Value)} {ob : Obj} {g cap : Nat} {t : ByteArray} (h1 : kb < base) (h2 : base ≤ w.heap.size) (b1 : Below w.heap.size w w1) (hK : KeepAt kb w1 x vE vA vS v)
    (c1 : css.length = ([] : List (NodeD (List (NT D)))).length) (c2 : ∀ c ∈ css, c.length = 6) (h3 : w1.ownsRow base 48 6 v 0 css.flatten) (h4 : ∀ (j : Nat) (c : List Value) (x : NodeD (List (NT D))), css[j]? = some c → ([] : List (NodeD (List (NT D))))[j]? = some x → NodeIs (NodesAt D) w1 (Mine base v w1) c x) (ht : t.size ≤ 9223372036854775807)
    (hg7 : (w1.drew.alloc ob).grownBy w7 v.ownBlock) (hob : (Value.slice (some ⟨g, 0, none⟩) 1 cap).ownBlock = v.ownBlock ∨ (Value.slice (some ⟨g, 0, none⟩) 1 cap).ownBlock = some (w1.drew.alloc ob).heap.size)
    (hown7 : w7.ownsRow base 48 6 (.slice (some ⟨g, 0, none⟩) 1 cap) (0 + 1) (css.flatten ++ zeroN)) :
    TextR kb base D x vE vA vS w [⟨2, 0, ByteArray.empty, [], t, []⟩] (.returned (.tuple #[])) (((((((w7.setCell ⟨kb, 9, none⟩ (.slice (some ⟨g, 0, none⟩) 1 cap)).setCell ⟨g, 0, none⟩ (.int .u8 2)).setCell ⟨g, 1, none⟩ (.int .u8 0)).setCell ⟨g, 2, none⟩ (.string ⟨#[]⟩)).setCell ⟨g, 3, none⟩ (.slice none 0 0)).setCell ⟨g, 4, none⟩ (.string t)).setCell ⟨g, 5, none⟩ (.slice none 0 0)) :=
  text_snoc2 (acc := []) rfl rfl h1 h2 b1 hK c1 c2 h3 h4 ht hg7 hob hown7
set_option maxHeartbeats 4000000 in
set_option maxRecDepth 100000 in
theorem text_pA (kb base D : Nat) (x : Pl) (vE vA vS v : Value) (s n t : ByteArray) (w : World) (hp : x.pre = true) (hk : KeepAt kb w x vE vA vS v) (ho : OutAt base D w v []) (h1 : kb < base) (h2 : base ≤ w.heap.size)
    (hN : Calls Tryz.prog 91 #[.string s] w fun e w' => e = .returned (.string n) ∧ Below w.heap.size w w')
    (hT : ∀ w', Calls Tryz.prog 92 #[.string n, .string ⟨#[10]⟩] w' fun e w2 => e = .returned (.string t) ∧ w2 = w') (ht : t.toList = []) :
    Calls Tryz.prog 59 #[.pointer (some ⟨kb, 0, none⟩), .string s] w (TextR kb base D x vE vA vS w []) := by
  have ht2 : t.toList.isEmpty = true := by rw [ht]; rfl
  obtain ⟨A, c, hv⟩ := ho.form
  have hv : v = .slice A 0 c := hv
  subst hv
  have HN := Lib.hid hN; have HK := Lib.hid hk; have HO := Lib.hid ho
  have HT := Lib.hid hT
  clear hN hk ho hT
  go_enter Tryz.func59, Tryz.ntmps59
  go_wp2_with fail
  refine Calls.mono HN.out ?_
  rintro e w1 ⟨rfl, b1⟩
  have HK1 := Lib.hid (HK.out.below b1 (by omega))
  have HO1 := Lib.hid (HO.out.later b1)
  have HB1 := Lib.hid b1
  have k1 := HK1.out.cell
  rw [hp] at k1
  clear b1
  go_wp2_with fail
  refine Calls.mono (HT.out _) ?_
  rintro e w2 ⟨rfl, hw2⟩
  rw [hw2]
  clear hw2
  go_wp2
  go_end0
  exact ⟨rfl, _, HK1.out, HO1.out, Beside.of_below HB1.out h1 h2⟩
set_option maxHeartbeats 4000000 in
set_option maxRecDepth 100000 in
theorem text_pC (kb base D : Nat) (x : Pl) (vE vA vS v : Value) (s n t : ByteArray) (w : World) (hp : x.pre = true) (hk : KeepAt kb w x vE vA vS v) (ho : OutAt base D w v []) (h1 : kb < base) (h2 : base ≤ w.heap.size)
    (hN : Calls Tryz.prog 91 #[.string s] w fun e w' => e = .returned (.string n) ∧ Below w.heap.size w w')
    (hT : ∀ w', Calls Tryz.prog 92 #[.string n, .string ⟨#[10]⟩] w' fun e w2 => e = .returned (.string t) ∧ w2 = w') (ht : ¬ t.toList = []) (hts : t.size ≤ 1000000000) :
    Calls Tryz.prog 59 #[.pointer (some ⟨kb, 0, none⟩), .string s] w (TextR kb base D x vE vA vS w ([] ++ [⟨2, 0, ByteArray.empty, [], t, []⟩])) := by
  have ht2 : t.toList.isEmpty = false := by cases hq : t.toList with | nil => exact absurd hq ht | cons _ _ => rfl
  obtain ⟨A, c, hv⟩ := ho.form
  have hv : v = .slice A 0 c := hv
  subst hv
  obtain ⟨iN, hiN, hzN0, hzN1, hzN2⟩ := info_parts infoN
  have HN := Lib.hid hN; have HK := Lib.hid hk; have HO := Lib.hid ho
  have HT := Lib.hid hT
  clear hN hk ho hT
  go_enter Tryz.func59, Tryz.ntmps59
  go_wp2_with fail
  refine Calls.mono HN.out ?_
  rintro e w1 ⟨rfl, b1⟩
  have HK1 := Lib.hid (HK.out.below b1 (by omega))
  have HO1 := Lib.hid (HO.out.later b1)
  have HB1 := Lib.hid b1
  have k1 := HK1.out.cell
  rw [hp] at k1
  clear b1
  go_wp2_with fail
  refine Calls.mono (HT.out _) ?_
  rintro e w2 ⟨rfl, hw2⟩
  rw [hw2]
  clear hw2
  have hOO := HO1.out
  obtain ⟨css, hc1, hc2, hown, hE⟩ := hOO
  have hcl := flat_six css hc2
  rw [hc1] at hcl
  have hown : w1.ownsRow base 48 6 (.slice A 0 c) 0 css.flatten := hown
  have ht9 : t.size ≤ 9223372036854775807 := by omega
  have HOwn := Lib.hid hown
  have HC1 := Lib.hid hc1; have HC2 := Lib.hid hc2; have HCl := Lib.hid hcl; have HE := Lib.hid hE
  clear hown hc1 hc2 hcl hE
  have hz1 := HB1.out.size
  have hkb1 : kb < w1.heap.size := by omega

  have la := fun (o : Obj) i => (World.cell?_alloc_lt w1 o ⟨kb, i, none⟩ hkb1).trans (k1 i)
  go_wp2_with fail
  go_region_law (refine step_row rfl (.tmp 30) (.tmp 34) 37 rfl base 48 iN _ 6 88 Tryz.underlying37 hiN hzN0 hzN1 hzN2 rfl (by decide) _ rfl 0 _ (World.ownsRow.alloc (w := w1.drew) HOwn.out _) ⟨w1.heap.size, 0, none⟩ 1 1 zeroN rfl rfl zero_cells (by simp [Value.oneCell', zeroN]) (by unfold maxLen; omega) (by omega) (by simp; omega) ?_; intro v7 w7 hown7 hgrow hob7; obtain ⟨g7, cap7, rfl⟩ := Joins.ownsRow_form hown7 (by omega); have hk7 := Lib.hid ((hgrow.block kb (by simp; omega) (by intro he; have := (HOwn.out.lt _ he.symm).1; omega)).trans ((Below.heap_alloc w1.drew _ _ (by simp; omega)).trans HK1.out)); have c7 : ∀ i u, zeroN[i]? = some u → w7.cell? ⟨g7, 0 * 6 + i, none⟩ = some u := (fun i u hu => (hown7.cellAt (0 * 6 + i) (by have := (List.getElem?_eq_some_iff.1 hu).1; simp [zeroN] at this; omega)).trans (by rw [List.getElem?_append_right (by rw [HCl.out]; exact Nat.le_add_right _ _), HCl.out, show 0 * 6 + i - [].length * 6 = i from Nat.add_sub_cancel_left _ _]; exact hu)); have d0 := (show w7.cell? ⟨g7, 0, none⟩ = some (.int .u8 0) from c7 0 _ rfl); have d1 := c7 1 _ rfl; have d2 := c7 2 _ rfl; have d3 := c7 3 _ rfl; have d4 := c7 4 _ rfl; have d5 := c7 5 _ rfl; have f7 := (fun i => hown7.frozenAt i); clear c7; have l7 := fun i => cell_of_row w7 kb i _ _ _ hk7.out; have fk7 : ∀ i, w7.frozen? ⟨kb, i, none⟩ = false := (fun i => by simp [World.frozen?, show w7.heap[kb]? = _ from hk7.out]); have hne7 : ¬ g7 = kb := (fun e => by have := (hown7.lt g7 rfl).1; omega); have hne8 : ¬ kb = g7 := (fun e => hne7 e.symm); have HW7 := Lib.hid hown7; have HG7 := Lib.hid (show (w1.drew.alloc zeroO).grownBy w7 (Value.ownBlock (.slice A 0 c)) from hgrow); have HB7 := Lib.hid (show (Value.slice (some ⟨g7, 0, none⟩) 1 cap7).ownBlock = Value.ownBlock (.slice A 0 c) ∨ (Value.slice (some ⟨g7, 0, none⟩) 1 cap7).ownBlock = some (w1.drew.alloc zeroO).heap.size from hob7); clear hown7 hgrow hob7)
  all_goals
    go_wp2
    go_end0
    first
      | (with_reducible exact text_snocL h1 h2 HB1.out HK1.out HC1.out HC2.out HOwn.out HE.out ht9 HG7.out HB7.out HW7.out)
      | (with_reducible exact text_snocM h1 h2 HB1.out HK1.out HC1.out HC2.out HOwn.out HE.out ht9 HG7.out HB7.out HW7.out)
set_option maxHeartbeats 4000000 in
set_option maxRecDepth 100000 in
theorem text_nA (kb base D : Nat) (x : Pl) (vE vA vS v : Value) (s t : ByteArray) (w : World) (hp : x.pre = false) (hk : KeepAt kb w x vE vA vS v) (ho : OutAt base D w v []) (h1 : kb < base) (h2 : base ≤ w.heap.size)
    (hN : Calls Tryz.prog 91 #[.string s] w fun e w' => e = .returned (.string t) ∧ Below w.heap.size w w') (ht : t.toList = []) :
    Calls Tryz.prog 59 #[.pointer (some ⟨kb, 0, none⟩), .string s] w (TextR kb base D x vE vA vS w []) := by
  have ht2 : t.toList.isEmpty = true := by rw [ht]; rfl
  obtain ⟨A, c, hv⟩ := ho.form
  have hv : v = .slice A 0 c := hv
  subst hv
  have HN := Lib.hid hN; have HK := Lib.hid hk; have HO := Lib.hid ho
  clear hN hk ho
  go_enter Tryz.func59, Tryz.ntmps59
  go_wp2_with fail
  refine Calls.mono HN.out ?_
  rintro e w1 ⟨rfl, b1⟩
  have HK1 := Lib.hid (HK.out.below b1 (by omega))
  have HO1 := Lib.hid (HO.out.later b1)
  have HB1 := Lib.hid b1
  have k1 := HK1.out.cell
  rw [hp] at k1
  clear b1
  go_wp2
  go_end0
  exact ⟨rfl, _, HK1.out, HO1.out, Beside.of_below HB1.out h1 h2⟩
set_option maxHeartbeats 4000000 in
set_option maxRecDepth 100000 in
theorem text_nC (kb base D : Nat) (x : Pl) (vE vA vS v : Value) (s t : ByteArray) (w : World) (hp : x.pre = false) (hk : KeepAt kb w x vE vA vS v) (ho : OutAt base D w v []) (h1 : kb < base) (h2 : base ≤ w.heap.size)
    (hN : Calls Tryz.prog 91 #[.string s] w fun e w' => e = .returned (.string t) ∧ Below w.heap.size w w') (ht : ¬ t.toList = []) (hts : t.size ≤ 1000000000) :
    Calls Tryz.prog 59 #[.pointer (some ⟨kb, 0, none⟩), .string s] w (TextR kb base D x vE vA vS w ([] ++ [⟨2, 0, ByteArray.empty, [], t, []⟩])) := by
  have ht2 : t.toList.isEmpty = false := by cases hq : t.toList with | nil => exact absurd hq ht | cons _ _ => rfl
  obtain ⟨A, c, hv⟩ := ho.form
  have hv : v = .slice A 0 c := hv
  subst hv
  obtain ⟨iN, hiN, hzN0, hzN1, hzN2⟩ := info_parts infoN
  have HN := Lib.hid hN; have HK := Lib.hid hk; have HO := Lib.hid ho
  clear hN hk ho
  go_enter Tryz.func59, Tryz.ntmps59
  go_wp2_with fail
  refine Calls.mono HN.out ?_
  rintro e w1 ⟨rfl, b1⟩
  have HK1 := Lib.hid (HK.out.below b1 (by omega))
  have HO1 := Lib.hid (HO.out.later b1)
  have HB1 := Lib.hid b1
  have k1 := HK1.out.cell
  rw [hp] at k1
  clear b1
  have hOO := HO1.out
  obtain ⟨css, hc1, hc2, hown, hE⟩ := hOO
  have hcl := flat_six css hc2
  rw [hc1] at hcl
  have hown : w1.ownsRow base 48 6 (.slice A 0 c) 0 css.flatten := hown
  have ht9 : t.size ≤ 9223372036854775807 := by omega
  have HOwn := Lib.hid hown
  have HC1 := Lib.hid hc1; have HC2 := Lib.hid hc2; have HCl := Lib.hid hcl; have HE := Lib.hid hE
  clear hown hc1 hc2 hcl hE
  have hz1 := HB1.out.size
  have hkb1 : kb < w1.heap.size := by omega

  have la := fun (o : Obj) i => (World.cell?_alloc_lt w1 o ⟨kb, i, none⟩ hkb1).trans (k1 i)
  go_wp2_with fail
  go_region_law (refine step_row rfl (.tmp 30) (.tmp 34) 37 rfl base 48 iN _ 6 88 Tryz.underlying37 hiN hzN0 hzN1 hzN2 rfl (by decide) _ rfl 0 _ (World.ownsRow.alloc (w := w1.drew) HOwn.out _) ⟨w1.heap.size, 0, none⟩ 1 1 zeroN rfl rfl zero_cells (by simp [Value.oneCell', zeroN]) (by unfold maxLen; omega) (by omega) (by simp; omega) ?_; intro v7 w7 hown7 hgrow hob7; obtain ⟨g7, cap7, rfl⟩ := Joins.ownsRow_form hown7 (by omega); have hk7 := Lib.hid ((hgrow.block kb (by simp; omega) (by intro he; have := (HOwn.out.lt _ he.symm).1; omega)).trans ((Below.heap_alloc w1.drew _ _ (by simp; omega)).trans HK1.out)); have c7 : ∀ i u, zeroN[i]? = some u → w7.cell? ⟨g7, 0 * 6 + i, none⟩ = some u := (fun i u hu => (hown7.cellAt (0 * 6 + i) (by have := (List.getElem?_eq_some_iff.1 hu).1; simp [zeroN] at this; omega)).trans (by rw [List.getElem?_append_right (by rw [HCl.out]; exact Nat.le_add_right _ _), HCl.out, show 0 * 6 + i - [].length * 6 = i from Nat.add_sub_cancel_left _ _]; exact hu)); have d0 := (show w7.cell? ⟨g7, 0, none⟩ = some (.int .u8 0) from c7 0 _ rfl); have d1 := c7 1 _ rfl; have d2 := c7 2 _ rfl; have d3 := c7 3 _ rfl; have d4 := c7 4 _ rfl; have d5 := c7 5 _ rfl; have f7 := (fun i => hown7.frozenAt i); clear c7; have l7 := fun i => cell_of_row w7 kb i _ _ _ hk7.out; have fk7 : ∀ i, w7.frozen? ⟨kb, i, none⟩ = false := (fun i => by simp [World.frozen?, show w7.heap[kb]? = _ from hk7.out]); have hne7 : ¬ g7 = kb := (fun e => by have := (hown7.lt g7 rfl).1; omega); have hne8 : ¬ kb = g7 := (fun e => hne7 e.symm); have HW7 := Lib.hid hown7; have HG7 := Lib.hid (show (w1.drew.alloc zeroO).grownBy w7 (Value.ownBlock (.slice A 0 c)) from hgrow); have HB7 := Lib.hid (show (Value.slice (some ⟨g7, 0, none⟩) 1 cap7).ownBlock = Value.ownBlock (.slice A 0 c) ∨ (Value.slice (some ⟨g7, 0, none⟩) 1 cap7).ownBlock = some (w1.drew.alloc zeroO).heap.size from hob7); clear hown7 hgrow hob7)
  all_goals
    go_wp2
    go_end0
    first
      | (with_reducible exact text_snocL h1 h2 HB1.out HK1.out HC1.out HC2.out HOwn.out HE.out ht9 HG7.out HB7.out HW7.out)
      | (with_reducible exact text_snocM h1 h2 HB1.out HK1.out HC1.out HC2.out HOwn.out HE.out ht9 HG7.out HB7.out HW7.out)
set_option maxHeartbeats 4000000 in
set_option maxRecDepth 100000 in
theorem text_tA (kb base D : Nat) (x : Pl) (vE vA vS v : Value) (p : List (NodeD (List (NT D)))) (y : NodeD (List (NT D))) (s t : ByteArray) (w : World) (hp : x.pre = true) (hk : KeepAt kb w x vE vA vS v) (ho : OutAt base D w v (p ++ [y])) (h1 : kb < base) (h2 : base ≤ w.heap.size)
    (hN : Calls Tryz.prog 91 #[.string s] w fun e w' => e = .returned (.string t) ∧ Below w.heap.size w w') (ht : t.toList = []) :
    Calls Tryz.prog 59 #[.pointer (some ⟨kb, 0, none⟩), .string s] w (TextR kb base D x vE vA vS w (p ++ [y])) := by
  have ht2 : t.toList.isEmpty = true := by rw [ht]; rfl
  obtain ⟨g, cap, rfl, hbg, hgw, hy256, _⟩ := ho.last
  have HN := Lib.hid hN; have HK := Lib.hid hk; have HO := Lib.hid ho
  clear hN hk ho
  go_enter Tryz.func59, Tryz.ntmps59
  go_wp2_with fail
  refine Calls.mono HN.out ?_
  rintro e w1 ⟨rfl, b1⟩
  have HK1 := Lib.hid (HK.out.below b1 (by omega))
  have HO1 := Lib.hid (HO.out.later b1)
  have HB1 := Lib.hid b1
  have k1 := HK1.out.cell
  rw [hp] at k1
  obtain ⟨g', cap', e', _, _, _, c0, c4, f4, hput⟩ := HO1.out.last
  cases e'
  clear hput b1
  go_wp2
  go_end0
  exact ⟨rfl, _, HK1.out, HO1.out, Beside.of_below HB1.out h1 h2⟩
set_option maxHeartbeats 4000000 in
set_option maxRecDepth 100000 in
theorem text_tB (kb base D : Nat) (x : Pl) (vE vA vS v : Value) (p : List (NodeD (List (NT D)))) (y : NodeD (List (NT D))) (s t : ByteArray) (w : World) (hp : x.pre = true) (hk : KeepAt kb w x vE vA vS v) (ho : OutAt base D w v (p ++ [y])) (h1 : kb < base) (h2 : base ≤ w.heap.size)
    (hN : Calls Tryz.prog 91 #[.string s] w fun e w' => e = .returned (.string t) ∧ Below w.heap.size w w') (ht : ¬ t.toList = []) (hts : t.size ≤ 1000000000) (hyk : y.kind = 2) (hys : y.text.size ≤ 1000000000) (hpl : p.length ≤ 1000000) :
    Calls Tryz.prog 59 #[.pointer (some ⟨kb, 0, none⟩), .string s] w (TextR kb base D x vE vA vS w (p ++ [{ y with text := y.text ++ t }])) := by
  have ht2 : t.toList.isEmpty = false := by cases hq : t.toList with | nil => exact absurd hq ht | cons _ _ => rfl
  obtain ⟨g, cap, rfl, hbg, hgw, hy256, _⟩ := ho.last
  have HN := Lib.hid hN; have HK := Lib.hid hk; have HO := Lib.hid ho
  clear hN hk ho
  go_enter Tryz.func59, Tryz.ntmps59
  go_wp2_with fail
  refine Calls.mono HN.out ?_
  rintro e w1 ⟨rfl, b1⟩
  have HK1 := Lib.hid (HK.out.below b1 (by omega))
  have HO1 := Lib.hid (HO.out.later b1)
  have HB1 := Lib.hid b1
  have k1 := HK1.out.cell
  rw [hp] at k1
  obtain ⟨g', cap', e', _, _, _, c0, c4, f4, hput⟩ := HO1.out.last
  cases e'
  rw [hyk] at c0
  have hsum : ¬ (9223372036854775807 < y.text.size + t.size) := by omega
  have HPut := Lib.hid hput
  clear hput b1
  go_wp2
  go_end0
  exact text_put h1 h2 HB1.out hbg HK1.out (HPut.out _ (by rw [ByteArray.size_append]; omega))
set_option maxHeartbeats 4000000 in
set_option maxRecDepth 100000 in
theorem text_tC (kb base D : Nat) (x : Pl) (vE vA vS v : Value) (p : List (NodeD (List (NT D)))) (y : NodeD (List (NT D))) (s t : ByteArray) (w : World) (hp : x.pre = true) (hk : KeepAt kb w x vE vA vS v) (ho : OutAt base D w v (p ++ [y])) (h1 : kb < base) (h2 : base ≤ w.heap.size)
    (hN : Calls Tryz.prog 91 #[.string s] w fun e w' => e = .returned (.string t) ∧ Below w.heap.size w w') (ht : ¬ t.toList = []) (hts : t.size ≤ 1000000000) (hyk : y.kind ≠ 2) (hpl : p.length ≤ 1000000) :
    Calls Tryz.prog 59 #[.pointer (some ⟨kb, 0, none⟩), .string s] w (TextR kb base D x vE vA vS w ((p ++ [y]) ++ [⟨2, 0, ByteArray.empty, [], t, []⟩])) := by
  have ht2 : t.toList.isEmpty = false := by cases hq : t.toList with | nil => exact absurd hq ht | cons _ _ => rfl
  obtain ⟨g, cap, rfl, hbg, hgw, hy256, _⟩ := ho.last
  obtain ⟨iN, hiN, hzN0, hzN1, hzN2⟩ := info_parts infoN
  have HN := Lib.hid hN; have HK := Lib.hid hk; have HO := Lib.hid ho
  clear hN hk ho
  go_enter Tryz.func59, Tryz.ntmps59
  go_wp2_with fail
  refine Calls.mono HN.out ?_
  rintro e w1 ⟨rfl, b1⟩
  have HK1 := Lib.hid (HK.out.below b1 (by omega))
  have HO1 := Lib.hid (HO.out.later b1)
  have HB1 := Lib.hid b1
  have k1 := HK1.out.cell
  rw [hp] at k1
  obtain ⟨g', cap', e', _, _, _, c0, c4, f4, hput⟩ := HO1.out.last
  cases e'
  have zk : ((y.kind : Int) == 2) = false := by simp; omega
  clear hput b1
  have hOO := HO1.out
  obtain ⟨css, hc1, hc2, hown, hE⟩ := hOO
  have hcl := flat_six css hc2
  rw [hc1] at hcl
  have hpy : (p ++ [y]).length = p.length + 1 := by simp
  rw [hpy] at hown hcl
  have ht9 : t.size ≤ 9223372036854775807 := by omega
  have HOwn := Lib.hid hown
  have HC1 := Lib.hid hc1; have HC2 := Lib.hid hc2; have HCl := Lib.hid hcl; have HE := Lib.hid hE
  clear hown hc1 hc2 hcl hE
  have hz1 := HB1.out.size
  have hkb1 : kb < w1.heap.size := by omega
  have hi1 : (0 : Int) ≤ (p.length : Int) + 1 := by omega
  have hi2 : (p.length : Int) < (p.length : Int) + 1 := by omega
  have la := fun (o : Obj) i => (World.cell?_alloc_lt w1 o ⟨kb, i, none⟩ hkb1).trans (k1 i)
  go_wp2_with fail
  go_region_law (refine step_row rfl (.tmp 30) (.tmp 34) 37 rfl base 48 iN _ 6 88 Tryz.underlying37 hiN hzN0 hzN1 hzN2 rfl (by decide) _ rfl (p.length + 1) _ (World.ownsRow.alloc (w := w1.drew) HOwn.out _) ⟨w1.heap.size, 0, none⟩ 1 1 zeroN rfl rfl zero_cells (by simp [Value.oneCell', zeroN]) (by unfold maxLen; omega) (by omega) (by simp; omega) ?_; intro v7 w7 hown7 hgrow hob7; obtain ⟨g7, cap7, rfl⟩ := Joins.ownsRow_form hown7 (by omega); have hk7 := Lib.hid ((hgrow.block kb (by simp; omega) (by intro he; have := (HOwn.out.lt _ he.symm).1; omega)).trans ((Below.heap_alloc w1.drew _ _ (by simp; omega)).trans HK1.out)); have c7 : ∀ i u, zeroN[i]? = some u → w7.cell? ⟨g7, (p.length + 1) * 6 + i, none⟩ = some u := (fun i u hu => (hown7.cellAt ((p.length + 1) * 6 + i) (by have := (List.getElem?_eq_some_iff.1 hu).1; simp [zeroN] at this; omega)).trans (by rw [List.getElem?_append_right (by rw [HCl.out]; exact Nat.le_add_right _ _), HCl.out, show (p.length + 1) * 6 + i - (p.length + 1) * 6 = i from Nat.add_sub_cancel_left _ _]; exact hu)); have d0 := (show w7.cell? ⟨g7, (p.length + 1) * 6, none⟩ = some (.int .u8 0) from c7 0 _ rfl); have d1 := c7 1 _ rfl; have d2 := c7 2 _ rfl; have d3 := c7 3 _ rfl; have d4 := c7 4 _ rfl; have d5 := c7 5 _ rfl; have f7 := (fun i => hown7.frozenAt i); clear c7; have l7 := fun i => cell_of_row w7 kb i _ _ _ hk7.out; have fk7 : ∀ i, w7.frozen? ⟨kb, i, none⟩ = false := (fun i => by simp [World.frozen?, show w7.heap[kb]? = _ from hk7.out]); have hne7 : ¬ g7 = kb := (fun e => by have := (hown7.lt g7 rfl).1; omega); have hne8 : ¬ kb = g7 := (fun e => hne7 e.symm); have HW7 := Lib.hid hown7; have HG7 := Lib.hid (show (w1.drew.alloc zeroO).grownBy w7 (Value.ownBlock (.slice (some ⟨g, 0, none⟩) (p.length + 1) cap)) from hgrow); have HB7 := Lib.hid (show (Value.slice (some ⟨g7, 0, none⟩) (p.length + 1 + 1) cap7).ownBlock = Value.ownBlock (.slice (some ⟨g, 0, none⟩) (p.length + 1) cap) ∨ (Value.slice (some ⟨g7, 0, none⟩) (p.length + 1 + 1) cap7).ownBlock = some (w1.drew.alloc zeroO).heap.size from hob7); clear hown7 hgrow hob7)
  all_goals
    go_wp2
    go_end0
    first
      | (with_reducible exact text_snoc hpy rfl h1 h2 HB1.out HK1.out HC1.out HC2.out HOwn.out HE.out ht9 HG7.out HB7.out HW7.out)
      | (with_reducible exact text_snoc2 hpy rfl h1 h2 HB1.out HK1.out HC1.out HC2.out HOwn.out HE.out ht9 HG7.out HB7.out HW7.out)
set_option maxHeartbeats 4000000 in
set_option maxRecDepth 100000 in
theorem text_fA (kb base D : Nat) (x : Pl) (vE vA vS v : Value) (p : List (NodeD (List (NT D)))) (y : NodeD (List (NT D))) (s t : ByteArray) (w : World) (hp : x.pre = false) (hk : KeepAt kb w x vE vA vS v) (ho : OutAt base D w v (p ++ [y])) (h1 : kb < base) (h2 : base ≤ w.heap.size)
    (hN : Calls Tryz.prog 91 #[.string s] w fun e w' => e = .returned (.string t) ∧ Below w.heap.size w w') (ht : t.toList = []) :
    Calls Tryz.prog 59 #[.pointer (some ⟨kb, 0, none⟩), .string s] w (TextR kb base D x vE vA vS w (p ++ [y])) := by
  have ht2 : t.toList.isEmpty = true := by rw [ht]; rfl
  obtain ⟨g, cap, rfl, hbg, hgw, hy256, _⟩ := ho.last
  have HN := Lib.hid hN; have HK := Lib.hid hk; have HO := Lib.hid ho
  clear hN hk ho
  go_enter Tryz.func59, Tryz.ntmps59
  go_wp2_with fail
  refine Calls.mono HN.out ?_
  rintro e w1 ⟨rfl, b1⟩
  have HK1 := Lib.hid (HK.out.below b1 (by omega))
  have HO1 := Lib.hid (HO.out.later b1)
  have HB1 := Lib.hid b1
  have k1 := HK1.out.cell
  rw [hp] at k1
  obtain ⟨g', cap', e', _, _, _, c0, c4, f4, hput⟩ := HO1.out.last
  cases e'
  clear hput b1
  go_wp2
  go_end0
  exact ⟨rfl, _, HK1.out, HO1.out, Beside.of_below HB1.out h1 h2⟩
set_option maxHeartbeats 4000000 in
set_option maxRecDepth 100000 in
theorem text_fB (kb base D : Nat) (x : Pl) (vE vA vS v : Value) (p : List (NodeD (List (NT D)))) (y : NodeD (List (NT D))) (s t : ByteArray) (w : World) (hp : x.pre = false) (hk : KeepAt kb w x vE vA vS v) (ho : OutAt base D w v (p ++ [y])) (h1 : kb < base) (h2 : base ≤ w.heap.size)
    (hN : Calls Tryz.prog 91 #[.string s] w fun e w' => e = .returned (.string t) ∧ Below w.heap.size w w') (ht : ¬ t.toList = []) (hts : t.size ≤ 1000000000) (hyk : y.kind = 2) (hys : y.text.size ≤ 1000000000) (hpl : p.length ≤ 1000000) :
    Calls Tryz.prog 59 #[.pointer (some ⟨kb, 0, none⟩), .string s] w (TextR kb base D x vE vA vS w (p ++ [{ y with text := y.text ++ t }])) := by
  have ht2 : t.toList.isEmpty = false := by cases hq : t.toList with | nil => exact absurd hq ht | cons _ _ => rfl
  obtain ⟨g, cap, rfl, hbg, hgw, hy256, _⟩ := ho.last
  have HN := Lib.hid hN; have HK := Lib.hid hk; have HO := Lib.hid ho
  clear hN hk ho
  go_enter Tryz.func59, Tryz.ntmps59
  go_wp2_with fail
  refine Calls.mono HN.out ?_
  rintro e w1 ⟨rfl, b1⟩
  have HK1 := Lib.hid (HK.out.below b1 (by omega))
  have HO1 := Lib.hid (HO.out.later b1)
  have HB1 := Lib.hid b1
  have k1 := HK1.out.cell
  rw [hp] at k1
  obtain ⟨g', cap', e', _, _, _, c0, c4, f4, hput⟩ := HO1.out.last
  cases e'
  rw [hyk] at c0
  have hsum : ¬ (9223372036854775807 < y.text.size + t.size) := by omega
  have HPut := Lib.hid hput
  clear hput b1
  go_wp2
  go_end0
  exact text_put h1 h2 HB1.out hbg HK1.out (HPut.out _ (by rw [ByteArray.size_append]; omega))
set_option maxHeartbeats 4000000 in
set_option maxRecDepth 100000 in
theorem text_fC (kb base D : Nat) (x : Pl) (vE vA vS v : Value) (p : List (NodeD (List (NT D)))) (y : NodeD (List (NT D))) (s t : ByteArray) (w : World) (hp : x.pre = false) (hk : KeepAt kb w x vE vA vS v) (ho : OutAt base D w v (p ++ [y])) (h1 : kb < base) (h2 : base ≤ w.heap.size)
    (hN : Calls Tryz.prog 91 #[.string s] w fun e w' => e = .returned (.string t) ∧ Below w.heap.size w w') (ht : ¬ t.toList = []) (hts : t.size ≤ 1000000000) (hyk : y.kind ≠ 2) (hpl : p.length ≤ 1000000) :
    Calls Tryz.prog 59 #[.pointer (some ⟨kb, 0, none⟩), .string s] w (TextR kb base D x vE vA vS w ((p ++ [y]) ++ [⟨2, 0, ByteArray.empty, [], t, []⟩])) := by
  have ht2 : t.toList.isEmpty = false := by cases hq : t.toList with | nil => exact absurd hq ht | cons _ _ => rfl
  obtain ⟨g, cap, rfl, hbg, hgw, hy256, _⟩ := ho.last
  obtain ⟨iN, hiN, hzN0, hzN1, hzN2⟩ := info_parts infoN
  have HN := Lib.hid hN; have HK := Lib.hid hk; have HO := Lib.hid ho
  clear hN hk ho
  go_enter Tryz.func59, Tryz.ntmps59
  go_wp2_with fail
  refine Calls.mono HN.out ?_
  rintro e w1 ⟨rfl, b1⟩
  have HK1 := Lib.hid (HK.out.below b1 (by omega))
  have HO1 := Lib.hid (HO.out.later b1)
  have HB1 := Lib.hid b1
  have k1 := HK1.out.cell
  rw [hp] at k1
  obtain ⟨g', cap', e', _, _, _, c0, c4, f4, hput⟩ := HO1.out.last
  cases e'
  have zk : ((y.kind : Int) == 2) = false := by simp; omega
  clear hput b1
  have hOO := HO1.out
  obtain ⟨css, hc1, hc2, hown, hE⟩ := hOO
  have hcl := flat_six css hc2
  rw [hc1] at hcl
  have hpy : (p ++ [y]).length = p.length + 1 := by simp
  rw [hpy] at hown hcl
  have ht9 : t.size ≤ 9223372036854775807 := by omega
  have HOwn := Lib.hid hown
  have HC1 := Lib.hid hc1; have HC2 := Lib.hid hc2; have HCl := Lib.hid hcl; have HE := Lib.hid hE
  clear hown hc1 hc2 hcl hE
  have hz1 := HB1.out.size
  have hkb1 : kb < w1.heap.size := by omega
  have hi1 : (0 : Int) ≤ (p.length : Int) + 1 := by omega
  have hi2 : (p.length : Int) < (p.length : Int) + 1 := by omega
  have la := fun (o : Obj) i => (World.cell?_alloc_lt w1 o ⟨kb, i, none⟩ hkb1).trans (k1 i)
  go_wp2_with fail
  go_region_law (refine step_row rfl (.tmp 30) (.tmp 34) 37 rfl base 48 iN _ 6 88 Tryz.underlying37 hiN hzN0 hzN1 hzN2 rfl (by decide) _ rfl (p.length + 1) _ (World.ownsRow.alloc (w := w1.drew) HOwn.out _) ⟨w1.heap.size, 0, none⟩ 1 1 zeroN rfl rfl zero_cells (by simp [Value.oneCell', zeroN]) (by unfold maxLen; omega) (by omega) (by simp; omega) ?_; intro v7 w7 hown7 hgrow hob7; obtain ⟨g7, cap7, rfl⟩ := Joins.ownsRow_form hown7 (by omega); have hk7 := Lib.hid ((hgrow.block kb (by simp; omega) (by intro he; have := (HOwn.out.lt _ he.symm).1; omega)).trans ((Below.heap_alloc w1.drew _ _ (by simp; omega)).trans HK1.out)); have c7 : ∀ i u, zeroN[i]? = some u → w7.cell? ⟨g7, (p.length + 1) * 6 + i, none⟩ = some u := (fun i u hu => (hown7.cellAt ((p.length + 1) * 6 + i) (by have := (List.getElem?_eq_some_iff.1 hu).1; simp [zeroN] at this; omega)).trans (by rw [List.getElem?_append_right (by rw [HCl.out]; exact Nat.le_add_right _ _), HCl.out, show (p.length + 1) * 6 + i - (p.length + 1) * 6 = i from Nat.add_sub_cancel_left _ _]; exact hu)); have d0 := (show w7.cell? ⟨g7, (p.length + 1) * 6, none⟩ = some (.int .u8 0) from c7 0 _ rfl); have d1 := c7 1 _ rfl; have d2 := c7 2 _ rfl; have d3 := c7 3 _ rfl; have d4 := c7 4 _ rfl; have d5 := c7 5 _ rfl; have f7 := (fun i => hown7.frozenAt i); clear c7; have l7 := fun i => cell_of_row w7 kb i _ _ _ hk7.out; have fk7 : ∀ i, w7.frozen? ⟨kb, i, none⟩ = false := (fun i => by simp [World.frozen?, show w7.heap[kb]? = _ from hk7.out]); have hne7 : ¬ g7 = kb := (fun e => by have := (hown7.lt g7 rfl).1; omega); have hne8 : ¬ kb = g7 := (fun e => hne7 e.symm); have HW7 := Lib.hid hown7; have HG7 := Lib.hid (show (w1.drew.alloc zeroO).grownBy w7 (Value.ownBlock (.slice (some ⟨g, 0, none⟩) (p.length + 1) cap)) from hgrow); have HB7 := Lib.hid (show (Value.slice (some ⟨g7, 0, none⟩) (p.length + 1 + 1) cap7).ownBlock = Value.ownBlock (.slice (some ⟨g, 0, none⟩) (p.length + 1) cap) ∨ (Value.slice (some ⟨g7, 0, none⟩) (p.length + 1 + 1) cap7).ownBlock = some (w1.drew.alloc zeroO).heap.size from hob7); clear hown7 hgrow hob7)
  all_goals
    go_wp2
    go_end0
    first
      | (with_reducible exact text_snoc hpy rfl h1 h2 HB1.out HK1.out HC1.out HC2.out HOwn.out HE.out ht9 HG7.out HB7.out HW7.out)
      | (with_reducible exact text_snoc2 hpy rfl h1 h2 HB1.out HK1.out HC1.out HC2.out HOwn.out HE.out ht9 HG7.out HB7.out HW7.out)
theorem bytes_app (x : ByteArray) (l : List UInt8) : (⟨(x.data.toList ++ l).toArray⟩ : ByteArray) = x ++ ⟨l.toArray⟩ := by
  apply ByteArray.ext
  apply Array.toList_inj.1
  simp
theorem txtP_nil {K : Type} (nil : K) (acc : List (NodeD K)) {l : List UInt8} (h : l = []) : txtP nil acc l = acc := by
  unfold txtP
  rw [h]
  rfl
theorem txtP_first {K : Type} (nil : K) {l : List UInt8} (h : l ≠ []) : txtP nil [] l = [] ++ [txtN nil l] := by
  unfold txtP
  rw [if_neg (by simpa using h)]
  rfl
theorem txtP_join {K : Type} (nil : K) (p : List (NodeD K)) (y : NodeD K) {l : List UInt8} (h : l ≠ []) (hy : y.kind = 2) : txtP nil (p ++ [y]) l = p ++ [{ y with text := y.text ++ ⟨l.toArray⟩ }] := by
  unfold txtP
  rw [if_neg (by simpa using h), List.getLast?_concat]
  simp only
  rw [if_pos hy, List.dropLast_concat, bytes_app]
theorem txtP_more {K : Type} (nil : K) (p : List (NodeD K)) (y : NodeD K) {l : List UInt8} (h : l ≠ []) (hy : y.kind ≠ 2) : txtP nil (p ++ [y]) l = (p ++ [y]) ++ [txtN nil l] := by
  unfold txtP
  rw [if_neg (by simpa using h), List.getLast?_concat]
  simp only
  rw [if_neg hy]
/-- (*keeper).text. -/
theorem text_any (kb base D : Nat) (x : Pl) (vE vA vS v : Value) (acc : List (NodeD (List (NT D)))) (s : ByteArray) (w : World) (hk : KeepAt kb w x vE vA vS v) (ho : OutAt base D w v acc) (h1 : kb < base) (h2 : base ≤ w.heap.size) (hG : Glob w) (hs : s.size ≤ 100000000)
    (hl : acc.length ≤ 1000000) (hty : ∀ y ∈ acc, y.text.size ≤ 1000000000) : Calls Tryz.prog 59 #[.pointer (some ⟨kb, 0, none⟩), .string s] w (TextR kb base D x vE vA vS w (txt [] x.pre acc s)) := by
  have hN := newlines_any s w (by omega) hG
  unfold StrR at hN
  have hnl := nlL_len s.data.toList
  have hsl : s.data.toList.length = s.size := Array.length_toList
  obtain ⟨t, ht⟩ : ∃ t : ByteArray, (⟨(nlL s.data.toList).toArray⟩ : ByteArray) = t := ⟨_, rfl⟩
  have htl : nlL s.data.toList = t.data.toList := by rw [← ht]
  have hts : t.size ≤ 100000000 := by rw [← ht, size_list]; omega
  rw [ht] at hN
  have hd : ∀ l : List UInt8, (⟨l.toArray⟩ : ByteArray).toList = l := fun l => by rw [Lib.toList_data]
  unfold txt
  rw [htl]
  rcases List.eq_nil_or_concat acc with rfl | ⟨p, y, rfl⟩
  · cases hp : x.pre with
    | true =>
      rw [show (true && ([] : List (NodeD (List (NT D)))).isEmpty) = true from rfl, show cutNl true t.data.toList = Lib.trimLeftB t.data.toList 10 from rfl]
      have hT := fun w' => Tryz.strings_TrimLeft_one t 10 (by decide) w'
      have hcl : (Lib.trimLeftB t.data.toList 10).length ≤ t.data.toList.length := (List.dropWhile_suffix _).length_le
      rw [show t.data.toList.length = t.size from Array.length_toList] at hcl
      obtain ⟨l, hle⟩ : ∃ l, Lib.trimLeftB t.data.toList 10 = l := ⟨_, rfl⟩
      rw [hle] at hT hcl ⊢
      by_cases he : l = []
      · rw [txtP_nil _ _ he]
        exact text_pA kb base D x vE vA vS v s t ⟨l.toArray⟩ w hp hk ho h1 h2 hN hT (by rw [hd]; exact he)
      · rw [txtP_first _ he]
        exact text_pC kb base D x vE vA vS v s t ⟨l.toArray⟩ w hp hk ho h1 h2 hN hT (by rw [hd]; exact he) (by rw [size_list]; omega)
    | false =>
      rw [show (false && ([] : List (NodeD (List (NT D)))).isEmpty) = false from rfl, show cutNl false t.data.toList = t.data.toList from rfl]
      by_cases he : t.data.toList = []
      · rw [txtP_nil _ _ he]
        exact text_nA kb base D x vE vA vS v s t w hp hk ho h1 h2 hN (by rw [Lib.toList_data]; exact he)
      · rw [txtP_first _ he]
        exact text_nC kb base D x vE vA vS v s t w hp hk ho h1 h2 hN (by rw [Lib.toList_data]; exact he) (by omega)
  · rw [List.concat_eq_append] at ho hl hty ⊢
    have hpl : p.length ≤ 1000000 := by simp at hl; omega
    have hys := hty y (by simp)
    rw [show (x.pre && (p ++ [y]).isEmpty) = false by simp, show cutNl false t.data.toList = t.data.toList from rfl]
    by_cases he : t.data.toList = []
    · rw [txtP_nil _ _ he]
      cases hp : x.pre with
      | true => exact text_tA kb base D x vE vA vS v p y s t w hp hk ho h1 h2 hN (by rw [Lib.toList_data]; exact he)
      | false => exact text_fA kb base D x vE vA vS v p y s t w hp hk ho h1 h2 hN (by rw [Lib.toList_data]; exact he)
    · by_cases hy : y.kind = 2
      · rw [txtP_join _ p y he hy]
        cases hp : x.pre with
        | true => exact text_tB kb base D x vE vA vS v p y s t w hp hk ho h1 h2 hN (by rw [Lib.toList_data]; exact he) (by omega) hy hys hpl
        | false => exact text_fB kb base D x vE vA vS v p y s t w hp hk ho h1 h2 hN (by rw [Lib.toList_data]; exact he) (by omega) hy hys hpl
      · rw [txtP_more _ p y he hy]
        cases hp : x.pre with
        | true => exact text_tC kb base D x vE vA vS v p y s t w hp hk ho h1 h2 hN (by rw [Lib.toList_data]; exact he) (by omega) hy hpl
        | false => exact text_fC kb base D x vE vA vS v p y s t w hp hk ho h1 h2 hN (by rw [Lib.toList_data]; exact he) (by omega) hy hpl
end Go.Proofs.YtdkjenbncmedbaaGreatDoor
