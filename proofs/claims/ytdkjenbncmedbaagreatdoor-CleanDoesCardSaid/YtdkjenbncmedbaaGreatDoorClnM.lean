/- What has been kept, in memory: a keeper, and a row of nodes that grows. -/
import Derived.Test.YtdkjenbncmedbaaGreatDoorClnT
import Derived.Test.YtdkjenbncmedbaaGreatDoorNlW
import Derived.Maps.AppendAt
import Derived.Laws.CopyRow
import Derived.Deep.RegionLaw
import Derived.Deep.RegionHeld3
import Derived.Deep.DeepCutAuto
import Derived.Deep.MidRow
namespace Go.Proofs.YtdkjenbncmedbaaGreatDoor
open Go.RowKit

/-- Blocks of one's own behind a base, but for the row itself. -/
def Mine (base : Nat) (v : Value) (w : World) (k : Nat) : Prop := base ≤ k ∧ k < w.heap.size ∧ v.ownBlock ≠ some k
def nodeCs (x : NodeD Unit) (va vk : Value) : List Value := [.int .u8 x.kind, .int .u8 x.space, .string x.name, va, .string x.text, vk]
/-- v is a row of one's own that reads as these nodes. -/
def OutAt (base D : Nat) (w : World) (v : Value) (acc : List (NodeD (List (NT D)))) : Prop :=
  ∃ css : List (List Value), css.length = acc.length ∧ (∀ c ∈ css, c.length = 6) ∧ w.ownsRow base 48 6 v acc.length css.flatten ∧
    ∀ (j : Nat) (c : List Value) (x : NodeD (List (NT D))), css[j]? = some c → acc[j]? = some x → NodeIs (NodesAt D) w (Mine base v w) c x
/-- What is kept of the world: all below the base but the keeper. -/
def Beside (kb base : Nat) (w w' : World) : Prop := Below kb w w' ∧ ∀ j, j < base → j ≠ kb → w'.heap[j]? = w.heap[j]?
theorem Beside.refl (kb base : Nat) (w : World) : Beside kb base w w := ⟨Below.refl _ _, fun _ _ _ => rfl⟩
theorem Beside.trans {kb base : Nat} {w w1 w2 : World} (h : Beside kb base w w1) (k : Beside kb base w1 w2) : Beside kb base w w2 := ⟨h.1.trans k.1, fun j h1 h2 => (k.2 j h1 h2).trans (h.2 j h1 h2)⟩
theorem Beside.of_below {kb base : Nat} {w w' : World} (h : Below w.heap.size w w') (hk : kb < base) (hb : base ≤ w.heap.size) : Beside kb base w w' := ⟨h.mono (by omega), fun j h1 _ => h.block j (by omega)⟩
theorem Beside.size {kb base : Nat} {w w' : World} (h : Beside kb base w w') : w.heap.size ≤ w'.heap.size := h.1.size
theorem own_later {base size n : Nat} {e : TypeId} {w w' : World} {v : Value} {xs : List Value} (h : w.ownsRow base e size v n xs) (hb : Below w.heap.size w w') : w'.ownsRow base e size v n xs := ownsRow_same h fun g _ hg => hb.block g hg
theorem OutAt.nil (base D : Nat) (w : World) : OutAt base D w (.slice none 0 0) [] := ⟨[], rfl, by simp, World.ownsRow_nil _ _ _ _, by simp⟩
theorem OutAt.form {base D : Nat} {w : World} {v : Value} {acc : List (NodeD (List (NT D)))} (h : OutAt base D w v acc) : ∃ A c, v = .slice A acc.length c := by
  obtain ⟨css, _, _, h, _⟩ := h
  rcases h.2 with ⟨h, h0⟩ | ⟨g, cap, cur, h, _⟩
  · exact ⟨none, 0, by rw [h, h0]⟩
  · exact ⟨_, _, h⟩
/-- .. behind what leaves the row and what it holds alone. -/
theorem OutAt.keep {base D : Nat} {w w' : World} {v : Value} {acc : List (NodeD (List (NT D)))} (h : OutAt base D w v acc) (hz : w.heap.size ≤ w'.heap.size) (hb : ∀ j, base ≤ j → j < w.heap.size → w'.heap[j]? = w.heap[j]?) : OutAt base D w' v acc := by
  obtain ⟨css, h1, h2, h3, h4⟩ := h
  exact ⟨css, h1, h2, ownsRow_same h3 hb, fun j c x hc hx => (h4 j c x hc hx).keep (fun k hk => hb k hk.1 hk.2.1) fun k hk => ⟨hk.1, Nat.lt_of_lt_of_le hk.2.1 hz, hk.2.2⟩⟩
theorem OutAt.later {base D : Nat} {w w' : World} {v : Value} {acc : List (NodeD (List (NT D)))} (h : OutAt base D w v acc) (hb : Below w.heap.size w w') : OutAt base D w' v acc := h.keep hb.size fun j _ hj => hb.block j hj
theorem OutAt.setBelow {base D : Nat} {w : World} {v : Value} {acc : List (NodeD (List (NT D)))} (h : OutAt base D w v acc) {a : Addr} (ha : a.block < base) (u : Value) : OutAt base D (w.setCell a u) v acc := h.keep (by rw [size_setCell]; exact Nat.le_refl _) fun j h1 _ => Below.heap_setCell _ _ _ _ (by omega)
/-- The whole reads as nodes. -/
theorem OutAt.nodes {base D : Nat} {w : World} {v : Value} {acc : List (NodeD (List (NT D)))} (h : OutAt base D w v acc) (hl : acc.length ≤ 9223372036854775807) : NodesAt (D + 1) w (fun k => base ≤ k ∧ k < w.heap.size) v acc := by
  obtain ⟨css, h1, h2, h3, h4⟩ := h
  refine (show Row (α := NodeD (List (NT D))) 6 (NodeIs (NodesAt D)) w (fun k => base ≤ k ∧ k < w.heap.size) v acc from Row.of_own (α := NodeD (List (NT D))) css h3 (fun k hk => ⟨(h3.lt k hk).1, (h3.lt k hk).2⟩) hl h2 h1 ?_)
  intro j c x hc hx
  exact (h4 j c x hc hx).keep (fun _ _ => rfl) (fun k hk => ⟨hk.1, hk.2.1⟩)
theorem own_setCells {base size n cap g : Nat} {e : TypeId} : ∀ (vs : List Value) (o : Nat) (w : World) (ys : List Value), w.ownsRow base e size (.slice (some ⟨g, 0, none⟩) n cap) n ys → o + vs.length ≤ ys.length →
    (w.setCells g o vs).ownsRow base e size (.slice (some ⟨g, 0, none⟩) n cap) n (ys.take o ++ vs ++ ys.drop (o + vs.length)) ∧ w.grownBy (w.setCells g o vs) (some g) ∧ (w.setCells g o vs).heap.size = w.heap.size
  | [], o, w, ys, h, _ => by
    have e : ys.take o ++ [] ++ ys.drop (o + ([] : List Value).length) = ys := by simp
    rw [e]
    exact ⟨h, ⟨rfl, rfl, rfl, Nat.le_refl _, fun _ _ _ => rfl⟩, rfl⟩
  | v :: r, o, w, ys, h, hl => by
    have hl : o + (r.length + 1) ≤ ys.length := hl
    obtain ⟨h1, g1⟩ := h.stored o v
    obtain ⟨h2, g2, z2⟩ := own_setCells r (o + 1) _ _ h1 (by rw [List.length_set]; omega)
    refine ⟨?_, ?_, ?_⟩
    · rw [list_seg_step ys o v r (by omega)] at h2
      rw [World.setCells]
      exact h2
    · rw [World.setCells]
      exact ⟨g2.os.trans g1.os, g2.tape.trans g1.tape, g2.output.trans g1.output, Nat.le_trans g1.size g2.size, fun k hk hne => (g2.block k (Nat.lt_of_lt_of_le hk g1.size) hne).trans (g1.block k hk hne)⟩
    · rw [World.setCells, z2, size_setCell]
/-- One more node behind: of the row's parts. -/
theorem OutAt.snoc {base D : Nat} {w w1 : World} {v v' : Value} {acc : List (NodeD (List (NT D)))} {css : List (List Value)} (h1 : css.length = acc.length) (h2 : ∀ c ∈ css, c.length = 6)
    (h4 : ∀ (j : Nat) (c : List Value) (x : NodeD (List (NT D))), css[j]? = some c → acc[j]? = some x → NodeIs (NodesAt D) w (Mine base v w) c x) (c : List Value) (y : NodeD (List (NT D))) (hc6 : c.length = 6)
    (hy : NodeIs (NodesAt D) w (Mine base v w) c y) (hz : w.heap.size ≤ w1.heap.size)
    (hg : ∀ j, base ≤ j → j < w.heap.size → v.ownBlock ≠ some j → w1.heap[j]? = w.heap[j]?) (ho : v'.ownBlock = v.ownBlock ∨ ∃ g, v'.ownBlock = some g ∧ w.heap.size ≤ g)
    (hown : w1.ownsRow base 48 6 v' (acc.length + 1) (css.flatten ++ c)) : OutAt base D w1 v' (acc ++ [y]) := by
  have hmine : ∀ k, base ≤ k → k < w.heap.size → v.ownBlock ≠ some k → Mine base v' w1 k := fun k k1 k2 k3 => ⟨k1, by omega, by
    rcases ho with e | ⟨g, e, hg⟩
    · rw [e]; exact k3
    · rw [e]; intro e2; cases e2; omega⟩
  refine ⟨css ++ [c], by simp [h1], ?_, ?_, ?_⟩
  · intro d hd
    rcases List.mem_append.1 hd with hd | hd
    · exact h2 d hd
    · rw [List.mem_singleton.1 hd]; exact hc6
  · simpa using hown
  · intro j d x hd hx
    by_cases hj : j < acc.length
    · rw [List.getElem?_append_left (by omega)] at hd
      rw [List.getElem?_append_left hj] at hx
      exact (h4 j d x hd hx).keep (fun k hk => hg k hk.1 hk.2.1 hk.2.2) (fun k hk => hmine k hk.1 hk.2.1 hk.2.2)
    · have hjl := (List.getElem?_eq_some_iff.1 hx).1
      rw [List.length_append] at hjl
      have hj : j = acc.length := by simp at hjl; omega
      subst hj
      rw [List.getElem?_append_right (by omega), h1] at hd
      rw [List.getElem?_append_right (Nat.le_refl _)] at hx
      simp at hd hx
      subst hd
      subst hx
      exact hy.keep (fun k hk => hg k hk.1 hk.2.1 hk.2.2) (fun k hk => hmine k hk.1 hk.2.1 hk.2.2)
theorem flat_six : ∀ (css : List (List Value)), (∀ d ∈ css, d.length = 6) → css.flatten.length = css.length * 6
  | [], _ => rfl
  | c :: r, h => by
    rw [List.flatten_cons, List.length_append, flat_six r fun d hd => h d (by simp [hd]), h c (by simp), List.length_cons]
    omega
/-- A node of one's own put behind a row of one's own: the row grows by a zero node, into which the node's cells go. -/
theorem out_push {base D : Nat} {w w7 : World} {v : Value} {acc : List (NodeD (List (NT D)))} {css : List (List Value)} {g cap : Nat} {o : Obj} (zs c : List Value) (y : NodeD (List (NT D))) (h1 : css.length = acc.length) (h2 : ∀ c ∈ css, c.length = 6)
    (h3 : w.ownsRow base 48 6 v acc.length css.flatten) (h4 : ∀ (j : Nat) (c : List Value) (x : NodeD (List (NT D))), css[j]? = some c → acc[j]? = some x → NodeIs (NodesAt D) w (Mine base v w) c x)
    (hzl : zs.length = 6) (hc6 : c.length = 6) (hy : NodeIs (NodesAt D) w (Mine base v w) c y) (hbase : base ≤ w.heap.size)
    (hg7 : (w.drew.alloc o).grownBy w7 v.ownBlock) (hob : (Value.slice (some ⟨g, 0, none⟩) (acc.length + 1) cap).ownBlock = v.ownBlock ∨ (Value.slice (some ⟨g, 0, none⟩) (acc.length + 1) cap).ownBlock = some (w.drew.alloc o).heap.size)
    (hown7 : w7.ownsRow base 48 6 (.slice (some ⟨g, 0, none⟩) (acc.length + 1) cap) (acc.length + 1) (css.flatten ++ zs)) :
    OutAt base D (w7.setCells g (acc.length * 6) c) (.slice (some ⟨g, 0, none⟩) (acc.length + 1) cap) (acc ++ [y]) ∧ Below base w (w7.setCells g (acc.length * 6) c) ∧ w.heap.size + 1 ≤ (w7.setCells g (acc.length * 6) c).heap.size ∧ base ≤ g ∧
      (∀ j, j < w.heap.size → v.ownBlock ≠ some j → (w7.setCells g (acc.length * 6) c).heap[j]? = w.heap[j]?) := by
  have hfl := flat_six css h2
  rw [h1] at hfl
  have hs7 : w.heap.size + 1 ≤ w7.heap.size := by have := hg7.size; simpa using this
  obtain ⟨s1, s2, s3⟩ := own_setCells c (acc.length * 6) w7 _ hown7 (by rw [List.length_append]; omega)
  have e1 : (css.flatten ++ zs).take (acc.length * 6) = css.flatten := by rw [← hfl, List.take_left]
  have e2 : (css.flatten ++ zs).drop (acc.length * 6 + c.length) = [] := List.drop_of_length_le (by rw [List.length_append]; omega)
  rw [e1, e2, List.append_nil] at s1
  have hlow := h3.lt
  have hgb := s1.lt g rfl
  have hblk : ∀ j, j < w.heap.size → v.ownBlock ≠ some j → (w7.setCells g (acc.length * 6) c).heap[j]? = w.heap[j]? := fun j hj hne => by
    have hjg : some j ≠ some g := fun e => by
      cases e
      rcases hob with e | e
      · exact hne e.symm
      · have : g = w.heap.size + 1 := by simpa [Value.ownBlock] using e
        omega
    rw [s2.block j (by omega) hjg, hg7.block j (by simp; omega) (fun e => hne e.symm), Below.heap_alloc _ _ _ (by simpa using hj)]
    rfl
  refine ⟨OutAt.snoc h1 h2 h4 c y hc6 hy (by omega) (fun j _ hj hne => hblk j hj hne) ?_ s1, ⟨s2.os.trans hg7.os, s2.tape.trans hg7.tape, s2.output.trans hg7.output, by omega, fun j hj => hblk j (by omega) fun e => by have := (hlow _ e).1; omega⟩, by omega, hgb.1, hblk⟩
  rcases hob with e | e
  · exact .inl e
  · exact .inr ⟨_, e, by simp⟩
/-- append onto a row of one's own, as one step of a region. -/
theorem step_row {P : Program} {w : World} {ops : Array Oper} {o : Oper} {a : Act} {K : Act → World → Prop} {Q : Exit → Act → World → Prop} {F : Prop} (hgd : o.guard = none) (s x : Operand) (t : TypeId)
    (ho : o.op = .call { callee := .builtin .append, args := #[s, x], argTypes := #[t, t] })
    (base : Nat) (e : TypeId) (i : TypeInfo) (z : Value) (size bytes : Nat) (ht : P.underlying t = some (.slice e)) (hi : P.info? e = some i) (hz : i.zero = some z)
    (hsize : i.size = size) (hby : i.bytes = bytes) (hzs : z.cells.size = size) (hsz : 0 < size) (v : Value) (hs : a.eval s = v) (k : Nat) (xs : List Value) (hown : w.ownsRow base e size v k xs)
    (ad : Addr) (m c : Nat) (news : List Value) (hx : a.eval x = .slice (some ad) m c) (hl : news.length = m * size) (hnews : ∀ j u, news[j]? = some u → w.cell? (ad.add j) = some u) (h1 : ∀ u ∈ news, u.oneCell' = true)
    (h63 : k + m ≤ maxLen) (hbytes : (k + m) * bytes ≤ 140737488355328) (hbase : base ≤ w.heap.size)
    (h : ∀ v' w1, w1.ownsRow base e size v' (k + m) (xs ++ news) → w.grownBy w1 v.ownBlock → (v'.ownBlock = v.ownBlock ∨ v'.ownBlock = some w.heap.size) → K (a.put o.dst v') w1) : if Region.wanted o (yielded ops a.tmps) = true then Oper.wp P o a w K Q else F := by
  have hw : Region.wanted o (yielded ops a.tmps) = true := by simp [Region.wanted, hgd]
  rw [if_pos hw]
  obtain ⟨v', w1, hr, h2, h3, _, h5⟩ := run_append_own_at (P := P) w base t o.type e i z size bytes ht hi hz hsize hby hzs hsz v k xs hown ad m c news hl hnews h1 h63 hbytes hbase
  unfold Oper.wp execOp
  simp only [ho, resolve, invoke, builtin, Sem.run_bind, Sem.run_pure, Result.andThen_ok, List.map_toArray, List.map_cons, List.map_nil, hs, hx, hr]
  exact h v' w1 h2 h3 h5
end Go.Proofs.YtdkjenbncmedbaaGreatDoor
