/- Rows of structs in memory: what lies from an address on, a slice that reads as a list; how much there is (a count that stops past a bound). -/
import Derived.Test.YtbcfhpomclkccaaDoorBld
import Derived.BigQuiet
import Derived.Deep.QuietTactic
import Derived.Deep.Draws
import Derived.Maps.AppendAt
import Derived.Lib.Hide
namespace Go.Proofs.YtbcfhpomclkccaaDoor
open Go.RowKit

theorem block_of_add (a : Addr) (n : Nat) : (a.add n).block = a.block := by unfold Addr.add; split <;> rfl
theorem add_of_add (a : Addr) (i j : Nat) : (a.add i).add j = a.add (i + j) := by
  unfold Addr.add
  by_cases hi : i = 0 <;> by_cases hj : j = 0 <;> simp [hi, hj, Nat.add_assoc]
theorem add_succ (a : Addr) (j : Nat) : a.add (j + 1) = ⟨a.block, a.off + (j + 1), none⟩ := by unfold Addr.add; simp

/-- From address p on lie these cells. -/
def Lie (w : World) (p : Addr) (vs : List Value) : Prop := ∀ j u, vs[j]? = some u → w.cell? (p.add j) = some u
theorem Lie.same {w w' : World} {p : Addr} {vs : List Value} (h : Lie w p vs) (e : w'.heap[p.block]? = w.heap[p.block]?) : Lie w' p vs := by
  intro j u hu
  rw [← h j u hu]
  exact World.cell?_of_block (by rw [block_of_add]; exact e)
theorem Lie.below {B : Nat} {w w' : World} {p : Addr} {vs : List Value} (h : Lie w p vs) (hb : Below B w w') (hp : p.block < B) : Lie w' p vs := h.same (hb.block _ hp)
theorem Lie.fst {w : World} {p : Addr} {v : Value} {vs : List Value} (h : Lie w p (v :: vs)) : w.cell? p = some v := by
  have := h 0 v rfl
  simpa [Addr.add] using this
theorem Lie.nth {w : World} {p : Addr} {vs : List Value} (h : Lie w p vs) (j : Nat) (u : Value) (hu : vs[j + 1]? = some u) : w.cell? ⟨p.block, p.off + (j + 1), none⟩ = some u := by
  rw [← add_succ]; exact h _ _ hu

/-- An element's cells, one behind the other: a slice of elements of 'size' cells each reads as xs, in blocks of S alone. -/
def Row {α : Type} (size : Nat) (E : World → (Nat → Prop) → List Value → α → Prop) (w : World) (S : Nat → Prop) (v : Value) (l : List α) : Prop :=
  ∃ A c, v = .slice A l.length c ∧ l.length ≤ 9223372036854775807 ∧ (0 < l.length → ∃ ad, A = some ad ∧ S ad.block) ∧
    ∀ i x, l[i]? = some x → ∃ ad vs, A = some ad ∧ Lie w (ad.add (i * size)) vs ∧ E w S vs x

theorem Row.keep {α : Type} {size : Nat} {E : World → (Nat → Prop) → List Value → α → Prop} {w w' : World} {S : Nat → Prop} {v : Value} {l : List α} (h : Row size E w S v l) (hb : ∀ k, S k → w'.heap[k]? = w.heap[k]?) (hE : ∀ vs x, E w S vs x → E w' S vs x) : Row size E w' S v l := by
  obtain ⟨A, c, hv, hl, h0, h1⟩ := h
  refine ⟨A, c, hv, hl, h0, fun i x hx => ?_⟩
  obtain ⟨ad, vs, hA, hlie, hE'⟩ := h1 i x hx
  obtain ⟨ad', hA', hb'⟩ := h0 (by have := (List.getElem?_eq_some_iff.1 hx).1; omega)
  rw [hA] at hA'
  cases hA'
  exact ⟨ad, vs, hA, hlie.same (by rw [block_of_add]; exact hb _ hb'), hE _ _ hE'⟩
theorem Row.mono {α : Type} {size : Nat} {E : World → (Nat → Prop) → List Value → α → Prop} {w : World} {S S' : Nat → Prop} {v : Value} {l : List α} (h : Row size E w S v l) (hB : ∀ k, S k → S' k) (hE : ∀ vs x, E w S vs x → E w S' vs x) : Row size E w S' v l := by
  obtain ⟨A, c, hv, hl, h0, h1⟩ := h
  refine ⟨A, c, hv, hl, fun h => ?_, fun i x hx => ?_⟩
  · obtain ⟨ad, e, hb⟩ := h0 h
    exact ⟨ad, e, hB _ hb⟩
  · obtain ⟨ad, vs, hA, hlie, hE'⟩ := h1 i x hx
    exact ⟨ad, vs, hA, hlie, hE _ _ hE'⟩
/-! ### a row that the call owns reads as its elements -/
theorem flatten_get {α : Type} (size : Nat) : ∀ (css : List (List α)) (i j : Nat) (c : List α), (∀ d ∈ css, List.length d = size) → css[i]? = some c → j < size → css.flatten[i * size + j]? = c[j]?
  | [], i, j, c, _, h, _ => by simp at h
  | d :: r, 0, j, c, hc, h, hj => by
    simp at h; subst h
    have := hc d (by simp)
    rw [List.flatten_cons, List.getElem?_append_left (by omega)]; simp
  | d :: r, i + 1, j, c, hc, h, hj => by
    have hd := hc d (by simp)
    rw [List.flatten_cons, List.getElem?_append_right (by rw [hd, Nat.add_mul]; omega), hd]
    rw [show (i + 1) * size + j - size = i * size + j from by rw [Nat.add_mul]; omega]
    exact flatten_get size r i j c (fun c h => hc c (by simp [h])) (by simpa using h) hj

theorem Row.of_own {α : Type} {size : Nat} {E : World → (Nat → Prop) → List Value → α → Prop} {w : World} {S : Nat → Prop} {base : Nat} {e : TypeId} {v : Value} {l : List α} (css : List (List Value)) (h : w.ownsRow base e size v l.length css.flatten)
    (hS : ∀ k, v.ownBlock = some k → S k) (hl : l.length ≤ 9223372036854775807) (hc : ∀ c ∈ css, c.length = size) (hcl : css.length = l.length) (hE : ∀ (i : Nat) (c : List Value) (x : α), css[i]? = some c → l[i]? = some x → E w S c x) : Row size E w S v l := by
  rcases h.2 with ⟨hv, h0⟩ | ⟨g, cap, cur, hv, _, hh, _⟩
  · refine ⟨none, 0, by rw [h0]; exact hv, hl, fun h => by omega, fun i x hx => ?_⟩
    have := (List.getElem?_eq_some_iff.1 hx).1
    omega
  · subst hv
    refine ⟨some ⟨g, 0, none⟩, cap, rfl, hl, fun _ => ⟨_, rfl, hS g rfl⟩, fun i x hx => ?_⟩
    have hi := (List.getElem?_eq_some_iff.1 hx).1
    have hci : css[i]? = some (css[i]'(by omega)) := List.getElem?_eq_getElem (by omega)
    refine ⟨_, _, rfl, fun j u hu => ?_, hE i _ x hci hx⟩
    have hjs : j < size := by
      have := (List.getElem?_eq_some_iff.1 hu).1
      rwa [hc _ (List.mem_of_getElem? hci)] at this
    rw [add_of_add]
    exact h.cells (g := g) rfl _ u (by rw [flatten_get size css i j _ hc hci hjs]; exact hu)

/-- What 'Nodes' leaves, when it began at a: it stops past most. -/
def Counted (a most r : Int) (s : Nat) : Prop := a ≤ r ∧ r ≤ 4611686018427387904 ∧ (r ≤ most → r = a + s) ∧ (most < a → r = a)
theorem Counted.refl {a most : Int} (h : a ≤ 4611686018427387904) : Counted a most a 0 := ⟨Int.le_refl _, h, fun _ => by omega, fun _ => rfl⟩
theorem Counted.trans {a most r r' : Int} {s s' : Nat} (h : Counted a most r s) (k : Counted r most r' s') : Counted a most r' (s + s') := by
  obtain ⟨h1, h2, h3, h4⟩ := h
  obtain ⟨k1, k2, k3, k4⟩ := k
  refine ⟨by omega, k2, fun h => ?_, fun h => ?_⟩
  · have := h3 (by omega); have := k3 h; omega
  · have e := h4 h; subst e; exact k4 h
theorem Counted.step {a most : Int} (x y : Nat) (ha : a ≤ most) (hm : most ≤ 1000000) (hx : x ≤ 9223372036854775807) (hy : y ≤ 9223372036854775807) : Counted a most (a + (1 + (x : Int) / 8 + (y : Int) / 8)) (1 + x / 8 + y / 8) :=
  ⟨by omega, by omega, fun _ => by omega, fun h => by omega⟩
theorem Counted.over {a most r : Int} {s : Nat} (s' : Nat) (h : Counted a most r s) (hr : most < r) : Counted a most r s' :=
  ⟨h.1, h.2.1, fun h => by omega, h.2.2.2⟩

theorem Counted.step3 {a most : Int} (x y z : Nat) (ha : a ≤ most) (hm : most ≤ 1000000) (hx : x ≤ 9223372036854775807) (hy : y ≤ 9223372036854775807) (hz : z ≤ 9223372036854775807) : Counted a most (a + (1 + (x : Int) / 8 + (y : Int) / 8 + (z : Int) / 8)) (1 + x / 8 + y / 8 + z / 8) :=
  ⟨by omega, by omega, fun _ => by omega, fun h => by omega⟩
def New (w w' : World) (k : Nat) : Prop := w.heap.size ≤ k ∧ k < w'.heap.size
theorem row_drewN {B : Nat} {a w : World} (h : Below B a w) (n : Nat) : Below B a (w.drewN n) := ⟨h.os, h.tape, h.output, h.size, h.block⟩
def Own (w : World) (v : Value) (wr : World) (k : Nat) : Prop := w.heap.size ≤ k ∧ k < wr.heap.size ∧ v.ownBlock ≠ some k

/-- Block g is just these cells. -/
def Box (w : World) (g : Nat) (t : TypeId) (cs : Array Value) : Prop := w.heap[g]? = some (.cells cs t (0, 0))
theorem Box.cell {w : World} {g : Nat} {t : TypeId} {cs : Array Value} (h : Box w g t cs) (i : Nat) : w.cell? ⟨g, i, none⟩ = cs[i]? := (Lib.cell_of_heap h) i
theorem Box.free {w : World} {g : Nat} {t : TypeId} {cs : Array Value} (h : Box w g t cs) (i : Nat) : w.frozen? ⟨g, i, none⟩ = false := Lib.frozen_of_heap h i
theorem Box.lt {w : World} {g : Nat} {t : TypeId} {cs : Array Value} (h : Box w g t cs) : g < w.heap.size := (Array.getElem?_eq_some_iff.1 h).1
theorem Box.new (w : World) (t : TypeId) (cs : Array Value) : Box (w.alloc (.cells cs t)) w.heap.size t cs := heap_alloc_new w _
theorem Box.set {w : World} {g : Nat} {t : TypeId} {cs : Array Value} (h : Box w g t cs) (i : Nat) (u : Value) : Box (w.setCell ⟨g, i, none⟩ u) g t (cs.setIfInBounds i u) := by
  unfold Box at h ⊢
  simp [World.setCell, Array.getElem?_modify, h]
theorem Box.below {B : Nat} {w w' : World} {g : Nat} {t : TypeId} {cs : Array Value} (h : Box w g t cs) (hb : Below B w w') (hg : g < B) : Box w' g t cs := (hb.block g hg).trans h
theorem old_alloc {B : Nat} {w wr : World} (hb : Below B w wr) (hB : B ≤ wr.heap.size) (o : Obj) : ∀ k, k < B → (wr.alloc o).heap[k]? = w.heap[k]? := fun k hk => (Below.heap_alloc wr o k (by omega)).trans (hb.block k hk)

theorem ownsRow_same {w w' : World} {base : Nat} {e : TypeId} {size : Nat} {v : Value} {n : Nat} {xs : List Value} (h : w.ownsRow base e size v n xs) (hs : ∀ g, base ≤ g → g < w.heap.size → w'.heap[g]? = w.heap[g]?) : w'.ownsRow base e size v n xs := by
  refine ⟨h.1, ?_⟩
  rcases h.2 with hn | ⟨g, cap, cur, hv, hb, hh, r⟩
  · exact .inl hn
  · exact .inr ⟨g, cap, cur, hv, hb, (hs g hb (Array.getElem?_eq_some_iff.1 hh).1).trans hh, r⟩

theorem box_lie {w : World} {g : Nat} {t : TypeId} {cs : Array Value} (h : Box w g t cs) (j : Nat) (u : Value) (hu : cs[j]? = some u) : w.cell? ((⟨g, 0, none⟩ : Addr).add j) = some u := by
  have e : (⟨g, 0, none⟩ : Addr).add j = ⟨g, j, none⟩ := by unfold Addr.add; split <;> simp_all
  rw [e, h.cell j, hu]
theorem size_setCell (w : World) (a : Addr) (v : Value) : (w.setCell a v).heap.size = w.heap.size := by simp [World.setCell]
end Go.Proofs.YtbcfhpomclkccaaDoor
