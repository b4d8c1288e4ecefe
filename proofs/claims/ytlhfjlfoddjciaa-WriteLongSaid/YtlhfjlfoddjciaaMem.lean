/- Trees of nodes: as data of a depth, and how they lie in memory. -/
import Derived.Test.YtlhfjlfoddjciaaTexts
import Derived.BigQuiet
import Derived.Deep.QuietTactic
import Derived.Deep.Draws
namespace Go.Proofs.Ytlhfjlfoddjciaa
open Go.RowKit

structure AttrD where
  name : ByteArray
  value : ByteArray
structure NodeD (K : Type) where
  kind : Nat
  space : Nat
  name : ByteArray
  attrs : List AttrD
  text : ByteArray
  kids : K
/-- Nodes of a depth of at most n. -/
def NT : Nat → Type
  | 0 => Empty
  | n + 1 => NodeD (List (NT n))

theorem block_of_add (a : Addr) (n : Nat) : (a.add n).block = a.block := by unfold Addr.add; split <;> rfl
theorem add_of_add (a : Addr) (i j : Nat) : (a.add i).add j = a.add (i + j) := by
  unfold Addr.add
  by_cases hi : i = 0 <;> by_cases hj : j = 0 <;> simp [hi, hj, Nat.add_assoc]
theorem add_succ (a : Addr) (j : Nat) : a.add (j + 1) = ⟨a.block, a.off + (j + 1), none⟩ := by unfold Addr.add; simp

/-- From address p on lie these cells. -/
def Lie (w : World) (p : Addr) (vs : List Value) : Prop := ∀ j u, vs[j]? = some u → w.cell? (p.add j) = some u
theorem Lie.same {w w' : World} {p : Addr} {vs : List Value} (h : Lie w p vs) (e : w'.heap[p.block]? = w.heap[p.block]?) : Lie w' p vs := by
  intro j u hu
  rw [← h j u hu]
  exact World.cell?_of_block (by rw [block_of_add]; exact e)
theorem Lie.below {B : Nat} {w w' : World} {p : Addr} {vs : List Value} (h : Lie w p vs) (hb : Below B w w') (hp : p.block < B) : Lie w' p vs := h.same (hb.block _ hp)
theorem Lie.fst {w : World} {p : Addr} {v : Value} {vs : List Value} (h : Lie w p (v :: vs)) : w.cell? p = some v := by
  have := h 0 v rfl
  simpa [Addr.add] using this
theorem Lie.nth {w : World} {p : Addr} {vs : List Value} (h : Lie w p vs) (j : Nat) (u : Value) (hu : vs[j + 1]? = some u) : w.cell? ⟨p.block, p.off + (j + 1), none⟩ = some u := by
  rw [← add_succ]; exact h _ _ hu

/-- An element's cells, one behind the other: a slice of elements of 'size' cells each reads as xs, in blocks of S alone. -/
def Row {α : Type} (size : Nat) (E : World → (Nat → Prop) → List Value → α → Prop) (w : World) (S : Nat → Prop) (v : Value) (l : List α) : Prop :=
  ∃ A c, v = .slice A l.length c ∧ l.length ≤ 9223372036854775807 ∧ (0 < l.length → ∃ ad, A = some ad ∧ S ad.block) ∧
    ∀ i x, l[i]? = some x → ∃ ad vs, A = some ad ∧ Lie w (ad.add (i * size)) vs ∧ E w S vs x

def attrCells (x : AttrD) : List Value := [.string x.name, .string x.value]
def AttrIs (_ : World) (_ : Nat → Prop) (vs : List Value) (x : AttrD) : Prop := vs = attrCells x ∧ x.name.size ≤ 9223372036854775807 ∧ x.value.size ≤ 9223372036854775807
def AttrsAt : World → (Nat → Prop) → Value → List AttrD → Prop := Row 2 AttrIs

def NodeIs {K : Type} (E : World → (Nat → Prop) → Value → K → Prop) (w : World) (S : Nat → Prop) (vs : List Value) (x : NodeD K) : Prop :=
  ∃ va vk, vs = [.int .u8 x.kind, .int .u8 x.space, .string x.name, va, .string x.text, vk] ∧ AttrsAt w S va x.attrs ∧ E w S vk x.kids ∧ x.name.size ≤ 9223372036854775807 ∧ x.text.size ≤ 9223372036854775807 ∧ x.kind < 256 ∧ x.space < 256

def NodesAt : (n : Nat) → World → (Nat → Prop) → Value → List (NT n) → Prop
  | 0 => fun w S v l => Row (α := Empty) 6 (fun _ _ _ _ => False) w S v l
  | n + 1 => fun w S v l => Row (α := NodeD (List (NT n))) 6 (NodeIs (NodesAt n)) w S v l

theorem Row.keep {α : Type} {size : Nat} {E : World → (Nat → Prop) → List Value → α → Prop} {w w' : World} {S : Nat → Prop} {v : Value} {l : List α} (h : Row size E w S v l) (hb : ∀ k, S k → w'.heap[k]? = w.heap[k]?) (hE : ∀ vs x, E w S vs x → E w' S vs x) : Row size E w' S v l := by
  obtain ⟨A, c, hv, hl, h0, h1⟩ := h
  refine ⟨A, c, hv, hl, h0, fun i x hx => ?_⟩
  obtain ⟨ad, vs, hA, hlie, hE'⟩ := h1 i x hx
  obtain ⟨ad', hA', hb'⟩ := h0 (by have := (List.getElem?_eq_some_iff.1 hx).1; omega)
  rw [hA] at hA'
  cases hA'
  exact ⟨ad, vs, hA, hlie.same (by rw [block_of_add]; exact hb _ hb'), hE _ _ hE'⟩
theorem Row.mono {α : Type} {size : Nat} {E : World → (Nat → Prop) → List Value → α → Prop} {w : World} {S S' : Nat → Prop} {v : Value} {l : List α} (h : Row size E w S v l) (hB : ∀ k, S k → S' k) (hE : ∀ vs x, E w S vs x → E w S' vs x) : Row size E w S' v l := by
  obtain ⟨A, c, hv, hl, h0, h1⟩ := h
  refine ⟨A, c, hv, hl, fun h => ?_, fun i x hx => ?_⟩
  · obtain ⟨ad, e, hb⟩ := h0 h
    exact ⟨ad, e, hB _ hb⟩
  · obtain ⟨ad, vs, hA, hlie, hE'⟩ := h1 i x hx
    exact ⟨ad, vs, hA, hlie, hE _ _ hE'⟩
theorem AttrsAt.keep {w w' : World} {S : Nat → Prop} {v : Value} {l : List AttrD} (h : AttrsAt w S v l) (hb : ∀ k, S k → w'.heap[k]? = w.heap[k]?) : AttrsAt w' S v l := Row.keep h hb fun _ _ h => h
theorem AttrsAt.mono {w : World} {S S' : Nat → Prop} {v : Value} {l : List AttrD} (h : AttrsAt w S v l) (hB : ∀ k, S k → S' k) : AttrsAt w S' v l := Row.mono h hB fun _ _ h => h
theorem NodesAt.keep {w w' : World} {S : Nat → Prop} (hb : ∀ k, S k → w'.heap[k]? = w.heap[k]?) : ∀ (n : Nat) {v : Value} {l : List (NT n)}, NodesAt n w S v l → NodesAt n w' S v l
  | 0, _, _, h => Row.keep (α := Empty) (size := 6) (E := fun _ _ _ _ => False) h hb fun _ x _ => x.elim
  | n + 1, _, _, h => Row.keep (α := NodeD (List (NT n))) (size := 6) (E := NodeIs (NodesAt n)) h hb fun _ _ ⟨va, vk, e, ha, hk, r⟩ => ⟨va, vk, e, ha.keep hb, NodesAt.keep hb n hk, r⟩
theorem NodesAt.mono {w : World} {S S' : Nat → Prop} (hB : ∀ k, S k → S' k) : ∀ (n : Nat) {v : Value} {l : List (NT n)}, NodesAt n w S v l → NodesAt n w S' v l
  | 0, _, _, h => Row.mono (α := Empty) (size := 6) (E := fun _ _ _ _ => False) h hB fun _ x _ => x.elim
  | n + 1, _, _, h => Row.mono (α := NodeD (List (NT n))) (size := 6) (E := NodeIs (NodesAt n)) h hB fun _ _ ⟨va, vk, e, ha, hk, r⟩ => ⟨va, vk, e, ha.mono hB, NodesAt.mono hB n hk, r⟩

theorem NodesAt.none_ {w : World} {S : Nat → Prop} {v : Value} {l : List (NT 0)} (h : NodesAt 0 w S v l) : ∃ A c, v = .slice A 0 c := by
  obtain ⟨A, c, rfl, _⟩ := h
  match l with
  | [] => exact ⟨A, c, rfl⟩
  | x :: _ => exact Empty.elim x

theorem NodesAt.drewN {w : World} {S : Nat → Prop} {n : Nat} {v : Value} {l : List (NT n)} (h : NodesAt n w S v l) (d : Nat) : NodesAt n (w.drewN d) S v l := NodesAt.keep (w := w) (w' := w.drewN d) (fun _ _ => rfl) n h

/-- What a round over nodes asks for. -/
theorem NodesAt.get {n : Nat} {w : World} {S : Nat → Prop} {v : Value} {l : List (NT (n + 1))} (h : NodesAt (n + 1) w S v l) :
    ∃ A c, v = .slice A l.length c ∧ l.length ≤ 9223372036854775807 ∧ ∀ (k : Nat) (hk : k < l.length), ∃ ad va vk, A = some ad ∧ AttrsAt w S va (NodeD.attrs l[k]) ∧ NodesAt n w S vk (NodeD.kids l[k]) ∧
      (NodeD.name l[k]).size ≤ 9223372036854775807 ∧ (NodeD.text l[k]).size ≤ 9223372036854775807 ∧ (NodeD.kind l[k]) < 256 ∧ (NodeD.space l[k]) < 256 ∧ S ad.block ∧
      w.cell? (ad.add (k * 6)) = some (.int .u8 (NodeD.kind l[k])) ∧ w.cell? ⟨(ad.add (k * 6)).block, (ad.add (k * 6)).off + 1, none⟩ = some (.int .u8 (NodeD.space l[k])) ∧ w.cell? ⟨(ad.add (k * 6)).block, (ad.add (k * 6)).off + 2, none⟩ = some (.string (NodeD.name l[k])) ∧
      w.cell? ⟨(ad.add (k * 6)).block, (ad.add (k * 6)).off + 3, none⟩ = some va ∧ w.cell? ⟨(ad.add (k * 6)).block, (ad.add (k * 6)).off + 4, none⟩ = some (.string (NodeD.text l[k])) ∧ w.cell? ⟨(ad.add (k * 6)).block, (ad.add (k * 6)).off + 5, none⟩ = some vk := by
  obtain ⟨A, c, hv, hl, h0, h1⟩ := h
  refine ⟨A, c, hv, hl, fun k hk => ?_⟩
  obtain ⟨ad, vs, hA, hlie, va, vk, hvs, ha, hkk, hn, ht, hki, hsp⟩ := h1 k l[k] (List.getElem?_eq_getElem hk)
  obtain ⟨ad', hA', hb'⟩ := h0 (Nat.lt_of_le_of_lt (Nat.zero_le k) hk)
  rw [hA] at hA'
  cases hA'
  subst hvs
  exact ⟨ad, va, vk, hA, ha, hkk, hn, ht, hki, hsp, hb', hlie.fst, hlie.nth 0 _ rfl, hlie.nth 1 _ rfl, hlie.nth 2 _ rfl, hlie.nth 3 _ rfl, hlie.nth 4 _ rfl⟩
theorem AttrsAt.get {w : World} {S : Nat → Prop} {v : Value} {l : List AttrD} (h : AttrsAt w S v l) :
    ∃ A c, v = .slice A l.length c ∧ l.length ≤ 9223372036854775807 ∧ ∀ (k : Nat) (hk : k < l.length), ∃ ad, A = some ad ∧ (l[k].name).size ≤ 9223372036854775807 ∧ (l[k].value).size ≤ 9223372036854775807 ∧ S ad.block ∧
      w.cell? (ad.add (k * 2)) = some (.string l[k].name) ∧ w.cell? ⟨(ad.add (k * 2)).block, (ad.add (k * 2)).off + 1, none⟩ = some (.string l[k].value) := by
  obtain ⟨A, c, hv, hl, h0, h1⟩ := h
  refine ⟨A, c, hv, hl, fun k hk => ?_⟩
  obtain ⟨ad, vs, hA, hlie, hvs, hn, ht⟩ := h1 k l[k] (List.getElem?_eq_getElem hk)
  obtain ⟨ad', hA', hb'⟩ := h0 (Nat.lt_of_le_of_lt (Nat.zero_le k) hk)
  rw [hA] at hA'
  cases hA'
  subst hvs
  exact ⟨ad, hA, hn, ht, hb', hlie.fst, hlie.nth 0 _ rfl⟩

/-! ### a row that the call owns reads as its elements -/
theorem flatten_get {α : Type} (size : Nat) : ∀ (css : List (List α)) (i j : Nat) (c : List α), (∀ d ∈ css, List.length d = size) → css[i]? = some c → j < size → css.flatten[i * size + j]? = c[j]?
  | [], i, j, c, _, h, _ => by simp at h
  | d :: r, 0, j, c, hc, h, hj => by
    simp at h; subst h
    have := hc d (by simp)
    rw [List.flatten_cons, List.getElem?_append_left (by omega)]; simp
  | d :: r, i + 1, j, c, hc, h, hj => by
    have hd := hc d (by simp)
    rw [List.flatten_cons, List.getElem?_append_right (by rw [hd, Nat.add_mul]; omega), hd]
    rw [show (i + 1) * size + j - size = i * size + j from by rw [Nat.add_mul]; omega]
    exact flatten_get size r i j c (fun c h => hc c (by simp [h])) (by simpa using h) hj

theorem Row.of_own {α : Type} {size : Nat} {E : World → (Nat → Prop) → List Value → α → Prop} {w : World} {S : Nat → Prop} {base : Nat} {e : TypeId} {v : Value} {l : List α} (css : List (List Value)) (h : w.ownsRow base e size v l.length css.flatten)
    (hS : ∀ k, v.ownBlock = some k → S k) (hl : l.length ≤ 9223372036854775807) (hc : ∀ c ∈ css, c.length = size) (hcl : css.length = l.length) (hE : ∀ (i : Nat) (c : List Value) (x : α), css[i]? = some c → l[i]? = some x → E w S c x) : Row size E w S v l := by
  rcases h.2 with ⟨hv, h0⟩ | ⟨g, cap, cur, hv, _, hh, _⟩
  · refine ⟨none, 0, by rw [h0]; exact hv, hl, fun h => by omega, fun i x hx => ?_⟩
    have := (List.getElem?_eq_some_iff.1 hx).1
    omega
  · subst hv
    refine ⟨some ⟨g, 0, none⟩, cap, rfl, hl, fun _ => ⟨_, rfl, hS g rfl⟩, fun i x hx => ?_⟩
    have hi := (List.getElem?_eq_some_iff.1 hx).1
    have hci : css[i]? = some (css[i]'(by omega)) := List.getElem?_eq_getElem (by omega)
    refine ⟨_, _, rfl, fun j u hu => ?_, hE i _ x hci hx⟩
    have hjs : j < size := by
      have := (List.getElem?_eq_some_iff.1 hu).1
      rwa [hc _ (List.mem_of_getElem? hci)] at this
    rw [add_of_add]
    exact h.cells (g := g) rfl _ u (by rw [flatten_get size css i j _ hc hci hjs]; exact hu)

/-! ### how much there is -/
def attrsWt (l : List AttrD) : Nat := (l.map fun a => 1 + a.name.size / 8 + a.value.size / 8).sum
def rowWt {K : Type} (f : K → Nat) (l : List (NodeD K)) : Nat := (l.map fun x => 1 + x.text.size / 8 + x.name.size / 8 + attrsWt x.attrs + f x.kids).sum
def wt : (n : Nat) → List (NT n) → Nat
  | 0, _ => 0
  | n + 1, l => rowWt (wt n) l

/-- What 'Nodes' leaves, when it began at a: it stops past most. -/
def Counted (a most r : Int) (s : Nat) : Prop := a ≤ r ∧ r ≤ 4611686018427387904 ∧ (r ≤ most → r = a + s) ∧ (most < a → r = a)
theorem Counted.refl {a most : Int} (h : a ≤ 4611686018427387904) : Counted a most a 0 := ⟨Int.le_refl _, h, fun _ => by omega, fun _ => rfl⟩
theorem Counted.trans {a most r r' : Int} {s s' : Nat} (h : Counted a most r s) (k : Counted r most r' s') : Counted a most r' (s + s') := by
  obtain ⟨h1, h2, h3, h4⟩ := h
  obtain ⟨k1, k2, k3, k4⟩ := k
  refine ⟨by omega, k2, fun h => ?_, fun h => ?_⟩
  · have := h3 (by omega); have := k3 h; omega
  · have e := h4 h; subst e; exact k4 h
theorem Counted.step {a most : Int} (x y : Nat) (ha : a ≤ most) (hm : most ≤ 1000000) (hx : x ≤ 9223372036854775807) (hy : y ≤ 9223372036854775807) : Counted a most (a + (1 + (x : Int) / 8 + (y : Int) / 8)) (1 + x / 8 + y / 8) :=
  ⟨by omega, by omega, fun _ => by omega, fun h => by omega⟩
theorem Counted.over {a most r : Int} {s : Nat} (s' : Nat) (h : Counted a most r s) (hr : most < r) : Counted a most r s' :=
  ⟨h.1, h.2.1, fun h => by omega, h.2.2.2⟩

theorem attrsWt_take (l : List AttrD) (k : Nat) (hk : k < l.length) : attrsWt (l.take (k + 1)) = attrsWt (l.take k) + (1 + l[k].name.size / 8 + l[k].value.size / 8) := by
  unfold attrsWt; rw [List.take_succ_eq_append_getElem hk]; simp only [List.map_append, List.sum_append, List.map_cons, List.map_nil, List.sum_cons, List.sum_nil, Nat.add_zero]
theorem rowWt_take {K : Type} (f : K → Nat) (l : List (NodeD K)) (k : Nat) (hk : k < l.length) : rowWt f (l.take (k + 1)) = rowWt f (l.take k) + (1 + l[k].text.size / 8 + l[k].name.size / 8 + attrsWt l[k].attrs + f l[k].kids) := by
  unfold rowWt; rw [List.take_succ_eq_append_getElem hk]; simp only [List.map_append, List.sum_append, List.map_cons, List.map_nil, List.sum_cons, List.sum_nil, Nat.add_zero]
theorem wt_take (n : Nat) (l : List (NT (n + 1))) (k : Nat) (hk : k < l.length) : wt (n + 1) (l.take (k + 1)) = wt (n + 1) (l.take k) + (1 + (NodeD.text l[k]).size / 8 + (NodeD.name l[k]).size / 8 + attrsWt (NodeD.attrs l[k]) + wt n (NodeD.kids l[k])) :=
  rowWt_take (K := List (NT n)) (wt n) l k hk

theorem below_drewN {B : Nat} {a w : World} (h : Below B a w) (n : Nat) : Below B a (w.drewN n) := ⟨h.os, h.tape, h.output, h.size, h.block⟩

set_option maxHeartbeats 4000000 in
set_option maxRecDepth 100000 in
theorem nodes_cnt (n : Nat) : ∀ (v : Value) (l : List (NT n)) (a most : Int) (S : Nat → Prop) (w : World), NodesAt n w S v l → 0 ≤ a → a ≤ 4611686018427387904 → 0 ≤ most → most ≤ 1000000 →
    Calls Try.prog 7 #[v, .int .i64 a, .int .i64 most] w fun e w' => ∃ r : Int, e = .returned (.int .i64 r) ∧ Counted a most r (wt n l) ∧ ∃ d, w' = w.drewN d := by
  induction n with
  | zero =>
    intro v l a most S w h ha0 ha hm0 hm
    obtain ⟨A, c, rfl⟩ := h.none_
    go_enter Try.func7, Try.ntmps7
    go_wp2
    refine wp_loop_rounds 1 ?_
    rw [rounds_succ]
    go_wp2
    go_ret
    exact ⟨a, rfl, Counted.refl ha, 0, rfl⟩
  | succ n ih =>
    intro v l a most S w h ha0 ha hm0 hm
    obtain ⟨A, c, rfl, hl, hget⟩ := h.get
    have HG := Lib.hid hget
    clear hget h
    have IH := Lib.hid ih
    clear ih
    go_enter Try.func7, Try.ntmps7
    go_wp2
    go_loopw [1, 7] (fun va i wr => ∃ (k : Nat) (r : Int), i = .int .i64 k ∧ va = .int .i64 r ∧ k ≤ l.length ∧ Counted a most r (wt (n + 1) (l.take k)) ∧ ∃ d, wr = w.drewN d) (fun _ i _ => l.length - (intOf i).toNat)
    case atStart => exact ⟨0, a, rfl, rfl, Nat.zero_le _, Counted.refl ha, 0, rfl⟩
    case round =>
      obtain ⟨k, r, rfl, rfl, hk, hc, d, rfl⟩ := hrel
      have HC := Lib.hid hc
      have hr0 : 0 ≤ r := by have := hc.1; omega
      have hr1 := hc.2.1
      clear hc
      by_cases hlt : k < l.length
      · by_cases hrm : r ≤ most
        · obtain ⟨ad, va, vk, hA, hatt, hkids, hnm, htx, hki, hsp, hbl, c0, c1, c2, c3, c4, c5⟩ := HG.out k hlt
          subst hA
          clear c0 c1 hki hsp
          obtain ⟨A2, c2', hva, hl2, hget2⟩ := hatt.get
          subst hva
          have HG2 := Lib.hid hget2
          clear hget2 hatt
          have HK := Lib.hid hkids
          clear hkids
          have hs := Counted.step _ _ hrm hm htx hnm
          have HS := Lib.hid hs
          clear hs
          go_wp2
          go_quiet (fail)
          go_wp2
          go_loopw [1, 8] (fun va i wr => ∃ (j : Nat) (r2 : Int), i = .int .i64 j ∧ va = .int .i64 r2 ∧ j ≤ (NodeD.attrs l[k]).length ∧ Counted r most r2 (1 + (NodeD.text l[k]).size / 8 + (NodeD.name l[k]).size / 8 + attrsWt ((NodeD.attrs l[k]).take j)) ∧ ∃ d, wr = w.drewN d) (fun _ i _ => (NodeD.attrs l[k]).length - (intOf i).toNat)
          case atStart => exact ⟨0, _, rfl, rfl, Nat.zero_le _, HS.out, _, World.drewN_drewN _ _ _⟩
          case round =>
            obtain ⟨j, r2, rfl, rfl, hj, hc2, d2, rfl⟩ := hrel
            have HC2 := Lib.hid hc2
            have hr20 : 0 ≤ r2 := by have := hc2.1; omega
            have hr21 := hc2.2.1
            clear hc2
            by_cases hjl : j < (NodeD.attrs l[k]).length
            · by_cases hr2m : r2 ≤ most
              · obtain ⟨ad2, hA2, hnm2, hvl2, hbl2, e0, e1⟩ := HG2.out j hjl
                subst hA2
                have hs := Counted.step _ _ hr2m hm hnm2 hvl2
                have HS2 := Lib.hid hs
                clear hs
                go_wp2
                go_quiet (fail)
                go_wp2
                go_roundw
                case rel => exact ⟨j + 1, _, by go_num, rfl, by omega, by rw [attrsWt_take _ _ hjl, ← Nat.add_assoc]; exact HC2.out.trans HS2.out, _, rfl⟩
                case measure => simp [intOf]; omega
              · have hr2f : decide (r2 ≤ most) = false := by simpa using hr2m
                have HT := Lib.hid (HC2.out.over (1 + (NodeD.text l[k]).size / 8 + (NodeD.name l[k]).size / 8 + attrsWt (NodeD.attrs l[k])) (by omega))
                go_wp2_with (go_at_call 7; refine (IH.out _ (NodeD.kids l[k]) _ _ S _ (HK.out.drewN _) hr20 hr21 hm0 hm).mono ?_; rintro e w' ⟨r3, rfl, hc3, d3, rfl⟩; have HC3 := Lib.hid hc3; clear hc3)
                go_wp2
                go_roundw
                case rel => exact ⟨k + 1, _, by go_num, rfl, by omega, by rw [wt_take _ _ _ hlt]; exact HC.out.trans (HT.out.trans HC3.out), _, rfl⟩
                case measure => simp [intOf]; omega
            · have HT : Hid (Counted r most r2 (1 + (NodeD.text l[k]).size / 8 + (NodeD.name l[k]).size / 8 + attrsWt (NodeD.attrs l[k]))) := by
                have := HC2.out
                rw [List.take_of_length_le (by omega)] at this
                exact this
              go_wp2_with (go_at_call 7; refine (IH.out _ (NodeD.kids l[k]) _ _ S _ (HK.out.drewN _) hr20 hr21 hm0 hm).mono ?_; rintro e w' ⟨r3, rfl, hc3, d3, rfl⟩; have HC3 := Lib.hid hc3; clear hc3)
              go_wp2
              go_roundw
              case rel => exact ⟨k + 1, _, by go_num, rfl, by omega, by rw [wt_take _ _ _ hlt]; exact HC.out.trans (HT.out.trans HC3.out), _, rfl⟩
              case measure => simp [intOf]; omega
        · have hrf : decide (r ≤ most) = false := by simpa using hrm
          go_wp2
          go_ret
          exact ⟨r, rfl, HC.out.over _ (by omega), _, rfl⟩
      · go_wp2
        go_ret
        have := HC.out
        rw [List.take_of_length_le (by omega)] at this
        exact ⟨r, rfl, this, _, rfl⟩
end Go.Proofs.Ytlhfjlfoddjciaa
