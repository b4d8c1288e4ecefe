/- What the reference's recursion over a tree promises. -/
import Derived.Test.YtdkjenbncmedbaaGreatDoorRfTxt
import Derived.Test.YtdkjenbncmedbaaGreatDoorRfAtt
import Derived.Test.YtdkjenbncmedbaaGreatDoorRfMay
import Derived.Test.YtdkjenbncmedbaaGreatDoorRfPw
namespace Go.Proofs.YtdkjenbncmedbaaGreatDoor
open Go.RowKit

/-- A row of rows of names: those of a table's parts of rank g, and below. -/
def NamesAt (w : World) (v : Value) (g : Nat) : Prop := ∃ b o c, v = .slice (some ⟨b, o, none⟩) g c ∧ g ≤ c ∧ b < w.heap.size ∧ ∀ i, i < g → ∃ vi, w.cell? ⟨b, o + i, none⟩ = some vi ∧ SlS w vi (rowL (g - i))
theorem NamesAt.later {w w' : World} {v : Value} {g : Nat} (h : NamesAt w v g) (hb : Below w.heap.size w w') : NamesAt w' v g := by
  obtain ⟨b, o, c, e, hc, hlt, h⟩ := h
  refine ⟨b, o, c, e, hc, by have := hb.size; omega, fun i hi => ?_⟩
  obtain ⟨vi, h1, h2⟩ := h i hi
  exact ⟨vi, (hb.cell (p := ⟨b, o + i, none⟩) hlt).trans h1, h2.later hb⟩
theorem NamesAt.tail {w : World} {b o c g : Nat} (h : NamesAt w (.slice (some ⟨b, o, none⟩) g c) g) (h1 : 1 < g) : NamesAt w (.slice (some ⟨b, o + 1, none⟩) (g - 1) (c - 1)) (g - 1) := by
  obtain ⟨b', o', c', e, hc, hlt, h⟩ := h
  cases e
  refine ⟨b, o + 1, c - 1, rfl, by omega, hlt, fun i hi => ?_⟩
  obtain ⟨vi, k1, k2⟩ := h (i + 1) (by omega)
  rw [show o + (i + 1) = o + 1 + i by omega] at k1
  rw [show g - (i + 1) = g - 1 - i by omega] at k2
  exact ⟨vi, k1, k2⟩
theorem rowL_len {g : Nat} : (rowL g).length ≤ 3 := by
  unfold rowL
  split
  · exact Nat.le_refl _
  · split <;> decide
theorem PolAt.shapes {w : World} {vE vA vS : Value} {E : List ByteArray} {A : Prs} {S : List ByteArray} (h : PolAt w (.agg #[vE, vA, vS]) E A S) : (∃ A m c, vE = .slice A m c) ∧ (∃ A m c, vA = .slice A m c) ∧ (∃ A m c, vS = .slice A m c) := by
  obtain ⟨⟨vE', vA', vS', e, h1, h2, h3⟩, _⟩ := h
  cases e
  obtain ⟨a1, c1, e1, _⟩ := h1.open
  obtain ⟨a2, c2, e2, _⟩ := h2.open
  obtain ⟨a3, c3, e3, _⟩ := h3.open
  exact ⟨⟨_, _, _, e1⟩, ⟨_, _, _, e2⟩, ⟨_, _, _, e3⟩⟩
theorem PolAt.elems {w : World} {vE vA vS : Value} {E : List ByteArray} {A : Prs} {S : List ByteArray} (h : PolAt w (.agg #[vE, vA, vS]) E A S) : SlS w vE E := by
  obtain ⟨⟨vE', vA', vS', e, h1, h2, h3⟩, _⟩ := h
  cases e
  exact h1
/-- All of the reference: nodes behind those that stay already. -/
def RefAllC (E : List ByteArray) (A : Prs) (S : List ByteArray) (n : Nat) : Prop :=
  ∀ (D base : Nat) (x : Pl) (vE vA vS v vl : Value) (acc : List (NodeD (List (NT D)))) (l : List (NT n)) (S0 : Nat → Prop) (w0 w : World), n ≤ D + 1 → PolAt w0 (.agg #[vE, vA, vS]) E A S → NodesAt n w0 S0 vl l → (∀ k, S0 k → k < w0.heap.size) → Below w0.heap.size w0 w → w0.heap.size ≤ base → base ≤ w.heap.size →
    OutAt base D w v acc → wt n l + wt (D + 1) acc ≤ 100000 → Calls Tryz.prog 44 #[v, vl, .agg #[vE, vA, vS], x.rv, .bool x.pre] w (RowR base D w v (cl E A S n D 0 x l acc))
def RefPartsC (E : List ByteArray) (A : Prs) (S : List ByteArray) (n : Nat) : Prop :=
  ∀ (D g : Nat) (x : Pl) (vE vA vS vl vn : Value) (l : List (NT n)) (S0 : Nat → Prop) (w0 w : World), n ≤ D → 1 ≤ g → g ≤ 3 → PolAt w0 (.agg #[vE, vA, vS]) E A S → NodesAt n w0 S0 vl l → (∀ k, S0 k → k < w0.heap.size) → Below w0.heap.size w0 w →
    NamesAt w vn g → wt n l ≤ 100000 → Calls Tryz.prog 70 #[vl, .agg #[vE, vA, vS], vn, x.rv] w (KidsR w D (kidsN E A S n D g x l))
/-- Where the loop stands: L k stays of k nodes. -/
def RowW (base D : Nat) (v0 : Value) (L : Nat → List (NodeD (List (NT D)))) (n : Nat) (W : World) (v i : Value) (wr : World) : Prop :=
  ∃ (k : Nat) (vO : Value), vO = v ∧ i = .int .i64 k ∧ k ≤ n ∧ OutAt base D wr vO (L k) ∧ Below base W wr ∧ Only v0 vO W wr
theorem row_to {base D n k : Nat} {v0 vO v1 : Value} {L : Nat → List (NodeD (List (NT D)))} {W wr w1 w2 : World} {ac : List (NodeD (List (NT D)))} (hlt : k < n) (hbase : base ≤ wr.heap.size) (hbs : Below base W wr) (hon : Only v0 vO W wr) (h1 : OutAt base D w1 v1 ac) (hb1 : Below base wr w1) (ho1 : Only vO v1 wr w1) (hb2 : Below w1.heap.size w1 w2) (hL : L (k + 1) = ac) :
    RowW base D v0 L n W v1 (.int .i64 ((k + 1 : Nat) : Int)) w2 := by
  have z1 := hbs.size
  have z2 := hb1.size
  exact ⟨k + 1, v1, rfl, rfl, hlt, by rw [hL]; exact h1.later hb2, (hbs.trans hb1).trans (hb2.mono (by omega)), (hon.trans ho1 z1).trans (Only.of_below hb2) (by omega)⟩
/-- An element is made: block n, its attributes beside it. -/
def ElemB (w3 : World) (nm : ByteArray) (at' : List AttrD) (v13 : Value) (wx : World) : Prop :=
  ∃ n A1 m1 c1, v13 = .pointer (some ⟨n, 0, none⟩) ∧ w3.heap.size ≤ n ∧ n < wx.heap.size ∧ wx.heap[n]? = some (.cells #[.int .u8 1, .int .u8 0, .string nm, .slice A1 m1 c1, .string ⟨#[]⟩, .slice none 0 0] 48 (0, 0)) ∧ AttrsAt wx (fun j => w3.heap.size ≤ j ∧ j < wx.heap.size ∧ j ≠ n) (.slice A1 m1 c1) at' ∧ Below w3.heap.size w3 wx
/-- .. and its kids behind. -/
def ElemK (D n : Nat) (wx : World) (nm : ByteArray) (v1 : Value) (kd : List (NT D)) (wz : World) : Prop :=
  ∃ A2 m2 c2, wz.heap[n]? = some (.cells #[.int .u8 1, .int .u8 0, .string nm, v1, .string ⟨#[]⟩, .slice A2 m2 c2] 48 (0, 0)) ∧ NodesAt D wz (fun j => wx.heap.size ≤ j ∧ j < wz.heap.size) (.slice A2 m2 c2) kd ∧ wx.grownBy wz (some n)
theorem grown_of_below {w w' : World} (h : Below w.heap.size w w') (r : Option Nat) : w.grownBy w' r := ⟨h.os, h.tape, h.output, h.size, fun k hk _ => h.block k hk⟩
theorem grown_set {w w' : World} {n : Nat} (h : Below w.heap.size w w') (o : Nat) (u : Value) : w.grownBy (w'.setCell ⟨n, o, none⟩ u) (some n) :=
  ⟨h.os, h.tape, h.output, by rw [size_setCell]; exact h.size, fun k hk hn => by rw [Below.heap_setCell _ _ _ _ (fun e => hn (by rw [e]))]; exact h.block k hk⟩
theorem elem_kids {D n : Nat} {wx w7 : World} {nm : ByteArray} {v1 v2 : Value} {kd : List (NT D)} (hn : n < wx.heap.size) (hx : wx.heap[n]? = some (.cells #[.int .u8 1, .int .u8 0, .string nm, v1, .string ⟨#[]⟩, .slice none 0 0] 48 (0, 0))) (hb : Below wx.heap.size wx w7) (hk : NodesAt D w7 (fun j => wx.heap.size ≤ j ∧ j < w7.heap.size) v2 kd) : ElemK D n wx nm v1 kd (w7.setCell ⟨n, 5, none⟩ v2) := by
  obtain ⟨A2, m2, c2, rfl⟩ := hk.shape
  refine ⟨A2, m2, c2, ?_, ?_, grown_set hb _ _⟩
  · have := Joins.block_setCell ((hb.block n hn).trans hx) (i := 5) (.slice A2 m2 c2)
    simpa using this
  · exact NodesAt.mono (fun j hj => ⟨hj.1, by rw [size_setCell]; exact hj.2⟩) D (NodesAt.keep (fun j hj => Below.heap_setCell _ _ _ _ (show j ≠ n by have := hj.1; omega)) D hk)
theorem elem_none {D n : Nat} {wx wz : World} {nm : ByteArray} {v1 : Value} (hb : Below wx.heap.size wx wz) (hn : n < wx.heap.size) (hx : wx.heap[n]? = some (.cells #[.int .u8 1, .int .u8 0, .string nm, v1, .string ⟨#[]⟩, .slice none 0 0] 48 (0, 0))) : ElemK D n wx nm v1 [] wz :=
  ⟨none, 0, 0, (hb.block n hn).trans hx, nodes_nil _ _ _, grown_of_below hb _⟩
theorem six_cells {z : World} {n : Nat} {u0 u1 u2 u3 u4 u5 a b c d e f : Value} {t : TypeId} (h : z.heap[n]? = some (.cells #[u0, u1, u2, u3, u4, u5] t (0, 0))) : ((((((z.setCell ⟨n, 0, none⟩ a).setCell ⟨n, 1, none⟩ b).setCell ⟨n, 2, none⟩ c).setCell ⟨n, 3, none⟩ d).setCell ⟨n, 4, none⟩ e).setCell ⟨n, 5, none⟩ f).heap[n]? = some (.cells #[a, b, c, d, e, f] t (0, 0)) := by
  have h5 := Joins.block_setCell (Joins.block_setCell (Joins.block_setCell (Joins.block_setCell (Joins.block_setCell (Joins.block_setCell h (i := 0) a) (i := 1) b) (i := 2) c) (i := 3) d) (i := 4) e) (i := 5) f
  simpa using h5
theorem six_far {z : World} {n j : Nat} (h : j ≠ n) (a b c d e f : Value) : ((((((z.setCell ⟨n, 0, none⟩ a).setCell ⟨n, 1, none⟩ b).setCell ⟨n, 2, none⟩ c).setCell ⟨n, 3, none⟩ d).setCell ⟨n, 4, none⟩ e).setCell ⟨n, 5, none⟩ f).heap[j]? = z.heap[j]? := by
  rw [Below.heap_setCell _ _ _ _ h, Below.heap_setCell _ _ _ _ h, Below.heap_setCell _ _ _ _ h, Below.heap_setCell _ _ _ _ h, Below.heap_setCell _ _ _ _ h, Below.heap_setCell _ _ _ _ h]
theorem six_size (z : World) (n : Nat) (a b c d e f : Value) : ((((((z.setCell ⟨n, 0, none⟩ a).setCell ⟨n, 1, none⟩ b).setCell ⟨n, 2, none⟩ c).setCell ⟨n, 3, none⟩ d).setCell ⟨n, 4, none⟩ e).setCell ⟨n, 5, none⟩ f).heap.size = z.heap.size := by
  rw [size_setCell, size_setCell, size_setCell, size_setCell, size_setCell, size_setCell]
theorem six_below {w z : World} {n : Nat} (h : Below w.heap.size w z) (hn : w.heap.size ≤ n) (a b c d e f : Value) : Below w.heap.size w ((((((z.setCell ⟨n, 0, none⟩ a).setCell ⟨n, 1, none⟩ b).setCell ⟨n, 2, none⟩ c).setCell ⟨n, 3, none⟩ d).setCell ⟨n, 4, none⟩ e).setCell ⟨n, 5, none⟩ f) :=
  (((((h.setCell (p := ⟨n, 0, none⟩) hn _).setCell (p := ⟨n, 1, none⟩) hn _).setCell (p := ⟨n, 2, none⟩) hn _).setCell (p := ⟨n, 3, none⟩) hn _).setCell (p := ⟨n, 4, none⟩) hn _).setCell (p := ⟨n, 5, none⟩) hn _
/-- First the attributes, then the element. -/
theorem elem_first {w3 wc w5 wx : World} {nm : ByteArray} {at' : List AttrD} {A1 : Option Addr} {m1 c1 : Nat} {u : Obj} (hcd : wc.heap.size = w3.heap.size) (hb3 : Below w3.heap.size w3 wc) (ha : AttrsAt w5 (New wc w5) (.slice A1 m1 c1) at') (hb : Below wc.heap.size wc w5) (hu : u = .cells #[.int .u8 1, .int .u8 0, .string nm, .slice A1 m1 c1, .string ⟨#[]⟩, .slice none 0 0] 48) (hx : Below w5.heap.size (w5.alloc u) wx) (hxs : wx.heap[w5.heap.size]? = (w5.alloc u).heap[w5.heap.size]?) (hsz : w5.heap.size < wx.heap.size) : ElemB w3 nm at' (.pointer (some ⟨w5.heap.size, 0, none⟩)) wx := by
  subst hu
  have h5 := hb.size
  have hal : Below w5.heap.size w5 wx := ((Below.refl _ w5).alloc (Nat.le_refl _) _).trans hx
  refine ⟨w5.heap.size, A1, m1, c1, rfl, by omega, hsz, by rw [hxs]; exact heap_alloc_new _ _, (ha.keep fun j hj => hal.block j hj.2).mono fun j hj => ⟨by have := hj.1; omega, by have := hj.2; omega, by have := hj.2; omega⟩, ?_⟩
  exact (hb3.trans (hb.mono (by omega))).trans (hal.mono (by omega))
/-- First the element, then the attributes. -/
theorem elem_later {w3 wc w5 : World} {n : Nat} {nm : ByteArray} {at' : List AttrD} {A1 : Option Addr} {m1 c1 : Nat} {u0 u1 u2 u3 u4 u5 : Value} (hn : n = w3.heap.size) (hcs : wc.heap.size = n + 1) (hb3 : Below w3.heap.size w3 wc) (hu : wc.heap[n]? = some (.cells #[u0, u1, u2, u3, u4, u5] 48 (0, 0))) (ha : AttrsAt w5 (New wc w5) (.slice A1 m1 c1) at') (hb : Below wc.heap.size wc w5) :
    ElemB w3 nm at' (.pointer (some ⟨n, 0, none⟩)) ((((((w5.setCell ⟨n, 0, none⟩ (.int .u8 1)).setCell ⟨n, 1, none⟩ (.int .u8 0)).setCell ⟨n, 2, none⟩ (.string nm)).setCell ⟨n, 3, none⟩ (.slice A1 m1 c1)).setCell ⟨n, 4, none⟩ (.string ⟨#[]⟩)).setCell ⟨n, 5, none⟩ (.slice none 0 0)) := by
  subst hn
  have h5 := hb.size
  refine ⟨w3.heap.size, A1, m1, c1, rfl, Nat.le_refl _, by rw [six_size]; omega, six_cells ((hb.block _ (by omega)).trans hu), ?_, six_below ((hb3.trans (hb.mono (by omega)))) (Nat.le_refl _) _ _ _ _ _ _⟩
  refine (ha.keep fun j hj => six_far (by have := hj.1; omega) _ _ _ _ _ _).mono fun j hj => ⟨by have := hj.1; omega, by rw [six_size]; exact hj.2, by have := hj.1; omega⟩
theorem elem_built {base D n : Nat} {vO v1 v2 : Value} {w3 wx wz : World} {nm : ByteArray} {at' : List AttrD} {kd : List (NT D)} (hlow : ∀ g, vO.ownBlock = some g → g < w3.heap.size) (hb3 : base ≤ w3.heap.size) (hA : AttrsAt wx (fun j => w3.heap.size ≤ j ∧ j < wx.heap.size ∧ j ≠ n) v1 at') (hK : NodesAt D wz (fun j => wx.heap.size ≤ j ∧ j < wz.heap.size) v2 kd) (hg : wx.grownBy wz (some n)) (h3x : w3.heap.size ≤ wx.heap.size) (hnm : nm.size ≤ 9223372036854775807) :
    NodeIs (NodesAt D) wz (Mine base vO wz) [.int .u8 1, .int .u8 0, .string nm, v1, .string ⟨#[]⟩, v2] ⟨1, 0, nm, at', ByteArray.empty, kd⟩ := by
  have hz := hg.size
  have hmine : ∀ j, w3.heap.size ≤ j → j < wz.heap.size → Mine base vO wz j := fun j h h' => ⟨by omega, h', fun e => by have := hlow j e; omega⟩
  exact ⟨v1, v2, rfl, (hA.keep fun j hj => hg.block j hj.2.1 (fun e => hj.2.2 (Option.some.inj e))).mono fun j hj => hmine j hj.1 (by have := hj.2.1; omega), NodesAt.mono (fun j hj => hmine j (by have := hj.1; omega) hj.2) D hK, hnm, Nat.zero_le _, (by decide : (1 : Nat) < 256), (by decide : (0 : Nat) < 256)⟩
theorem ref_inner (E : List ByteArray) (A : Prs) (S : List ByteArray) (n : Nat) (hI : RefAllC E A S n) (D : Nat) (px : Pl) (vE vA vS vl : Value) (l : List (NT n)) (S0 : Nat → Prop) (w0 w : World) (hn : n ≤ D) (hp : PolAt w0 (.agg #[vE, vA, vS]) E A S) (hv : NodesAt n w0 S0 vl l) (hS : ∀ k, S0 k → k < w0.heap.size) (hb : Below w0.heap.size w0 w) (hwt : wt n l ≤ 100000) :
    Calls Tryz.prog 44 #[.slice none 0 0, vl, .agg #[vE, vA, vS], px.rv, .bool px.pre] w (KidsR w D (kidsN E A S n D 0 px l)) := by
  refine (hI (D - 1) w.heap.size px vE vA vS (.slice none 0 0) vl [] l S0 w0 w (by omega) hp hv hS hb hb.size (Nat.le_refl _) (OutAt.nil _ _ _) (by rw [show wt (D - 1 + 1) ([] : List (NodeD (List (NT (D - 1))))) = 0 from rfl]; omega)).mono ?_
  rintro e w1 ⟨v', rfl, ho1, hb1, _⟩
  refine ⟨v', rfl, kids_of E A S (base := w.heap.size) hn (fun D' e => ?_) (fun e => ?_) hwt, hb1⟩
  · subst e
    exact ho1
  · subst e
    have hn0 : n = 0 := by omega
    subst hn0
    exact ho1
theorem grown_below {B n : Nat} {w w' : World} (h : w.grownBy w' (some n)) (hn : B ≤ n) (hw : B ≤ w.heap.size) : Below B w w' :=
  ⟨h.os, h.tape, h.output, h.size, fun j hj => h.block j (by omega) (fun e => by have := Option.some.inj e; omega)⟩
/-- The names of a table's parts, made. -/
theorem names_made (w : World) {n0 n1 n2 n3 : Nat} (e0 : n0 = w.heap.size) (e1 : n1 = w.heap.size + 1) (e2 : n2 = w.heap.size + 1 + 1) (e3 : n3 = w.heap.size + 1 + 1 + 1) :
    NamesAt ((((w.alloc (.cells #[.string ⟨#[116, 98, 111, 100, 121]⟩, .string ⟨#[116, 102, 111, 111, 116]⟩, .string ⟨#[116, 104, 101, 97, 100]⟩] 9)).alloc (.cells #[.string ⟨#[116, 114]⟩] 9)).alloc (.cells #[.string ⟨#[116, 100]⟩, .string ⟨#[116, 104]⟩] 9)).alloc (.cells #[.slice (some ⟨n0, 0, none⟩) 3 3, .slice (some ⟨n1, 0, none⟩) 1 1, .slice (some ⟨n2, 0, none⟩) 2 2] 22)) (.slice (some ⟨n3, 0, none⟩) 3 3) 3 := by
  subst e0 e1 e2 e3
  have r0 : SlS (w.alloc (.cells #[.string ⟨#[116, 98, 111, 100, 121]⟩, .string ⟨#[116, 102, 111, 111, 116]⟩, .string ⟨#[116, 104, 101, 97, 100]⟩] 9)) (.slice (some ⟨w.heap.size, 0, none⟩) 3 3) (rowL 3) := row_at rfl rfl rfl
  have r1 : SlS ((w.alloc (.cells #[.string ⟨#[116, 98, 111, 100, 121]⟩, .string ⟨#[116, 102, 111, 111, 116]⟩, .string ⟨#[116, 104, 101, 97, 100]⟩] 9)).alloc (.cells #[.string ⟨#[116, 114]⟩] 9)) (.slice (some ⟨w.heap.size + 1, 0, none⟩) 1 1) (rowL 2) := row_at (by simp) rfl rfl
  have r2 : SlS (((w.alloc (.cells #[.string ⟨#[116, 98, 111, 100, 121]⟩, .string ⟨#[116, 102, 111, 111, 116]⟩, .string ⟨#[116, 104, 101, 97, 100]⟩] 9)).alloc (.cells #[.string ⟨#[116, 114]⟩] 9)).alloc (.cells #[.string ⟨#[116, 100]⟩, .string ⟨#[116, 104]⟩] 9)) (.slice (some ⟨w.heap.size + 1 + 1, 0, none⟩) 2 2) (rowL 1) := row_at (by simp) rfl rfl
  have hc := fun i => cell_of_row ((((w.alloc (.cells #[.string ⟨#[116, 98, 111, 100, 121]⟩, .string ⟨#[116, 102, 111, 111, 116]⟩, .string ⟨#[116, 104, 101, 97, 100]⟩] 9)).alloc (.cells #[.string ⟨#[116, 114]⟩] 9)).alloc (.cells #[.string ⟨#[116, 100]⟩, .string ⟨#[116, 104]⟩] 9)).alloc (.cells #[.slice (some ⟨w.heap.size, 0, none⟩) 3 3, .slice (some ⟨w.heap.size + 1, 0, none⟩) 1 1, .slice (some ⟨w.heap.size + 1 + 1, 0, none⟩) 2 2] 22)) (w.heap.size + 1 + 1 + 1) i _ _ _ (heap_nw (by simp))
  refine ⟨_, 0, 3, rfl, Nat.le_refl _, by simp, fun i hi => ?_⟩
  obtain rfl | rfl | rfl : i = 0 ∨ i = 1 ∨ i = 2 := by omega
  · exact ⟨_, hc 0, ((r0.later ((Below.refl _ _).alloc (Nat.le_refl _) _)).later ((Below.refl _ _).alloc (Nat.le_refl _) _)).later ((Below.refl _ _).alloc (Nat.le_refl _) _)⟩
  · exact ⟨_, hc 1, (r1.later ((Below.refl _ _).alloc (Nat.le_refl _) _)).later ((Below.refl _ _).alloc (Nat.le_refl _) _)⟩
  · exact ⟨_, hc 2, r2.later ((Below.refl _ _).alloc (Nat.le_refl _) _)⟩
end Go.Proofs.YtdkjenbncmedbaaGreatDoor
