/- A law's argument of type []api.Node, as data, is read as a tree of nodes. -/
import Derived.Test.YtlhfjlfoddjciaaMem
import Derived.Deep.Slices
import Derived.Deep.Fields
import Derived.ChangeSame
namespace Go.Proofs.Ytlhfjlfoddjciaa
open Go.ChangeShapes Go.WideShapes Go.Deep

theorem exists_list {α : Type} (p : Nat → α → Prop) : ∀ n, (∀ i, i < n → ∃ x, p i x) → ∃ l : List α, l.length = n ∧ ∀ i x, l[i]? = some x → p i x
  | 0, _ => ⟨[], rfl, by simp⟩
  | n + 1, h => by
    obtain ⟨l, hl, hp⟩ := exists_list p n (fun i hi => h i (by omega))
    obtain ⟨x, hx⟩ := h n (by omega)
    refine ⟨l ++ [x], by simp [hl], fun i y hy => ?_⟩
    by_cases hi : i < l.length
    · rw [List.getElem?_append_left hi] at hy
      exact hp i y hy
    · rw [List.getElem?_append_right (by omega)] at hy
      by_cases h0 : i - l.length = 0
      · rw [h0] at hy
        obtain rfl : i = n := by omega
        simp at hy
        subst hy
        exact hx
      · obtain ⟨q, hq⟩ : ∃ q, i - l.length = q + 1 := ⟨i - l.length - 1, by omega⟩
        rw [hq] at hy
        simp at hy

section
variable {H : Type} {enc : TypeId × Value → H} {w : World} {base : Nat} {spare : Nat → Bool} {held : Bool}
/-- Each element of a slice of structs: its cells, and how each field is read; the data of the fields are less than the slice's. -/
theorem slice_cells {P : Program} {t e : TypeId} {fs : Array Field} {fuel : Nat} {cs : List Value} {x : DataW H × List MemPlace} (ht : P.underlying t = some (.slice e)) (he : P.underlying e = some (.struct fs))
    (hone : oneCellFields P fs = true) (hC : P.cellsOf e = fs.size) (h : DataW.trod enc P w base spare held fuel t cs = some x) :
    ∃ A len cap, cs = [.slice A len cap] ∧ len ≤ 9223372036854775807 ∧ ∀ i, i < len → ∃ a vs, A = some a ∧ vs.length = fs.size ∧ Lie w (a.add (i * fs.size)) vs ∧
      ∀ (j : Nat) (f : Field), fs[j]? = some f → ∃ u n y, vs[j]? = some u ∧ DataW.trod enc P w base spare held n f.type [u] = some y ∧ SizeOf.sizeOf y.1 < SizeOf.sizeOf x.1 := by
  rcases open_slice ht h with ⟨hcs, _⟩ | ⟨a, len, cap, m, n, D, Pl, hcs, _, hl, hm, hmm, hx, hi⟩
  · exact ⟨none, 0, 0, hcs, by omega, fun i hi => by omega⟩
  · refine ⟨some a, len, cap, hcs, by unfold maxLen at hm; omega, fun i hil => ?_⟩
    have him : i < m := by rw [hmm]; split <;> omega
    obtain ⟨vs, hc, hd⟩ := hi i him
    rw [hC] at hc
    obtain ⟨ys, n', _, hy, _, hyl, hf⟩ := DataW.trod_struct he hd
    obtain ⟨_, hlen, hat⟩ := World.cells?_some hc
    refine ⟨a, vs, rfl, hlen, fun j u hu => ?_, fun j f hj => ?_⟩
    · have hj : j < fs.size := by have := (List.getElem?_eq_some_iff.1 hu).1; omega
      rw [hat j hj, hu]
    · obtain ⟨ho, hk⟩ := hone_of hone j f hj
      have hjl : j < fs.size := (Array.getElem?_eq_some_iff.1 hj).1
      have h1 := hf j f hj
      have h2 : (vs.drop f.offset).take (P.cellsOf f.type) = [vs[j]'(by omega)] := by
        rw [ho, hk, List.drop_eq_getElem_cons (by omega)]
        rfl
      rw [h2] at h1
      refine ⟨vs[j]'(by omega), n', ys[j]'(by omega), List.getElem?_eq_getElem (by omega), h1.trans (List.getElem?_eq_getElem (by omega)), ?_⟩
      have hm1 : (ys[j]'(by omega)).1 ∈ ys.map (·.1) := List.mem_map_of_mem (List.getElem_mem _)
      have hm2 : D i ∈ (List.range len).map D := List.mem_map_of_mem (List.mem_range.2 hil)
      have s1 := List.sizeOf_lt_of_mem hm1
      have s2 := List.sizeOf_lt_of_mem hm2
      simp only [Prod.mk.injEq] at hy
      rw [hx]
      simp only [DataW.slice.sizeOf_spec]
      rw [hy.1, DataW.agg.sizeOf_spec] at s2
      omega

theorem int_read {P : Program} {t : TypeId} {fuel : Nat} {u : Value} {y : DataW H × List MemPlace} (ht : P.underlying t = some (.int .u8)) (h : DataW.trod enc P w base spare held fuel t [u] = some y) : ∃ k : Nat, u = .int .u8 k ∧ k < 256 := by
  obtain ⟨n, e, _, hw⟩ := DataW.trod_int ht h
  cases e
  simp only [Lit.wf, Bool.and_eq_true, decide_eq_true_eq] at hw
  have h0 : IntKind.u8.min = 0 := by decide
  have h1 : IntKind.u8.max = 255 := by decide
  rw [h0, h1] at hw
  refine ⟨n.toNat, ?_, by omega⟩
  rw [Int.toNat_of_nonneg (by omega)]
theorem string_read {P : Program} {t : TypeId} {fuel : Nat} {u : Value} {y : DataW H × List MemPlace} (ht : P.underlying t = some .string) (h : DataW.trod enc P w base spare held fuel t [u] = some y) : ∃ s : ByteArray, u = .string s ∧ s.size ≤ 9223372036854775807 := by
  obtain ⟨s, e, _, hw⟩ := DataW.trod_string ht h
  cases e
  exact ⟨s, rfl, by unfold maxLen at hw; omega⟩

theorem row_block {A : Option Addr} {len size : Nat} (h : ∀ i, i < len → ∃ a vs, A = some a ∧ 0 < vs.length ∧ Lie w (a.add (i * size)) vs) : 0 < len → ∃ ad, A = some ad ∧ ad.block < w.heap.size := by
  intro h0
  obtain ⟨a, vs, hA, hv, hl⟩ := h 0 h0
  have := World.block_lt_of_cell? _ _ (hl 0 _ (List.getElem?_eq_getElem hv))
  rw [block_of_add, block_of_add] at this
  exact ⟨a, hA, this⟩

theorem attrs_read {fuel : Nat} {u : Value} {y : DataW H × List MemPlace} (h : DataW.trod enc Try.prog w base spare held fuel 33 [u] = some y) : ∃ l, AttrsAt w (fun k => k < w.heap.size) u l := by
  obtain ⟨A, len, cap, e, hl, hi⟩ := slice_cells Try.underlying33 Try.underlying37 (by kernel_rfl) (by kernel_rfl) h
  cases e
  obtain ⟨l, hlen, hp⟩ := exists_list (fun i (x : AttrD) => ∃ ad vs, A = some ad ∧ Lie w (ad.add (i * 2)) vs ∧ AttrIs w (fun k => k < w.heap.size) vs x) len (fun i hil => by
    obtain ⟨a, vs, hA, hvl, hlie, hf⟩ := hi i hil
    obtain ⟨u0, n0, y0, hu0, ht0, _⟩ := hf 0 _ rfl
    obtain ⟨u1, n1, y1, hu1, ht1, _⟩ := hf 1 _ rfl
    obtain ⟨s0, rfl, z0⟩ := string_read Try.underlying9 ht0
    obtain ⟨s1, rfl, z1⟩ := string_read Try.underlying9 ht1
    match vs, hvl with
    | [a0, a1], _ =>
      simp at hu0 hu1
      subst hu0; subst hu1
      exact ⟨⟨s0, s1⟩, a, _, hA, hlie, rfl, z0, z1⟩)
  subst hlen
  refine ⟨l, A, cap, rfl, hl, row_block (size := 2) fun i hil => ?_, hp⟩
  obtain ⟨a, vs, hA, hvl, hlie, hf⟩ := hi i hil
  exact ⟨a, vs, hA, by rw [hvl]; decide, hlie⟩

theorem nodes_read (N : Nat) : ∀ {fuel : Nat} {u : Value} {y : DataW H × List MemPlace}, SizeOf.sizeOf y.1 ≤ N → DataW.trod enc Try.prog w base spare held fuel 22 [u] = some y → ∃ l : List (NT N), NodesAt N w (fun k => k < w.heap.size) u l := by
  induction N with
  | zero =>
    intro fuel u y hz h
    exfalso
    revert hz
    cases y.1 <;> simp
  | succ N ih =>
    intro fuel u y hz h
    obtain ⟨A, len, cap, e, hl, hi⟩ := slice_cells Try.underlying22 Try.underlying35 (by kernel_rfl) (by kernel_rfl) h
    cases e
    obtain ⟨l, hlen, hp⟩ := exists_list (fun i (x : NodeD (List (NT N))) => ∃ ad vs, A = some ad ∧ Lie w (ad.add (i * 6)) vs ∧ NodeIs (NodesAt N) w (fun k => k < w.heap.size) vs x) len (fun i hil => by
      obtain ⟨a, vs, hA, hvl, hlie, hf⟩ := hi i hil
      obtain ⟨u0, n0, y0, hu0, ht0, _⟩ := hf 0 _ rfl
      obtain ⟨u1, n1, y1, hu1, ht1, _⟩ := hf 1 _ rfl
      obtain ⟨u2, n2, y2, hu2, ht2, _⟩ := hf 2 _ rfl
      obtain ⟨u3, n3, y3, hu3, ht3, _⟩ := hf 3 _ rfl
      obtain ⟨u4, n4, y4, hu4, ht4, _⟩ := hf 4 _ rfl
      obtain ⟨u5, n5, y5, hu5, ht5, z5⟩ := hf 5 _ rfl
      obtain ⟨k0, rfl, z0⟩ := int_read Try.underlying5 ht0
      obtain ⟨k1, rfl, z1⟩ := int_read Try.underlying5 ht1
      obtain ⟨s2, rfl, z2⟩ := string_read Try.underlying9 ht2
      obtain ⟨l3, h3⟩ := attrs_read ht3
      obtain ⟨s4, rfl, z4⟩ := string_read Try.underlying9 ht4
      obtain ⟨l5, h5⟩ := ih (by omega) ht5
      match vs, hvl with
      | [a0, a1, a2, a3, a4, a5], _ =>
        simp at hu0 hu1 hu2 hu3 hu4 hu5
        subst hu0; subst hu1; subst hu2; subst hu3; subst hu4; subst hu5
        exact ⟨⟨k0, k1, s2, l3, s4, l5⟩, a, _, hA, hlie, _, _, rfl, h3, h5, z2, z4, z0, z1⟩)
    subst hlen
    refine ⟨l, A, cap, rfl, hl, row_block (size := 6) fun i hil => ?_, hp⟩
    obtain ⟨a, vs, hA, hvl, hlie, hf⟩ := hi i hil
    exact ⟨a, vs, hA, by rw [hvl]; decide, hlie⟩
end
end Go.Proofs.Ytlhfjlfoddjciaa
