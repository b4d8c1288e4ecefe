/- A law's arguments of types []api.Inline and []api.Block, as data, are read as trees. -/
import Derived.Test.YtibaoocklempnaaGreatDoorInl
import Derived.Deep.Slices
import Derived.Deep.Fields
import Derived.ChangeSame
namespace Go.Proofs.YtibaoocklempnaaGreatDoor
open Go.ChangeShapes Go.WideShapes Go.Deep

theorem exists_list {α : Type} (p : Nat → α → Prop) : ∀ n, (∀ i, i < n → ∃ x, p i x) → ∃ l : List α, l.length = n ∧ ∀ i x, l[i]? = some x → p i x
  | 0, _ => ⟨[], rfl, by simp⟩
  | n + 1, h => by
    obtain ⟨l, hl, hp⟩ := exists_list p n (fun i hi => h i (by omega))
    obtain ⟨x, hx⟩ := h n (by omega)
    refine ⟨l ++ [x], by simp [hl], fun i y hy => ?_⟩
    by_cases hi : i < l.length
    · rw [List.getElem?_append_left hi] at hy
      exact hp i y hy
    · rw [List.getElem?_append_right (by omega)] at hy
      by_cases h0 : i - l.length = 0
      · rw [h0] at hy
        obtain rfl : i = n := by omega
        simp at hy
        subst hy
        exact hx
      · obtain ⟨q, hq⟩ : ∃ q, i - l.length = q + 1 := ⟨i - l.length - 1, by omega⟩
        rw [hq] at hy
        simp at hy

section
variable {H : Type} {enc : TypeId × Value → H} {w : World} {base : Nat} {spare : Nat → Bool} {held : Bool}
/-- Each element of a slice of structs: its cells, and how each field is read; the data of the fields are less than the slice's. -/
theorem slice_cells {P : Program} {t e : TypeId} {fs : Array Field} {fuel : Nat} {cs : List Value} {x : DataW H × List MemPlace} (ht : P.underlying t = some (.slice e)) (he : P.underlying e = some (.struct fs))
    (hone : oneCellFields P fs = true) (hC : P.cellsOf e = fs.size) (h : DataW.trod enc P w base spare held fuel t cs = some x) :
    ∃ A len cap, cs = [.slice A len cap] ∧ len ≤ 9223372036854775807 ∧ ∀ i, i < len → ∃ a vs, A = some a ∧ vs.length = fs.size ∧ Lie w (a.add (i * fs.size)) vs ∧
      ∀ (j : Nat) (f : Field), fs[j]? = some f → ∃ u n y, vs[j]? = some u ∧ DataW.trod enc P w base spare held n f.type [u] = some y ∧ SizeOf.sizeOf y.1 < SizeOf.sizeOf x.1 := by
  rcases open_slice ht h with ⟨hcs, _⟩ | ⟨a, len, cap, m, n, D, Pl, hcs, _, hl, hm, hmm, hx, hi⟩
  · exact ⟨none, 0, 0, hcs, by omega, fun i hi => by omega⟩
  · refine ⟨some a, len, cap, hcs, by unfold maxLen at hm; omega, fun i hil => ?_⟩
    have him : i < m := by rw [hmm]; split <;> omega
    obtain ⟨vs, hc, hd⟩ := hi i him
    rw [hC] at hc
    obtain ⟨ys, n', _, hy, _, hyl, hf⟩ := DataW.trod_struct he hd
    obtain ⟨_, hlen, hat⟩ := World.cells?_some hc
    refine ⟨a, vs, rfl, hlen, fun j u hu => ?_, fun j f hj => ?_⟩
    · have hj : j < fs.size := by have := (List.getElem?_eq_some_iff.1 hu).1; omega
      rw [hat j hj, hu]
    · obtain ⟨ho, hk⟩ := hone_of hone j f hj
      have hjl : j < fs.size := (Array.getElem?_eq_some_iff.1 hj).1
      have h1 := hf j f hj
      have h2 : (vs.drop f.offset).take (P.cellsOf f.type) = [vs[j]'(by omega)] := by
        rw [ho, hk, List.drop_eq_getElem_cons (by omega)]
        rfl
      rw [h2] at h1
      refine ⟨vs[j]'(by omega), n', ys[j]'(by omega), List.getElem?_eq_getElem (by omega), h1.trans (List.getElem?_eq_getElem (by omega)), ?_⟩
      have hm1 : (ys[j]'(by omega)).1 ∈ ys.map (·.1) := List.mem_map_of_mem (List.getElem_mem _)
      have hm2 : D i ∈ (List.range len).map D := List.mem_map_of_mem (List.mem_range.2 hil)
      have s1 := List.sizeOf_lt_of_mem hm1
      have s2 := List.sizeOf_lt_of_mem hm2
      simp only [Prod.mk.injEq] at hy
      rw [hx]
      simp only [DataW.slice.sizeOf_spec]
      rw [hy.1, DataW.agg.sizeOf_spec] at s2
      omega

theorem int_read {P : Program} {t : TypeId} {fuel : Nat} {u : Value} {y : DataW H × List MemPlace} (ht : P.underlying t = some (.int .u8)) (h : DataW.trod enc P w base spare held fuel t [u] = some y) : ∃ k : Nat, u = .int .u8 k ∧ k < 256 := by
  obtain ⟨n, e, _, hw⟩ := DataW.trod_int ht h
  cases e
  simp only [Lit.wf, Bool.and_eq_true, decide_eq_true_eq] at hw
  have h0 : IntKind.u8.min = 0 := by decide
  have h1 : IntKind.u8.max = 255 := by decide
  rw [h0, h1] at hw
  refine ⟨n.toNat, ?_, by omega⟩
  rw [Int.toNat_of_nonneg (by omega)]
theorem string_read {P : Program} {t : TypeId} {fuel : Nat} {u : Value} {y : DataW H × List MemPlace} (ht : P.underlying t = some .string) (h : DataW.trod enc P w base spare held fuel t [u] = some y) : ∃ s : ByteArray, u = .string s ∧ s.size ≤ 9223372036854775807 := by
  obtain ⟨s, e, _, hw⟩ := DataW.trod_string ht h
  cases e
  exact ⟨s, rfl, by unfold maxLen at hw; omega⟩

theorem row_block {A : Option Addr} {len size : Nat} (h : ∀ i, i < len → ∃ a vs, A = some a ∧ 0 < vs.length ∧ Lie w (a.add (i * size)) vs) : 0 < len → ∃ ad, A = some ad ∧ ad.block < w.heap.size := by
  intro h0
  obtain ⟨a, vs, hA, hv, hl⟩ := h 0 h0
  have := World.block_lt_of_cell? _ _ (hl 0 _ (List.getElem?_eq_getElem hv))
  rw [block_of_add, block_of_add] at this
  exact ⟨a, hA, this⟩


theorem inls_read (N : Nat) : ∀ {fuel : Nat} {u : Value} {y : DataW H × List MemPlace}, SizeOf.sizeOf y.1 ≤ N → DataW.trod enc Tryz.prog w base spare held fuel 31 [u] = some y → ∃ l : List (IT N), InlsAt N w (fun k => k < w.heap.size) u l := by
  induction N with
  | zero =>
    intro fuel u y hz h
    exfalso
    revert hz
    cases y.1 <;> simp
  | succ N ih =>
    intro fuel u y hz h
    obtain ⟨A, len, cap, e, hl, hi⟩ := slice_cells Tryz.underlying31 Tryz.underlying80 (by kernel_rfl) (by kernel_rfl) h
    cases e
    obtain ⟨l, hlen, hp⟩ := exists_list (fun i (x : InlD (List (IT N))) => ∃ ad vs, A = some ad ∧ Lie w (ad.add (i * 5)) vs ∧ InlIs (InlsAt N) w (fun k => k < w.heap.size) vs x) len (fun i hil => by
      obtain ⟨a, vs, hA, hvl, hlie, hf⟩ := hi i hil
      obtain ⟨u0, n0, y0, hu0, ht0, _⟩ := hf 0 _ rfl
      obtain ⟨u1, n1, y1, hu1, ht1, _⟩ := hf 1 _ rfl
      obtain ⟨u2, n2, y2, hu2, ht2, _⟩ := hf 2 _ rfl
      obtain ⟨u3, n3, y3, hu3, ht3, _⟩ := hf 3 _ rfl
      obtain ⟨u4, n4, y4, hu4, ht4, z4⟩ := hf 4 _ rfl
      obtain ⟨k0, rfl, z0⟩ := int_read Tryz.underlying5 ht0
      obtain ⟨s1, rfl, z1⟩ := string_read Tryz.underlying9 ht1
      obtain ⟨s2, rfl, z2⟩ := string_read Tryz.underlying9 ht2
      obtain ⟨s3, rfl, z3⟩ := string_read Tryz.underlying9 ht3
      obtain ⟨l4, h4⟩ := ih (by omega) ht4
      match vs, hvl with
      | [a0, a1, a2, a3, a4], _ =>
        simp at hu0 hu1 hu2 hu3 hu4
        subst hu0; subst hu1; subst hu2; subst hu3; subst hu4
        exact ⟨⟨k0, s1, s2, s3, l4⟩, a, _, hA, hlie, _, rfl, h4, z1, z2, z3, z0⟩)
    subst hlen
    refine ⟨l, A, cap, rfl, hl, row_block (size := 5) fun i hil => ?_, hp⟩
    obtain ⟨a, vs, hA, hvl, hlie, hf⟩ := hi i hil
    exact ⟨a, vs, hA, by rw [hvl]; decide, hlie⟩
end
end Go.Proofs.YtibaoocklempnaaGreatDoor
