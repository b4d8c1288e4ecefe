/- A law's argument of type []api.Block, as data, is read as a tree of blocks. -/
import Derived.Test.YtibaoocklempnaaGreatDoorOpenI
import Derived.Test.YtibaoocklempnaaGreatDoorBlk
import Derived.SizedLaws
namespace Go.Proofs.YtibaoocklempnaaGreatDoor
open Go.ChangeShapes Go.WideShapes Go.Deep Go.RowKit

section
variable {H : Type} {enc : TypeId × Value → H} {w : World} {base : Nat} {spare : Nat → Bool} {held : Bool}
/-- No string or slice within is longer than a call's reach. -/
def Fit (P : Program) (t : TypeId) (d : DataW H) : Prop := ∀ n ∈ d.weights P t, n ≤ reachBytes
theorem mem_all {P : Program} {e : TypeId} {d : DataW H} : ∀ {l : List (DataW H)}, d ∈ l → ∀ n ∈ d.weights P e, n ∈ DataW.weightsAll P e l
  | [], h, _, _ => by cases h
  | x :: r, h, n, hn => by
    simp only [DataW.weightsAll, List.mem_append]
    rcases List.mem_cons.1 h with rfl | h
    · exact .inl hn
    · exact .inr (mem_all h n hn)
/-- Each element of a slice of structs, as in slice_cells, with what fits. -/
theorem slice_fit {P : Program} {t e : TypeId} {fs : Array Field} {fuel : Nat} {cs : List Value} {x : DataW H × List MemPlace} (ht : P.underlying t = some (.slice e)) (he : P.underlying e = some (.struct fs))
    (hone : oneCellFields P fs = true) (hC : P.cellsOf e = fs.size) (hF : Fit P t x.1) (h : DataW.trod enc P w base spare held fuel t cs = some x) :
    ∃ A len cap, cs = [.slice A len cap] ∧ len ≤ 9223372036854775807 ∧ CapOk (.slice A len cap) ∧ ∀ i, i < len → ∃ a vs, A = some a ∧ vs.length = fs.size ∧ Lie w (a.add (i * fs.size)) vs ∧
      ∀ (j : Nat) (f : Field), fs[j]? = some f → ∃ u n y, vs[j]? = some u ∧ DataW.trod enc P w base spare held n f.type [u] = some y ∧ SizeOf.sizeOf y.1 < SizeOf.sizeOf x.1 ∧ Fit P f.type y.1 := by
  rcases open_slice ht h with ⟨hcs, _⟩ | ⟨a, len, cap, m, n, D, Pl, hcs, _, hl, hm, hmm, hx, hi⟩
  · exact ⟨none, 0, 0, hcs, by omega, fun A m c e => by cases e; exact ⟨Nat.le_refl _, by decide, fun _ => rfl⟩, fun i hi => by omega⟩
  · refine ⟨some a, len, cap, hcs, by unfold maxLen at hm; omega, fun A m c e => by cases e; exact ⟨hl, by unfold maxLen at hm; omega, fun h => by cases h⟩, fun i hil => ?_⟩
    have him : i < m := by rw [hmm]; split <;> omega
    obtain ⟨vs, hc, hd⟩ := hi i him
    rw [hC] at hc
    obtain ⟨ys, n', _, hy, _, hyl, hf⟩ := DataW.trod_struct he hd
    obtain ⟨_, hlen, hat⟩ := World.cells?_some hc
    simp only [Prod.mk.injEq] at hy
    have hm2 : D i ∈ (List.range len).map D := List.mem_map_of_mem (List.mem_range.2 hil)
    have hFi : ∀ q ∈ DataW.weightsEach P (fs.toList.map (·.type)) (ys.map (·.1)), q ≤ reachBytes := fun q hq => hF q (by
      rw [hx]
      simp only [DataW.weights, ht, List.mem_cons, List.mem_append]
      refine .inr (.inl (mem_all hm2 q ?_))
      rw [hy.1]
      simp only [DataW.weights, he]
      exact hq)
    refine ⟨a, vs, rfl, hlen, fun j u hu => ?_, fun j f hj => ?_⟩
    · have hj : j < fs.size := by have := (List.getElem?_eq_some_iff.1 hu).1; omega
      rw [hat j hj, hu]
    · obtain ⟨ho, hk⟩ := hone_of hone j f hj
      have hjl : j < fs.size := (Array.getElem?_eq_some_iff.1 hj).1
      have h1 := hf j f hj
      have h2 : (vs.drop f.offset).take (P.cellsOf f.type) = [vs[j]'(by omega)] := by
        rw [ho, hk, List.drop_eq_getElem_cons (by omega)]
        rfl
      rw [h2] at h1
      refine ⟨vs[j]'(by omega), n', ys[j]'(by omega), List.getElem?_eq_getElem (by omega), h1.trans (List.getElem?_eq_getElem (by omega)), ?_, fun q hq => hFi q (DataW.weights_mem_each (j := j) (t := f.type) (d := (ys[j]'(by omega)).1) ?_ ?_ q hq)⟩
      · have hm1 : (ys[j]'(by omega)).1 ∈ ys.map (·.1) := List.mem_map_of_mem (List.getElem_mem _)
        have s1 := List.sizeOf_lt_of_mem hm1
        have s2 := List.sizeOf_lt_of_mem hm2
        rw [hx]
        simp only [DataW.slice.sizeOf_spec]
        rw [hy.1, DataW.agg.sizeOf_spec] at s2
        omega
      · rw [List.getElem?_map, Array.getElem?_toList, hj]
        rfl
      · rw [List.getElem?_map, List.getElem?_eq_getElem (by omega)]
        rfl
theorem i64_read {P : Program} {t : TypeId} {fuel : Nat} {u : Value} {y : DataW H × List MemPlace} (ht : P.underlying t = some (.int .i64)) (h : DataW.trod enc P w base spare held fuel t [u] = some y) : ∃ k : Int, u = .int .i64 k ∧ I64 k := by
  obtain ⟨n, e, _, hw⟩ := DataW.trod_int ht h
  cases e
  simp only [Lit.wf, Bool.and_eq_true, decide_eq_true_eq] at hw
  have h0 : IntKind.i64.min = -9223372036854775808 := by decide
  have h1 : IntKind.i64.max = 9223372036854775807 := by decide
  rw [h0, h1] at hw
  exact ⟨n, rfl, hw⟩
theorem bool_read {P : Program} {t : TypeId} {fuel : Nat} {u : Value} {y : DataW H × List MemPlace} (ht : P.underlying t = some .bool) (h : DataW.trod enc P w base spare held fuel t [u] = some y) : ∃ b : Bool, u = .bool b := by
  obtain ⟨b, e, _⟩ := DataW.trod_bool ht h
  cases e
  exact ⟨b, rfl⟩
theorem bytes_read {fuel : Nat} {u : Value} {y : DataW H × List MemPlace} (hF : Fit Tryz.prog 30 y.1) (h : DataW.trod enc Tryz.prog w base spare held fuel 30 [u] = some y) : ∃ l : List UInt8, Row 1 OneByte w (fun k => k < w.heap.size) u l ∧ l.length ≤ 140737488355328 := by
  rcases open_slice1 Tryz.underlying30 (by kernel_rfl) h with ⟨hcs, _⟩ | ⟨a, len, cap, m, n, V, D, Pl, hcs, _, hl, hm, hmm, hx, hi⟩
  · cases hcs
    exact ⟨[], bytes_nil_ w _ 0, by decide⟩
  · cases hcs
    have hlen : len ≤ 140737488355328 := by
      have h1 := hF ((((List.range len).map D).length + ((List.range (m - len)).map fun j => D (len + j)).length) * Tryz.prog.bytesOf 5) (by
        rw [hx]
        simp only [DataW.weights, Tryz.underlying30, List.mem_cons, true_or])
      rw [List.length_map, List.length_range, List.length_map, List.length_range, show Tryz.prog.bytesOf 5 = 1 by kernel_rfl] at h1
      unfold reachBytes at h1
      omega
    obtain ⟨l, hll, hp⟩ := exists_list (fun i (x : UInt8) => w.cell? (a.add i) = some (u8c x)) len (fun i hil => by
      have him : i < m := by rw [hmm]; split <;> omega
      obtain ⟨h1, h2⟩ := hi i him
      obtain ⟨k, hk, hk2⟩ := int_read Tryz.underlying5 h2
      refine ⟨UInt8.ofNat k, ?_⟩
      rw [h1, hk]
      have e : (UInt8.ofNat k).toNat = k := by simp; omega
      unfold u8c
      rw [e])
    subst hll
    refine ⟨l, ⟨some a, cap, rfl, by unfold maxLen at hm; omega, fun h0 => ?_, fun i x hx => ⟨a, [u8c x], rfl, fun j u hu => ?_, rfl⟩⟩, hlen⟩
    · obtain ⟨x, hx⟩ : ∃ x, l[0]? = some x := ⟨l[0], List.getElem?_eq_getElem h0⟩
      have hb := World.block_lt_of_cell? _ _ (hp 0 x hx)
      rw [block_of_add] at hb
      exact ⟨a, rfl, hb⟩
    · match j, hu with
      | 0, hu =>
        obtain rfl : u8c x = u := by simpa using hu
        rw [Nat.mul_one, add_of_add, Nat.add_zero]
        exact hp i x hx

theorem blks_read (N : Nat) : ∀ {fuel : Nat} {u : Value} {y : DataW H × List MemPlace}, SizeOf.sizeOf y.1 ≤ N → Fit Tryz.prog 37 y.1 → DataW.trod enc Tryz.prog w base spare held fuel 37 [u] = some y → ∃ l : List (BT N), BlksAt N w (fun k => k < w.heap.size) u l ∧ CapOk u := by
  induction N with
  | zero =>
    intro fuel u y hz _ h
    exfalso
    revert hz
    cases y.1 <;> simp
  | succ N ih =>
    intro fuel u y hz hF h
    obtain ⟨A, len, cap, e, hl, hcap, hi⟩ := slice_fit Tryz.underlying37 Tryz.underlying41 (by kernel_rfl) (by kernel_rfl) hF h
    cases e
    obtain ⟨l, hlen, hp⟩ := exists_list (fun i (x : BlkD (List (BT N))) => ∃ ad vs, A = some ad ∧ Lie w (ad.add (i * 10)) vs ∧ BlkIs (BlksAt N) w (fun k => k < w.heap.size) vs x) len (fun i hil => by
      obtain ⟨a, vs, hA, hvl, hlie, hf⟩ := hi i hil
      obtain ⟨u0, n0, y0, hu0, ht0, _⟩ := hf 0 _ rfl
      obtain ⟨u1, n1, y1, hu1, ht1, _⟩ := hf 1 _ rfl
      obtain ⟨u2, n2, y2, hu2, ht2, _⟩ := hf 2 _ rfl
      obtain ⟨u3, n3, y3, hu3, ht3, _⟩ := hf 3 _ rfl
      obtain ⟨u4, n4, y4, hu4, ht4, _⟩ := hf 4 _ rfl
      obtain ⟨u5, n5, y5, hu5, ht5, _⟩ := hf 5 _ rfl
      obtain ⟨u6, n6, y6, hu6, ht6, _⟩ := hf 6 _ rfl
      obtain ⟨u7, n7, y7, hu7, ht7, _, f7⟩ := hf 7 _ rfl
      obtain ⟨u8, n8, y8, hu8, ht8, z8, f8⟩ := hf 8 _ rfl
      obtain ⟨u9, n9, y9, hu9, ht9, z9, _⟩ := hf 9 _ rfl
      obtain ⟨k0, rfl, b0⟩ := int_read Tryz.underlying5 ht0
      obtain ⟨k1, rfl, b1⟩ := i64_read Tryz.underlying3 ht1
      obtain ⟨k2, rfl, b2⟩ := int_read Tryz.underlying5 ht2
      obtain ⟨k3, rfl, b3⟩ := i64_read Tryz.underlying3 ht3
      obtain ⟨k4, rfl⟩ := bool_read Tryz.underlying4 ht4
      obtain ⟨s5, rfl, b5⟩ := string_read Tryz.underlying9 ht5
      obtain ⟨s6, rfl, b6⟩ := string_read Tryz.underlying9 ht6
      obtain ⟨l7, h7, e7⟩ := bytes_read f7 ht7
      obtain ⟨l8, h8, c8⟩ := ih (by omega) f8 ht8
      obtain ⟨l9, h9⟩ := inls_read _ (Nat.le_refl _) ht9
      match vs, hvl with
      | [a0, a1, a2, a3, a4, a5, a6, a7, a8, a9], _ =>
        simp at hu0 hu1 hu2 hu3 hu4 hu5 hu6 hu7 hu8 hu9
        subst hu0; subst hu1; subst hu2; subst hu3; subst hu4; subst hu5; subst hu6; subst hu7; subst hu8; subst hu9
        exact ⟨⟨k0, k1, k2, k3, b1, b3, k4, s5, s6, l7, l8, _, l9⟩, a, _, hA, hlie, _, _, _, rfl, h7, h8, h9, b5, b6, b0, b2, c8, e7⟩)
    subst hlen
    refine ⟨l, ⟨A, cap, rfl, hl, row_block (size := 10) fun i hil => ?_, hp⟩, hcap⟩
    obtain ⟨a, vs, hA, hvl, hlie, hf⟩ := hi i hil
    exact ⟨a, vs, hA, by rw [hvl]; decide, hlie⟩
end
end Go.Proofs.YtibaoocklempnaaGreatDoor
