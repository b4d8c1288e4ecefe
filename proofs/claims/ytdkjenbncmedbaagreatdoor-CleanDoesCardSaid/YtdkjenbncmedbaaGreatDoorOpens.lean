/- A law's arguments of types api.Policy and api.Attr, as data, are read. A law's argument of type []api.Node, as data, is read as a tree of nodes. From a row's conditions to what the laws of rule ask: strings' table of blanks and utf8's two tables as listed; bytealg's MaxLen as the world's shape gives it; the wrap of them; a row's last step from Below. -/
import Derived.Test.YtdkjenbncmedbaaGreatDoorKeeps
import Derived.Test.YtdkjenbncmedbaaGreatDoorNod
import Derived.Test.YtdkjenbncmedbaaGreatDoorTie
import Derived.Test.YtdkjenbncmedbaaGreatDoorCards
import Derived.Deep.Slices
import Derived.Deep.Strs
import Derived.Deep.Fields
import Derived.ChangeSame
import Derived.Lib.SmallJoins
import Derived.HandedShaped
import Derived.Shelf.Vars
import Derived.ProofKit
import Derived.PinnedBridge
import Derived.Lay
import Derived.Lib.LaidU8
import Derived.SevenTiedAt
namespace Go.Proofs.YtdkjenbncmedbaaGreatDoor

section
open Go.ChangeShapes Go.WideShapes Go.Deep Go.RowKit
section
variable {H : Type} {enc : TypeId × Value → H} {w : World} {base : Nat} {spare : Nat → Bool} {held : Bool}
theorem text_read {P : Program} {t : TypeId} {fuel : Nat} {u : Value} {y : DataW H × List MemPlace} (ht : P.underlying t = some .string) (h : DataW.trod enc P w base spare held fuel t [u] = some y) : ∃ s : ByteArray, u = .string s ∧ s.size ≤ maxLen := by
  obtain ⟨s, e, _, hw⟩ := DataW.trod_string ht h
  cases e
  exact ⟨s, rfl, hw⟩
theorem addr_plain {a : Addr} {v : Value} (h : w.cell? (a.add 0) = some v) : ∃ b off, a = ⟨b, off, none⟩ ∧ b < w.heap.size := by
  have hsp := World.cell?_spot h
  obtain ⟨b, off, spot⟩ := a
  have hspot : spot = none := by simpa [Addr.add] using hsp
  subst hspot
  have hb := lt_cell h
  rw [add_off] at hb
  exact ⟨b, off, rfl, hb⟩
theorem str_cells : Tryz.prog.cellsOf 9 = 1 := by kernel_rfl
theorem alw_cells : Tryz.prog.cellsOf 31 = 2 := by kernel_rfl
theorem sls_read {fuel : Nat} {u : Value} {x : DataW H × List MemPlace} (h : DataW.trod enc Tryz.prog w base spare held fuel 22 [u] = some x) : ∃ l, SlS w u l ∧ l.length ≤ 9223372036854775807 ∧ ∀ y ∈ l, y.size ≤ maxLen := by
  rcases open_strs Tryz.underlying22 Tryz.underlying9 str_cells h with ⟨hcs, _⟩ | ⟨a, len, cap, m, Sx, hcs, _, hl, hm, hmm, _, hc⟩
  · cases hcs
    exact ⟨[], ⟨_, _, rfl, Nat.le_refl _, rfl, fun h => absurd h (Nat.lt_irrefl 0)⟩, by simp, by simp⟩
  · cases hcs
    have hlm : len ≤ m := by rw [hmm]; split <;> omega
    have hln : ((List.range len).map Sx).length = len := by simp
    refine ⟨(List.range len).map Sx, ?_, by rw [hln]; unfold maxLen at hm; omega, ?_⟩
    · unfold SlS
      rw [hln]
      refine ⟨_, _, rfl, hl, by simp, fun h0 => ?_⟩
      obtain ⟨b, off, rfl, hb⟩ := addr_plain (hc 0 (by omega)).1
      refine ⟨b, off, rfl, hb, fun j v hj => ?_⟩
      have hjl : j < len := by
        have := (List.getElem?_eq_some_iff.1 hj).1
        simpa using this
      have := (hc j (by omega)).1
      rw [add_off] at this
      rw [this]
      simpa [hjl] using hj
    · intro y hy
      obtain ⟨i, hi, rfl⟩ := List.mem_map.1 hy
      exact (hc i (by have := List.mem_range.1 hi; omega)).2
theorem flat_at (l : Prs) (j : Nat) (v : Value) (h : (l.map pairCs).flatten[j]? = some v) : ∃ (k : Nat) (hk : k < l.length), (j = k * 2 ∧ v = .string l[k].1) ∨ (j = k * 2 + 1 ∧ v = .string l[k].2) := by
  have hjl := (List.getElem?_eq_some_iff.1 h).1
  rw [pairCs_len] at hjl
  have hk : j / 2 < l.length := by omega
  obtain ⟨h1, h2⟩ := pair_at l (j / 2) hk
  refine ⟨j / 2, hk, ?_⟩
  rcases Nat.mod_two_eq_zero_or_one j with h0 | h0
  · left
    refine ⟨by omega, ?_⟩
    rw [show j / 2 * 2 = j by omega, h] at h1
    exact Option.some.inj h1
  · right
    refine ⟨by omega, ?_⟩
    rw [show j / 2 * 2 + 1 = j by omega, h] at h2
    exact Option.some.inj h2
set_option maxRecDepth 100000 in
theorem sla_read {fuel : Nat} {u : Value} {x : DataW H × List MemPlace} (h : DataW.trod enc Tryz.prog w base spare held fuel 23 [u] = some x) : ∃ l, SlA w u l ∧ l.length ≤ 9223372036854775807 ∧ ∀ y ∈ l, y.1.size ≤ maxLen ∧ y.2.size ≤ maxLen := by
  rcases open_slice Tryz.underlying23 h with ⟨hcs, _⟩ | ⟨a, len, cap, m, n, D, Pl, hcs, _, hl, hm, hmm, _, hi⟩
  · cases hcs
    exact ⟨[], ⟨_, _, rfl, Nat.le_refl _, rfl, fun h => absurd h (Nat.lt_irrefl 0)⟩, by simp, by simp⟩
  · cases hcs
    rw [alw_cells] at hi
    have hlm : len ≤ m := by rw [hmm]; split <;> omega
    have each : ∀ i, i < len → ∃ x : ByteArray × ByteArray, w.cell? (a.add (i * 2)) = some (.string x.1) ∧ w.cell? ((a.add (i * 2)).add 1) = some (.string x.2) ∧ x.1.size ≤ maxLen ∧ x.2.size ≤ maxLen := fun i hil => by
      obtain ⟨vs, hc, hd⟩ := hi i (by omega)
      obtain ⟨_, hlen, hat⟩ := World.cells?_some hc
      obtain ⟨y0, y1, n', _, _, h0, h1⟩ := trod_struct2 Tryz.underlying31 hd
      match vs, hlen with
      | [a0, a1], _ =>
        obtain ⟨s0, rfl, z0⟩ := text_read Tryz.underlying9 (show DataW.trod enc Tryz.prog w base spare held n' 9 [a0] = some y0 from h0)
        obtain ⟨s1, rfl, z1⟩ := text_read Tryz.underlying9 (show DataW.trod enc Tryz.prog w base spare held n' 9 [a1] = some y1 from h1)
        have g0 := hat 0 (by omega)
        rw [show (a.add (i * 2)).add 0 = a.add (i * 2) by simp [Addr.add]] at g0
        exact ⟨(s0, s1), g0, hat 1 (by omega), z0, z1⟩
    obtain ⟨F, hF⟩ := choose_lt each
    have hln : ((List.range len).map F).length = len := by simp
    refine ⟨(List.range len).map F, ?_, by rw [hln]; unfold maxLen at hm; omega, ?_⟩
    · unfold SlA
      rw [hln]
      refine ⟨_, _, rfl, hl, by rw [pairCs_len, hln], fun h0 => ?_⟩
      obtain ⟨b, off, rfl, hb⟩ := addr_plain (by simpa using (hF 0 (by omega)).1)
      refine ⟨b, off, rfl, hb, fun j v hj => ?_⟩
      obtain ⟨k, hk, h⟩ := flat_at _ _ _ hj
      have hkl : k < len := by rw [hln] at hk; exact hk
      obtain ⟨g0, g1, _, _⟩ := hF k hkl
      rw [add_off] at g0
      rw [add_off, add_off] at g1
      rcases h with ⟨rfl, rfl⟩ | ⟨rfl, rfl⟩
      · rw [g0]; simp
      · rw [← Nat.add_assoc, g1]; simp
    · intro y hy
      obtain ⟨i, hi, rfl⟩ := List.mem_map.1 hy
      exact (hF i (List.mem_range.1 hi)).2.2
set_option maxRecDepth 100000 in
theorem policy_read {r : Reach} {b0 : Nat} {v : Value} {d : DataW H} {p : List MemPlace} (hv : Value.okWide Tryz.prog w r b0 25 v) (h : DataW.Trod enc Tryz.prog w base spare held 25 v d p) : ∃ E A S, PolAt w v E A S := by
  obtain ⟨c0, c1, c2, y0, y1, y2, m, rfl, _, _, h0, h1, h2⟩ := Joins.open_agg3 Tryz.underlying25 (by kernel_rfl) (by kernel_rfl) hv h
  obtain ⟨E, hE, lE, sE⟩ := sls_read h0
  obtain ⟨A, hA, lA, sA⟩ := sla_read h1
  obtain ⟨S, hS, lS, sS⟩ := sls_read h2
  exact ⟨E, A, S, ⟨_, _, _, rfl, hE, hA, hS⟩, lE, lA, lS, sE, sA, sS⟩
set_option maxRecDepth 100000 in
theorem attr_read {r : Reach} {b0 : Nat} {v : Value} {d : DataW H} {p : List MemPlace} (hv : Value.okWide Tryz.prog w r b0 27 v) (h : DataW.Trod enc Tryz.prog w base spare held 27 v d p) : ∃ nm val : ByteArray, v = .agg #[.string nm, .string val] ∧ nm.size ≤ 9223372036854775807 ∧ val.size ≤ 9223372036854775807 := by
  obtain ⟨c0, c1, y0, y1, m, rfl, _, _, h0, h1⟩ := Joins.open_agg2 Tryz.underlying27 (by kernel_rfl) (by kernel_rfl) hv h
  obtain ⟨s0, rfl, z0⟩ := text_read Tryz.underlying9 h0
  obtain ⟨s1, rfl, z1⟩ := text_read Tryz.underlying9 h1
  unfold maxLen at z0 z1
  exact ⟨s0, s1, rfl, by omega, by omega⟩
theorem u8_read {k : Int} (h : (Lit.int .u8 k).wf = true) : ∃ c : UInt8, k = (c.toNat : Int) := by
  simp only [Lit.wf, Bool.and_eq_true, decide_eq_true_eq] at h
  have h0 : IntKind.u8.min = 0 := by decide
  have h1 : IntKind.u8.max = 255 := by decide
  rw [h0, h1] at h
  refine ⟨UInt8.ofNat k.toNat, ?_⟩
  rw [UInt8.toNat_ofNat']
  omega
theorem rule_laid : laidOutB Tryz.prog = true := by kernel_rfl
theorem pol_readable : Tryz.prog.readableRec 25 = true := by kernel_rfl
set_option maxRecDepth 100000 in
theorem attr_readable : Tryz.prog.readableRec 27 = true := by kernel_rfl
end
end

section
open Go.ChangeShapes Go.WideShapes Go.Deep
theorem exists_list {α : Type} (p : Nat → α → Prop) : ∀ n, (∀ i, i < n → ∃ x, p i x) → ∃ l : List α, l.length = n ∧ ∀ i x, l[i]? = some x → p i x
  | 0, _ => ⟨[], rfl, by simp⟩
  | n + 1, h => by
    obtain ⟨l, hl, hp⟩ := exists_list p n (fun i hi => h i (by omega))
    obtain ⟨x, hx⟩ := h n (by omega)
    refine ⟨l ++ [x], by simp [hl], fun i y hy => ?_⟩
    by_cases hi : i < l.length
    · rw [List.getElem?_append_left hi] at hy
      exact hp i y hy
    · rw [List.getElem?_append_right (by omega)] at hy
      by_cases h0 : i - l.length = 0
      · rw [h0] at hy
        obtain rfl : i = n := by omega
        simp at hy
        subst hy
        exact hx
      · obtain ⟨q, hq⟩ : ∃ q, i - l.length = q + 1 := ⟨i - l.length - 1, by omega⟩
        rw [hq] at hy
        simp at hy

section
variable {H : Type} {enc : TypeId × Value → H} {w : World} {base : Nat} {spare : Nat → Bool} {held : Bool}
/-- Each element of a slice of structs: its cells, and how each field is read; the data of the fields are less than the slice's. -/
theorem slice_cells {P : Program} {t e : TypeId} {fs : Array Field} {fuel : Nat} {cs : List Value} {x : DataW H × List MemPlace} (ht : P.underlying t = some (.slice e)) (he : P.underlying e = some (.struct fs))
    (hone : oneCellFields P fs = true) (hC : P.cellsOf e = fs.size) (h : DataW.trod enc P w base spare held fuel t cs = some x) :
    ∃ A len cap, cs = [.slice A len cap] ∧ len ≤ 9223372036854775807 ∧ ∀ i, i < len → ∃ a vs, A = some a ∧ vs.length = fs.size ∧ Lie w (a.add (i * fs.size)) vs ∧
      ∀ (j : Nat) (f : Field), fs[j]? = some f → ∃ u n y, vs[j]? = some u ∧ DataW.trod enc P w base spare held n f.type [u] = some y ∧ SizeOf.sizeOf y.1 < SizeOf.sizeOf x.1 := by
  rcases open_slice ht h with ⟨hcs, _⟩ | ⟨a, len, cap, m, n, D, Pl, hcs, _, hl, hm, hmm, hx, hi⟩
  · exact ⟨none, 0, 0, hcs, by omega, fun i hi => by omega⟩
  · refine ⟨some a, len, cap, hcs, by unfold maxLen at hm; omega, fun i hil => ?_⟩
    have him : i < m := by rw [hmm]; split <;> omega
    obtain ⟨vs, hc, hd⟩ := hi i him
    rw [hC] at hc
    obtain ⟨ys, n', _, hy, _, hyl, hf⟩ := DataW.trod_struct he hd
    obtain ⟨_, hlen, hat⟩ := World.cells?_some hc
    refine ⟨a, vs, rfl, hlen, fun j u hu => ?_, fun j f hj => ?_⟩
    · have hj : j < fs.size := by have := (List.getElem?_eq_some_iff.1 hu).1; omega
      rw [hat j hj, hu]
    · obtain ⟨ho, hk⟩ := hone_of hone j f hj
      have hjl : j < fs.size := (Array.getElem?_eq_some_iff.1 hj).1
      have h1 := hf j f hj
      have h2 : (vs.drop f.offset).take (P.cellsOf f.type) = [vs[j]'(by omega)] := by
        rw [ho, hk, List.drop_eq_getElem_cons (by omega)]
        rfl
      rw [h2] at h1
      refine ⟨vs[j]'(by omega), n', ys[j]'(by omega), List.getElem?_eq_getElem (by omega), h1.trans (List.getElem?_eq_getElem (by omega)), ?_⟩
      have hm1 : (ys[j]'(by omega)).1 ∈ ys.map (·.1) := List.mem_map_of_mem (List.getElem_mem _)
      have hm2 : D i ∈ (List.range len).map D := List.mem_map_of_mem (List.mem_range.2 hil)
      have s1 := List.sizeOf_lt_of_mem hm1
      have s2 := List.sizeOf_lt_of_mem hm2
      simp only [Prod.mk.injEq] at hy
      rw [hx]
      simp only [DataW.slice.sizeOf_spec]
      rw [hy.1, DataW.agg.sizeOf_spec] at s2
      omega

theorem int_read {P : Program} {t : TypeId} {fuel : Nat} {u : Value} {y : DataW H × List MemPlace} (ht : P.underlying t = some (.int .u8)) (h : DataW.trod enc P w base spare held fuel t [u] = some y) : ∃ k : Nat, u = .int .u8 k ∧ k < 256 := by
  obtain ⟨n, e, _, hw⟩ := DataW.trod_int ht h
  cases e
  simp only [Lit.wf, Bool.and_eq_true, decide_eq_true_eq] at hw
  have h0 : IntKind.u8.min = 0 := by decide
  have h1 : IntKind.u8.max = 255 := by decide
  rw [h0, h1] at hw
  refine ⟨n.toNat, ?_, by omega⟩
  rw [Int.toNat_of_nonneg (by omega)]
theorem string_read {P : Program} {t : TypeId} {fuel : Nat} {u : Value} {y : DataW H × List MemPlace} (ht : P.underlying t = some .string) (h : DataW.trod enc P w base spare held fuel t [u] = some y) : ∃ s : ByteArray, u = .string s ∧ s.size ≤ 9223372036854775807 := by
  obtain ⟨s, e, _, hw⟩ := DataW.trod_string ht h
  cases e
  exact ⟨s, rfl, by unfold maxLen at hw; omega⟩

theorem row_block {A : Option Addr} {len size : Nat} (h : ∀ i, i < len → ∃ a vs, A = some a ∧ 0 < vs.length ∧ Lie w (a.add (i * size)) vs) : 0 < len → ∃ ad, A = some ad ∧ ad.block < w.heap.size := by
  intro h0
  obtain ⟨a, vs, hA, hv, hl⟩ := h 0 h0
  have := World.block_lt_of_cell? _ _ (hl 0 _ (List.getElem?_eq_getElem hv))
  rw [block_of_add, block_of_add] at this
  exact ⟨a, hA, this⟩

theorem attrs_read {fuel : Nat} {u : Value} {y : DataW H × List MemPlace} (h : DataW.trod enc Tryz.prog w base spare held fuel 46 [u] = some y) : ∃ l, AttrsAt w (fun k => k < w.heap.size) u l := by
  obtain ⟨A, len, cap, e, hl, hi⟩ := slice_cells Tryz.underlying46 Tryz.underlying27 (by kernel_rfl) (by kernel_rfl) h
  cases e
  obtain ⟨l, hlen, hp⟩ := exists_list (fun i (x : AttrD) => ∃ ad vs, A = some ad ∧ Lie w (ad.add (i * 2)) vs ∧ AttrIs w (fun k => k < w.heap.size) vs x) len (fun i hil => by
    obtain ⟨a, vs, hA, hvl, hlie, hf⟩ := hi i hil
    obtain ⟨u0, n0, y0, hu0, ht0, _⟩ := hf 0 _ rfl
    obtain ⟨u1, n1, y1, hu1, ht1, _⟩ := hf 1 _ rfl
    obtain ⟨s0, rfl, z0⟩ := string_read Tryz.underlying9 ht0
    obtain ⟨s1, rfl, z1⟩ := string_read Tryz.underlying9 ht1
    match vs, hvl with
    | [a0, a1], _ =>
      simp at hu0 hu1
      subst hu0; subst hu1
      exact ⟨⟨s0, s1⟩, a, _, hA, hlie, rfl, z0, z1⟩)
  subst hlen
  refine ⟨l, A, cap, rfl, hl, row_block (size := 2) fun i hil => ?_, hp⟩
  obtain ⟨a, vs, hA, hvl, hlie, hf⟩ := hi i hil
  exact ⟨a, vs, hA, by rw [hvl]; decide, hlie⟩

theorem nodes_read (N : Nat) : ∀ {fuel : Nat} {u : Value} {y : DataW H × List MemPlace}, SizeOf.sizeOf y.1 ≤ N → DataW.trod enc Tryz.prog w base spare held fuel 37 [u] = some y → ∃ l : List (NT N), NodesAt N w (fun k => k < w.heap.size) u l := by
  induction N with
  | zero =>
    intro fuel u y hz h
    exfalso
    revert hz
    cases y.1 <;> simp
  | succ N ih =>
    intro fuel u y hz h
    obtain ⟨A, len, cap, e, hl, hi⟩ := slice_cells Tryz.underlying37 Tryz.underlying48 (by kernel_rfl) (by kernel_rfl) h
    cases e
    obtain ⟨l, hlen, hp⟩ := exists_list (fun i (x : NodeD (List (NT N))) => ∃ ad vs, A = some ad ∧ Lie w (ad.add (i * 6)) vs ∧ NodeIs (NodesAt N) w (fun k => k < w.heap.size) vs x) len (fun i hil => by
      obtain ⟨a, vs, hA, hvl, hlie, hf⟩ := hi i hil
      obtain ⟨u0, n0, y0, hu0, ht0, _⟩ := hf 0 _ rfl
      obtain ⟨u1, n1, y1, hu1, ht1, _⟩ := hf 1 _ rfl
      obtain ⟨u2, n2, y2, hu2, ht2, _⟩ := hf 2 _ rfl
      obtain ⟨u3, n3, y3, hu3, ht3, _⟩ := hf 3 _ rfl
      obtain ⟨u4, n4, y4, hu4, ht4, _⟩ := hf 4 _ rfl
      obtain ⟨u5, n5, y5, hu5, ht5, z5⟩ := hf 5 _ rfl
      obtain ⟨k0, rfl, z0⟩ := int_read Tryz.underlying5 ht0
      obtain ⟨k1, rfl, z1⟩ := int_read Tryz.underlying5 ht1
      obtain ⟨s2, rfl, z2⟩ := string_read Tryz.underlying9 ht2
      obtain ⟨l3, h3⟩ := attrs_read ht3
      obtain ⟨s4, rfl, z4⟩ := string_read Tryz.underlying9 ht4
      obtain ⟨l5, h5⟩ := ih (by omega) ht5
      match vs, hvl with
      | [a0, a1, a2, a3, a4, a5], _ =>
        simp at hu0 hu1 hu2 hu3 hu4 hu5
        subst hu0; subst hu1; subst hu2; subst hu3; subst hu4; subst hu5
        exact ⟨⟨k0, k1, s2, l3, s4, l5⟩, a, _, hA, hlie, _, _, rfl, h3, h5, z2, z4, z0, z1⟩)
    subst hlen
    refine ⟨l, A, cap, rfl, hl, row_block (size := 6) fun i hil => ?_, hp⟩
    obtain ⟨a, vs, hA, hvl, hlie, hf⟩ := hi i hil
    exact ⟨a, vs, hA, by rw [hvl]; decide, hlie⟩
end
end

section
open Go.ChangeShapes Go.WideShapes Go.ChangeAt Go.RowKit
open Go.ChangeMaps (open_string shut_string)
theorem own_ : ownKnob Tryz.prog.godebug = none := by kernel_rfl

section
variable {H : Type} {enc : TypeId × Value → H}
theorem returnsInHanded_and_shaped {a : Assume} {C : Checked} {os : Os} {f : FuncId} {fn : Func} {s : ChangeSpec} {conds : List PathCond} {apart fresh handsOn again : Bool} {X : World → Array Value → Prop}
    (hX : ∀ (w w' : World) (args : Array Value), w.heap = w'.heap → X w args → X w' args)
    (own : ownKnob C.prog.godebug = none) (started : os.Started) (noInit : C.prog.inits.idxOf? f = none) (hfn : C.prog.funcs[f]? = some fn)
    (witness : ∃ (w : World) (tape : Tape) (i : Input), w.os = os ∧ (w.forCall tape i).Shaped C.prog ∧ i.vars = [] ∧ Input.okWide C.prog (w.forCall tape i) .any w.heap.size f i ∧
      ((s.pre enc C.prog fn conds apart (w.forCall tape i).memory i.args ∧ X (w.forCall tape i).memory i.args) ∧ sizedMet enc C.prog fn (OpenSpec.ofChange s) apart (w.forCall tape i).memory i.args) ∧ a.holds C.prog (lone (Frame.enter C.prog f i.args .normal) [] (w.forCall tape i)))
    (contract : ∀ (W : World) (base : Nat) (args : Array Value) (ds gs : List (DataW H)) (before : List MemPlace),
      (∀ (j : Nat) t v, fn.params[j]? = some t → args[j]? = some v → Value.okWide C.prog W .any base t v) →
      DataW.Whole enc C.prog fn.params.toList s.vars apart W args.toList ds gs before → W.ShapedOpen C.prog → X W args →
      Calls C.prog f args W fun e W' => ∃ v, e = .returned v ∧ s.post enc C.prog fn apart fresh handsOn again W args v W') :
    ReturnsInHanded a C os f .any (fun w args => (s.pre enc C.prog fn conds apart w args ∧ X w args) ∧ sizedMet enc C.prog fn (OpenSpec.ofChange s) apart w args) (s.post enc C.prog fn apart fresh handsOn again) := by
  refine returnsInHanded_of_calls own started noInit witness ?_
  intro w tape i _ hsh _ hok hpre _
  obtain ⟨_, _, _, fn', hfn', _, _, _, _, hval⟩ := hok
  have e : fn' = fn := Option.some.inj (hfn'.symm.trans hfn)
  subst e
  obtain ⟨⟨⟨ds, gs, before, hw, _⟩, hx⟩, _⟩ := hpre
  have hw' := DataW.Whole.of_heap (w' := w.forCall tape i) (by rfl) hw
  refine (contract (w.forCall tape i) w.heap.size i.args ds gs before hval hw' hsh (hX _ _ _ (by rfl) hx)).mono fun e W' ⟨v, he, hp⟩ => ?_
  subst he
  exact ChangeSpec.post_blind hp
end

theorem max_of {W : World} (h : W.ShapedOpen Tryz.prog) : ∃ m, W.cell? ⟨2, 0, none⟩ = some (.int .i64 m) :=
  cell_of_shapedOpen_int (g := 2) (t := 3) (zero := #[.int .i64 0]) h (of_decide_eq_true (by kernel_rfl)) (by kernel_rfl) rfl (by kernel_rfl) (by kernel_rfl) Tryz.underlying3
theorem first_is : Rows.laid_unicode_utf8_first = Lib.firstData := Pinned.utf8First_eq
theorem accept_is : (Rows.laid_unicode_utf8_acceptRanges : DataW Unit) = Lib.acceptData := by kernel_rfl
theorem tabs_of {W : World} {l : List (String × DataW Unit)} (h1 : ("unicode/utf8.acceptRanges", Rows.laid_unicode_utf8_acceptRanges) ∈ l) (h2 : ("unicode/utf8.first", Rows.laid_unicode_utf8_first) ∈ l) (hb : laidMetH Tryz.prog l W = laidMet Tryz.prog l W) (hL : laidMetH Tryz.prog l W) : Lib.Utf8Tabs 3 4 W := by
  rw [hb] at hL
  have e1 := Lib.laidMet.reads hL h1
  have e2 := Lib.laidMet.reads hL h2
  rw [accept_is] at e1
  rw [first_is] at e2
  exact utf8Tabs_of_reads { Tryz.lays237 with } ⟨by kernel_rfl, by kernel_rfl, by kernel_rfl, by kernel_rfl, by kernel_rfl, by kernel_rfl, by kernel_rfl⟩ e2 e1
theorem sp_reads {W : World} (h : Lib.VarReads Tryz.prog W "strings.asciiSpace" (Lib.tabData .u8 Lib.asciiSpaceTab)) : SpTab W := by
  obtain ⟨g', t', cs, fuel, p, hg, ht, hvar, hd⟩ := h
  obtain rfl := Option.some.inj ((show Tryz.prog.globalNamed "strings.asciiSpace" = some 0 by kernel_rfl).symm.trans hg)
  obtain rfl := Option.some.inj ((show (Tryz.prog.globals[0]?).map (·.type) = some 101 by kernel_rfl).symm.trans ht)
  unfold SpTab Lib.TabIs
  rw [hvar, ← Lib.cells_of_tab (n := 256) (e := 5) (k := .u8) Tryz.underlying101 Tryz.underlying5 (by kernel_rfl) (by kernel_rfl) hd]
theorem sp_is : Rows.laid_strings_asciiSpace = (Lib.tabData .u8 Lib.asciiSpaceTab : DataW Unit) := by kernel_rfl
theorem sp_of {W : World} {l : List (String × DataW Unit)} (hm : ("strings.asciiSpace", Rows.laid_strings_asciiSpace) ∈ l) (hb : laidMetH Tryz.prog l W = laidMet Tryz.prog l W) (hL : laidMetH Tryz.prog l W) : SpTab W := by
  rw [hb] at hL
  have h := Lib.laidMet.reads hL hm
  rw [sp_is] at h
  exact sp_reads h

/-- The row's last step, of a world of which 'Below' alone is known. -/
theorem post_below {P : Program} {H : Type} {enc : TypeId × Value → H} {f : Func} {s : ChangeSpec} {apart fresh handsOn again : Bool} {W W' : World} {args : Array Value} {v : Value} {ds gs : List (DataW H)} {before pa pv : List MemPlace}
    (hW : DataW.Whole enc P f.params.toList s.vars apart W args.toList ds gs before)
    (hres : ∀ (b : Nat) (sp : Nat → Bool) (hd : Bool), DataW.TrodAll enc P W' b sp hd f.resultTypes.toList (v.resultList f.resultTypes.size) (s.fn H (ds ++ gs)).results [])
    (hargs : ∀ sp : Nat → Bool, (∀ p ∈ before, sp p.block = true) → DataW.TrodAll enc P W' 0 sp true f.params.toList args.toList (s.fn H (ds ++ gs)).args pa)
    (hvars : ∀ sp : Nat → Bool, (∀ p ∈ before, sp p.block = true) → DataW.TrodVars enc P W' sp s.vars (s.fn H (ds ++ gs)).vars pv)
    (hps : before = pa ++ pv) (hb : Below W.heap.size W W')
    (hok : ∀ (j : Nat) (t : TypeId) (r : Value), f.resultTypes[j]? = some t → (v.resultList f.resultTypes.size)[j]? = some r → Value.okWide P W' .any 0 t r) :
    s.post enc P f apart fresh handsOn again W args v W' := by
  have hlt : ∀ p ∈ before, p.block < W.heap.size := fun p hp => hW.lt p hp
  have hold : ∀ p ∈ before, (fun b => decide (b < W.heap.size)) p.block = true := fun p hp => by simpa using hlt p hp
  refine ⟨ds, gs, before, [], pa, pv, hW, hres _ _ _, hargs _ hold, hvars _ hold, World.keptBut_mono (fun p hp => ⟨hp, ?_⟩) (hb.frame (· ∈ before)), fun _ => ?_⟩
  · rw [hps, List.mem_append] at hp
    exact Or.inr hp
  · obtain ⟨_, _, _, _, _, hz, hn⟩ := hW
    refine ⟨hok, _, _, ([] ++ pa) ++ pv, ⟨[] ++ pa, pv, trodAll_append (hargs _ (fun _ _ => rfl)) (hres _ _ _), hvars _ (fun _ _ => rfl), rfl, ?_, ?_⟩, ?_⟩
    · intro b off hp
      have hin : MemPlace.cell b off ∈ before := by rw [hps]; simpa using hp
      rw [hb.frozen (hlt _ hin)]
      exact hz b off hin
    · intro ha
      have := hn ha
      rw [hps] at this
      simpa using this
    · intro p hp _
      rw [hps]
      simpa using hp
end
end Go.Proofs.YtdkjenbncmedbaaGreatDoor
