/- A law's arguments of types api.Policy and api.Attr, as data, are read. -/
import Derived.Test.YtdkjenbncmedbaaGreatDoorCheck
import Derived.Deep.Slices
import Derived.Deep.Strs
import Derived.Deep.Fields
import Derived.ChangeSame
import Derived.Lib.SmallJoins
namespace Go.Proofs.YtdkjenbncmedbaaGreatDoor
open Go.ChangeShapes Go.WideShapes Go.Deep Go.RowKit

section
variable {H : Type} {enc : TypeId × Value → H} {w : World} {base : Nat} {spare : Nat → Bool} {held : Bool}
theorem text_read {P : Program} {t : TypeId} {fuel : Nat} {u : Value} {y : DataW H × List MemPlace} (ht : P.underlying t = some .string) (h : DataW.trod enc P w base spare held fuel t [u] = some y) : ∃ s : ByteArray, u = .string s ∧ s.size ≤ maxLen := by
  obtain ⟨s, e, _, hw⟩ := DataW.trod_string ht h
  cases e
  exact ⟨s, rfl, hw⟩
theorem addr_plain {a : Addr} {v : Value} (h : w.cell? (a.add 0) = some v) : ∃ b off, a = ⟨b, off, none⟩ ∧ b < w.heap.size := by
  have hsp := World.cell?_spot h
  obtain ⟨b, off, spot⟩ := a
  have hspot : spot = none := by simpa [Addr.add] using hsp
  subst hspot
  have hb := lt_cell h
  rw [add_off] at hb
  exact ⟨b, off, rfl, hb⟩
theorem str_cells : Tryz.prog.cellsOf 9 = 1 := by kernel_rfl
theorem alw_cells : Tryz.prog.cellsOf 31 = 2 := by kernel_rfl
theorem sls_read {fuel : Nat} {u : Value} {x : DataW H × List MemPlace} (h : DataW.trod enc Tryz.prog w base spare held fuel 22 [u] = some x) : ∃ l, SlS w u l ∧ l.length ≤ 9223372036854775807 ∧ ∀ y ∈ l, y.size ≤ maxLen := by
  rcases open_strs Tryz.underlying22 Tryz.underlying9 str_cells h with ⟨hcs, _⟩ | ⟨a, len, cap, m, Sx, hcs, _, hl, hm, hmm, _, hc⟩
  · cases hcs
    exact ⟨[], ⟨_, _, rfl, Nat.le_refl _, rfl, fun h => absurd h (Nat.lt_irrefl 0)⟩, by simp, by simp⟩
  · cases hcs
    have hlm : len ≤ m := by rw [hmm]; split <;> omega
    have hln : ((List.range len).map Sx).length = len := by simp
    refine ⟨(List.range len).map Sx, ?_, by rw [hln]; unfold maxLen at hm; omega, ?_⟩
    · unfold SlS
      rw [hln]
      refine ⟨_, _, rfl, hl, by simp, fun h0 => ?_⟩
      obtain ⟨b, off, rfl, hb⟩ := addr_plain (hc 0 (by omega)).1
      refine ⟨b, off, rfl, hb, fun j v hj => ?_⟩
      have hjl : j < len := by
        have := (List.getElem?_eq_some_iff.1 hj).1
        simpa using this
      have := (hc j (by omega)).1
      rw [add_off] at this
      rw [this]
      simpa [hjl] using hj
    · intro y hy
      obtain ⟨i, hi, rfl⟩ := List.mem_map.1 hy
      exact (hc i (by have := List.mem_range.1 hi; omega)).2
theorem flat_at (l : Prs) (j : Nat) (v : Value) (h : (l.map pairCs).flatten[j]? = some v) : ∃ (k : Nat) (hk : k < l.length), (j = k * 2 ∧ v = .string l[k].1) ∨ (j = k * 2 + 1 ∧ v = .string l[k].2) := by
  have hjl := (List.getElem?_eq_some_iff.1 h).1
  rw [pairCs_len] at hjl
  have hk : j / 2 < l.length := by omega
  obtain ⟨h1, h2⟩ := pair_at l (j / 2) hk
  refine ⟨j / 2, hk, ?_⟩
  rcases Nat.mod_two_eq_zero_or_one j with h0 | h0
  · left
    refine ⟨by omega, ?_⟩
    rw [show j / 2 * 2 = j by omega, h] at h1
    exact Option.some.inj h1
  · right
    refine ⟨by omega, ?_⟩
    rw [show j / 2 * 2 + 1 = j by omega, h] at h2
    exact Option.some.inj h2
set_option maxRecDepth 100000 in
theorem sla_read {fuel : Nat} {u : Value} {x : DataW H × List MemPlace} (h : DataW.trod enc Tryz.prog w base spare held fuel 23 [u] = some x) : ∃ l, SlA w u l ∧ l.length ≤ 9223372036854775807 ∧ ∀ y ∈ l, y.1.size ≤ maxLen ∧ y.2.size ≤ maxLen := by
  rcases open_slice Tryz.underlying23 h with ⟨hcs, _⟩ | ⟨a, len, cap, m, n, D, Pl, hcs, _, hl, hm, hmm, _, hi⟩
  · cases hcs
    exact ⟨[], ⟨_, _, rfl, Nat.le_refl _, rfl, fun h => absurd h (Nat.lt_irrefl 0)⟩, by simp, by simp⟩
  · cases hcs
    rw [alw_cells] at hi
    have hlm : len ≤ m := by rw [hmm]; split <;> omega
    have each : ∀ i, i < len → ∃ x : ByteArray × ByteArray, w.cell? (a.add (i * 2)) = some (.string x.1) ∧ w.cell? ((a.add (i * 2)).add 1) = some (.string x.2) ∧ x.1.size ≤ maxLen ∧ x.2.size ≤ maxLen := fun i hil => by
      obtain ⟨vs, hc, hd⟩ := hi i (by omega)
      obtain ⟨_, hlen, hat⟩ := World.cells?_some hc
      obtain ⟨y0, y1, n', _, _, h0, h1⟩ := trod_struct2 Tryz.underlying31 hd
      match vs, hlen with
      | [a0, a1], _ =>
        obtain ⟨s0, rfl, z0⟩ := text_read Tryz.underlying9 (show DataW.trod enc Tryz.prog w base spare held n' 9 [a0] = some y0 from h0)
        obtain ⟨s1, rfl, z1⟩ := text_read Tryz.underlying9 (show DataW.trod enc Tryz.prog w base spare held n' 9 [a1] = some y1 from h1)
        have g0 := hat 0 (by omega)
        rw [show (a.add (i * 2)).add 0 = a.add (i * 2) by simp [Addr.add]] at g0
        exact ⟨(s0, s1), g0, hat 1 (by omega), z0, z1⟩
    obtain ⟨F, hF⟩ := choose_lt each
    have hln : ((List.range len).map F).length = len := by simp
    refine ⟨(List.range len).map F, ?_, by rw [hln]; unfold maxLen at hm; omega, ?_⟩
    · unfold SlA
      rw [hln]
      refine ⟨_, _, rfl, hl, by rw [pairCs_len, hln], fun h0 => ?_⟩
      obtain ⟨b, off, rfl, hb⟩ := addr_plain (by simpa using (hF 0 (by omega)).1)
      refine ⟨b, off, rfl, hb, fun j v hj => ?_⟩
      obtain ⟨k, hk, h⟩ := flat_at _ _ _ hj
      have hkl : k < len := by rw [hln] at hk; exact hk
      obtain ⟨g0, g1, _, _⟩ := hF k hkl
      rw [add_off] at g0
      rw [add_off, add_off] at g1
      rcases h with ⟨rfl, rfl⟩ | ⟨rfl, rfl⟩
      · rw [g0]; simp
      · rw [← Nat.add_assoc, g1]; simp
    · intro y hy
      obtain ⟨i, hi, rfl⟩ := List.mem_map.1 hy
      exact (hF i (List.mem_range.1 hi)).2.2
set_option maxRecDepth 100000 in
theorem policy_read {r : Reach} {b0 : Nat} {v : Value} {d : DataW H} {p : List MemPlace} (hv : Value.okWide Tryz.prog w r b0 25 v) (h : DataW.Trod enc Tryz.prog w base spare held 25 v d p) : ∃ E A S, PolAt w v E A S := by
  obtain ⟨c0, c1, c2, y0, y1, y2, m, rfl, _, _, h0, h1, h2⟩ := Joins.open_agg3 Tryz.underlying25 (by kernel_rfl) (by kernel_rfl) hv h
  obtain ⟨E, hE, lE, sE⟩ := sls_read h0
  obtain ⟨A, hA, lA, sA⟩ := sla_read h1
  obtain ⟨S, hS, lS, sS⟩ := sls_read h2
  exact ⟨E, A, S, ⟨_, _, _, rfl, hE, hA, hS⟩, lE, lA, lS, sE, sA, sS⟩
set_option maxRecDepth 100000 in
theorem attr_read {r : Reach} {b0 : Nat} {v : Value} {d : DataW H} {p : List MemPlace} (hv : Value.okWide Tryz.prog w r b0 27 v) (h : DataW.Trod enc Tryz.prog w base spare held 27 v d p) : ∃ nm val : ByteArray, v = .agg #[.string nm, .string val] ∧ nm.size ≤ 9223372036854775807 ∧ val.size ≤ 9223372036854775807 := by
  obtain ⟨c0, c1, y0, y1, m, rfl, _, _, h0, h1⟩ := Joins.open_agg2 Tryz.underlying27 (by kernel_rfl) (by kernel_rfl) hv h
  obtain ⟨s0, rfl, z0⟩ := text_read Tryz.underlying9 h0
  obtain ⟨s1, rfl, z1⟩ := text_read Tryz.underlying9 h1
  unfold maxLen at z0 z1
  exact ⟨s0, s1, rfl, by omega, by omega⟩
theorem u8_read {k : Int} (h : (Lit.int .u8 k).wf = true) : ∃ c : UInt8, k = (c.toNat : Int) := by
  simp only [Lit.wf, Bool.and_eq_true, decide_eq_true_eq] at h
  have h0 : IntKind.u8.min = 0 := by decide
  have h1 : IntKind.u8.max = 255 := by decide
  rw [h0, h1] at h
  refine ⟨UInt8.ofNat k.toNat, ?_⟩
  rw [UInt8.toNat_ofNat']
  omega
theorem rule_laid : laidOutB Tryz.prog = true := by kernel_rfl
theorem pol_readable : Tryz.prog.readableRec 25 = true := by kernel_rfl
set_option maxRecDepth 100000 in
theorem attr_readable : Tryz.prog.readableRec 27 = true := by kernel_rfl
end
end Go.Proofs.YtdkjenbncmedbaaGreatDoor
