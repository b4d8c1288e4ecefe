/- strings.NewReplacer at pairs of one byte and a text: the words, and the making of the Replacer. -/
import Derived.Test.YtdkjenbncmedbaaGreatDoorOnce
import Derived.Maps.AppendAt
import Derived.OwnWalk
import Derived.Lib.SliceRun
import Derived.Deep.RegionWith
import Derived.Deep.AppendLies
namespace Go.Proofs.YtdkjenbncmedbaaGreatDoor
open Go.RowKit

/-- What the pairs are as the arguments of NewReplacer. -/
def pairCells (ps : List (UInt8 × ByteArray)) : List Value := (ps.map fun p => [Value.string ⟨#[p.1]⟩, Value.string p.2]).flatten
theorem pairCells_len : ∀ ps : List (UInt8 × ByteArray), (pairCells ps).length = 2 * ps.length
  | [] => rfl
  | p :: ps => by
    have := pairCells_len ps
    unfold pairCells at this ⊢
    rw [List.map_cons, List.flatten_cons, List.length_append, this, List.length_cons]
    simp only [List.length_cons, List.length_nil]
    omega
theorem pairCells_one (ps : List (UInt8 × ByteArray)) : ∀ u ∈ pairCells ps, u.oneCell' = true := by
  intro u hu
  unfold pairCells at hu
  obtain ⟨l, hl, hu⟩ := List.mem_flatten.1 hu
  obtain ⟨p, _, rfl⟩ := List.mem_map.1 hl
  simp only [List.mem_cons, List.not_mem_nil, or_false] at hu
  rcases hu with rfl | rfl <;> rfl
theorem pairCells_at : ∀ (ps : List (UInt8 × ByteArray)) (i : Nat) (h : i < ps.length), (pairCells ps)[2 * i]? = some (.string ⟨#[ps[i].1]⟩) ∧ (pairCells ps)[2 * i + 1]? = some (.string ps[i].2)
  | p :: ps, 0, _ => ⟨rfl, rfl⟩
  | p :: ps, i + 1, h => by
    have := pairCells_at ps i (by simpa using h)
    have e : pairCells (p :: ps) = [Value.string ⟨#[p.1]⟩, Value.string p.2] ++ pairCells ps := rfl
    rw [e, List.getElem?_append_right (by simp; omega), List.getElem?_append_right (by simp; omega)]
    simp only [List.length_cons, List.length_nil, List.getElem_cons_succ]
    rw [show 2 * (i + 1) - (0 + 1 + 1) = 2 * i by omega, show 2 * (i + 1) + 1 - (0 + 1 + 1) = 2 * i + 1 by omega]
    exact this

theorem repl_string : (Tryz.prog.info? 9).map (fun i => (i.zero, i.size, i.bytes)) = some (some (.string ⟨#[]⟩), 1, 16) := by kernel_rfl

/-- A Replacer that has not been used: its block, and the row of the pairs. -/
def NewRepl (ps : List (UInt8 × ByteArray)) (w : World) (e : Ending) (w' : World) : Prop :=
  ∃ (R : Nat) (v : Value), e = .returned (.pointer (some ⟨R, 0, none⟩)) ∧ w.heap.size ≤ R ∧ Below w.heap.size w w' ∧
    w'.heap[R]? = some (.cells #[.int .u32 0, .int .i32 0, .int .u32 0, .nilIface, v] 155 (0, 0)) ∧ w'.ownsRow w.heap.size 9 1 v (2 * ps.length) (pairCells ps)

set_option maxHeartbeats 1000000 in
set_option maxRecDepth 100000 in
theorem newReplacer_any (ps : List (UInt8 × ByteArray)) (a : Addr) (m c : Nat) (w : World) (hm : m = 2 * ps.length) (h0 : 0 < ps.length) (hn : ps.length ≤ 1000) (hc : ∀ j u, (pairCells ps)[j]? = some u → w.cell? (a.add j) = some u) :
    Calls Tryz.prog 105 #[.slice (some a) m c] w (NewRepl ps w) := by
  obtain ⟨i0, hi, hz0, hz1, hz2⟩ := info_parts repl_string
  have hl : (pairCells ps).length = m * 1 := by rw [pairCells_len]; omega
  have HL := Lib.hid hl
  have HC := Lib.hid hc
  have HM := Lib.hid hm
  have hodd : (((m : Nat) : Int) % 2 == 1) = false := by rw [beq_eq_false_iff_ne]; omega
  have hmb : (m : Int) ≤ 2000 := by omega
  have hmp : (0 : Int) < (m : Int) := by omega
  have hmk : m ≤ 2000 := by omega
  clear hl hc hm
  go_enter Tryz.func105, Tryz.ntmps105
  go_wp2_with (at_builtin; refine wpList_append_own_at _ rfl _ _ 22 rfl w.heap.size 9 i0 _ 1 16 Tryz.underlying22 hi hz0 hz1 hz2 rfl (by decide) (.slice none 0 0) 0 [] rfl (World.ownsRow_nil w _ _ _) a m c (pairCells ps) rfl HL.out HC.out (pairCells_one ps) (by unfold maxLen; omega) (by omega) (Nat.le_refl _) ?_)
  intro v w1 hown hg _ hob
  obtain ⟨g, cap, rfl, hge, hgl⟩ := hown.form (by omega)
  have b1 : Below w.heap.size w w1 := (Below.refl _ w).grown hg (Nat.le_refl _) (by intro k hk; simp [Value.ownBlock] at hk)
  have HO := Lib.hid hown
  clear hown hob hg
  go_wp2
  go_ret
  refine ⟨w1.heap.size, _, rfl, b1.size, b1.alloc b1.size _, heap_alloc_new w1 _, ?_⟩
  have := HO.out.alloc (.cells #[.int .u32 0, .int .i32 0, .int .u32 0, .nilIface, .slice (some ⟨g, 0, none⟩) m cap] 155 (0, 0))
  rw [← HM.out]
  exact this
end Go.Proofs.YtdkjenbncmedbaaGreatDoor
