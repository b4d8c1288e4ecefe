/- strings.NewReplacer(..).Replace(s) at pairs of one byte and a text that is not one byte. -/
import Derived.Test.YtdkjenbncmedbaaGreatDoorRepl4
namespace Go.Proofs.YtdkjenbncmedbaaGreatDoor
open Go.RowKit

/-- What is asked of the pairs. -/
structure Pairs (ps : List (UInt8 × ByteArray)) : Prop where
  pos : 0 < ps.length
  few : ps.length ≤ 100
  small : ∀ p ∈ ps, p.2.size ≤ 8
  notOne : ∀ p ∈ ps, p.2.size ≠ 1
  nodup : (ps.map (·.1)).Nodup

/-- What buildOnce leaves. -/
def BuiltK (lo R : Nat) (ps : List (UInt8 × ByteArray)) (w : World) (w' : World) : Prop :=
  ∃ (B l2 : Nat), B ≠ R ∧ w'.heap[R]? = some (.cells #[.int .u32 0, .int .i32 1, .int .u32 0, .iface 191 (.pointer (some ⟨B, 0, none⟩)), .slice none 0 0] 155 (0, 0)) ∧ BSR l2 B ps w' ∧ Below lo w w'

theorem bsr_set {lo B R i : Nat} {ps : List (UInt8 × ByteArray)} {w : World} {cs : Array Value} {u : Value} (h : BSR lo B ps w) (hR : w.heap[R]? = some (.cells cs 155 (0, 0))) : BSR lo B ps (w.setCell ⟨R, i, none⟩ u) := by
  obtain ⟨c, v, hb, hv, ht, ho⟩ := h
  have hne : B ≠ R := by
    rintro rfl
    rw [hR] at hb
    injection hb with hb
    injection hb with _ hb
    cases hb
  refine ⟨c, v, (Below.heap_setCell _ _ _ _ hne).trans hb, hv, ?_, own_set_other ho (p := ⟨R, i, none⟩) (own_ne_block ho hR (by decide)) u⟩
  intro x
  obtain ⟨t1, t2⟩ := ht x
  refine ⟨t1, fun s hs => ?_⟩
  obtain ⟨gg, cc, C, fr, q1, q2, q3, q4⟩ := t2 s hs
  refine ⟨gg, cc, C, fr, q1, q2, ?_, q4⟩
  refine (Below.heap_setCell _ _ _ _ ?_).trans q3
  rintro rfl
  rw [hR] at q3
  injection q3 with q3
  injection q3 with _ q3
  cases q3

set_option maxHeartbeats 1000000 in
set_option maxRecDepth 100000 in
theorem buildOnce_any (ps : List (UInt8 × ByteArray)) (hps : Pairs ps) (lo R : Nat) (v : Value) (w : World) (hlo : lo ≤ R) (hlw : lo ≤ w.heap.size)
    (hR : w.heap[R]? = some (.cells #[.int .u32 0, .int .i32 1, .int .u32 0, .nilIface, v] 155 (0, 0))) (hown : w.ownsRow lo 9 1 v (2 * ps.length) (pairCells ps)) :
    Calls Tryz.prog 128 #[.pointer (some ⟨R, 0, none⟩)] w fun e w' => e = .returned (.tuple #[]) ∧ BuiltK lo R ps w w' := by
  have hp := hps.pos
  obtain ⟨g, cap, rfl, hge, hgl⟩ := hown.form (by omega)
  have c4 : w.cell? ⟨R, 4, none⟩ = some (.slice (some ⟨g, 0, none⟩) (2 * ps.length) cap) := by rw [cell_of_row w R 4 _ _ (0, 0) hR]; rfl
  have hcells : ∀ j u, (pairCells ps)[j]? = some u → w.cell? ⟨g, j, none⟩ = some u := by
    intro j u hu
    have hj := (List.getElem?_eq_some_iff.1 hu).1
    rw [pairCells_len] at hj
    rw [hown.cellAt j (by omega)]
    exact hu
  have hbuild := build_any ps R g (2 * ps.length) cap w rfl hp (by have := hps.few; omega) hps.notOne hps.nodup hgl c4 hcells
  have HBU := Lib.hid hbuild
  have HR := Lib.hid hR
  have hRl := lt_of_block hR
  clear hbuild hcells c4 hown hR
  go_enter Tryz.func128, Tryz.ntmps128
  go_wp2_with fail
  refine Calls.mono HBU.out ?_
  rintro e w1 ⟨B, hBw, rfl, hbsr, hb1⟩
  have hR1 : w1.heap[R]? = some (.cells #[.int .u32 0, .int .i32 1, .int .u32 0, .nilIface, .slice (some ⟨g, 0, none⟩) (2 * ps.length) cap] 155 (0, 0)) := (hb1.block R hRl).trans HR.out
  have hR2 := set_block hR1 3 (.iface 191 (.pointer (some ⟨B, 0, none⟩)))
  have hR3 := set_block hR2 4 (.slice none 0 0)
  have d1 : w1.cell? ⟨R, 3, none⟩ = some .nilIface := by rw [cell_of_row w1 R 3 _ _ (0, 0) hR1]; rfl
  have d2 : w1.frozen? ⟨R, 3, none⟩ = false := by simp [World.frozen?, hR1]
  have d3 : (w1.setCell ⟨R, 3, none⟩ (.iface 191 (.pointer (some ⟨B, 0, none⟩)))).cell? ⟨R, 4, none⟩ = some (.slice (some ⟨g, 0, none⟩) (2 * ps.length) cap) := by rw [cell_of_row _ R 4 _ _ (0, 0) hR2]; rfl
  have d4 : (w1.setCell ⟨R, 3, none⟩ (.iface 191 (.pointer (some ⟨B, 0, none⟩)))).frozen? ⟨R, 4, none⟩ = false := by simp [World.frozen?, hR2]
  have HR1 := Lib.hid hR1
  have HR2 := Lib.hid hR2
  have HR3 := Lib.hid hR3
  have HBS := Lib.hid hbsr
  have HB1 := Lib.hid hb1
  clear hR1 hR2 hR3 hbsr hb1
  go_wp2
  go_end0
  refine ⟨rfl, B, _, by omega, HR3.out, bsr_set (bsr_set HBS.out HR1.out) HR2.out, ?_⟩
  exact ((HB1.out.mono hlw).setCell (p := ⟨R, 3, none⟩) hlo _).setCell (p := ⟨R, 4, none⟩) hlo _

set_option maxHeartbeats 1000000 in
set_option maxRecDepth 100000 in
theorem replacer_any (ps : List (UInt8 × ByteArray)) (hps : Pairs ps) (lo R : Nat) (v : Value) (s : ByteArray) (w : World) (hs : s.size ≤ 1099511627776) (hlo : lo ≤ R) (hlw : lo ≤ w.heap.size)
    (hR : w.heap[R]? = some (.cells #[.int .u32 0, .int .i32 0, .int .u32 0, .nilIface, v] 155 (0, 0))) (hown : w.ownsRow lo 9 1 v (2 * ps.length) (pairCells ps)) :
    Calls Tryz.prog 106 #[.pointer (some ⟨R, 0, none⟩), .string s] w fun e w' => e = .returned (.string ⟨(repl ps s.data.toList).toArray⟩) ∧ Below lo w w' := by
  have hR1 : (w.setCell ⟨R, 1, none⟩ (.int .i32 1)).heap[R]? = some (.cells #[.int .u32 0, .int .i32 1, .int .u32 0, .nilIface, v] 155 (0, 0)) := set_block hR 1 (.int .i32 1)
  have hsz : (w.setCell ⟨R, 1, none⟩ (.int .i32 1)).heap.size = w.heap.size := by simp [World.setCell]
  have hbo := buildOnce_any ps hps lo R v (w.setCell ⟨R, 1, none⟩ (.int .i32 1)) hlo (by rw [hsz]; exact hlw) hR1 (own_set_other hown (p := ⟨R, 1, none⟩) (own_ne_block hown hR (by decide)) _)
  have hdo := do_fresh R 0 128 #[.pointer (some ⟨R, 0, none⟩)] (BuiltK lo R ps (w.setCell ⟨R, 1, none⟩ (.int .i32 1))) w
    (by rw [cell_of_row w R 0 _ _ (0, 0) hR]; rfl) (by rw [cell_of_row w R (0 + 1) _ _ (0, 0) hR]; rfl) (by simp [World.frozen?, hR]) (by simp [World.frozen?, hR])
    (enters_of Tryz.func128 (by kernel_rfl) rfl) hbo (by
      rintro w' ⟨B, l2, hne, h3, _, _⟩
      exact ⟨by rw [cell_of_row w' R 0 _ _ (0, 0) h3]; rfl, by rw [cell_of_row w' R (0 + 1) _ _ (0, 0) h3]; rfl, by simp [World.frozen?, h3], by simp [World.frozen?, h3]⟩)
  have HDO := Lib.hid hdo
  have hbw : Below lo w (w.setCell ⟨R, 1, none⟩ (.int .i32 1)) := (Below.refl lo w).setCell (p := ⟨R, 1, none⟩) hlo _
  clear hdo hbo hR1 hsz hown hR
  go_enter Tryz.func106, Tryz.ntmps106
  go_wp2_with fail
  refine Calls.mono HDO.out ?_
  rintro e W2 ⟨w1, ⟨B, l2, hne, h3, h4, h5⟩, rfl, hW2⟩
  have k1 : w1.drew.heap[R]? = some (.cells #[.int .u32 0, .int .i32 1, .int .u32 0, .iface 191 (.pointer (some ⟨B, 0, none⟩)), .slice none 0 0] 155 (0, 0)) := h3
  have k2 := set_block k1 0 (.int .u32 1)
  have k3 := set_block k2 1 (.int .i32 0)
  have k4 : BSR l2 B ps w1.drew := h4
  have k5 : BSR l2 B ps W2 := by rw [hW2]; exact bsr_set (i := 1) (bsr_set (i := 0) k4 k1) k2
  have k6 : Below lo w W2 := by
    rw [hW2]
    exact ((((hbw.trans h5).drew).setCell (p := ⟨R, 0, none⟩) hlo _).setCell (p := ⟨R, 0 + 1, none⟩) hlo _)
  have k7 : W2.cell? ⟨R, 3, none⟩ = some (.iface 191 (.pointer (some ⟨B, 0, none⟩))) := by
    rw [hW2, cell_of_row _ R 3 _ _ (0, 0) k3]
    rfl
  have K5 := Lib.hid k5
  have K6 := Lib.hid k6
  clear hW2 h3 h4 h5 k1 k2 k3 k4 k5 k6 hbw
  have hme : ∀ W : World, (method 351 191 (.pointer (some ⟨B, 0, none⟩)) "Replace").run Tryz.prog W = .ok (207, .pointer (some ⟨B, 0, none⟩)) W := fun W => by kernel_rfl
  go_wp2_with fail
  refine Calls.mono (replace_any ps l2 B s W2 hps.pos hps.few hps.small hps.nodup hs K5.out) ?_
  rintro e W3 ⟨rfl, b3⟩
  have K7 := Lib.hid (K6.out.trans (b3.mono (Nat.le_trans hlw K6.out.size)))
  clear b3
  go_wp2
  go_ret
  exact ⟨rfl, K7.out⟩

/-- The two calls in one: what a text is when it has been replaced. -/
theorem repl_use (ps : List (UInt8 × ByteArray)) (hps : Pairs ps) (s : ByteArray) (w : World) (hs : s.size ≤ 1099511627776) {e : Ending} {w' : World} (h : NewRepl ps w e w') :
    ∃ R, e = .returned (.pointer (some ⟨R, 0, none⟩)) ∧ Below w.heap.size w w' ∧ Calls Tryz.prog 106 #[.pointer (some ⟨R, 0, none⟩), .string s] w' fun e w'' => e = .returned (.string ⟨(repl ps s.data.toList).toArray⟩) ∧ Below w.heap.size w w'' := by
  obtain ⟨R, v, rfl, h1, h2, h3, h4⟩ := h
  exact ⟨R, rfl, h2, (replacer_any ps hps w.heap.size R v s w' hs h1 h2.size h3 h4).mono fun _ _ ⟨he, hb⟩ => ⟨he, h2.trans hb⟩⟩
end Go.Proofs.YtdkjenbncmedbaaGreatDoor
