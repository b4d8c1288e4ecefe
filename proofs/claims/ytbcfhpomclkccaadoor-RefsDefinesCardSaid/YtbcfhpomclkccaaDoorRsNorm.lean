/- refs.Norm. -/
import Derived.Test.YtbcfhpomclkccaaDoorRsSq
import Derived.Laws.OwnMore
namespace Go.Proofs.YtbcfhpomclkccaaDoor
open Go.RowKit Go.Lib

/-- A label as it is looked for. -/
def normL (l : List UInt8) : List UInt8 := foldL (sqL l)
set_option maxRecDepth 100000 in
theorem ws_pred (w : World) : PredAtRunes Tryd.prog 20 #[] wsN w := by
  intro W x hx _
  obtain ⟨a, ha⟩ : ∃ a, ((x : Int) == 32) = a := ⟨_, rfl⟩
  obtain ⟨b, hb⟩ : ∃ b, ((x : Int) == 9) = b := ⟨_, rfl⟩
  obtain ⟨c, hc⟩ : ∃ c, ((x : Int) == 10) = c := ⟨_, rfl⟩
  have e : ∀ n : Nat, ((x : Int) == (n : Int)) = (x == n) := fun n => by rw [Bool.eq_iff_iff, beq_iff_eq, beq_iff_eq]; omega
  have hv : wsN x = (a || b || c) := by unfold wsN; rw [← ha, ← hb, ← hc]; rw [show ((x : Int) == 32) = (x == 32) from e 32, show ((x : Int) == 9) = (x == 9) from e 9, show ((x : Int) == 10) = (x == 10) from e 10]
  have key : Calls Tryd.prog 20 #[.int .i32 (x : Int)] W fun e w' => e = .returned (.bool (wsN x)) ∧ W = w' := by
    rw [hv]
    clear hv e
    cases a
    · cases b
      · go_enter Tryd.func20, Tryd.ntmps20
        go_wp2
        go_ret
        exact ⟨rfl, rfl⟩
      · go_enter Tryd.func20, Tryd.ntmps20
        go_wp2
        go_ret
        exact ⟨rfl, rfl⟩
    · go_enter Tryd.func20, Tryd.ntmps20
      go_wp2
      go_ret
      exact ⟨rfl, rfl⟩
  exact key.mono fun e w' ⟨h1, h2⟩ => ⟨h1, 0, h2.symm⟩
set_option maxHeartbeats 2000000 in
set_option maxRecDepth 100000 in
theorem norm_any (s : ByteArray) (w : World) (hs : s.size ≤ 900000) : Calls Tryd.prog 8 #[.string s] w (FoldR w (normL s.data.toList)) := by
  have HF := Lib.hid (Tryd.strings_FieldsFunc_runes 20 #[] (enters_of Tryd.func20 (by kernel_rfl) rfl) wsN s w (by omega) (ws_pred w))
  have hle := fields_le s
  have hsq := fields_sq s
  obtain ⟨xs, hxs⟩ : ∃ xs, Lib.goFieldsP wsN s = xs := ⟨_, rfl⟩
  rw [hxs] at HF hle hsq
  obtain ⟨L, hL⟩ : ∃ L, normL s.data.toList = L := ⟨_, rfl⟩
  have hjl := joinL_len xs
  have HL := Lib.hid (show foldL (joinL xs) = L by rw [hsq]; exact hL)
  have HJL := Lib.hid hjl
  rw [hL]
  clear hxs hsq hL hjl
  go_enter Tryd.func8, Tryd.ntmps8
  go_wp2_with fail
  refine Calls.mono HF.out ?_
  rintro e w1 ⟨A, rfl, hA, hown, hb1⟩
  have hcells : ∀ (j : Nat) x, xs[j]? = some x → w1.cell? ⟨A, j, none⟩ = some (.string x) := by
    intro j x hx
    have hj : j < xs.length := (List.getElem?_eq_some_iff.1 hx).1
    rw [hown.cellAt j (by omega), List.getElem?_map, hx]
    rfl
  have hAl : A < w1.heap.size := by
    rcases hown.2 with ⟨h, _⟩ | ⟨g, cap, cur, h, _, hg, _⟩
    · cases h
    · cases h
      exact (Array.getElem?_eq_some_iff.1 hg).1
  have HJ := Lib.hid (join_any xs A xs.length w1 (by omega) (by omega) (Nat.le_refl _) (by omega) hAl hcells)
  have HB1 := Lib.hid hb1
  clear hown hcells hb1
  go_wp2_with fail
  refine Calls.mono HJ.out ?_
  rintro e w2 ⟨rfl, b2⟩
  have HB2 := Lib.hid (below_on HB1.out b2)
  have HFo := Lib.hid (fold_any ⟨(joinL xs).toArray⟩ w2 (by show (joinL xs).toArray.size ≤ _; have := HJL.out; simp; omega))
  rw [show (⟨(joinL xs).toArray⟩ : ByteArray).data.toList = joinL xs from rfl, HL.out] at HFo
  clear b2
  go_wp2_with fail
  refine Calls.mono HFo.out ?_
  rintro e w3 ⟨rfl, b3⟩
  have HB3 := Lib.hid (below_on HB2.out b3)
  clear b3
  go_wp2
  go_ret
  exact ⟨rfl, HB3.out⟩
end Go.Proofs.YtbcfhpomclkccaaDoor
