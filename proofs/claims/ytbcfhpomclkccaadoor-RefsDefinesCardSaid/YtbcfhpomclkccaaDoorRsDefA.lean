/- refs.Define. -/
import Derived.Test.YtbcfhpomclkccaaDoorRsNorm
import Derived.Test.YtbcfhpomclkccaaDoorRsDstB
import Derived.Test.YtbcfhpomclkccaaDoorRsTi
import Derived.Laws.ResultCell
import Derived.Laws.Rows
import Derived.Lib.SlBytesConst
namespace Go.Proofs.YtbcfhpomclkccaaDoor
open Go.RowKit

/-- The label at the front, as it is looked for. -/
def defLab (s : ByteArray) : ByteArray := ⟨(normL (labelS s 0).data.toList).toArray⟩
/-- What stands behind a destination: a title and where it ends. -/
def defTail (s : ByteArray) (e : Nat) : Option (ByteArray × Nat) :=
  match (if e < gapN s.data.toList e ∧ (titleV s (gapN s.data.toList e)).2.2 = true then lineN s.data.toList (titleV s (gapN s.data.toList e)).2.1 else none) with
  | some n => some ((titleV s (gapN s.data.toList e)).1, n)
  | none => (lineN s.data.toList e).map fun n => (⟨#[]⟩, n)
/-- A definition: label, destination, title, how many bytes. -/
def defN (s : ByteArray) : Option (ByteArray × ByteArray × ByteArray × Nat) :=
  if s.data.toList[labelE s.data.toList 0]? = some 58 ∧ labelE s.data.toList 0 ≠ 0 ∧ (destV s (gapN s.data.toList (labelE s.data.toList 0 + 1))).2.2 = true ∧ (defLab s).data.toList ≠ [] then
    (defTail s (destV s (gapN s.data.toList (labelE s.data.toList 0 + 1))).2.1).map fun x => (defLab s, (destV s (gapN s.data.toList (labelE s.data.toList 0 + 1))).1, x.1, x.2)
  else none
def defV (s : ByteArray) : ByteArray × ByteArray × ByteArray × Nat := (defN s).getD (⟨#[]⟩, ⟨#[]⟩, ⟨#[]⟩, 0)
def DefR (w : World) (x : ByteArray × ByteArray × ByteArray × Nat) (e : Ending) (w' : World) : Prop := e = .returned (.tuple #[.agg #[.string x.1, .string x.2.1, .string x.2.2.1], .int .i64 (x.2.2.2 : Nat)]) ∧ Below w.heap.size w w'
def Row3 (w : World) (b : Nat) (x y z : ByteArray) : Prop := w.heap[b]? = some (.cells #[.string x, .string y, .string z] 28 (0, 0))
theorem Row3.later {w w' : World} {b : Nat} {x y z : ByteArray} (h : Row3 w b x y z) (hb : Below w.heap.size w w') : Row3 w' b x y z := (hb.block b (Array.getElem?_eq_some_iff.1 h).1).trans h
theorem Row3.lt {w : World} {b : Nat} {x y z : ByteArray} (h : Row3 w b x y z) : b < w.heap.size := (Array.getElem?_eq_some_iff.1 h).1
theorem ref_end (w w2 : World) (p q r x y z : ByteArray) (hb : Below w.heap.size w w2) (h : Row3 w2 w.heap.size p q r) :
    Row3 (((w2.setCell ⟨w.heap.size, 0, none⟩ (.string x)).setCell ⟨w.heap.size, 1, none⟩ (.string y)).setCell ⟨w.heap.size, 2, none⟩ (.string z)) w.heap.size x y z ∧ Below w.heap.size w (((w2.setCell ⟨w.heap.size, 0, none⟩ (.string x)).setCell ⟨w.heap.size, 1, none⟩ (.string y)).setCell ⟨w.heap.size, 2, none⟩ (.string z)) := by
  have h1 := Joins.block_setCell (show w2.heap[w.heap.size]? = _ from h) (i := 0) (.string x)
  have h2 := Joins.block_setCell h1 (i := 1) (.string y)
  have h3 := Joins.block_setCell h2 (i := 2) (.string z)
  exact ⟨by simpa [Row3] using h3, ((hb.setCell (p := ⟨w.heap.size, 0, none⟩) (Nat.le_refl _) _).setCell (p := ⟨w.heap.size, 1, none⟩) (Nat.le_refl _) _).setCell (p := ⟨w.heap.size, 2, none⟩) (Nat.le_refl _) _⟩
theorem results_row_tmp {P : Program} {fn : Func} {p u : Tmp} {ty : TypeId} (h : fn.results = #[.cell p ty, .tmp u]) (tmps : Array Value) (w : World) (g : Nat) (t : TypeId) (cs : Array Value) (fr : Nat × Nat) (d : TypeDesc)
    (hp : tmps.getD p undef = .pointer (some ⟨g, 0, none⟩)) (hg : w.heap[g]? = some (.cells cs t fr))
    (hu : P.underlying ty = some d) (hd : (match d with | .struct _ | .array _ _ => true | _ => false) = true) (hi : (P.info? ty).map (·.size) = some cs.size) :
    (results fn tmps).run P w = .ok (.tuple #[.agg cs, tmps.getD u undef]) w := by
  rw [results_cell_tmp h, hp]
  simp [asAddr, run_loadVar_row w g t ty cs fr d hg hu hd hi, Result.andThen]
theorem labelE_in (l : List UInt8) (i : Nat) (_ : i ≤ l.length) : labelE l i ≤ l.length := by
  unfold labelE
  split
  · rename_i j hj
    unfold labelN at hj
    split at hj
    · split at hj
      · rename_i h1
        have := upF_true l 93 noBr l.length (i + 1) (by simp at h1; exact h1.1.1)
        cases hj
        omega
      · cases hj
    · cases hj
  · omega
theorem labelS_len (s : ByteArray) (i : Nat) : (labelS s i).size ≤ 999 := by
  unfold labelS
  split
  · rename_i j hj
    unfold labelN at hj
    split at hj
    · split at hj
      · rename_i h1
        simp at h1
        cases hj
        rw [ByteArray.size_extract, show s.data.toList.length = s.size from Array.length_toList]
        omega
      · cases hj
    · cases hj
  · decide
theorem destN_in (l : List UInt8) (i a b e : Nat) (h : destN l i = some (a, b, e)) : e ≤ l.length := by
  unfold destN at h
  split at h
  · split at h
    · rename_i h1
      have := upF_true l 62 noNlLt l.length (i + 1) h1
      cases h
      omega
    · cases h
  · split at h
    · rename_i j hj
      split at h
      · cases h
      · rename_i hji
        cases h
        have : ∀ (f i o : Nat) (x : Nat × Nat), bareF l f i o = some x → x.1 ≤ l.length ∨ x.1 = i := by
          intro f
          induction f with
          | zero => intro i o x h; unfold bareF at h; cases h; exact .inr rfl
          | succ f ih =>
            intro i o x h
            unfold bareF at h
            cases hg : l[i]? with
            | none => rw [hg] at h; cases h; exact .inr rfl
            | some b =>
              rw [hg] at h
              simp only at h
              have hlt := (List.getElem?_eq_some_iff.1 hg).1
              have hs := stepL_le l i hlt
              repeat' split at h
              all_goals first
                | (cases h; exact .inl (by simp only; omega))
                | (cases h; done)
                | (rcases ih _ _ _ h with h | h
                   · exact .inl h
                   · exact .inl (by omega))
        rcases this _ _ _ _ hj with h | h
        · exact h
        · exact absurd h hji
    · cases h
theorem destV_in (s : ByteArray) (i : Nat) (h : (destV s i).2.2 = true) : (destV s i).2.1 ≤ s.size := by
  unfold destV at h ⊢
  cases hd : destN s.data.toList i with
  | none => rw [hd] at h; cases h
  | some x => have := destN_in _ _ _ _ _ hd; simpa using this
theorem titleV_in (s : ByteArray) (i : Nat) (h : (titleV s i).2.2 = true) : (titleV s i).2.1 ≤ s.size := by
  unfold titleV at h ⊢
  cases hd : titleN s.data.toList i with
  | none => rw [hd] at h; cases h
  | some x =>
    unfold titleN at hd
    split at hd
    · cases hd
    · split at hd
      · cases hd
      · split at hd
        · rename_i h1
          have := upF_true _ _ _ _ _ h1
          cases hd
          have hl : s.data.toList.length = s.size := Array.length_toList
          simp only
          omega
        · cases hd
theorem dest_any (s : ByteArray) (i : Nat) (w : World) (hs : s.size < 4294967281) (hi : i ≤ s.size) : Calls Tryd.prog 23 #[.string s, .int .i64 (i : Int)] w (SIB w (destV s i)) := by
  by_cases h : s.size ≤ i
  · have hg : s.data.toList[i]? = none := get_none s i (by omega)
    have hv : destV s i = (⟨#[]⟩, i, false) := by
      unfold destV destN
      rw [hg, if_neg (by decide)]
      have : bareF s.data.toList s.data.toList.length i 0 = some (i, 0) := by
        cases s.data.toList.length with
        | zero => rfl
        | succ f => rw [bareF, hg]
      rw [this]
      simp
    rw [hv]
    exact dest_out s i w hs (by omega) h
  · cases h60 : (s.data.toList[i]? == some 60) with
    | true => exact dest_br s i w hs (by simpa using h60)
    | false =>
      rw [bareV_eq s i h60]
      exact dest_bare s i w hs (by omega) h60
end Go.Proofs.YtbcfhpomclkccaaDoor
