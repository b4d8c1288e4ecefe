/- The reference's drops, within, may. -/
import Derived.Test.YtdkjenbncmedbaaGreatDoorRfIn
import Derived.Test.YtdkjenbncmedbaaGreatDoorKnown20
import Derived.Deep.RegionHeld3
namespace Go.Proofs.YtdkjenbncmedbaaGreatDoor
open Go.RowKit

theorem below_five {w w' : World} (h : Below w.heap.size w w') {n : Nat} (hn : w.heap.size ≤ n) {a b c d e : Value} : Below w.heap.size w (((((w'.setCell ⟨n, 0, none⟩ a).setCell ⟨n, 1, none⟩ b).setCell ⟨n, 2, none⟩ c).setCell ⟨n, 3, none⟩ d).setCell ⟨n, 4, none⟩ e) :=
  ((((h.setCell (p := ⟨n, 0, none⟩) hn _).setCell (p := ⟨n, 1, none⟩) hn _).setCell (p := ⟨n, 2, none⟩) hn _).setCell (p := ⟨n, 3, none⟩) hn _).setCell (p := ⟨n, 4, none⟩) hn _
theorem below_alloc {w w' : World} (h : Below w.heap.size w w') (o : Obj) : Below w.heap.size w (w'.alloc o) := h.alloc h.size o
def Pl.rv (x : Pl) : Value := .agg #[.bool x.para, .bool x.link, .bool x.item, .bool x.pair, .bool x.head]
set_option maxHeartbeats 2000000 in
set_option maxRecDepth 100000 in
theorem drops_any (kd sp : Nat) (nm tx : ByteArray) (Aa Ak : Option Addr) (ma ca mk ck : Nat) (w : World) : Calls Tryz.prog 67 #[.agg #[.int .u8 kd, .int .u8 sp, .string nm, .slice Aa ma ca, .string tx, .slice Ak mk ck]] w (BoolR w (!(sp == 0) || hasS goneL nm)) := by
  obtain ⟨wa, hwa⟩ : ∃ wa, w.alloc (.cells #[.int .u8 kd, .int .u8 sp, .string nm, .slice Aa ma ca, .string tx, .slice Ak mk ck] 48) = wa := ⟨_, rfl⟩
  have hba : Below w.heap.size w wa := by rw [← hwa]; exact (Below.refl _ w).alloc (Nat.le_refl _) _
  have hza : w.heap.size < wa.heap.size ∧ wa.heap.size ≤ w.heap.size + 1 := by rw [← hwa]; simp
  have hna : wa.heap[w.heap.size]? = some (.cells #[.int .u8 kd, .int .u8 sp, .string nm, .slice Aa ma ca, .string tx, .slice Ak mk ck] 48 (0, 0)) := by rw [← hwa]; exact heap_alloc_new _ _
  have na := fun i => cell_of_row wa w.heap.size i _ _ _ hna
  have nb := fun o i => (World.cell?_alloc_lt wa o ⟨w.heap.size, i, none⟩ hza.1).trans (na i)
  have HWA := Lib.hid hwa; have HBA := Lib.hid hba
  clear hwa hba hna
  by_cases h0 : sp = 0
  · have z0 : ((sp : Int) != 0) = false := by rw [h0]; rfl
    have e0 : (sp == 0) = true := by rw [h0]; rfl
    rw [e0]
    clear h0 e0
    go_enter Tryz.func67, Tryz.ntmps67
    go_wp2_with fail
    rw [HWA.out]
    go_wp2_with fail
    refine Calls.mono (in20_any goneL nm _ _ (row_at ?_ ?_ ?_) (by decide)) ?_
    · omega
    · rfl
    · rfl
    rintro e w1 ⟨rfl, rfl⟩
    go_wp2
    go_ret
    exact ⟨rfl, HBA.out.alloc (by omega) _⟩
  · have z0 : ((sp : Int) != 0) = true := by simp; omega
    have e0 : (sp == 0) = false := by simp; omega
    rw [e0]
    clear h0 e0
    go_enter Tryz.func67, Tryz.ntmps67
    go_wp2_with fail
    rw [HWA.out]
    go_wp2
    go_ret
    exact ⟨rfl, HBA.out⟩
section
variable {P : Program} {ops : Array Oper} {Q : Exit → Act → World → Prop} {S : World → Prop}
theorem toList_at {i : Nat} {o : Oper} (h : ops.toList[i]? = some o) : ops[i]? = some o := by rw [← Array.getElem?_toList]; exact h
theorem held_take {i : Nat} {oi : Oper} {v : Value} {fuel : Nat} {listed : Array Bool} {a : Act} {w : World} (hi : ops.toList[i]? = some oi)
    (hs : Region.noSelect ops = true) (hf : Region.free .any ops listed i = true) (hr : (Region.ready .any ops listed).contains i = true)
    (hQ : ∀ c a w, Q (.panic c) (a.put oi.dst v) w → Q (.panic c) a w) (hw : Region.wanted oi (yielded ops a.tmps) = true) (hy : ∀ w, S w → (execOp a.eval oi).run P w = .ok (.value v) w) (hS : S w)
    (h : wpAnyH P .any ops Q S fuel (listed.setIfInBounds i true) (a.put oi.dst v) w) : wpAnyH P .any ops Q S (fuel + 1) listed a w :=
  wpAnyH_take (toList_at hi) hs hf hr hQ (Or.inl ⟨hw, hy⟩) hS h
theorem held_skip {i : Nat} {oi : Oper} {fuel : Nat} {listed : Array Bool} {a : Act} {w : World} (hi : ops.toList[i]? = some oi)
    (hs : Region.noSelect ops = true) (hf : Region.free .any ops listed i = true) (hr : (Region.ready .any ops listed).contains i = true)
    (hQ : ∀ c a w, Q (.panic c) (a.put oi.dst undef) w → Q (.panic c) a w) (hw : Region.wanted oi (yielded ops a.tmps) = false) (hS : S w)
    (h : wpAnyH P .any ops Q S fuel (listed.setIfInBounds i true) (a.put oi.dst undef) w) : wpAnyH P .any ops Q S (fuel + 1) listed a w :=
  wpAnyH_take (toList_at hi) hs hf hr hQ (Or.inr ⟨hw, rfl⟩) hS h
theorem held_cons {fuel : Nat} {listed : Array Bool} {a : Act} {w : World} {i : Nat} {o : Oper} {rs : List Nat} (ho : ops.toList[i]? = some o)
    (h : ∀ K' : Act → World → Prop, Shut (∀ a w, S w → (S w → wpAnyH P .any ops Q S fuel (listed.setIfInBounds i true) a w) → K' a w) → if Region.wanted o (yielded ops a.tmps) = true then Oper.wp P o a w K' Q else K' (a.put o.dst undef) w)
    (hs : AllReadyH P .any ops Q S fuel listed a w rs) : AllReadyH P .any ops Q S fuel listed a w (i :: rs) := AllReadyH.cons (toList_at ho) h hs
end
def rowO : Obj := .cells #[.string ⟨#[104, 49]⟩, .string ⟨#[104, 50]⟩, .string ⟨#[104, 51]⟩, .string ⟨#[104, 52]⟩, .string ⟨#[104, 53]⟩, .string ⟨#[104, 54]⟩] 9
def plO : Obj := .cells #[.bool false, .bool false, .bool false, .bool false, .bool false] 73
set_option maxRecDepth 100000 in
theorem heads_exact (w : World) : Calls Tryz.prog 98 #[] w fun e w' => e = .returned (.slice (some ⟨w.heap.size, 0, none⟩) 6 6) ∧ w' = w.alloc rowO := by
  go_enter Tryz.func98, Tryz.ntmps98
  go_wp2
  go_ret
  exact ⟨rfl, rfl⟩
theorem heads_row {w : World} {n : Nat} (hn : n = w.heap.size) : SlS (w.alloc rowO) (.slice (some ⟨n, 0, none⟩) 6 6) headsL := row_at hn rfl rfl
theorem five_cells {z : World} {n : Nat} {u0 u1 u2 u3 u4 a b c d e : Value} {t : TypeId} (h : z.heap[n]? = some (.cells #[u0, u1, u2, u3, u4] t (0, 0))) : (((((z.setCell ⟨n, 0, none⟩ a).setCell ⟨n, 1, none⟩ b).setCell ⟨n, 2, none⟩ c).setCell ⟨n, 3, none⟩ d).setCell ⟨n, 4, none⟩ e).heap[n]? = some (.cells #[a, b, c, d, e] t (0, 0)) := by
  have h5 := Joins.block_setCell (Joins.block_setCell (Joins.block_setCell (Joins.block_setCell (Joins.block_setCell h (i := 0) a) (i := 1) b) (i := 2) c) (i := 3) d) (i := 4) e
  simpa using h5
theorem isT_tests {s c : ByteArray} {q : Bool} (h : isT s c = q) : (s.toList == c.data.toList) = q ∧ decide (s.toList = c.data.toList) = q := by
  cases q with
  | false => exact ⟨(isT_no h).1, decide_eq_false (isT_no h).2⟩
  | true =>
    have e : s.toList = c.data.toList := by
      unfold isT at h
      rw [Lib.toList_data c] at h
      simpa using h
    exact ⟨by rw [e]; simp, decide_eq_true e⟩
def RPlR (w : World) (x : Pl) (e : Ending) (w' : World) : Prop := e = .returned x.rv ∧ Below w.heap.size w w'
end Go.Proofs.YtdkjenbncmedbaaGreatDoor
