/- url.Strip and the reference's Strip: what browsers leave out of an address falls. -/
import Derived.Test.YtdkjenbncmedbaaGreatDoorRepl5
import Derived.Test.YtdkjenbncmedbaaGreatDoorLower
import Derived.Test.YtdkjenbncmedbaaGreatDoorTrim
import Derived.Test.YtdkjenbncmedbaaGreatDoorShelf
namespace Go.Proofs.YtdkjenbncmedbaaGreatDoor
open Go.RowKit

/-- What is asked of the package variables: utf8's tables, bytealg's MaxLen. -/
structure Glob (w : World) : Prop where
  tabs : Lib.Utf8Tabs 3 4 w
  maxLen : ∃ m, w.cell? ⟨2, 0, none⟩ = some (.int .i64 m)
theorem lt_cell {w : World} {a : Addr} {v : Value} (h : w.cell? a = some v) : a.block < w.heap.size := by
  rcases Nat.lt_or_ge a.block w.heap.size with h' | h'
  · exact h'
  · simp [World.cell?, Array.getElem?_eq_none h'] at h
theorem Glob.below {w w' : World} {B : Nat} (h : Glob w) (hb : Below B w w') (hB : w.heap.size ≤ B) : Glob w' := by
  have k : ∀ {a : Addr} {v : Value}, w.cell? a = some v → w'.cell? a = some v := fun hc => (hb.cell (Nat.lt_of_lt_of_le (lt_cell hc) hB)).trans hc
  obtain ⟨⟨t1, t2⟩, m, hm⟩ := h
  exact ⟨⟨fun c hc => k (t1 c hc), fun i hi => ⟨k (t2 i hi).1, k (t2 i hi).2⟩⟩, m, k hm⟩
theorem Glob.later {w w' : World} (h : Glob w) (hb : Below w.heap.size w w') : Glob w' := h.below hb (Nat.le_refl _)
theorem Glob.drew {w : World} (h : Glob w) : Glob w.drew := ⟨h.tabs, h.maxLen⟩
theorem Glob.drewN {w : World} (h : Glob w) (n : Nat) : Glob (w.drewN n) := ⟨h.tabs, h.maxLen⟩
theorem Glob.alloc {w : World} (h : Glob w) (o : Obj) : Glob (w.alloc o) := h.below ((Below.refl w.heap.size w).alloc (Nat.le_refl _) o) (Nat.le_refl _)

def keep3 (b : UInt8) : Bool := !(b == 9 || b == 10 || b == 13)
def strip (l : List UInt8) : List UInt8 := (rcut (lcut l)).filter keep3
theorem lcut_len (l : List UInt8) : (lcut l).length ≤ l.length := by
  unfold lcut
  induction l with
  | nil => exact Nat.le_refl _
  | cons b l ih =>
    rw [List.dropWhile_cons]
    split
    · rw [List.length_cons]; omega
    · exact Nat.le_refl _
theorem rcut_len (l : List UInt8) : (rcut l).length ≤ l.length := by
  have := lcut_len l.reverse
  unfold rcut
  rw [List.length_reverse]
  rw [List.length_reverse] at this
  exact this
theorem strip_len (l : List UInt8) : (strip l).length ≤ l.length :=
  Nat.le_trans (List.length_filter_le _ _) (Nat.le_trans (rcut_len _) (lcut_len _))

def stripPairs : List (UInt8 × ByteArray) := [(9, ⟨#[]⟩), (10, ⟨#[]⟩), (13, ⟨#[]⟩)]
theorem stripPairs_ok : Pairs stripPairs where
  pos := by decide
  few := by decide
  small := by decide
  notOne := by decide
  nodup := by decide
theorem repl_strip : ∀ l : List UInt8, repl stripPairs l = l.filter keep3
  | [] => rfl
  | b :: l => by
    rw [repl_cons, repl_strip l, List.filter_cons]
    unfold rep1 keep3 stripPairs
    simp only [tabv]
    by_cases h1 : (9 : UInt8) = b
    · subst h1; rfl
    · by_cases h2 : (10 : UInt8) = b
      · subst h2; rfl
      · by_cases h3 : (13 : UInt8) = b
        · subst h3; rfl
        · have e1 : (b == 9) = false := by rw [beq_eq_false_iff_ne]; exact fun e => h1 e.symm
          have e2 : (b == 10) = false := by rw [beq_eq_false_iff_ne]; exact fun e => h2 e.symm
          have e3 : (b == 13) = false := by rw [beq_eq_false_iff_ne]; exact fun e => h3 e.symm
          rw [if_neg h1, if_neg h2, if_neg h3, e1, e2, e3]
          rfl

theorem strip_pred (w : World) : PredAt Tryz.prog 104 #[] encR spR w := fun W r _ => by
  unfold FnGives
  by_cases h : r ≤ 32
  all_goals
    have z : (r : Int) ≤ 32 ↔ r ≤ 32 := by omega
    go_enter Tryz.func104, Tryz.ntmps104
    go_wp2
    go_ret
    exact ⟨by simp [spR, h], 0, rfl⟩

set_option maxHeartbeats 1000000 in
set_option maxRecDepth 100000 in
theorem strip_any (s : ByteArray) (w : World) (hG : Glob w) (hs : s.size ≤ 1099511627776) : Calls Tryz.prog 79 #[.string s] w (StrR w (strip s.data.toList)) := by
  obtain ⟨u, hu⟩ : ∃ u, Lib.trimF spR s = u := ⟨_, rfl⟩
  have hut := trim_sp s
  have ht := Tryz.strings_TrimFunc 104 #[] (enters_of Tryz.func104 (by kernel_rfl) rfl) spR s w (by omega) hG.tabs (strip_pred w)
  rw [hu] at hut ht
  have hus : u.size ≤ 1099511627776 := by
    have e1 : u.data.toList.length = u.size := Array.length_toList
    have e2 : s.data.toList.length = s.size := Array.length_toList
    have := rcut_len (lcut s.data.toList)
    have := lcut_len s.data.toList
    rw [hut] at e1
    omega
  have HUT := Lib.hid hut
  have HT := Lib.hid ht
  clear hut hu ht hG
  go_enter Tryz.func79, Tryz.ntmps79
  go_wp2_with fail
  refine Calls.mono HT.out ?_
  rintro e w1 ⟨rfl, b1⟩
  have HB1 := Lib.hid b1
  clear b1
  go_wp2_with fail
  refine Calls.mono (newReplacer_any stripPairs ⟨w1.heap.size, 0, none⟩ 6 6 _ rfl (by decide) (by decide) ?_) ?_
  · intro j v hj
    have h : (w1.alloc (.cells #[.string ⟨#[9]⟩, .string ⟨#[]⟩, .string ⟨#[10]⟩, .string ⟨#[]⟩, .string ⟨#[13]⟩, .string ⟨#[]⟩] 9)).heap[w1.heap.size]? = some (.cells (pairCells stripPairs).toArray 9 (0, 0)) := heap_alloc_new w1 _
    have e : (⟨w1.heap.size, 0, none⟩ : Addr).add j = ⟨w1.heap.size, j, none⟩ := by unfold Addr.add; split <;> simp_all
    rw [e, cell_of_row _ _ j _ _ _ h, List.getElem?_toArray]
    exact hj
  rintro e w2 h2
  obtain ⟨R, rfl, b2, hrep⟩ := repl_use stripPairs stripPairs_ok u _ hus h2
  have HR := Lib.hid hrep
  have HB2 := Lib.hid b2
  clear h2 hrep b2
  go_wp2_with fail
  refine Calls.mono HR.out ?_
  rintro e w3 ⟨rfl, b3⟩
  have hz : w1.heap.size + 1 ≤ w3.heap.size := by have := b3.size; simp at this; omega
  have HB3 := Lib.hid b3
  clear b3
  go_wp2
  go_ret
  refine ⟨?_, ?_⟩
  · rw [repl_strip, HUT.out]; rfl
  · have hal : Below w1.heap.size w1 (w1.alloc (.cells (pairCells stripPairs).toArray 9)) := (Below.refl _ _).alloc (Nat.le_refl _) _
    exact HB1.out.trans ((hal.trans (HB3.out.mono (by simp))).mono HB1.out.size)
end Go.Proofs.YtdkjenbncmedbaaGreatDoor
