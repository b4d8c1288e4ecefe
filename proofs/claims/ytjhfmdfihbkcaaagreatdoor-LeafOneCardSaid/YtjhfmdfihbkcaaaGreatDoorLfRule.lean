/- leaf.Rule. -/
import Derived.Test.YtjhfmdfihbkcaaaGreatDoorLfCols
import Derived.Test.YtjhfmdfihbkcaaaGreatDoorRepl5
import Derived.Test.YtjhfmdfihbkcaaaGreatDoorAtCodeP
namespace Go.Proofs.YtjhfmdfihbkcaaaGreatDoor
open Go.RowKit

def rulePairs : List (UInt8 × ByteArray) := [(32, ⟨#[]⟩), (9, ⟨#[]⟩)]
theorem rulePairs_ok : Pairs rulePairs := ⟨by decide, by decide, by decide, by decide, by decide⟩
def ruleT (l : List UInt8) : List UInt8 := repl rulePairs l
theorem rep1_small (b : UInt8) : (rep1 rulePairs b).length ≤ 1 := by
  unfold rep1 tabv rulePairs
  by_cases h1 : b = 32
  · subst h1; decide
  · by_cases h2 : b = 9
    · subst h2; decide
    · simp [tabv, h1, h2, Ne.symm h1, Ne.symm h2]
theorem ruleT_len (l : List UInt8) : (ruleT l).length ≤ l.length := by
  unfold ruleT repl
  induction l with
  | nil => exact Nat.le_refl _
  | cons b l ih =>
    rw [List.map_cons, List.flatten_cons, List.length_append, List.length_cons]
    have := rep1_small b
    omega
def ruleS : List UInt8 := [42, 45, 95]
/-- What Rule answers. -/
def ruleB (l : List UInt8) : Bool := match l with
  | [] => false
  | b :: _ => decide (0 ≤ Lib.indexByte ruleS b) && decide (3 ≤ (ruleT l).length) && decide (frontN (ruleT l) b = (ruleT l).length)
theorem ruleS_in {b : UInt8} (h : 0 ≤ Lib.indexByte ruleS b) : b = 42 ∨ b = 45 ∨ b = 95 := by
  rcases indexByte_spec ruleS b with ⟨h1, _⟩ | ⟨k, h1, h2, _⟩
  · omega
  · have := List.mem_of_getElem? h2
    simpa [ruleS] using this
theorem ruleB_head {l : List UInt8} (h : ruleB l = true) : ∃ b, l.head? = some b ∧ (b = 42 ∨ b = 45 ∨ b = 95) := by
  cases l with
  | nil => cases h
  | cons b r =>
    unfold ruleB at h
    simp only [Bool.and_eq_true, decide_eq_true_eq] at h
    exact ⟨b, rfl, ruleS_in h.1.1⟩
set_option maxHeartbeats 2000000 in
set_option maxRecDepth 100000 in
theorem rule_any (s : ByteArray) (w : World) (hs : s.size ≤ 1099511627) : Calls Tryz.prog 5 #[.string s] w (RBw w (ruleB s.data.toList)) := by
  by_cases h0 : s.size = 0
  · obtain rfl : s = ⟨#[]⟩ := by
      have : s.data = #[] := Array.eq_empty_of_size_eq_zero h0
      rw [← Lib.mk_data s, this]
    go_enter Tryz.func5, Tryz.ntmps5
    go_wp2
    go_ret
    exact ⟨rfl, Below.refl _ _⟩
  · have hpos : 0 < s.size := by omega
    obtain ⟨b, r, hl⟩ : ∃ b r, s.data.toList = b :: r := by
      cases hl : s.data.toList with
      | nil => have := congrArg List.length hl; rw [Array.length_toList] at this; exact absurd this h0
      | cons b r => exact ⟨b, r, rfl⟩
    have hb : s[0] = b := by
      have h1 : s.data.toList[0]? = some b := by rw [hl]; rfl
      have h2 : s.data.toList[0]? = some s[0] := by rw [List.getElem?_eq_getElem (by rw [Array.length_toList]; exact hpos)]; rfl
      rw [h1] at h2
      exact (Option.some.inj h2).symm
    have ht : ¬ s.toList = [] := by rw [Lib.toList_data, hl]; simp
    have ht2 : s.toList.isEmpty = false := by rw [Lib.toList_data, hl]; rfl
    have hI := indexByte_any ⟨#[42, 45, 95]⟩ b w
    obtain ⟨q, hq⟩ : ∃ q, Lib.indexByte (⟨#[42, 45, 95]⟩ : ByteArray).data.toList b = q := ⟨_, rfl⟩
    obtain ⟨L, hL⟩ : ∃ L, ruleT s.data.toList = L := ⟨_, rfl⟩
    have hLl : L.length ≤ s.size := by rw [← hL]; have := ruleT_len s.data.toList; rw [Array.length_toList] at this; exact this
    have hv : ruleB s.data.toList = (decide (0 ≤ q) && decide (3 ≤ L.length) && decide (frontN L b = L.length)) := by
      rw [← hL, ← hq, hl]
      rfl
    have hqb : 0 ≤ q → b.toNat < 128 := fun h => by
      rw [← hq] at h
      rcases ruleS_in h with rfl | rfl | rfl <;> decide
    rw [hv]
    rw [hq] at hI
    have HI := Lib.hid hI
    have HB := Lib.hid hb
    by_cases hq0 : q < 0
    · have z1 : decide (0 ≤ q) = false := by simp; omega
      rw [z1, Bool.false_and, Bool.false_and]
      clear hI hb hv hq hl hL hqb z1
      go_enter Tryz.func5, Tryz.ntmps5
      go_wp2_with fail
      rw [HB.out]
      refine Calls.mono HI.out ?_
      rintro e w1 ⟨rfl, rfl⟩
      go_wp2
      go_ret
      exact ⟨rfl, Below.refl _ _⟩
    · have z1 : decide (0 ≤ q) = true := by simp; omega
      rw [z1, Bool.true_and]
      have hus : s.size ≤ 1099511627776 := by omega
      obtain ⟨Y, hY⟩ : ∃ Y : ByteArray, (⟨L.toArray⟩ : ByteArray) = Y := ⟨_, rfl⟩
      have hYs : Y.size = L.length := by rw [← hY]; rfl
      have HR0 := Lib.hid fun w' (e : Ending) w'' (h : NewRepl rulePairs w' e w'') => repl_use rulePairs rulePairs_ok s w' hus h
      have HL := Lib.hid hL
      have HF := Lib.hid fun w' => front_any Y b w' (by omega) (hqb (by omega))
      have HY := Lib.hid hY
      have e1 : Y.data.toList = L := by rw [← hY]
      have hfl := frontN_le L b
      rw [e1] at HF
      obtain ⟨k, hk⟩ : ∃ k, frontN L b = k := ⟨_, rfl⟩
      rw [← hYs, hk]
      rw [hk] at HF
      have hYle : Y.size ≤ s.size := by omega
      clear hI hb hv hq hl hL hqb z1 hY hk hfl e1 hYs hLl
      go_enter Tryz.func5, Tryz.ntmps5
      go_wp2_with fail
      rw [HB.out]
      refine Calls.mono HI.out ?_
      rintro e w1 ⟨rfl, rfl⟩
      go_wp2_with fail
      refine Calls.mono (newReplacer_any rulePairs ⟨w.heap.size, 0, none⟩ 4 4 _ rfl (by decide) (by decide) ?_) ?_
      · intro j v hj
        have h : (w.alloc (.cells #[.string ⟨#[32]⟩, .string ⟨#[]⟩, .string ⟨#[9]⟩, .string ⟨#[]⟩] 9)).heap[w.heap.size]? = some (.cells (pairCells rulePairs).toArray 9 (0, 0)) := heap_alloc_new w _
        have e : (⟨w.heap.size, 0, none⟩ : Addr).add j = ⟨w.heap.size, j, none⟩ := by unfold Addr.add; split <;> simp_all
        rw [e, cell_of_row _ _ j _ _ _ h, List.getElem?_toArray]
        exact hj
      rintro e w2 h2
      obtain ⟨R, rfl, b2, hrep⟩ := HR0.out _ _ _ h2
      rw [show repl rulePairs s.data.toList = L from HL.out, HY.out] at hrep
      have HR := Lib.hid hrep
      have HB2 := Lib.hid b2
      clear h2 hrep b2
      go_wp2_with fail
      refine Calls.mono HR.out ?_
      rintro e w3 ⟨rfl, b3⟩
      have b3 : Below w.heap.size w w3 := by
        refine ((Below.refl w.heap.size w).alloc (Nat.le_refl _) _).trans (b3.mono ?_)
        simp
      have HB3 := Lib.hid b3
      clear b3
      by_cases h3 : 3 ≤ Y.size
      · have z3 : (3 : Int) ≤ (Y.size : Int) := by omega
        have ZZ := Lib.hid (show decide (3 ≤ Y.size) = true by simp; omega)
        go_wp2_with fail
        rw [HB.out]
        refine Calls.mono (HF.out _) ?_
        rintro e w4 ⟨rfl, rfl⟩
        by_cases h4 : k = Y.size
        · have Z4 := Lib.hid (show decide (k = Y.size) = true by simpa using h4)
          have z5 : (k : Int) = (Y.size : Int) := by omega
          clear h4
          go_wp2
          go_ret
          rw [ZZ.out, Z4.out]
          exact ⟨rfl, HB3.out⟩
        · have Z4 := Lib.hid (show decide (k = Y.size) = false by simpa using h4)
          have z5 : ((k : Int) == (Y.size : Int)) = false := by simp; omega
          clear h4
          go_wp2
          go_ret
          rw [ZZ.out, Z4.out]
          exact ⟨rfl, HB3.out⟩
      · have z3 : ¬ (3 : Int) ≤ (Y.size : Int) := by omega
        clear HY
        go_wp2
        go_ret
        exact ⟨rfl, HB3.out⟩
end Go.Proofs.YtjhfmdfihbkcaaaGreatDoor
