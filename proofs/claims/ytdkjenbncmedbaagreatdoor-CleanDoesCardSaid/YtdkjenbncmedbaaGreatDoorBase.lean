/- rule.Base. tympanlaw05.known: the chapter's examples hold. -/
import Derived.Test.YtdkjenbncmedbaaGreatDoorKeeps
import Derived.Maps.AppendAt
import Derived.OwnWalk
import Derived.Laws.Rows
namespace Go.Proofs.YtdkjenbncmedbaaGreatDoor
open Go.RowKit

def baseET : ByteArray := ⟨#[97, 32, 98, 108, 111, 99, 107, 113, 117, 111, 116, 101, 32, 98, 114, 32, 99, 111, 100, 101, 32, 101, 109, 32, 104, 49, 32, 104, 50, 32, 104, 51, 32, 104, 52, 32, 104, 53, 32, 104, 54, 32, 104, 114, 32, 105, 109, 103, 32, 108, 105, 32, 111, 108, 32, 112, 32, 112, 114, 101, 32, 115, 116, 114, 111, 110, 103, 32, 116, 97, 98, 108, 101, 32, 116, 98, 111, 100, 121, 32, 116, 100, 32, 116, 102, 111, 111, 116, 32, 116, 104, 32, 116, 104, 101, 97, 100, 32, 116, 114, 32, 117, 108]⟩
def baseAT : ByteArray := ⟨#[97, 46, 104, 114, 101, 102, 32, 97, 46, 116, 105, 116, 108, 101, 32, 105, 109, 103, 46, 115, 114, 99, 32, 105, 109, 103, 46, 97, 108, 116, 32, 105, 109, 103, 46, 116, 105, 116, 108, 101, 32, 111, 108, 46, 115, 116, 97, 114, 116, 32, 99, 111, 100, 101, 46, 99, 108, 97, 115, 115, 32, 116, 100, 46, 97, 108, 105, 103, 110, 32, 116, 104, 46, 97, 108, 105, 103, 110]⟩
def baseE : List ByteArray := (Lib.fields baseET.data.toList).map fun l => ⟨l.toArray⟩
def awWs : List (List UInt8) := Lib.fields baseAT.data.toList
def pairOf (l : List UInt8) : ByteArray × ByteArray := (⟨(Lib.cut l [46]).1.toArray⟩, ⟨(Lib.cut l [46]).2.1.toArray⟩)
def baseA : Prs := awWs.map pairOf
def baseS : List ByteArray := [⟨#[104, 116, 116, 112]⟩, ⟨#[104, 116, 116, 112, 115]⟩, ⟨#[109, 97, 105, 108, 116, 111]⟩]
theorem fields_e (w : World) (ht : SpTab w) : Calls Tryz.prog 51 #[.string baseET] w fun e w' => e = .returned (.slice (some ⟨w.heap.size, 0, none⟩) 26 26) ∧ w' = w.alloc (.cells (baseE.map Value.string).toArray 9) := by
  have h := Tryz.strings_Fields baseET w (by decide +kernel) (asc (by decide +kernel)) ht
  rw [show (Lib.fields baseET.data.toList).length = 26 by decide +kernel, show (Lib.fields baseET.data.toList).map (fun l => Value.string ⟨l.toArray⟩) = baseE.map Value.string by unfold baseE; rw [List.map_map]; rfl] at h
  exact h
theorem fields_a (w : World) (ht : SpTab w) : Calls Tryz.prog 51 #[.string baseAT] w fun e w' => e = .returned (.slice (some ⟨w.heap.size, 0, none⟩) 9 9) ∧ w' = w.alloc (.cells (awWs.map fun l => Value.string ⟨l.toArray⟩).toArray 9) := by
  have h := Tryz.strings_Fields baseAT w (by decide +kernel) (asc (by decide +kernel)) ht
  rw [show (Lib.fields baseAT.data.toList).length = 9 by decide +kernel] at h
  exact h
theorem aw_len : awWs.length = 9 := by decide +kernel
theorem aw_small : awWs.all (fun x => decide (x.length ≤ 100)) = true := by decide +kernel
theorem infoA : (Tryz.prog.info? 31).map (fun i => (i.zero, i.size, i.bytes)) = some (some (.agg #[.string ⟨#[]⟩, .string ⟨#[]⟩]), 2, 32) := by kernel_rfl
/-- A policy in memory of its own: three rows that nobody else has. -/
structure OwnPol (lo : Nat) (w : World) (v : Value) (E : List ByteArray) (A : Prs) (S : List ByteArray) : Prop where
  is : ∃ (bE bA bS cE cA cS : Nat) (xE xA xS : Array Value), v = .agg #[.slice (some ⟨bE, 0, none⟩) E.length cE, .slice (some ⟨bA, 0, none⟩) A.length cA, .slice (some ⟨bS, 0, none⟩) S.length cS] ∧
    w.heap[bE]? = some (.cells xE 9 (0, 0)) ∧ w.heap[bA]? = some (.cells xA 31 (0, 0)) ∧ w.heap[bS]? = some (.cells xS 9 (0, 0)) ∧ lo ≤ bE ∧ lo ≤ bA ∧ lo ≤ bS ∧ bE ≠ bA ∧ bE ≠ bS ∧ bA ≠ bS ∧
    E.length ≤ cE ∧ A.length ≤ cA ∧ S.length ≤ cS ∧ E.length ≤ xE.size ∧ A.length * 2 ≤ xA.size ∧ S.length ≤ xS.size ∧ xE.toList.take E.length = E.map Value.string ∧ xA.toList.take (A.length * 2) = (A.map pairCs).flatten ∧ xS.toList.take S.length = S.map Value.string
def BaseR (w : World) (E : List ByteArray) (A : Prs) (S : List ByteArray) (e : Ending) (w' : World) : Prop := ∃ v, e = .returned v ∧ OwnPol w.heap.size w' v E A S ∧ Below w.heap.size w w'
theorem sl_own {size : Nat} {w : World} {b c n : Nat} {x : Array Value} {t : TypeId} {vs : List Value} (h : w.heap[b]? = some (.cells x t (0, 0))) (hc : n ≤ c) (hl : vs.length = n * size) (ht : x.toList.take (n * size) = vs) : SlV size w (.slice (some ⟨b, 0, none⟩) n c) n vs := by
  refine ⟨_, _, rfl, hc, hl, fun _ => ⟨b, 0, rfl, (Array.getElem?_eq_some_iff.1 h).1, fun j u hu => ?_⟩⟩
  rw [Nat.zero_add, cell_of_row _ _ j _ _ _ h]
  rw [← ht, List.getElem?_take] at hu
  split at hu
  · rw [← Array.getElem?_toList]; exact hu
  · cases hu
theorem OwnPol.pol {lo : Nat} {w : World} {v : Value} {E : List ByteArray} {A : Prs} {S : List ByteArray} (h : OwnPol lo w v E A S) (lE : E.length ≤ 9223372036854775807) (lA : A.length ≤ 9223372036854775807) (lS : S.length ≤ 9223372036854775807) (sE : ∀ x ∈ E, x.size ≤ maxLen) (sA : ∀ x ∈ A, x.1.size ≤ maxLen ∧ x.2.size ≤ maxLen) (sS : ∀ x ∈ S, x.size ≤ maxLen) : PolAt w v E A S := by
  obtain ⟨bE, bA, bS, cE, cA, cS, xE, xA, xS, e, h1, h2, h3, _, _, _, _, _, _, k1, k2, k3, _, _, _, t1, t2, t3⟩ := h.is
  exact ⟨⟨_, _, _, e, sl_own h1 k1 (by simp) (by rw [Nat.mul_one]; exact t1), sl_own h2 k2 (pairCs_len _) t2, sl_own h3 k3 (by simp) (by rw [Nat.mul_one]; exact t3)⟩, lE, lA, lS, sE, sA, sS⟩
theorem baseE_len : baseE.length = 26 := by decide +kernel
theorem baseA_len : baseA.length = 9 := by decide +kernel
theorem pol_end (w w2 : World) (n : Nat) (x : Array Value) (hx : x.size = 3) (a b c : Value) (hb : Below n w w2) (h : w2.heap[n]? = some (.cells x 25 (0, 0))) :
    (((w2.setCell ⟨n, 0, none⟩ a).setCell ⟨n, 1, none⟩ b).setCell ⟨n, 2, none⟩ c).heap[n]? = some (.cells #[a, b, c] 25 (0, 0)) ∧ Below n w (((w2.setCell ⟨n, 0, none⟩ a).setCell ⟨n, 1, none⟩ b).setCell ⟨n, 2, none⟩ c) := by
  have h1 := Joins.block_setCell h (i := 0) a
  have h2 := Joins.block_setCell h1 (i := 1) b
  have h3 := Joins.block_setCell h2 (i := 2) c
  obtain ⟨l⟩ := x
  match l, hx with
  | [_, _, _], _ => exact ⟨by simpa using h3, ((hb.setCell (Nat.le_refl _) _).setCell (Nat.le_refl _) _).setCell (Nat.le_refl _) _⟩
theorem cells_two (w : World) (a b : Value) (t : TypeId) : ∀ j u, [a, b][j]? = some u → (w.alloc (.cells #[a, b] t)).cell? ((⟨w.heap.size, 0, none⟩ : Addr).add j) = some u := by
  intro j u hj
  rw [add_off, Nat.zero_add, cell_of_row _ _ j _ _ _ (heap_alloc_new w _)]
  rw [← hj]
  match j with
  | 0 => rfl
  | 1 => rfl
  | j + 2 => rfl
def BaseW (w W0 : World) (n : Nat) (vE vS i : Value) (wr : World) : Prop := ∃ (k : Nat) (vA : Value), i = .int .i64 k ∧ k ≤ 9 ∧ wr.heap[n + 2 + 1]? = some (.cells #[vE, vA, vS] 25 (0, 0)) ∧ wr.ownsRow (n + 5) 31 2 vA k ((baseA.take k).map pairCs).flatten ∧ (∀ j, j < n + 5 → j ≠ n + 2 + 1 → wr.heap[j]? = W0.heap[j]?) ∧ n + 5 ≤ wr.heap.size ∧ Below n w wr
set_option maxHeartbeats 4000000 in
set_option maxRecDepth 100000 in
theorem base_any (w : World) (ht : SpTab w) (hG : Glob w) : Calls Tryz.prog 26 #[] w (BaseR w baseE baseA baseS) := by
  obtain ⟨i0, hi, hz0, hz1, hz2⟩ := info_parts infoA
  have HT := Lib.hid ht
  have HG := Lib.hid hG
  clear ht hG
  go_enter Tryz.func26, Tryz.ntmps26
  go_wp2_with fail
  refine Calls.mono (fields_e _ (HT.out.later ((Below.refl _ w).alloc (Nat.le_refl _) _))) ?_
  rintro e w1 ⟨rfl, hw1⟩
  have hbw : Below w.heap.size w w1 := by rw [hw1]; exact ((Below.refl _ w).alloc (Nat.le_refl _) _).alloc (by simp) _
  have hz1w : w1.heap.size = w.heap.size + 2 := by rw [hw1]; simp
  have k0 : w1.heap[w.heap.size]? = some (.cells #[.slice none 0 0, .slice none 0 0, .slice none 0 0] 25 (0, 0)) := by rw [hw1]; exact (Below.heap_alloc _ _ _ (by simp)).trans (heap_alloc_new w _)
  have k1 : w1.heap[w.heap.size + 1]? = some (.cells (baseE.map Value.string).toArray 9 (0, 0)) := by rw [hw1, show w.heap.size + 1 = (w.alloc (.cells #[.slice none 0 0, .slice none 0 0, .slice none 0 0] 25)).heap.size by simp]; exact heap_alloc_new _ _
  have hsz : (w.alloc (.cells #[.slice none 0 0, .slice none 0 0, .slice none 0 0] 25)).heap.size = w.heap.size + 1 := by simp
  rw [hsz]
  obtain ⟨n, hn⟩ : ∃ n, w.heap.size = n := ⟨_, rfl⟩
  have HN := Lib.hid hn
  have HBW := Lib.hid hbw
  have hT1 := HT.out.later hbw
  have hG1 := HG.out.later hbw
  rw [hn] at k0 k1 hz1w ⊢
  clear hw1 hsz hbw
  obtain ⟨W0, hW0⟩ : ∃ W0, ((w1.alloc (.cells #[.string ⟨#[104, 116, 116, 112]⟩, .string ⟨#[104, 116, 116, 112, 115]⟩, .string ⟨#[109, 97, 105, 108, 116, 111]⟩] 9)).alloc (.cells #[.slice (some ⟨n + 1, 0, none⟩) 26 26, .slice none 0 0, .slice (some ⟨n + 2, 0, none⟩) 3 3] 25)).alloc (.cells (awWs.map fun l => Value.string ⟨l.toArray⟩).toArray 9) = W0 := ⟨_, rfl⟩
  have hb0 : Below w1.heap.size w1 W0 := by rw [← hW0]; exact (((Below.refl _ w1).alloc (Nat.le_refl _) _).alloc (by simp) _).alloc (by simp; omega) _
  have hsz2 : ((w1.alloc (.cells #[.string ⟨#[104, 116, 116, 112]⟩, .string ⟨#[104, 116, 116, 112, 115]⟩, .string ⟨#[109, 97, 105, 108, 116, 111]⟩] 9)).alloc (.cells #[.slice (some ⟨n + 1, 0, none⟩) 26 26, .slice none 0 0, .slice (some ⟨n + 2, 0, none⟩) 3 3] 25)).heap.size = n + 4 := by simp [hz1w]
  have hzW : W0.heap.size = n + 5 := by rw [← hW0]; simp [hz1w]
  have j0 : W0.heap[n]? = _ := (hb0.block n (by omega)).trans k0
  have j1 : W0.heap[n + 1]? = _ := (hb0.block (n + 1) (by omega)).trans k1
  have j2 : W0.heap[n + 2]? = some (.cells #[.string ⟨#[104, 116, 116, 112]⟩, .string ⟨#[104, 116, 116, 112, 115]⟩, .string ⟨#[109, 97, 105, 108, 116, 111]⟩] 9 (0, 0)) := by rw [← hW0]; exact (Below.heap_alloc _ _ _ (by simp [hz1w])).trans ((Below.heap_alloc _ _ _ (by simp [hz1w])).trans (by rw [← hz1w]; exact heap_alloc_new _ _))
  have j3 : W0.heap[n + 2 + 1]? = some (.cells #[.slice (some ⟨n + 1, 0, none⟩) 26 26, .slice none 0 0, .slice (some ⟨n + 2, 0, none⟩) 3 3] 25 (0, 0)) := by
    rw [← hW0]
    refine (Below.heap_alloc _ _ _ (by simp [hz1w])).trans ?_
    rw [show n + 2 + 1 = (w1.alloc (.cells #[.string ⟨#[104, 116, 116, 112]⟩, .string ⟨#[104, 116, 116, 112, 115]⟩, .string ⟨#[109, 97, 105, 108, 116, 111]⟩] 9)).heap.size by simp [hz1w]]
    exact heap_alloc_new _ _
  have j4 : W0.heap[n + 4]? = some (.cells (awWs.map fun l => Value.string ⟨l.toArray⟩).toArray 9 (0, 0)) := by rw [← hW0, ← hsz2]; exact heap_alloc_new _ _
  have HB0 := Lib.hid (HBW.out.trans (hb0.mono HBW.out.size))
  have HT2 := Lib.hid (hT1.later (((Below.refl _ w1).alloc (Nat.le_refl _) (.cells #[.string ⟨#[104, 116, 116, 112]⟩, .string ⟨#[104, 116, 116, 112, 115]⟩, .string ⟨#[109, 97, 105, 108, 116, 111]⟩] 9)).alloc (by simp) (.cells #[.slice (some ⟨n + 1, 0, none⟩) 26 26, .slice none 0 0, .slice (some ⟨n + 2, 0, none⟩) 3 3] 25)))
  have HGW := Lib.hid (hG1.later hb0)
  have HW0 := Lib.hid hW0
  clear hT1 hG1 hb0 k0 k1 hW0
  go_wp2_with fail
  refine Calls.mono (fields_a _ HT2.out) ?_
  rintro e w2 ⟨rfl, hw2⟩
  rw [HW0.out] at hw2
  subst hw2
  rw [hsz2]
  clear hsz2
  go_wp2_with fail
  go_loopw [12] (fun v wr => BaseW w w2 n (.slice (some ⟨n + 1, 0, none⟩) 26 26) (.slice (some ⟨n + 2, 0, none⟩) 3 3) v wr) (fun v _ => 9 - (intOf v).toNat)
  case atStart => exact ⟨0, .slice none 0 0, rfl, by omega, j3, World.ownsRow_nil _ _ _ _, fun _ _ _ => rfl, by omega, by have := HB0.out; rw [hn] at this; exact this⟩
  case round =>
    obtain ⟨k, vA, rfl, hk, hp, hown, hsame, hge, hbn⟩ := hrel
    have HSame := Lib.hid hsame
    by_cases hlt : k < 9
    · have hki : (k : Int) < 9 := by omega
      have hla : k < awWs.length := by rw [aw_len]; exact hlt
      have hbx : Box wr (n + 4) 9 (awWs.map fun l => Value.string ⟨l.toArray⟩).toArray := (hsame (n + 4) (by omega) (by omega)).trans j4
      have x1 := box_lie hbx k (.string ⟨awWs[k].toArray⟩) (by simp [hla])
      have x2 := hbx.cell k
      rw [show (awWs.map fun l => Value.string ⟨l.toArray⟩).toArray[k]? = some (.string ⟨awWs[k].toArray⟩) by simp [hla]] at x2
      have hsm : awWs[k].length ≤ 100 := by simpa using List.all_eq_true.1 aw_small _ (List.getElem_mem hla)
      have htk : ((baseA.take (k + 1)).map pairCs).flatten = ((baseA.take k).map pairCs).flatten ++ pairCs (pairOf awWs[k]) := by
        have hla2 : k < baseA.length := by unfold baseA; rw [List.length_map]; exact hla
        rw [List.take_succ_eq_append_getElem hla2, List.map_append, List.flatten_append]
        simp [baseA]
      obtain ⟨m, hm⟩ := (HG.out.later (w' := wr) (by rw [hn]; exact hbn)).maxLen
      have hcut := Tryz.strings_Cut ⟨awWs[k].toArray⟩ ⟨#[46]⟩ m wr (by show awWs[k].length < _; omega) hm
      rw [show (⟨awWs[k].toArray⟩ : ByteArray).data.toList = awWs[k] from rfl, show (⟨#[46]⟩ : ByteArray).data.toList = [46] from rfl] at hcut
      obtain ⟨p, hpq⟩ : ∃ p : ByteArray, p = ⟨awWs[k].toArray⟩ := ⟨_, rfl⟩
      obtain ⟨q1, hq1⟩ : ∃ q, (⟨(Lib.cut awWs[k] [46]).1.toArray⟩ : ByteArray) = q := ⟨_, rfl⟩
      obtain ⟨q2, hq2⟩ : ∃ q, (⟨(Lib.cut awWs[k] [46]).2.1.toArray⟩ : ByteArray) = q := ⟨_, rfl⟩
      have hpo : pairCs (pairOf awWs[k]) = [.string q1, .string q2] := by unfold pairCs pairOf; rw [hq1, hq2]
      rw [hpo] at htk
      rw [hq1, hq2, ← hpq] at hcut
      rw [← hpq] at x1 x2
      obtain ⟨fb, hfb⟩ : ∃ fb, (Lib.cut awWs[k] [46]).2.2 = fb := ⟨_, rfl⟩
      rw [hfb] at hcut
      have HCut := Lib.hid hcut
      have HTK := Lib.hid htk
      have HP := Lib.hid hp
      have HBN := Lib.hid hbn
      have c0 := fun i => cell_of_row wr (n + 2 + 1) i _ _ _ hp
      have hvs : ∃ A m c, vA = .slice A m c := by
        rcases hown.2 with ⟨h, _⟩ | ⟨g, cap, cur, h, _⟩
        · exact ⟨_, _, _, h⟩
        · exact ⟨_, _, _, h⟩
      obtain ⟨aA, mA, cA, rfl⟩ := hvs
      have HOwn := Lib.hid hown
      clear hcut htk hpo hq1 hq2 hpq hfb hbx hsm hm hp hown hbn hsame hla
      go_wp2_with fail
      refine Calls.mono HCut.out ?_
      rintro e w3 ⟨rfl, d, rfl⟩
      have hown3 : ((wr.drewN d).alloc (.cells #[.string q1, .string q2] 31)).ownsRow (n + 5) 31 2 (.slice aA mA cA) k ((baseA.take k).map pairCs).flatten := World.ownsRow.alloc (w := wr.drewN d) HOwn.out _
      go_wp2_with (first
        | (at_builtin; refine wpList_append_own_at _ rfl _ _ 23 rfl (n + 5) 31 i0 _ 2 32 Tryz.underlying23 hi hz0 hz1 hz2 rfl (by decide) _ k _ rfl hown3 _ 1 _ [.string q1, .string q2] rfl rfl (cells_two _ _ _ _) (by simp; exact ⟨rfl, rfl⟩) (by unfold maxLen; omega) (by omega) (by simp; omega) ?_; intro v5 w5 hown5 hgrow _ _; obtain ⟨g5, cap5, rfl⟩ := Joins.ownsRow_form hown5 (by omega); have p5 := (hgrow.block (n + 2 + 1) (by simp; omega) (by intro he; have := (hown3.lt _ he.symm).1; omega)).trans ((Below.heap_alloc _ _ _ (by simp; omega)).trans HP.out); have c5 := (fun i => cell_of_row w5 (n + 2 + 1) i _ _ _ p5); have f5 : ∀ i, w5.frozen? ⟨n + 2 + 1, i, none⟩ = false := (fun i => by simp [World.frozen?, p5]))
        | fail)
      go_roundw
      case rel =>
        have hrow := fun he : some (n + 2 + 1) = (Value.slice aA mA cA).ownBlock => show False by have := (hown3.lt _ he.symm).1; omega
        refine ⟨k + 1, _, by go_num, hlt, Joins.block_setCell p5 (i := 1) _, ?_, ?_, ?_, ?_⟩
        · rw [HTK.out]
          exact ownsRow_setCell_below hown5 (a := ⟨n + 2 + 1, 1, none⟩) (show n + 2 + 1 < n + 5 by omega) _
        · intro j hj hne
          rw [Below.heap_setCell _ _ _ _ (show j ≠ n + 2 + 1 from hne)]
          refine (hgrow.block j (by simp; omega) (fun he => ?_)).trans ((Below.heap_alloc _ _ _ (by simp; omega)).trans (HSame.out j hj hne))
          have := (hown3.lt _ he.symm).1
          omega
        · have := hgrow.size
          simp at this
          simp
          omega
        · refine Below.setCell ?_ (show n ≤ n + 2 + 1 by omega) _
          refine Below.grown ((row_drewN HBN.out d).alloc (by simp; omega) _) hgrow (by simp; omega) (fun j he => ?_)
          have := (hown3.lt _ he).1
          omega
      case measure => simp [intOf]; omega
    · obtain rfl : k = 9 := by omega
      rw [show baseA.take 9 = baseA from List.take_of_length_le (by unfold baseA; rw [List.length_map, aw_len]; exact Nat.le_refl _)] at hown
      have HS := Lib.hid hsame
      have HBN := Lib.hid hbn
      have k0 := (hsame n (by omega) (by omega)).trans j0
      have k1 := Lib.hid ((hsame (n + 1) (by omega) (by omega)).trans j1)
      have k2 := Lib.hid ((hsame (n + 2) (by omega) (by omega)).trans j2)
      obtain ⟨g5, cap5, rfl⟩ := Joins.ownsRow_form hown (by omega)
      have HOwn := Lib.hid hown
      have c3 := fun i => cell_of_row wr (n + 2 + 1) i _ _ _ hp
      have c0 := fun i => cell_of_row wr n i _ _ _ k0
      have f0 : ∀ i, wr.frozen? ⟨n, i, none⟩ = false := fun i => by simp [World.frozen?, k0]
      have K0 := Lib.hid k0
      clear hown hsame hbn j0 j1 j2 j3 j4 hp k0
      go_wp2
      have HE := pol_end w wr n _ rfl (.slice (some ⟨n + 1, 0, none⟩) 26 26) (.slice (some ⟨g5, 0, none⟩) 9 cap5) (.slice (some ⟨n + 2, 0, none⟩) 3 3) HBN.out K0.out
      have hother : ∀ j, j ≠ n → (((wr.setCell ⟨n, 0, none⟩ (.slice (some ⟨n + 1, 0, none⟩) 26 26)).setCell ⟨n, 1, none⟩ (.slice (some ⟨g5, 0, none⟩) 9 cap5)).setCell ⟨n, 2, none⟩ (.slice (some ⟨n + 2, 0, none⟩) 3 3)).heap[j]? = wr.heap[j]? := fun j hj =>
        (Below.heap_setCell _ _ _ _ hj).trans ((Below.heap_setCell _ _ _ _ hj).trans (Below.heap_setCell _ _ _ _ hj))
      obtain ⟨W3, hW3⟩ : ∃ W3, ((wr.setCell ⟨n, 0, none⟩ (.slice (some ⟨n + 1, 0, none⟩) 26 26)).setCell ⟨n, 1, none⟩ (.slice (some ⟨g5, 0, none⟩) 9 cap5)).setCell ⟨n, 2, none⟩ (.slice (some ⟨n + 2, 0, none⟩) 3 3) = W3 := ⟨_, rfl⟩
      rw [hW3] at HE hother ⊢
      (try simp only [Exit.inBlock, Exit.then])
      refine bodyPost_ret (results_cell_row rfl _ W3 n _ _ _ _ rfl HE.1 Tryz.underlying25 rfl (by kernel_rfl)) rfl ?_
      obtain ⟨hl, h⟩ := HOwn.out
      rcases h with ⟨h, _⟩ | ⟨g, cap, cur, h, hgb, hgc, hcap, _, hcs, htake⟩
      · cases h
      · cases h
        refine ⟨_, rfl, ⟨n + 1, g5, n + 2, 26, cap5, 3, (baseE.map Value.string).toArray, cur, #[.string ⟨#[104, 116, 116, 112]⟩, .string ⟨#[104, 116, 116, 112, 115]⟩, .string ⟨#[109, 97, 105, 108, 116, 111]⟩], ?_, ?_, ?_, ?_, ?_, ?_, ?_, ?_, ?_, ?_, ?_, ?_, ?_, ?_, ?_, ?_, ?_, ?_, ?_⟩, by rw [HN.out]; exact HE.2⟩
        · rw [baseE_len, baseA_len]; rfl
        · rw [hother _ (by omega)]; exact k1.out
        · rw [hother _ (by omega)]; exact hgc
        · rw [hother _ (by omega)]; exact k2.out
        · rw [HN.out]; omega
        · rw [HN.out]; omega
        · rw [HN.out]; omega
        · omega
        · omega
        · omega
        · rw [baseE_len]; exact Nat.le_refl _
        · rw [baseA_len]; exact hcap
        · exact Nat.le_refl _
        · rw [List.size_toArray, List.length_map]; exact Nat.le_refl _
        · rw [baseA_len, hcs]; omega
        · exact Nat.le_refl _
        · rw [List.take_of_length_le (by rw [List.length_map]; exact Nat.le_refl _)]
        · rw [baseA_len]; exact htake
        · rfl

def Yes (w : World) (e : Ending) (w' : World) : Prop := e = .returned (.bool true) ∧ Below w.heap.size w w'
theorem below_on {w a b : World} (h : Below w.heap.size w a) (k : Below a.heap.size a b) : Below w.heap.size w b := h.trans (k.mono h.size)
theorem sizes_e : baseE.all (fun x => decide (x.size ≤ 100)) = true := by decide +kernel
theorem sizes_a : baseA.all (fun x => decide (x.1.size ≤ 100) && decide (x.2.size ≤ 100)) = true := by decide +kernel
theorem sizes_s : baseS.all (fun x => decide (x.size ≤ 100)) = true := by decide +kernel
theorem base_pol {lo : Nat} {w : World} {v : Value} (h : OwnPol lo w v baseE baseA baseS) : PolAt w v baseE baseA baseS :=
  h.pol (by rw [baseE_len]; decide) (by rw [baseA_len]; decide) (by decide) (fun x hx => by have := List.all_eq_true.1 sizes_e x hx; simp at this; unfold maxLen; omega) (fun x hx => by have := List.all_eq_true.1 sizes_a x hx; simp at this; unfold maxLen; omega) (fun x hx => by have := List.all_eq_true.1 sizes_s x hx; simp at this; unfold maxLen; omega)
theorem ex_k1 : keepsB baseE baseA baseS ⟨#[97]⟩ ⟨#[104, 114, 101, 102]⟩ ⟨#[74, 97, 118, 97, 83, 99, 114, 105, 112, 116, 58, 120]⟩ = false := by decide +kernel
theorem ex_k2 : keepsB baseE baseA baseS ⟨#[97]⟩ ⟨#[104, 114, 101, 102]⟩ ⟨#[47, 120]⟩ = true := by decide +kernel
theorem ex_c1 : checkB baseE baseA baseS = true := by decide +kernel
theorem ex_c2 : checkB [⟨#[116, 114]⟩] [] [] = false := by decide +kernel
theorem ex_n1 : knownB ⟨#[98]⟩ = true := by decide +kernel
theorem ex_n2 : knownB ⟨#[115, 99, 114, 105, 112, 116]⟩ = false := by decide +kernel
theorem ex_h : hasS baseE ⟨#[101, 109]⟩ = true := by decide +kernel
theorem errOf_t : errOf true = 0 := rfl
theorem errOf_f : errOf false = 50 := rfl
theorem one_pol (w : World) (b : Nat) (x : ByteArray) (hx : x.size ≤ maxLen) (h : w.heap[b]? = some (.cells #[.string x] 9 (0, 0))) : PolAt w (.agg #[.slice (some ⟨b, 0, none⟩) 1 1, .slice none 0 0, .slice none 0 0]) [x] [] [] :=
  ⟨⟨_, _, _, rfl, sl_own (vs := [.string x]) h (Nat.le_refl _) rfl rfl, ⟨_, _, rfl, Nat.le_refl _, rfl, fun h => absurd h (Nat.lt_irrefl 0)⟩, ⟨_, _, rfl, Nat.le_refl _, rfl, fun h => absurd h (Nat.lt_irrefl 0)⟩⟩, by simp, by decide, by decide, fun y hy => by obtain rfl := List.mem_singleton.1 hy; exact hx, fun y hy => absurd hy (by simp), fun y hy => absurd hy (by simp)⟩
set_option maxHeartbeats 4000000 in
set_option maxRecDepth 100000 in
theorem known_any (w : World) (ht : SpTab w) (hG : Glob w) : Calls Tryz.prog 10 #[] w (Yes w) := by
  have HT := Lib.hid ht
  have HG := Lib.hid hG
  have HBase := Lib.hid (base_any w ht hG)
  clear ht hG
  go_enter Tryz.func10, Tryz.ntmps10
  go_wp2_with fail
  refine Calls.mono HBase.out ?_
  rintro e w1 ⟨v, rfl, hown, b1⟩
  have HP := Lib.hid (base_pol hown)
  obtain ⟨bE, bA, bS, cE, cA, cS, xE, xA, xS, rfl, _⟩ := hown.is
  have HB1 := Lib.hid b1
  clear b1 hown
  obtain ⟨vE, hvE⟩ : ∃ vE, Value.slice (some ⟨bE, 0, none⟩) baseE.length cE = vE := ⟨_, rfl⟩
  obtain ⟨vA, hvA⟩ : ∃ vA, Value.slice (some ⟨bA, 0, none⟩) baseA.length cA = vA := ⟨_, rfl⟩
  obtain ⟨vS, hvS⟩ : ∃ vS, Value.slice (some ⟨bS, 0, none⟩) baseS.length cS = vS := ⟨_, rfl⟩
  have HPL := fun (w' : World) (hw' : Below w1.heap.size w1 w') => HP.out.later hw'
  obtain ⟨W1, hW1⟩ : ∃ W1, w1.alloc (.cells #[.slice (some ⟨bE, 0, none⟩) baseE.length cE, .slice (some ⟨bA, 0, none⟩) baseA.length cA, .slice (some ⟨bS, 0, none⟩) baseS.length cS] 25) = W1 := ⟨_, rfl⟩
  have hbW : Below w1.heap.size w1 W1 := by rw [← hW1]; exact (Below.refl _ w1).alloc (Nat.le_refl _) _
  have g1 : W1.heap[w1.heap.size]? = some (.cells #[.slice (some ⟨bE, 0, none⟩) baseE.length cE, .slice (some ⟨bA, 0, none⟩) baseA.length cA, .slice (some ⟨bS, 0, none⟩) baseS.length cS] 25 (0, 0)) := by rw [← hW1]; exact heap_alloc_new _ _
  have HW1 := Lib.hid hW1
  have HBW := Lib.hid hbW
  have HTW := Lib.hid fun (w' : World) (hw' : Below w1.heap.size w1 w') => HT.out.later (below_on HB1.out hw')
  have HGW := Lib.hid fun (w' : World) (hw' : Below w1.heap.size w1 w') => HG.out.later (below_on HB1.out hw')
  have HPW := Lib.hid HPL
  have hz1 : w1.heap.size < W1.heap.size := (Array.getElem?_eq_some_iff.1 g1).1
  clear hW1 hbW HPL hvE hvA hvS
  go_wp2_with fail
  rw [HW1.out]
  have hk1 := keeps_any _ baseE baseA baseS ⟨#[97]⟩ ⟨#[104, 114, 101, 102]⟩ ⟨#[74, 97, 118, 97, 83, 99, 114, 105, 112, 116, 58, 120]⟩ W1 (HPW.out _ HBW.out) (HGW.out _ HBW.out) (by decide)
  rw [ex_k1] at hk1
  refine Calls.mono hk1 ?_
  rintro e w2 ⟨rfl, b2⟩
  have HB2 := Lib.hid (HBW.out.trans (b2.mono HBW.out.size))
  have G2 := Lib.hid ((b2.block _ hz1).trans g1)
  have q2 := fun i => cell_of_row w2 w1.heap.size i _ _ _ G2.out
  have hz2 : w1.heap.size < w2.heap.size := (Array.getElem?_eq_some_iff.1 G2.out).1
  clear b2 hk1 g1
  go_wp2_with fail
  have hk2 := keeps_any _ baseE baseA baseS ⟨#[97]⟩ ⟨#[104, 114, 101, 102]⟩ ⟨#[47, 120]⟩ w2 (HPW.out _ HB2.out) (HGW.out _ HB2.out) (by decide)
  rw [ex_k2] at hk2
  refine Calls.mono hk2 ?_
  rintro e w3 ⟨rfl, b3⟩
  have hb3 := HB2.out.trans (b3.mono HB2.out.size)
  have g3 := (b3.block _ hz2).trans G2.out
  have hz3 : w1.heap.size < w3.heap.size := (Array.getElem?_eq_some_iff.1 g3).1
  obtain ⟨W4, hW4⟩ : ∃ W4, (w3.alloc (.cells #[.string ⟨#[116, 114]⟩] 9)).alloc (.cells #[.slice (some ⟨w3.heap.size, 0, none⟩) 1 1, .slice none 0 0, .slice none 0 0] 25) = W4 := ⟨_, rfl⟩
  have hb34 : Below w3.heap.size w3 W4 := by rw [← hW4]; exact ((Below.refl _ w3).alloc (Nat.le_refl _) _).alloc (by simp) _
  have HB4 := Lib.hid (hb3.trans (hb34.mono hb3.size))
  have g4 := (hb34.block _ hz3).trans g3
  have t4 : W4.heap[w3.heap.size]? = some (.cells #[.string ⟨#[116, 114]⟩] 9 (0, 0)) := by rw [← hW4]; exact (Below.heap_alloc _ _ _ (by simp)).trans (heap_alloc_new w3 _)
  have p4 : W4.heap[w3.heap.size + 1]? = some (.cells #[.slice (some ⟨w3.heap.size, 0, none⟩) 1 1, .slice none 0 0, .slice none 0 0] 25 (0, 0)) := by rw [← hW4, show w3.heap.size + 1 = (w3.alloc (.cells #[.string ⟨#[116, 114]⟩] 9)).heap.size by simp]; exact heap_alloc_new _ _
  have q4 := fun i => cell_of_row W4 w1.heap.size i _ _ _ g4
  rw [← hW4] at q4
  have HW4 := Lib.hid hW4
  clear b3 hk2 hb3 g3 hb34 q2 hW4 G2
  go_wp2_with fail
  rw [HW4.out]
  have hc1 := check_any _ baseE baseA baseS W4 (HPW.out _ HB4.out) (HTW.out _ HB4.out)
  rw [ex_c1] at hc1
  refine Calls.mono hc1 ?_
  rintro e w5 ⟨rfl, b5⟩
  rw [errOf_t]
  have HB5 := Lib.hid (HB4.out.trans (b5.mono HB4.out.size))
  have hz4 : w3.heap.size + 1 < W4.heap.size := (Array.getElem?_eq_some_iff.1 p4).1
  have g5 := (b5.block _ (by omega)).trans g4
  have t5 := (b5.block _ (by omega)).trans t4
  have p5 := (b5.block _ (by omega)).trans p4
  have q5 := fun i => cell_of_row w5 (w3.heap.size + 1) i _ _ _ p5
  clear b5 hc1 g4 t4 p4 q4
  go_wp2_with fail
  have hc2 := check_any _ [⟨#[116, 114]⟩] [] [] w5 (one_pol w5 w3.heap.size ⟨#[116, 114]⟩ (by decide) t5) (HTW.out _ HB5.out)
  rw [ex_c2] at hc2
  refine Calls.mono hc2 ?_
  rintro e w6 ⟨rfl, b6⟩
  rw [errOf_f]
  have HB6 := Lib.hid (HB5.out.trans (b6.mono HB5.out.size))
  have g6 := (b6.block _ (Array.getElem?_eq_some_iff.1 g5).1).trans g5
  clear b6 hc2 g5 t5 p5 q5
  go_wp2_with fail
  have hn1 := known_el ⟨#[98]⟩ w6 (HTW.out _ HB6.out) (by decide)
  rw [ex_n1] at hn1
  refine Calls.mono hn1 ?_
  rintro e w7 ⟨rfl, b7⟩
  have HB7 := Lib.hid (HB6.out.trans (b7.mono HB6.out.size))
  have g7 := (b7.block _ (Array.getElem?_eq_some_iff.1 g6).1).trans g6
  clear b7 hn1 g6
  go_wp2_with fail
  have hn2 := known_el ⟨#[115, 99, 114, 105, 112, 116]⟩ w7 (HTW.out _ HB7.out) (by decide)
  rw [ex_n2] at hn2
  refine Calls.mono hn2 ?_
  rintro e w8 ⟨rfl, b8⟩
  have HB8 := Lib.hid (HB7.out.trans (b8.mono HB7.out.size))
  have g8 := (b8.block _ (Array.getElem?_eq_some_iff.1 g7).1).trans g7
  have q8 := fun i => cell_of_row w8 w1.heap.size i _ _ _ g8
  clear b8 hn2 g7
  go_wp2_with fail
  have hh : Calls Tryz.prog 28 #[.agg #[.slice (some ⟨bE, 0, none⟩) baseE.length cE, .slice (some ⟨bA, 0, none⟩) baseA.length cA, .slice (some ⟨bS, 0, none⟩) baseS.length cS], .string ⟨#[101, 109]⟩] w8 (BoolR w8 (hasS baseE ⟨#[101, 109]⟩)) := by
    obtain ⟨vE', vA', vS', e, h1, _, _⟩ := (HPW.out _ HB8.out).is
    cases e
    exact has_any _ _ _ baseE ⟨#[101, 109]⟩ w8 h1 (by rw [baseE_len]; decide)
  rw [ex_h] at hh
  refine Calls.mono hh ?_
  rintro e w9 ⟨rfl, b9⟩
  have HB9 := Lib.hid (below_on HB1.out (HB8.out.trans (b9.mono HB8.out.size)))
  clear b9 hh g8 q8
  go_wp2
  go_ret
  exact ⟨rfl, HB9.out⟩
end Go.Proofs.YtdkjenbncmedbaaGreatDoor
