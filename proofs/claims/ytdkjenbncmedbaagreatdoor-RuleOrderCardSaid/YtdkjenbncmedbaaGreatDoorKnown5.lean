/- tympanlaw05.known: the chapter's examples hold. -/
import Derived.Test.YtdkjenbncmedbaaGreatDoorBase
namespace Go.Proofs.YtdkjenbncmedbaaGreatDoor
open Go.RowKit

def Yes (w : World) (e : Ending) (w' : World) : Prop := e = .returned (.bool true) ∧ Below w.heap.size w w'
theorem below_on {w a b : World} (h : Below w.heap.size w a) (k : Below a.heap.size a b) : Below w.heap.size w b := h.trans (k.mono h.size)
theorem sizes_e : baseE.all (fun x => decide (x.size ≤ 100)) = true := by decide +kernel
theorem sizes_a : baseA.all (fun x => decide (x.1.size ≤ 100) && decide (x.2.size ≤ 100)) = true := by decide +kernel
theorem sizes_s : baseS.all (fun x => decide (x.size ≤ 100)) = true := by decide +kernel
theorem base_pol {lo : Nat} {w : World} {v : Value} (h : OwnPol lo w v baseE baseA baseS) : PolAt w v baseE baseA baseS :=
  h.pol (by rw [baseE_len]; decide) (by rw [baseA_len]; decide) (by decide) (fun x hx => by have := List.all_eq_true.1 sizes_e x hx; simp at this; unfold maxLen; omega) (fun x hx => by have := List.all_eq_true.1 sizes_a x hx; simp at this; unfold maxLen; omega) (fun x hx => by have := List.all_eq_true.1 sizes_s x hx; simp at this; unfold maxLen; omega)
theorem ex_k1 : keepsB baseE baseA baseS ⟨#[97]⟩ ⟨#[104, 114, 101, 102]⟩ ⟨#[74, 97, 118, 97, 83, 99, 114, 105, 112, 116, 58, 120]⟩ = false := by decide +kernel
theorem ex_k2 : keepsB baseE baseA baseS ⟨#[97]⟩ ⟨#[104, 114, 101, 102]⟩ ⟨#[47, 120]⟩ = true := by decide +kernel
theorem ex_c1 : checkB baseE baseA baseS = true := by decide +kernel
theorem ex_c2 : checkB [⟨#[116, 114]⟩] [] [] = false := by decide +kernel
theorem ex_n1 : knownB ⟨#[98]⟩ = true := by decide +kernel
theorem ex_n2 : knownB ⟨#[115, 99, 114, 105, 112, 116]⟩ = false := by decide +kernel
theorem ex_h : hasS baseE ⟨#[101, 109]⟩ = true := by decide +kernel
theorem errOf_t : errOf true = 0 := rfl
theorem errOf_f : errOf false = 50 := rfl
theorem one_pol (w : World) (b : Nat) (x : ByteArray) (hx : x.size ≤ maxLen) (h : w.heap[b]? = some (.cells #[.string x] 9 (0, 0))) : PolAt w (.agg #[.slice (some ⟨b, 0, none⟩) 1 1, .slice none 0 0, .slice none 0 0]) [x] [] [] :=
  ⟨⟨_, _, _, rfl, sl_own (vs := [.string x]) h (Nat.le_refl _) rfl rfl, ⟨_, _, rfl, Nat.le_refl _, rfl, fun h => absurd h (Nat.lt_irrefl 0)⟩, ⟨_, _, rfl, Nat.le_refl _, rfl, fun h => absurd h (Nat.lt_irrefl 0)⟩⟩, by simp, by decide, by decide, fun y hy => by obtain rfl := List.mem_singleton.1 hy; exact hx, fun y hy => absurd hy (by simp), fun y hy => absurd hy (by simp)⟩
set_option maxHeartbeats 4000000 in
set_option maxRecDepth 100000 in
theorem known_any (w : World) (ht : SpTab w) (hG : Glob w) : Calls Tryz.prog 10 #[] w (Yes w) := by
  have HT := Lib.hid ht
  have HG := Lib.hid hG
  have HBase := Lib.hid (base_any w ht hG)
  clear ht hG
  go_enter Tryz.func10, Tryz.ntmps10
  go_wp2_with fail
  refine Calls.mono HBase.out ?_
  rintro e w1 ⟨v, rfl, hown, b1⟩
  have HP := Lib.hid (base_pol hown)
  obtain ⟨bE, bA, bS, cE, cA, cS, xE, xA, xS, rfl, _⟩ := hown.is
  have HB1 := Lib.hid b1
  clear b1 hown
  obtain ⟨vE, hvE⟩ : ∃ vE, Value.slice (some ⟨bE, 0, none⟩) baseE.length cE = vE := ⟨_, rfl⟩
  obtain ⟨vA, hvA⟩ : ∃ vA, Value.slice (some ⟨bA, 0, none⟩) baseA.length cA = vA := ⟨_, rfl⟩
  obtain ⟨vS, hvS⟩ : ∃ vS, Value.slice (some ⟨bS, 0, none⟩) baseS.length cS = vS := ⟨_, rfl⟩
  have HPL := fun (w' : World) (hw' : Below w1.heap.size w1 w') => HP.out.later hw'
  obtain ⟨W1, hW1⟩ : ∃ W1, w1.alloc (.cells #[.slice (some ⟨bE, 0, none⟩) baseE.length cE, .slice (some ⟨bA, 0, none⟩) baseA.length cA, .slice (some ⟨bS, 0, none⟩) baseS.length cS] 25) = W1 := ⟨_, rfl⟩
  have hbW : Below w1.heap.size w1 W1 := by rw [← hW1]; exact (Below.refl _ w1).alloc (Nat.le_refl _) _
  have g1 : W1.heap[w1.heap.size]? = some (.cells #[.slice (some ⟨bE, 0, none⟩) baseE.length cE, .slice (some ⟨bA, 0, none⟩) baseA.length cA, .slice (some ⟨bS, 0, none⟩) baseS.length cS] 25 (0, 0)) := by rw [← hW1]; exact heap_alloc_new _ _
  have HW1 := Lib.hid hW1
  have HBW := Lib.hid hbW
  have HTW := Lib.hid fun (w' : World) (hw' : Below w1.heap.size w1 w') => HT.out.later (below_on HB1.out hw')
  have HGW := Lib.hid fun (w' : World) (hw' : Below w1.heap.size w1 w') => HG.out.later (below_on HB1.out hw')
  have HPW := Lib.hid HPL
  have hz1 : w1.heap.size < W1.heap.size := (Array.getElem?_eq_some_iff.1 g1).1
  clear hW1 hbW HPL hvE hvA hvS
  go_wp2_with fail
  rw [HW1.out]
  have hk1 := keeps_any _ baseE baseA baseS ⟨#[97]⟩ ⟨#[104, 114, 101, 102]⟩ ⟨#[74, 97, 118, 97, 83, 99, 114, 105, 112, 116, 58, 120]⟩ W1 (HPW.out _ HBW.out) (HGW.out _ HBW.out) (by decide)
  rw [ex_k1] at hk1
  refine Calls.mono hk1 ?_
  rintro e w2 ⟨rfl, b2⟩
  have HB2 := Lib.hid (HBW.out.trans (b2.mono HBW.out.size))
  have G2 := Lib.hid ((b2.block _ hz1).trans g1)
  have q2 := fun i => cell_of_row w2 w1.heap.size i _ _ _ G2.out
  have hz2 : w1.heap.size < w2.heap.size := (Array.getElem?_eq_some_iff.1 G2.out).1
  clear b2 hk1 g1
  go_wp2_with fail
  have hk2 := keeps_any _ baseE baseA baseS ⟨#[97]⟩ ⟨#[104, 114, 101, 102]⟩ ⟨#[47, 120]⟩ w2 (HPW.out _ HB2.out) (HGW.out _ HB2.out) (by decide)
  rw [ex_k2] at hk2
  refine Calls.mono hk2 ?_
  rintro e w3 ⟨rfl, b3⟩
  have hb3 := HB2.out.trans (b3.mono HB2.out.size)
  have g3 := (b3.block _ hz2).trans G2.out
  have hz3 : w1.heap.size < w3.heap.size := (Array.getElem?_eq_some_iff.1 g3).1
  obtain ⟨W4, hW4⟩ : ∃ W4, (w3.alloc (.cells #[.string ⟨#[116, 114]⟩] 9)).alloc (.cells #[.slice (some ⟨w3.heap.size, 0, none⟩) 1 1, .slice none 0 0, .slice none 0 0] 25) = W4 := ⟨_, rfl⟩
  have hb34 : Below w3.heap.size w3 W4 := by rw [← hW4]; exact ((Below.refl _ w3).alloc (Nat.le_refl _) _).alloc (by simp) _
  have HB4 := Lib.hid (hb3.trans (hb34.mono hb3.size))
  have g4 := (hb34.block _ hz3).trans g3
  have t4 : W4.heap[w3.heap.size]? = some (.cells #[.string ⟨#[116, 114]⟩] 9 (0, 0)) := by rw [← hW4]; exact (Below.heap_alloc _ _ _ (by simp)).trans (heap_alloc_new w3 _)
  have p4 : W4.heap[w3.heap.size + 1]? = some (.cells #[.slice (some ⟨w3.heap.size, 0, none⟩) 1 1, .slice none 0 0, .slice none 0 0] 25 (0, 0)) := by rw [← hW4, show w3.heap.size + 1 = (w3.alloc (.cells #[.string ⟨#[116, 114]⟩] 9)).heap.size by simp]; exact heap_alloc_new _ _
  have q4 := fun i => cell_of_row W4 w1.heap.size i _ _ _ g4
  rw [← hW4] at q4
  have HW4 := Lib.hid hW4
  clear b3 hk2 hb3 g3 hb34 q2 hW4 G2
  go_wp2_with fail
  rw [HW4.out]
  have hc1 := check_any _ baseE baseA baseS W4 (HPW.out _ HB4.out) (HTW.out _ HB4.out)
  rw [ex_c1] at hc1
  refine Calls.mono hc1 ?_
  rintro e w5 ⟨rfl, b5⟩
  rw [errOf_t]
  have HB5 := Lib.hid (HB4.out.trans (b5.mono HB4.out.size))
  have hz4 : w3.heap.size + 1 < W4.heap.size := (Array.getElem?_eq_some_iff.1 p4).1
  have g5 := (b5.block _ (by omega)).trans g4
  have t5 := (b5.block _ (by omega)).trans t4
  have p5 := (b5.block _ (by omega)).trans p4
  have q5 := fun i => cell_of_row w5 (w3.heap.size + 1) i _ _ _ p5
  clear b5 hc1 g4 t4 p4 q4
  go_wp2_with fail
  have hc2 := check_any _ [⟨#[116, 114]⟩] [] [] w5 (one_pol w5 w3.heap.size ⟨#[116, 114]⟩ (by decide) t5) (HTW.out _ HB5.out)
  rw [ex_c2] at hc2
  refine Calls.mono hc2 ?_
  rintro e w6 ⟨rfl, b6⟩
  rw [errOf_f]
  have HB6 := Lib.hid (HB5.out.trans (b6.mono HB5.out.size))
  have g6 := (b6.block _ (Array.getElem?_eq_some_iff.1 g5).1).trans g5
  clear b6 hc2 g5 t5 p5 q5
  go_wp2_with fail
  have hn1 := known_el ⟨#[98]⟩ w6 (HTW.out _ HB6.out) (by decide)
  rw [ex_n1] at hn1
  refine Calls.mono hn1 ?_
  rintro e w7 ⟨rfl, b7⟩
  have HB7 := Lib.hid (HB6.out.trans (b7.mono HB6.out.size))
  have g7 := (b7.block _ (Array.getElem?_eq_some_iff.1 g6).1).trans g6
  clear b7 hn1 g6
  go_wp2_with fail
  have hn2 := known_el ⟨#[115, 99, 114, 105, 112, 116]⟩ w7 (HTW.out _ HB7.out) (by decide)
  rw [ex_n2] at hn2
  refine Calls.mono hn2 ?_
  rintro e w8 ⟨rfl, b8⟩
  have HB8 := Lib.hid (HB7.out.trans (b8.mono HB7.out.size))
  have g8 := (b8.block _ (Array.getElem?_eq_some_iff.1 g7).1).trans g7
  have q8 := fun i => cell_of_row w8 w1.heap.size i _ _ _ g8
  clear b8 hn2 g7
  go_wp2_with fail
  have hh : Calls Tryz.prog 28 #[.agg #[.slice (some ⟨bE, 0, none⟩) baseE.length cE, .slice (some ⟨bA, 0, none⟩) baseA.length cA, .slice (some ⟨bS, 0, none⟩) baseS.length cS], .string ⟨#[101, 109]⟩] w8 (BoolR w8 (hasS baseE ⟨#[101, 109]⟩)) := by
    obtain ⟨vE', vA', vS', e, h1, _, _⟩ := (HPW.out _ HB8.out).is
    cases e
    exact has_any _ _ _ baseE ⟨#[101, 109]⟩ w8 h1 (by rw [baseE_len]; decide)
  rw [ex_h] at hh
  refine Calls.mono hh ?_
  rintro e w9 ⟨rfl, b9⟩
  have HB9 := Lib.hid (below_on HB1.out (HB8.out.trans (b9.mono HB8.out.size)))
  clear b9 hh g8 q8
  go_wp2
  go_ret
  exact ⟨rfl, HB9.out⟩
end Go.Proofs.YtdkjenbncmedbaaGreatDoor
