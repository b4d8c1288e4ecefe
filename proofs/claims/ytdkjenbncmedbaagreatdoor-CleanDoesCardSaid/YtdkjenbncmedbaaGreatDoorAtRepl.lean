/- strings.ReplaceAll over this dump's Builder, at a text that is not empty. -/
import Derived.Test.YtdkjenbncmedbaaGreatDoorAtGrow
import Derived.Lib.Hide
namespace Go.Proofs.YtdkjenbncmedbaaGreatDoor
open Go.RowKit

theorem ext_drop (s : ByteArray) (k : Nat) : (s.extract k s.size).data.toList = s.data.toList.drop k := by
  rw [Lib.extract_data, List.take_of_length_le]
  rw [List.length_drop, Array.length_toList]
  exact Nat.le_refl _
def MaxB (w : World) : Prop := ∃ m, w.cell? ⟨2, 0, none⟩ = some (.int .i64 m)
theorem MaxB.later {w w' : World} (h : MaxB w) (hb : Below w.heap.size w w') : MaxB w' := by
  obtain ⟨m, hm⟩ := h
  exact ⟨m, (hb.cell (p := ⟨2, 0, none⟩) (World.block_lt_of_cell? _ _ hm)).trans hm⟩
def RpR (w : World) (l : List UInt8) (e : Ending) (w' : World) : Prop := e = .returned (.string ⟨l.toArray⟩) ∧ Below w.heap.size w w'

set_option maxHeartbeats 16000000 in
set_option maxRecDepth 1000000 in
theorem replace_some (s old new : ByteArray) (m : Int) (w : World)
    (hs : s.size < 4294967281) (hm : w.cell? ⟨2, 0, none⟩ = some (.int .i64 m)) (h1 : 1 ≤ old.size) (hne : old ≠ new) (hc0 : Lib.countB s old ≠ 0)
    (hlen : s.size + Lib.countB s old * new.size ≤ 140737488355328) :
    Calls Tryz.prog 133 #[.string s, .string old, .string new, .int .i64 (-1)] w (RpR w (Lib.replaceK old.data.toList new.data.toList (Lib.countB s old) s.data.toList)) := by
  have hC := Tryz.strings_Count_any s old m w hs hm h1
  have hmul := Lib.countB_mul_le old h1 s.size s (Nat.le_refl _)
  obtain ⟨K, hK⟩ : ∃ K : Nat, Lib.countB s old = K := ⟨_, rfl⟩
  rw [hK] at hC hlen hc0 hmul ⊢
  have hcn' : Lib.count s.data.toList old.data.toList = K := hK
  have hbeq : (old.toList == new.toList) = false := (Lib.bytes_beq_false_iff old new).2 hne
  have hcz : ((K : Int) == 0) = false := beq_eq_false_iff_ne.2 (by omega)
  have hlenL : s.data.toList.length = s.size := (Lib.size_eq s).symm
  have hlenO : old.data.toList.length = old.size := (Lib.size_eq old).symm
  have hgl : 2 < w.heap.size := World.block_lt_of_cell? _ _ hm
  have hK1 : 1 ≤ K := by omega
  have hKo : K * old.size ≤ s.size := hmul
  have hKs : K ≤ s.size := Nat.le_trans (Nat.le_mul_of_pos_right K (by omega)) hKo
  have hKn : s.size + K * new.size ≤ 140737488355328 := hlen
  have hga := Lib.grow_arg s.size K new.size old.size hK1 hKo hKn
  have hKcount : K ≤ Lib.count (s.data.toList.drop 0) old.data.toList := by rw [List.drop_zero, hcn']; exact Nat.le_refl _
  clear hK hcn' hmul hlen
  have hod : decide (0 < old.size) = true := decide_eq_true (by omega)
  go_enter Tryz.func133, Tryz.ntmps133
  go_wp2_with (first | (go_at_call 141; refine hC.mono ?_; rintro e w' ⟨rfl, hw⟩; rw [hw]))
  clear hC
  try rw [hga]
  refine (Grow_fresh w.heap.size w.heap.size _ _ (Nat.le_refl _) (heap_alloc_new w _) (by simp) (by omega)).mono ?_
  rintro e w1 ⟨rfl, hb0, hb1⟩
  have H1 := Lib.hid (Lib.IsBuilderF.of (Or.inr hb0) : Bld 171 w.heap.size w.heap.size [] w1)
  have Hb1 := Lib.hid (((Below.refl w.heap.size w).alloc (Nat.le_refl _) _).trans hb1)
  clear hb0 hb1 hga
  go_wp2_with fail
  go_loopg [11, 53] K (fun g s11 s53 wx => ∃ (i start : Nat) (acc : List UInt8), s53 = .int .i64 i ∧ s11 = .int .i64 start ∧ i + g = K ∧ start ≤ s.size ∧
    Hid (Bld 171 w.heap.size w.heap.size acc wx) ∧ Hid (Below w.heap.size w wx) ∧ Hid (acc ++ Lib.replaceK old.data.toList new.data.toList g (s.data.toList.drop start) = Lib.replaceK old.data.toList new.data.toList K s.data.toList) ∧
    g ≤ Lib.count (s.data.toList.drop start) old.data.toList ∧ acc.length + (s.size - start) + g * new.size ≤ s.size + K * new.size)
  case atStart => exact ⟨0, 0, [], rfl, rfl, by omega, Nat.zero_le _, H1, Hb1, Lib.hid (by simp), hKcount, by simp⟩
  case round =>
    obtain ⟨i, start, acc, rfl, rfl, hig, hst, HB, HW, HR, hgc, hbd⟩ := hrel
    have hBw : w.heap.size ≤ wr.heap.size := HW.out.size
    have c1 : (0 : Int) ≤ (start : Int) := by omega
    have c2 : (start : Int) ≤ (s.size : Int) := by omega
    cases gk with
    | zero =>
      have hiK : ¬ ((i : Int) < (K : Int)) := by omega
      have hex := ext_drop s start
      go_wp2_with fail
      refine (bld_WriteString atT w.heap.size w.heap.size _ _ wr HB.out (by rw [ByteArray.size_extract]; omega) hBw).mono ?_
      rintro e w3 ⟨rfl, h3, hb3, _⟩
      rw [hex] at h3
      have hfin : acc ++ s.data.toList.drop start = Lib.replaceK old.data.toList new.data.toList K s.data.toList := HR.out
      rw [hfin] at h3
      have H3 := Lib.hid h3
      have Hb3 := Lib.hid (HW.out.trans hb3)
      have hBw3 : w.heap.size ≤ w3.heap.size := Hb3.out.size
      clear h3 hb3 hfin hex
      go_wp2_with fail
      refine (bld_String 171 w.heap.size w.heap.size _ w3 H3.out hBw3).mono ?_
      rintro e w5 ⟨rfl, _, hb5, _⟩
      have Hb5 := Lib.hid (Hb3.out.trans hb5)
      clear hb5
      go_wp2
      go_ret
      exact ⟨rfl, Hb5.out⟩
    | succ g =>
      have hiK : (i : Int) < (K : Int) := by omega
      obtain ⟨j, hj⟩ := Lib.index_of_count (s := s.data.toList.drop start) (old := old.data.toList) (by omega)
      have hroom : j + old.size ≤ s.size - start := by
        have := Lib.index_room (s.data.toList.drop start) old.data.toList (by rw [hj]; omega)
        rw [hj, List.length_drop, hlenL, hlenO] at this
        omega
      have hmr : wr.cell? ⟨2, 0, none⟩ = some (.int .i64 m) := by rw [HW.out.cell (p := ⟨2, 0, none⟩) hgl]; exact hm
      have hsucc : (g + 1) * new.size = g * new.size + new.size := Nat.succ_mul _ _
      have c3 : (start : Int) ≤ (start : Int) + (j : Int) := by omega
      have c4 : (start : Int) + (j : Int) ≤ (s.size : Int) := by omega
      have hnext : acc ++ (s.extract start (start + j)).data.toList ++ new.data.toList = acc ++ (s.data.toList.drop start).take j ++ new.data.toList := by
        rw [Lib.extract_data, Nat.add_sub_cancel_left]
      have hrep : (acc ++ (s.data.toList.drop start).take j ++ new.data.toList) ++ Lib.replaceK old.data.toList new.data.toList g (s.data.toList.drop (start + j + old.size)) = Lib.replaceK old.data.toList new.data.toList K s.data.toList := by
        rw [← HR.out, Lib.replaceK_hit _ _ g _ j hj, List.drop_drop, hlenO]
        simp only [List.append_assoc, Nat.add_assoc]
      have hcnt : g ≤ Lib.count (s.data.toList.drop (start + j + old.size)) old.data.toList := by
        have := Lib.count_hit (s := s.data.toList.drop start) (sub := old.data.toList) (i := j) (fun e => by rw [e] at hlenO; simp at hlenO; omega) hj
        rw [List.drop_drop, hlenO] at this
        rw [show start + j + old.size = start + (j + old.size) by omega]
        omega
      have htl : ((s.data.toList.drop start).take j).length = j := by rw [List.length_take, List.length_drop, hlenL]; omega
      have Hn := Lib.hid hnext
      have Hrep := Lib.hid hrep
      clear hnext hrep HR
      go_wp2_with (first | (go_at_call 113; refine (Tryz.strings_Index _ _ m _ (by rw [ByteArray.size_extract]; omega) hmr).mono ?_; rintro e w' ⟨rfl, hw⟩; rw [hw, Lib.extract_to_end, hj]))
      refine (bld_WriteString atT w.heap.size w.heap.size _ (s.extract start (start + j)) wr HB.out (by rw [ByteArray.size_extract]; omega) hBw).mono ?_
      rintro e w3 ⟨rfl, h3, hb3, _⟩
      have hBw3 : w.heap.size ≤ w3.heap.size := Nat.le_trans hBw hb3.size
      have H3 := Lib.hid h3
      have Hb3 := Lib.hid hb3
      clear h3 hb3
      go_wp2_with fail
      refine (bld_WriteString atT w.heap.size w.heap.size _ new w3 H3.out (by rw [List.length_append, Lib.extract_data, List.length_take, List.length_drop, hlenL]; omega) hBw3).mono ?_
      rintro e w4 ⟨rfl, h4, hb4, _⟩
      rw [Hn.out] at h4
      have H4 := Lib.hid h4
      have Hb4 := Lib.hid ((HW.out.trans Hb3.out).trans hb4)
      clear h4 hb4
      go_wp2
      go_roundg g
      case measure => omega
      case rel => exact ⟨i + 1, start + j + old.size, _, by first | rfl | (simp; unfold wrap64; omega), by first | rfl | simp | (simp; unfold wrap64; omega), by omega, by omega, H4, Hb4, Hrep, hcnt, by simp only [List.length_append, htl, ← Lib.size_eq]; omega⟩

/-- strings.ReplaceAll. -/
theorem replaceAll_any (s old new : ByteArray) (w : World) (hs : s.size < 4294967281) (hm : MaxB w) (h1 : 1 ≤ old.size) (hne : old ≠ new) (hlen : s.size + Lib.countB s old * new.size ≤ 140737488355328) :
    Calls Tryz.prog 112 #[.string s, .string old, .string new] w (RpR w (Lib.replaceK old.data.toList new.data.toList (Lib.countB s old) s.data.toList)) := by
  obtain ⟨m, hm⟩ := hm
  have hc : Calls Tryz.prog 133 #[.string s, .string old, .string new, .int .i64 (-1)] w (RpR w (Lib.replaceK old.data.toList new.data.toList (Lib.countB s old) s.data.toList)) := by
    by_cases hc0 : Lib.countB s old = 0
    · refine (Tryz.strings_Replace_absent s old new (-1) m w hs hm h1 hne (by decide) hc0).mono fun e w' ⟨h1', h2'⟩ => ⟨?_, h2' ▸ Below.refl _ _⟩
      rw [h1', hc0, Lib.replaceK, Lib.mk_data]
    · exact replace_some s old new m w hs hm h1 hne hc0 hlen
  have HC := Lib.hid hc
  clear hc hm hlen hne
  go_enter Tryz.func112, Tryz.ntmps112
  go_wp2_with fail
  refine HC.out.mono ?_
  rintro e w1 ⟨rfl, b1⟩
  have HB1 := Lib.hid b1
  clear b1
  go_wp2
  go_ret
  exact ⟨rfl, HB1.out⟩
end Go.Proofs.YtdkjenbncmedbaaGreatDoor
