/- lower's writer: puts writes its texts, one behind the other. -/
import Derived.Test.YtibaoocklempnaaGreatDoorRow
import Derived.Test.YtibaoocklempnaaGreatDoorLText
import Derived.IntWalk
namespace Go.Proofs.YtibaoocklempnaaGreatDoor
open Go.RowKit

theorem Bld.below {T B b : Nat} {l : List UInt8} {w w' : World} (h : Bld T B b l w) (hb : Below w.heap.size w w') : Bld T B b l w' := by
  have key : ∀ p : Value, Lib.BuilderAtF T 5 B b p (Lib.byteCells l) w → Lib.BuilderAtF T 5 B b p (Lib.byteCells l) w' := by
    rintro p ⟨hB, v, hbk, hown, hne⟩
    have hlt := (Array.getElem?_eq_some_iff.1 hbk).1
    refine ⟨hB, v, (hb.block b hlt).trans hbk, ⟨hown.1, ?_⟩, hne⟩
    rcases hown.2 with h | ⟨g, cap, cur, fz, hv, hbg, hg, r⟩
    · exact .inl h
    · exact .inr ⟨g, cap, cur, fz, hv, hbg, (hb.block g (Array.getElem?_eq_some_iff.1 hg).1).trans hg, r⟩
  exact h.elim (fun x => .inl (key _ x)) (fun x => .inr (key _ x))
theorem Bld.drew {T B b : Nat} {l : List UInt8} {w : World} (h : Bld T B b l w) : Bld T B b l w.drew := h
theorem Kept.drew {b : Nat} {u w : World} (h : Kept b u w) : Kept b u w.drew := h
theorem Kept.of_below {b : Nat} {w w' : World} (hb : Below w.heap.size w w') : Kept b w w' := by
  intro k o hk _ _
  exact (hb.block k (Array.getElem?_eq_some_iff.1 hk).1).trans hk
theorem Kept.drewN {b : Nat} {u w : World} (h : Kept b u w) (d : Nat) : Kept b u (w.drewN d) := h
theorem Kept.box {b g : Nat} {t : TypeId} {cs : Array Value} {w w' : World} (h : Box w g t cs) (k : Kept b w w') (hg : g ≠ b) (ht : t ≠ 5) : Box w' g t cs := by
  have h2 := k g _ h (by intro e; cases e; exact hg rfl)
  exact h2 (by intro cs' fz e; cases e; exact ht rfl)

theorem wrT : BldT 83 := ⟨by kernel_rfl, by decide⟩
/-- Texts, one behind the other. -/
def cat (ss : List ByteArray) : List UInt8 := (ss.map (·.data.toList)).flatten
theorem cat_take (ss : List ByteArray) (k : Nat) (hk : k < ss.length) : cat (ss.take (k + 1)) = cat (ss.take k) ++ ss[k].data.toList := by
  unfold cat
  rw [List.take_succ_eq_append_getElem hk, List.map_append, List.flatten_append]
  simp
theorem cat_le (ss : List ByteArray) (k : Nat) (hk : k < ss.length) : (cat (ss.take k)).length + ss[k].size ≤ (cat ss).length := by
  have h1 : ss[k].data.toList.length = ss[k].size := Array.length_toList
  have h2 := cat_take ss k hk
  have h3 : cat ss = cat (ss.take (k + 1)) ++ cat (ss.drop (k + 1)) := by
    unfold cat
    rw [← List.flatten_append, ← List.map_append, List.take_append_drop]
  rw [h3, h2, List.length_append, List.length_append]
  omega
/-- What a writer's call leaves. -/
def WrR (w : World) (B b : Nat) (l : List UInt8) (e : Ending) (w' : World) : Prop := e = .returned (.tuple #[]) ∧ Bld 83 B b l w' ∧ Below B w w' ∧ Kept b w w'
def PutW (ss : List ByteArray) (acc : List UInt8) (w : World) (B b : Nat) (i : Value) (wr : World) : Prop :=
  ∃ k : Nat, i = .int .i64 k ∧ k ≤ ss.length ∧ Bld 83 B b (acc ++ cat (ss.take k)) wr ∧ Below B w wr ∧ Kept b w wr

set_option maxHeartbeats 1000000 in
set_option maxRecDepth 100000 in
theorem puts_any (B b g : Nat) (acc : List UInt8) (ss : List ByteArray) (w : World) (hB : Bld 83 B b acc w) (hg : Box w g 9 (ss.map Value.string).toArray) (hgb : g ≠ b) (hn : ss.length ≤ 1000) (hlen : acc.length + (cat ss).length ≤ 140737488355328) :
    Calls Tryz.prog 101 #[.pointer (some ⟨b, 0, none⟩), .slice (some ⟨g, 0, none⟩) ss.length ss.length] w (WrR w B b (acc ++ cat ss)) := by
  have hBw : B ≤ w.heap.size := Nat.le_trans hB.le (Nat.le_of_lt hB.lt)
  have HB := Lib.hid hB
  have HG := Lib.hid hg
  clear hB hg
  go_enter Tryz.func101, Tryz.ntmps101
  go_wp2_with fail
  go_loopw [8] (fun i wr => PutW ss acc w B b i wr) (fun i _ => ss.length - (intOf i).toNat)
  case atStart => exact ⟨0, rfl, Nat.zero_le _, by simpa [cat] using HB.out, Below.refl _ _, Kept.refl _ _⟩
  case round =>
    obtain ⟨k, rfl, hk, hb, hbl, hkp⟩ := hrel
    have hz := hbl.size
    by_cases hlt : k < ss.length
    · have hbx := HG.out
      have hbx2 := Kept.box hbx hkp hgb (by decide)
      have hc := hbx2.cell k
      rw [List.getElem?_toArray, List.getElem?_map, List.getElem?_eq_getElem hlt] at hc
      obtain ⟨x, hx⟩ : ∃ x, ss[k] = x := ⟨_, rfl⟩
      have hle := cat_le ss k hlt
      have htk := cat_take ss k hlt
      rw [hx] at hc hle htk
      simp only [Option.map_some] at hc
      have hl2 : (acc ++ cat (ss.take k)).length + x.size ≤ 140737488355328 := by rw [List.length_append]; omega
      have HH := Lib.hid hb
      have HBL := Lib.hid hbl
      have HKP := Lib.hid hkp
      have HTK := Lib.hid htk
      have HL2 := Lib.hid hl2
      clear hb hbl hkp hbx hbx2 hle htk hl2
      go_wp2_with fail
      refine Calls.mono (bld_WriteString wrT B b _ x _ HH.out HL2.out (by omega)) ?_
      rintro e w1 ⟨rfl, h1, b1, k1⟩
      have H1 := Lib.hid h1
      have HB1 := Lib.hid b1
      have HK1 := Lib.hid k1
      clear h1 b1 k1
      go_wp2
      go_roundw
      case rel => exact ⟨k + 1, by go_num, hlt, by rw [HTK.out, ← List.append_assoc]; exact H1.out, HBL.out.trans HB1.out, HKP.out.trans HK1.out⟩
      case measure => simp [intOf]; omega
    · obtain rfl : k = ss.length := by omega
      go_wp2
      go_end0
      rw [List.take_of_length_le (Nat.le_refl _)] at hb
      exact ⟨rfl, hb, hbl, hkp⟩
end Go.Proofs.YtibaoocklempnaaGreatDoor
