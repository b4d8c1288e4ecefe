/- Package write's 'node' at texts, notes and others. -/
import Derived.Test.YtlhfjlfoddjciaaNode
namespace Go.Proofs.Ytlhfjlfoddjciaa
open Go.RowKit

theorem listed_eq (row : ByteArray) (ws : List ByteArray) (h : row.data.toList = rowOf (ws.map (·.data.toList))) (hws : ∀ w ∈ ws.map (·.data.toList), (32 : UInt8) ∉ w) (space : Nat) (name : ByteArray) :
    listedB row space name = (decide (space = 0) && inList ws name) := by
  unfold listedB
  congr 1
  have hin : inList ws name = decide (name.data.toList ∈ ws.map (·.data.toList)) := by
    rw [Bool.eq_iff_iff]
    simp only [inList, List.any_eq_true, decide_eq_true_eq, List.mem_map, beq_iff_eq, ByteArray.toList_eq]
  have hsp : hasSpace name = name.data.toList.contains 32 := (Lib.contains_iff_indexByte _ _).symm
  rw [hin, hsp, h]
  by_cases h32 : (32 : UInt8) ∈ name.data.toList
  · have : name.data.toList.contains 32 = true := by simpa using h32
    rw [this]
    simp only [Bool.not_true, Bool.false_and]
    symm
    rw [decide_eq_false_iff_not]
    intro hm
    exact hws _ hm h32
  · have : name.data.toList.contains 32 = false := by simpa using h32
    rw [this, row_has _ h32 _ hws]
    simp

def noteOut (text : ByteArray) : List UInt8 := [60, 33, 45, 45] ++ text.data.toList ++ [45, 45, 62]
def NodeR (w : World) (B b : Nat) (l : List UInt8) (e : Ending) (w' : World) : Prop := e = .returned (.tuple #[]) ∧ Bld 45 B b l w' ∧ Below B w w' ∧ Kept b w w'

theorem Bld.below {T B b : Nat} {l : List UInt8} {w w' : World} (h : Bld T B b l w) (hb : Below w.heap.size w w') : Bld T B b l w' := by
  have key : ∀ p : Value, Lib.BuilderAtF T 5 B b p (Lib.byteCells l) w → Lib.BuilderAtF T 5 B b p (Lib.byteCells l) w' := by
    rintro p ⟨hB, v, hbk, hown, hne⟩
    have hlt := (Array.getElem?_eq_some_iff.1 hbk).1
    refine ⟨hB, v, (hb.block b hlt).trans hbk, ⟨hown.1, ?_⟩, hne⟩
    rcases hown.2 with h | ⟨g, cap, cur, fz, hv, hbg, hg, r⟩
    · exact .inl h
    · exact .inr ⟨g, cap, cur, fz, hv, hbg, (hb.block g (Array.getElem?_eq_some_iff.1 hg).1).trans hg, r⟩
  exact h.elim (fun x => .inl (key _ x)) (fun x => .inr (key _ x))
theorem Bld.drew {T B b : Nat} {l : List UInt8} {w : World} (h : Bld T B b l w) : Bld T B b l w.drew := h
theorem Kept.drew {b : Nat} {u w : World} (h : Kept b u w) : Kept b u w.drew := h
theorem Kept.of_below {b : Nat} {w w' : World} (hb : Below w.heap.size w w') : Kept b w w' := by
  intro k o hk _ _
  exact (hb.block k (Array.getElem?_eq_some_iff.1 hk).1).trans hk
theorem Kept.drewN {b : Nat} {u w : World} (h : Kept b u w) (d : Nat) : Kept b u (w.drewN d) := h
theorem Kept.box {b g : Nat} {t : TypeId} {cs : Array Value} {w w' : World} (h : Box w g t cs) (k : Kept b w w') (hg : g ≠ b) (ht : t ≠ 5) : Box w' g t cs :=
  k g _ h (fun e => hg (Option.some.inj e)) (fun c fz e => by injection e with e1 e2; exact ht e2)

set_option maxHeartbeats 2000000 in
theorem node_raw (B b : Nat) (acc : List UInt8) (space : Nat) (name text : ByteArray) (w : World) (A2 A3 : Option Addr) (m2 m3 c2 c3 : Nat) (hB : Bld 45 B b acc w) (hlen : acc.length + text.size ≤ 1099511627776) :
    Calls Try.prog 23 #[.pointer (some ⟨b, 0, none⟩), .agg #[.int .u8 (2 : Nat), .int .u8 space, .string name, .slice A2 m2 c2, .string text, .slice A3 m3 c3], .bool true] w (NodeR w B b (acc ++ text.data.toList)) := by
  have hBw : B ≤ w.heap.size := Nat.le_trans hB.le (Nat.le_of_lt hB.lt)
  have HB := Lib.hid hB
  clear hB
  go_enter Try.func23, Try.ntmps23
  go_wp2
  go_region_with (go_at_call 26; refine Calls.mono (bld_WriteString bld45 B b acc text _ (HB.out.alloc _) (by omega) (by simp; omega)) ?_; rintro e w1 ⟨rfl, h1, b1, k1⟩)
  go_wp2
  go_end0
  exact ⟨rfl, h1, (((Below.refl B w).alloc hBw _).drew).trans b1, ((Kept.refl b w).alloc _).trans k1⟩

set_option maxHeartbeats 2000000 in
theorem node_note (B b : Nat) (acc : List UInt8) (space : Nat) (name text : ByteArray) (w : World) (A2 A3 : Option Addr) (m2 m3 c2 c3 : Nat) (raw : Bool) (hB : Bld 45 B b acc w) (hlen : acc.length + text.size ≤ 1099511627776) :
    Calls Try.prog 23 #[.pointer (some ⟨b, 0, none⟩), .agg #[.int .u8 (3 : Nat), .int .u8 space, .string name, .slice A2 m2 c2, .string text, .slice A3 m3 c3], .bool raw] w (NodeR w B b (acc ++ noteOut text)) := by
  have hBw : B ≤ w.heap.size := Nat.le_trans hB.le (Nat.le_of_lt hB.lt)
  have hsz : acc.length + ((⟨#[60, 33, 45, 45]⟩ : ByteArray) ++ text ++ ⟨#[45, 45, 62]⟩).size ≤ 140737488355328 := by
    rw [ByteArray.size_append, ByteArray.size_append]
    have e1 : (⟨#[60, 33, 45, 45]⟩ : ByteArray).size = 4 := rfl
    have e2 : (⟨#[45, 45, 62]⟩ : ByteArray).size = 3 := rfl
    omega
  have HSZ := Lib.hid hsz
  clear hsz
  have HB := Lib.hid hB
  clear hB
  go_enter Try.func23, Try.ntmps23
  go_wp2
  go_region_with (go_at_call 26; refine Calls.mono (bld_WriteString bld45 B b acc _ _ (HB.out.alloc _) HSZ.out (by simp; omega)) ?_; rintro e w1 ⟨rfl, h1, b1, k1⟩)
  go_wp2
  go_end0
  refine ⟨rfl, ?_, (((Below.refl B w).alloc hBw _).drew).trans b1, ((Kept.refl b w).alloc _).trans k1⟩
  simpa [ByteArray.data_append, noteOut] using h1

set_option maxHeartbeats 2000000 in
theorem node_else (B b : Nat) (acc : List UInt8) (kind space : Nat) (name text : ByteArray) (w : World) (A2 A3 : Option Addr) (m2 m3 c2 c3 : Nat) (h1 : kind ≠ 1) (h2 : kind ≠ 2) (h3 : kind ≠ 3) (raw : Bool) (hB : Bld 45 B b acc w) :
    Calls Try.prog 23 #[.pointer (some ⟨b, 0, none⟩), .agg #[.int .u8 kind, .int .u8 space, .string name, .slice A2 m2 c2, .string text, .slice A3 m3 c3], .bool raw] w (NodeR w B b acc) := by
  have hBw : B ≤ w.heap.size := Nat.le_trans hB.le (Nat.le_of_lt hB.lt)
  have e1 := u8ne 1 h1
  have e2 := u8ne 2 h2
  have e3 := u8ne 3 h3
  have HB := Lib.hid hB
  clear hB
  go_enter Try.func23, Try.ntmps23
  go_wp2
  go_end0
  exact ⟨rfl, HB.out.alloc _, (Below.refl B w).alloc hBw _, (Kept.refl b w).alloc _⟩

set_option maxHeartbeats 2000000 in
theorem node_text (B b : Nat) (acc : List UInt8) (space : Nat) (name text : ByteArray) (w : World) (A2 A3 : Option Addr) (m2 m3 c2 c3 : Nat) (hB : Bld 45 B b acc w) (hlen : acc.length + 6 * text.size ≤ 1099511627776) :
    Calls Try.prog 23 #[.pointer (some ⟨b, 0, none⟩), .agg #[.int .u8 (2 : Nat), .int .u8 space, .string name, .slice A2 m2 c2, .string text, .slice A3 m3 c3], .bool false] w (NodeR w B b (acc ++ esc false text.data.toList)) := by
  have hBw : B ≤ w.heap.size := Nat.le_trans hB.le (Nat.le_of_lt hB.lt)
  have HB := Lib.hid hB
  have hel := escLen text false text.data.toList (Nat.le_of_eq (size_toList _))
  clear hB
  go_enter Try.func23, Try.ntmps23
  go_wp2
  go_region_with (first | (go_at_call 13; refine Calls.mono (text_any text _ (by omega)) ?_; rintro e w0 ⟨rfl, b0⟩; have hz0 := b0.size; simp at hz0) | (go_at_call 26; refine Calls.mono (bld_WriteString bld45 B b acc ⟨(esc false text.data.toList).toArray⟩ w0 (Bld.below (HB.out.alloc _).drew b0) (by omega) (by omega)) ?_; rintro e w1 ⟨rfl, h1, b1, k1⟩))
  go_wp2
  go_end0
  exact ⟨rfl, h1, ((((Below.refl B w).alloc hBw _).drew).trans (b0.mono (by simp; omega))).trans b1, (((Kept.refl b w).alloc _).drew.trans (Kept.of_below b0)).trans k1⟩
end Go.Proofs.Ytlhfjlfoddjciaa
