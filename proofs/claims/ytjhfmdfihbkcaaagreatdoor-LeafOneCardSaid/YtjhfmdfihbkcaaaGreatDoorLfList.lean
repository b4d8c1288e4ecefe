/- leaf.List at the chapter's two examples. -/
import Derived.Test.YtjhfmdfihbkcaaaGreatDoorLfOpen
import Derived.Test.YtjhfmdfihbkcaaaGreatDoorShelfA
namespace Go.Proofs.YtjhfmdfihbkcaaaGreatDoor
open Go.RowKit

theorem mark_end (w w2 : World) (g : Nat) (x : Array Value) (hx : x.size = 3) (a b c : Value) (hb : Below w.heap.size w w2) (hg : w.heap.size ≤ g) (h : w2.heap[g]? = some (.cells x 33 (0, 0))) :
    (((w2.setCell ⟨g, 0, none⟩ a).setCell ⟨g, 1, none⟩ b).setCell ⟨g, 2, none⟩ c).heap[g]? = some (.cells #[a, b, c] 33 (0, 0)) ∧ Below w.heap.size w (((w2.setCell ⟨g, 0, none⟩ a).setCell ⟨g, 1, none⟩ b).setCell ⟨g, 2, none⟩ c) := by
  have h1 := Joins.block_setCell h (i := 0) a
  have h2 := Joins.block_setCell h1 (i := 1) b
  have h3 := Joins.block_setCell h2 (i := 2) c
  obtain ⟨l⟩ := x
  match l, hx with
  | [_, _, _], _ => exact ⟨by simpa using h3, ((hb.setCell hg _).setCell hg _).setCell hg _⟩
def digitsS : List UInt8 := [48, 49, 50, 51, 52, 53, 54, 55, 56, 57]
theorem left_digits (s : ByteArray) (w : World) : Calls Tryz.prog 26 #[.string s, .string ⟨#[48, 49, 50, 51, 52, 53, 54, 55, 56, 57]⟩] w (StrB w (Lib.trimLeftS s.data.toList digitsS)) :=
  Any.strings_TrimLeft_laid Tryz.lays161 (by kernel_rfl) s ⟨#[48, 49, 50, 51, 52, 53, 54, 55, 56, 57]⟩ w (by decide) (ascii_of_all (by decide))
def ListR (w : World) (a n m : Int) (b : Bool) (e : Ending) (w' : World) : Prop := e = .returned (.tuple #[.agg #[.int .u8 a, .int .i64 n, .int .i64 m], .bool b]) ∧ Below w.heap.size w w'
theorem below_bytes (w : World) (t : TypeId) (x : ByteArray) : Below w.heap.size w (Lib.bytesWorld w t x) :=
  ⟨rfl, rfl, rfl, by rw [Lib.bytesWorld_size]; omega, fun j hj => Lib.bytesWorld_at_old w t x j hj⟩
theorem atoi12 (w : World) : Calls Tryz.prog 27 #[.string ⟨#[49, 50]⟩] w fun e w' => e = .returned (.tuple #[.int .i64 12, .nilIface]) ∧ Below w.heap.size w w' :=
  (Tryz.strconv_Atoi ⟨#[49, 50]⟩ 12 (by decide) (by decide +kernel) w).mono fun _ _ ⟨h1, t, h2⟩ => ⟨h1, by rw [h2]; exact below_bytes _ _ _⟩
theorem ex_l1 : Lib.trimLeftS [49, 50, 46, 32, 97] digitsS = [46, 32, 97] := by decide +kernel
theorem ex_l2 : Lib.trimLeftS [45, 97] digitsS = [45, 97] := by decide +kernel
set_option maxHeartbeats 2000000 in
set_option maxRecDepth 100000 in
theorem list_yes (w : World) : Calls Tryz.prog 10 #[.string ⟨#[49, 50, 46, 32, 97]⟩] w (ListR w 46 12 3 true) := by
  have H1 := Lib.hid fun w' => left_digits ⟨#[49, 50, 46, 32, 97]⟩ w'
  rw [show (⟨#[49, 50, 46, 32, 97]⟩ : ByteArray).data.toList = [49, 50, 46, 32, 97] from rfl, ex_l1] at H1
  have HI := Lib.hid fun w' => indexByte_any ⟨#[46, 41]⟩ 46 w'
  have HA := Lib.hid fun w' => apart_any ⟨#[32, 97]⟩ w'
  go_enter Tryz.func10, Tryz.ntmps10
  go_wp2_with fail
  refine Calls.mono (H1.out _) ?_
  rintro e w1 ⟨rfl, b1⟩
  have hsz : w.heap.size + 1 ≤ w1.heap.size := by have := b1.size; simpa using this
  have b1' : Below w.heap.size w w1 := ((Below.refl _ w).alloc (Nat.le_refl _) _).trans (b1.mono (by simp))
  have g1 : w1.heap[w.heap.size]? = some (.cells #[.int .u8 0, .int .i64 0, .int .i64 0] 33 (0, 0)) := (b1.block _ (by simp)).trans (heap_alloc_new w _)
  have HB1 := Lib.hid b1'
  have HG1 := Lib.hid g1
  clear b1 b1' g1
  have hlit : ∀ h, ((⟨#[49, 50, 46, 32, 97]⟩ : ByteArray)[2]'h) = 46 := fun _ => rfl
  have hx : (⟨#[49, 50, 46, 32, 97]⟩ : ByteArray).extract 0 2 = ⟨#[49, 50]⟩ := by decide +kernel
  have hx2 : (⟨#[49, 50, 46, 32, 97]⟩ : ByteArray).extract 3 5 = ⟨#[32, 97]⟩ := by decide +kernel
  have HX := Lib.hid hx
  have HX2 := Lib.hid hx2
  clear hx hx2
  go_wp2_with fail
  rw [HX.out]
  refine Calls.mono (atoi12 _) ?_
  rintro e w2 ⟨rfl, b2⟩
  have g2 : w2.heap[w1.heap.size]? = some (.cells #[.int .u8 46, .int .i64 0, .int .i64 3] 33 (0, 0)) := (b2.block _ (by simp)).trans (heap_alloc_new w1 _)
  have g1 : w2.heap[w.heap.size]? = some (.cells #[.int .u8 0, .int .i64 0, .int .i64 0] 33 (0, 0)) := (b2.block _ (by simp; omega)).trans ((Below.heap_alloc w1 _ _ (show w.heap.size < w1.heap.size by omega)).trans HG1.out)
  have b2' : Below w.heap.size w w2 := HB1.out.trans ((Below.alloc (Below.refl _ w1) (by omega) _).trans (b2.mono (by simp; omega)))
  have hs1 := b2.size
  have hs2 : w1.heap.size + 1 ≤ w2.heap.size := by simpa using hs1
  have q0 := fun i => cell_of_row w2 w.heap.size i _ _ _ g1
  have q1 := fun i => cell_of_row w2 w1.heap.size i _ _ _ g2
  have f0 : ∀ i, w2.frozen? ⟨w.heap.size, i, none⟩ = false := fun i => by simp [World.frozen?, g1]
  have f1 : ∀ i, w2.frozen? ⟨w1.heap.size, i, none⟩ = false := fun i => by simp [World.frozen?, g2]
  have HB2 := Lib.hid b2'
  clear b2 b2' hs1
  go_wp2_with fail
  obtain ⟨W2, hW2⟩ : ∃ W2, w2.setCell ⟨w1.heap.size, 1, none⟩ (.int .i64 12) = W2 := ⟨_, rfl⟩
  have G2 : W2.heap[w1.heap.size]? = some (.cells #[.int .u8 46, .int .i64 12, .int .i64 3] 33 (0, 0)) := by
    rw [← hW2]
    simpa using Joins.block_setCell g2 (i := 1) (.int .i64 12)
  have G1 : W2.heap[w.heap.size]? = some (.cells #[.int .u8 0, .int .i64 0, .int .i64 0] 33 (0, 0)) := by
    rw [← hW2]
    exact (Below.heap_setCell w2 _ _ _ (show w.heap.size ≠ w1.heap.size by omega)).trans g1
  have BB : Below w.heap.size w W2 := by rw [← hW2]; exact HB2.out.setCell (show w.heap.size ≤ w1.heap.size by omega) _
  rw [hW2]
  have HBB := Lib.hid BB
  have HG1 := Lib.hid G1
  have hne : ¬ w.heap.size = w1.heap.size := by omega
  clear hW2 q0 q1 f0 f1 g1 g2 HB2 HB1 BB
  have q0 := fun i => cell_of_row W2 w.heap.size i _ _ _ G1
  have q1 := fun i => cell_of_row W2 w1.heap.size i _ _ _ G2
  have f0 : ∀ i, W2.frozen? ⟨w.heap.size, i, none⟩ = false := fun i => by simp [World.frozen?, G1]
  clear hs2 hsz
  refine Calls.mono (HI.out _) ?_
  rintro e w3 ⟨rfl, rfl⟩
  rw [show Lib.indexByte (⟨#[46, 41]⟩ : ByteArray).data.toList 46 = 0 from by decide +kernel]
  go_wp2_with fail
  rw [HX2.out]
  refine Calls.mono (HA.out _) ?_
  rintro e w3 ⟨rfl, rfl⟩
  rw [show apartB (⟨#[32, 97]⟩ : ByteArray).data.toList = true from by decide +kernel]
  go_wp2
  have HE := Lib.hid (mark_end w W2 w.heap.size _ rfl (.int .u8 46) (.int .i64 12) (.int .i64 3) HBB.out (Nat.le_refl _) HG1.out)
  obtain ⟨W3, hW3⟩ : ∃ W3, ((W2.setCell ⟨w.heap.size, 0, none⟩ (.int .u8 46)).setCell ⟨w.heap.size, 1, none⟩ (.int .i64 12)).setCell ⟨w.heap.size, 2, none⟩ (.int .i64 3) = W3 := ⟨_, rfl⟩
  rw [hW3] at HE ⊢
  (try simp only [Exit.inBlock, Exit.then])
  refine bodyPost_ret (results_row_tmp rfl _ W3 w.heap.size _ _ _ _ rfl HE.out.1 Tryz.underlying33 rfl (by kernel_rfl)) rfl ?_
  exact ⟨rfl, HE.out.2⟩
set_option maxHeartbeats 2000000 in
set_option maxRecDepth 100000 in
theorem list_no (w : World) : Calls Tryz.prog 10 #[.string ⟨#[45, 97]⟩] w (ListR w 0 0 0 false) := by
  have H1 := Lib.hid fun w' => left_digits ⟨#[45, 97]⟩ w'
  rw [show (⟨#[45, 97]⟩ : ByteArray).data.toList = [45, 97] from rfl, ex_l2] at H1
  have HI := Lib.hid fun w' => indexByte_any ⟨#[45, 43, 42]⟩ 45 w'
  have HA := Lib.hid fun w' => apart_any ⟨#[97]⟩ w'
  go_enter Tryz.func10, Tryz.ntmps10
  go_wp2_with fail
  refine Calls.mono (H1.out _) ?_
  rintro e w1 ⟨rfl, b1⟩
  have hsz : w.heap.size + 1 ≤ w1.heap.size := by have := b1.size; simpa using this
  have b1' : Below w.heap.size w w1 := ((Below.refl _ w).alloc (Nat.le_refl _) _).trans (b1.mono (by simp))
  have g1 : w1.heap[w.heap.size]? = some (.cells #[.int .u8 0, .int .i64 0, .int .i64 0] 33 (0, 0)) := (b1.block _ (by simp)).trans (heap_alloc_new w _)
  have hlit : ∀ h, ((⟨#[45, 97]⟩ : ByteArray)[0]'h) = 45 := fun _ => rfl
  have HX2 := Lib.hid (show (⟨#[45, 97]⟩ : ByteArray).extract 1 2 = ⟨#[97]⟩ by decide +kernel)
  obtain ⟨W2, hW2⟩ : ∃ W2, w1.alloc (.cells #[.int .u8 45, .int .i64 0, .int .i64 1] 33) = W2 := ⟨_, rfl⟩
  have G2 : W2.heap[w1.heap.size]? = some (.cells #[.int .u8 45, .int .i64 0, .int .i64 1] 33 (0, 0)) := by rw [← hW2]; exact heap_alloc_new w1 _
  have G1 : W2.heap[w.heap.size]? = some (.cells #[.int .u8 0, .int .i64 0, .int .i64 0] 33 (0, 0)) := by rw [← hW2]; exact (Below.heap_alloc w1 _ _ (show w.heap.size < w1.heap.size by omega)).trans g1
  have HBB := Lib.hid (show Below w.heap.size w W2 by rw [← hW2]; exact b1'.alloc (by omega) _)
  have HG1 := Lib.hid G1
  have hne : ¬ w.heap.size = w1.heap.size := by omega
  clear hsz b1 b1' g1
  have q0 := fun i => cell_of_row W2 w.heap.size i _ _ _ G1
  have q1 := fun i => cell_of_row W2 w1.heap.size i _ _ _ G2
  have f0 : ∀ i, W2.frozen? ⟨w.heap.size, i, none⟩ = false := fun i => by simp [World.frozen?, G1]
  have HW2 := Lib.hid hW2
  clear hW2
  go_wp2_with fail
  rw [HW2.out]
  refine Calls.mono (HI.out _) ?_
  rintro e w3 ⟨rfl, rfl⟩
  rw [show Lib.indexByte (⟨#[45, 43, 42]⟩ : ByteArray).data.toList 45 = 0 from by decide +kernel]
  go_wp2_with fail
  rw [HX2.out]
  refine Calls.mono (HA.out _) ?_
  rintro e w3 ⟨rfl, rfl⟩
  rw [show apartB (⟨#[97]⟩ : ByteArray).data.toList = false from by decide +kernel]
  go_wp2
  have HE := Lib.hid (mark_end w W2 w.heap.size _ rfl (.int .u8 0) (.int .i64 0) (.int .i64 0) HBB.out (Nat.le_refl _) HG1.out)
  obtain ⟨W3, hW3⟩ : ∃ W3, ((W2.setCell ⟨w.heap.size, 0, none⟩ (.int .u8 0)).setCell ⟨w.heap.size, 1, none⟩ (.int .i64 0)).setCell ⟨w.heap.size, 2, none⟩ (.int .i64 0) = W3 := ⟨_, rfl⟩
  rw [hW3] at HE ⊢
  (try simp only [Exit.inBlock, Exit.then])
  refine bodyPost_ret (results_row_tmp rfl _ W3 w.heap.size _ _ _ _ rfl HE.out.1 Tryz.underlying33 rfl (by kernel_rfl)) rfl ?_
  exact ⟨rfl, HE.out.2⟩
end Go.Proofs.YtjhfmdfihbkcaaaGreatDoor
