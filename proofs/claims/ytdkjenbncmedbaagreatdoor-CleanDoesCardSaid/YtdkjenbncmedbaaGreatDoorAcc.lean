/- Bytes that are appended one by one; class.Lower and the reference's Lower. class.Lower: the text with small letters. -/
import Derived.Test.YtdkjenbncmedbaaGreatDoorByte
import Derived.Maps.AppendAt
import Derived.OwnWalk
import Derived.Laws.IdiomStrings
import Derived.Deep.AppendLies
import Derived.Deep.Draws
namespace Go.Proofs.YtdkjenbncmedbaaGreatDoor
open Go.RowKit

def u8c (b : UInt8) : Value := .int .u8 (b.toNat : Int)
theorem acc_byte : (Tryz.prog.info? 5).map (fun i => (i.zero, i.size, i.bytes)) = some (some (.int .u8 0), 1, 1) := by kernel_rfl
/-- v is a row of the call's own that holds the bytes acc. -/
def Acc (w : World) (v : Value) (acc : List UInt8) (wr : World) : Prop := wr.ownsRow w.heap.size 5 1 v acc.length (acc.map u8c) ∧ Below w.heap.size w wr
theorem Acc.start (w : World) : Acc w (.slice none 0 0) [] w := ⟨World.ownsRow_nil _ _ _ _, Below.refl _ _⟩
theorem Acc.slice {w wr : World} {v : Value} {acc : List UInt8} (h : Acc w v acc wr) : ∃ A m c, v = .slice A m c := by
  rcases h.1.2 with ⟨rfl, _⟩ | ⟨g, cap, cur, rfl, _⟩
  · exact ⟨_, _, _, rfl⟩
  · exact ⟨_, _, _, rfl⟩
theorem Acc.below {w wr : World} {v : Value} {acc : List UInt8} (h : Acc w v acc wr) : Below w.heap.size w wr := h.2
theorem Acc.drewN {w wr : World} {v : Value} {acc : List UInt8} (h : Acc w v acc wr) (n : Nat) : Acc w v acc (wr.drewN n) := ⟨h.1, ⟨h.2.os, h.2.tape, h.2.output, h.2.size, h.2.block⟩⟩
theorem Acc.drew {w wr : World} {v : Value} {acc : List UInt8} (h : Acc w v acc wr) : Acc w v acc wr.drew := ⟨h.1, h.2.drew⟩
/-- Behind a call that makes memory alone. -/
theorem Acc.later {w wr w' : World} {v : Value} {acc : List UInt8} (h : Acc w v acc wr) (hb : Below wr.heap.size wr w') : Acc w v acc w' :=
  ⟨h.1.kept (row := none) ⟨hb.os, hb.tape, hb.output, hb.size, fun i hi _ => hb.block i hi⟩ (by
    cases hv : v.ownBlock with
    | none => exact .inl rfl
    | some k => exact .inr (by simp)), h.2.trans (hb.mono h.2.size)⟩
theorem Acc.alloc {w wr : World} {v : Value} {acc : List UInt8} (h : Acc w v acc wr) (o : Obj) : Acc w v acc (wr.alloc o) := ⟨h.1.alloc o, h.2.alloc h.2.size o⟩
/-- Behind the append. -/
theorem Acc.step {w wr W1 : World} {v v' : Value} {acc xs : List UInt8} {n : Nat} {vs : List Value} (h : Acc w v acc wr) (hg : wr.grownBy W1 v.ownBlock) (ho : W1.ownsRow w.heap.size 5 1 v' n vs) (hn : n = (acc ++ xs).length) (hv : vs = (acc ++ xs).map u8c) : Acc w v' (acc ++ xs) W1 := by
  subst hn hv
  exact ⟨ho, h.2.grown hg h.2.size (fun k hk => (h.1.lt k hk).1)⟩
theorem Acc.string {w wr : World} {v : Value} {acc : List UInt8} (h : Acc w v acc wr) : (convert 105 9 v).run Tryz.prog wr = .ok (.string ⟨acc.toArray⟩) wr := by
  rcases h.1.2 with ⟨rfl, hx⟩ | ⟨g, cap, cur, rfl, _⟩
  · have : acc = [] := List.eq_nil_of_length_eq_zero hx
    subst this
    exact run_convert_bytes_nil wr 105 5 Tryz.underlying105 Tryz.underlying5 0 0 9 Tryz.underlying9
  · refine run_convert_bytes_back (P := Tryz.prog) wr 105 9 5 ⟨g, 0, none⟩ cap acc Tryz.underlying105 Tryz.underlying5 Tryz.underlying9 ?_
    intro j hj
    exact h.1.cells (g := g) rfl j _ (by rw [List.getElem?_map, List.getElem?_eq_getElem hj]; rfl)
theorem one_cell_u8 (l : List UInt8) : ∀ u ∈ l.map u8c, u.oneCell' = true := by
  intro u hu
  obtain ⟨b, _, rfl⟩ := List.mem_map.1 hu
  rfl

def StrR (w : World) (l : List UInt8) (e : Ending) (w' : World) : Prop := e = .returned (.string ⟨l.toArray⟩) ∧ Below w.heap.size w w'
def lowerL (l : List UInt8) : List UInt8 := l.map small
def AccW (w : World) (f : Nat → List UInt8) (n : Nat) (v i : Value) (wr : World) : Prop := ∃ k : Nat, i = .int .i64 k ∧ k ≤ n ∧ Acc w v (f k) wr

theorem u8_add (n k : Nat) (h : n + k < 256) : IntKind.u8.wrap ((n : Int) + (k : Int)) = (n : Int) + k := by
  rw [IntKind.wrap_u8]; omega

set_option maxHeartbeats 2000000 in
theorem reflower_any (s : ByteArray) (w : World) (hs : s.size ≤ 1099511627776) : Calls Tryz.prog 119 #[.string s] w (StrR w (lowerL s.data.toList)) := by
  have hsl : s.data.toList.length = s.size := Array.length_toList
  have HSL := Lib.hid hsl
  clear hsl
  go_enter Tryz.func119, Tryz.ntmps119
  go_wp2_with fail
  go_loopw [3, 4] (fun v i wr => AccW w (fun k => lowerL (s.data.toList.take k)) s.size v i wr) (fun _ i _ => s.size - (intOf i).toNat)
  case atStart => exact ⟨0, rfl, Nat.zero_le _, Acc.start w⟩
  case round =>
    obtain ⟨k, rfl, hk, hacc⟩ := hrel
    obtain ⟨A, m, c, rfl⟩ := hacc.slice
    have HA := Lib.hid hacc
    clear hacc
    by_cases hlt : k < s.size
    · have hlt' : k < s.data.toList.length := by rw [HSL.out]; exact hlt
      obtain ⟨x, hx⟩ : ∃ x, s[k] = x := ⟨_, rfl⟩
      have hxl : s.data.toList[k] = x := by rw [← hx]; rfl
      have htt : lowerL (s.data.toList.take (k + 1)) = lowerL (s.data.toList.take k) ++ [small x] := by
        unfold lowerL
        rw [List.take_succ_eq_append_getElem hlt', hxl, List.map_append, List.map_singleton]
      have HTT := Lib.hid htt
      have hx9 : x.toNat < 256 := UInt8.toNat_lt x
      have hki : (k : Int) < (s.size : Int) := by omega
      have hll : (lowerL (s.data.toList.take k)).length = k := by unfold lowerL; rw [List.length_map, List.length_take]; omega
      have hsm := small_toNat x
      clear htt hxl
      obtain ⟨n, hn⟩ : ∃ n, x.toNat = n := ⟨_, rfl⟩
      rw [hn] at hx9 hsm
      have hup : (65 ≤ n ∧ n ≤ 90) ∨ n < 65 ∨ 90 < n := by omega
      rcases hup with hup | hup | hup
      · have z1 : (65 : Int) ≤ (n : Int) := by omega
        have z2 : (n : Int) ≤ 90 := by omega
        have hw1 : IntKind.u8.wrap ((n : Int) + 32) = (n : Int) + 32 := u8_add n 32 (by omega)
        have hval : Value.int .u8 ((n : Int) + 32) = u8c (small x) := by
          unfold u8c
          rw [hsm]
          unfold smallN
          rw [if_pos hup]
          try rfl
        have HL := Lib.hid hll
        have HVA := Lib.hid hval
        clear hsm hll hval hup
        obtain ⟨i0, hi, hz0, hz1, hz2⟩ := info_parts acc_byte
        go_wp2_with (at_builtin; refine wpList_append_own_at _ rfl _ _ 105 rfl w.heap.size 5 i0 _ 1 1 Tryz.underlying105 hi hz0 hz1 hz2 rfl (by decide) _ _ _ rfl (HA.out.1.alloc (.cells #[.int .u8 ((n : Int) + 32)] 5)) ⟨wr.heap.size, 0, none⟩ 1 1 [.int .u8 ((n : Int) + 32)] rfl rfl (cell_one_new _ _ _) (by intro u hu; rw [List.mem_singleton.1 hu]; rfl) (by rw [HL.out]; unfold maxLen; omega) (by rw [HL.out]; omega) (by have := HA.out.2.size; simp; omega) ?_)
        intro v' W1 hown hg _ _
        have hst := Acc.step (xs := [small x]) (HA.out.alloc (.cells #[.int .u8 ((n : Int) + 32)] 5)) hg hown (by rw [List.length_append]; rfl) (by rw [List.map_append, HVA.out]; rfl)
        have HST := Lib.hid hst
        clear hst hown hg
        go_wp2
        go_roundw
        case rel =>
          refine ⟨k + 1, by go_num, by omega, ?_⟩
          show Acc w _ (lowerL (s.data.toList.take (k + 1))) _
          rw [HTT.out]
          exact HST.out
        case measure => simp [intOf]; omega
      · have z1 : ¬ (65 : Int) ≤ (n : Int) := by omega
        have hval : Value.int .u8 (n : Int) = u8c (small x) := by
          unfold u8c
          rw [hsm]
          unfold smallN
          rw [if_neg (by omega)]
          try rfl
        have HL := Lib.hid hll
        have HVA := Lib.hid hval
        clear hsm hll hval hup
        obtain ⟨i0, hi, hz0, hz1, hz2⟩ := info_parts acc_byte
        go_wp2_with (at_builtin; refine wpList_append_own_at _ rfl _ _ 105 rfl w.heap.size 5 i0 _ 1 1 Tryz.underlying105 hi hz0 hz1 hz2 rfl (by decide) _ _ _ rfl (HA.out.1.alloc (.cells #[.int .u8 (n : Int)] 5)) ⟨wr.heap.size, 0, none⟩ 1 1 [.int .u8 (n : Int)] rfl rfl (cell_one_new _ _ _) (by intro u hu; rw [List.mem_singleton.1 hu]; rfl) (by rw [HL.out]; unfold maxLen; omega) (by rw [HL.out]; omega) (by have := HA.out.2.size; simp; omega) ?_)
        intro v' W1 hown hg _ _
        have hst := Acc.step (xs := [small x]) (HA.out.alloc (.cells #[.int .u8 (n : Int)] 5)) hg hown (by rw [List.length_append]; rfl) (by rw [List.map_append, HVA.out]; rfl)
        have HST := Lib.hid hst
        clear hst hown hg
        go_wp2
        go_roundw
        case rel =>
          refine ⟨k + 1, by go_num, by omega, ?_⟩
          show Acc w _ (lowerL (s.data.toList.take (k + 1))) _
          rw [HTT.out]
          exact HST.out
        case measure => simp [intOf]; omega
      · have z1 : (65 : Int) ≤ (n : Int) := by omega
        have z2 : ¬ (n : Int) ≤ 90 := by omega
        have hval : Value.int .u8 (n : Int) = u8c (small x) := by
          unfold u8c
          rw [hsm]
          unfold smallN
          rw [if_neg (by omega)]
          try rfl
        have HL := Lib.hid hll
        have HVA := Lib.hid hval
        clear hsm hll hval hup
        obtain ⟨i0, hi, hz0, hz1, hz2⟩ := info_parts acc_byte
        go_wp2_with (at_builtin; refine wpList_append_own_at _ rfl _ _ 105 rfl w.heap.size 5 i0 _ 1 1 Tryz.underlying105 hi hz0 hz1 hz2 rfl (by decide) _ _ _ rfl (HA.out.1.alloc (.cells #[.int .u8 (n : Int)] 5)) ⟨wr.heap.size, 0, none⟩ 1 1 [.int .u8 (n : Int)] rfl rfl (cell_one_new _ _ _) (by intro u hu; rw [List.mem_singleton.1 hu]; rfl) (by rw [HL.out]; unfold maxLen; omega) (by rw [HL.out]; omega) (by have := HA.out.2.size; simp; omega) ?_)
        intro v' W1 hown hg _ _
        have hst := Acc.step (xs := [small x]) (HA.out.alloc (.cells #[.int .u8 (n : Int)] 5)) hg hown (by rw [List.length_append]; rfl) (by rw [List.map_append, HVA.out]; rfl)
        have HST := Lib.hid hst
        clear hst hown hg
        go_wp2
        go_roundw
        case rel =>
          refine ⟨k + 1, by go_num, by omega, ?_⟩
          show Acc w _ (lowerL (s.data.toList.take (k + 1))) _
          rw [HTT.out]
          exact HST.out
        case measure => simp [intOf]; omega
    · obtain rfl : k = s.size := by omega
      have hcv := HA.out.string
      go_wp2
      go_ret
      refine ⟨?_, HA.out.below⟩
      have e : s.data.toList.take s.size = s.data.toList := List.take_of_length_le (by rw [HSL.out]; exact Nat.le_refl _)
      rw [e]
      rfl

theorem lt_blk {w : World} {B : Nat} {o : Obj} (h : w.heap[B]? = some o) : B < w.heap.size := (Array.getElem?_eq_some_iff.1 h).1
theorem set_blk {w : World} {B : Nat} {cs : Array Value} {t : TypeId} {fr : Nat × Nat} (h : w.heap[B]? = some (.cells cs t fr)) (i : Nat) (u : Value) : (w.setCell ⟨B, i, none⟩ u).heap[B]? = some (.cells (cs.setIfInBounds i u) t fr) := by
  simp [World.setCell, Array.getElem?_modify, h]
def LowW (w : World) (l : List UInt8) (i : Value) (wr : World) : Prop :=
  ∃ (k : Nat) (C : Array Value), i = .int .i64 k ∧ k ≤ l.length ∧ wr.heap[w.heap.size]? = some (.cells C 5 (C.size, C.size + 1)) ∧ l.length ≤ C.size ∧ (∀ j (hj : j < l.length), C[j]? = some (if j < k then u8c (small l[j]) else u8c l[j])) ∧ Below w.heap.size w wr

set_option maxHeartbeats 2000000 in
theorem lower_any (s : ByteArray) (w : World) (hs : s.size ≤ 1099511627776) : Calls Tryz.prog 56 #[.string s] w (StrR w (lowerL s.data.toList)) := by
  have hsl : s.data.toList.length = s.size := Array.length_toList
  have HSL := Lib.hid hsl
  clear hsl
  have hcb := fun W => run_bytes_of_string (P := Tryz.prog) W 9 105 5 s Tryz.underlying9 Tryz.underlying105 Tryz.underlying5
  have hsm : ∀ (b : UInt8) (w : World), Calls Tryz.prog 83 #[.int .u8 (b.toNat : Int)] w fun e w' => e = .returned (.int .u8 ((small b).toNat : Int)) ∧ w = w' := small_any
  have HSM := Lib.hid hsm
  clear hsm
  go_enter Tryz.func56, Tryz.ntmps56
  go_wp2_with fail
  go_loopw [10] (fun i wr => LowW w s.data.toList i wr) (fun i _ => s.size - (intOf i).toNat)
  case atStart =>
    refine ⟨0, bytesRow s (grownCap w s.size 0 5), rfl, Nat.zero_le _, heap_alloc_new w _, ?_, ?_, (Below.refl _ w).alloc (Nat.le_refl _) _ |>.drew⟩
    · rw [HSL.out]; unfold bytesRow; rw [Array.size_append, Array.size_map]; exact Nat.le_add_right _ _
    · intro j hj
      rw [if_neg (by omega)]
      exact bytesRow_at s _ j (by rw [Array.length_toList] at hj; exact hj)
  case round =>
    obtain ⟨k, C, rfl, hk, hb, hC, hcs, hbl⟩ := hrel
    rw [HSL.out] at hk hC
    by_cases hlt : k < s.size
    · have hlt' : k < s.data.toList.length := by rw [HSL.out]; exact hlt
      obtain ⟨x, hx⟩ : ∃ x, s.data.toList[k] = x := ⟨_, rfl⟩
      have hki : (k : Int) < (s.size : Int) := by omega
      have c1 : wr.cell? ⟨w.heap.size, k, none⟩ = some (.int .u8 (x.toNat : Int)) := by
        rw [cell_of_row wr _ k C _ _ hb, hcs k hlt', if_neg (by omega), hx]
        rfl
      have c2 : wr.frozen? ⟨w.heap.size, k, none⟩ = false := by
        have h1 : ¬ C.size ≤ k := by omega
        simp [World.frozen?, hb, h1]
      have HB := Lib.hid hb
      have HCS := Lib.hid hcs
      have HBL := Lib.hid hbl
      have HX := Lib.hid hx
      clear hb hcs hbl hx
      go_wp2_with fail
      refine Calls.mono (HSM.out x _) ?_
      rintro e w' ⟨rfl, rfl⟩
      go_wp2
      go_roundw
      case rel =>
        refine ⟨k + 1, C.setIfInBounds k (.int .u8 ((small x).toNat : Int)), by go_num, by rw [HSL.out]; omega, ?_, by rw [HSL.out]; simp; exact hC, ?_, HBL.out.setCell (Nat.le_refl _) _⟩
        · have h := set_blk HB.out k (.int .u8 ((small x).toNat : Int))
          simpa using h
        · intro j hj
          have hjs : j < s.size := by rw [HSL.out] at hj; exact hj
          by_cases hjk : j = k
          · subst hjk
            rw [Array.getElem?_setIfInBounds_self_of_lt (by omega), if_pos (by omega), HX.out]
            rfl
          · rw [Array.getElem?_setIfInBounds_ne (by omega), HCS.out j hj]
            by_cases hjl : j < k
            · rw [if_pos hjl, if_pos (by omega)]
            · rw [if_neg hjl, if_neg (by omega)]
      case measure => simp [intOf]; omega
    · obtain rfl : k = s.size := by omega
      have hcv : ∀ c, (convert 105 9 (.slice (some ⟨w.heap.size, 0, none⟩) s.size c)).run Tryz.prog wr = .ok (.string ⟨(lowerL s.data.toList).toArray⟩) wr := by
        intro c
        have h := run_convert_bytes_back (P := Tryz.prog) wr 105 9 5 ⟨w.heap.size, 0, none⟩ c (lowerL s.data.toList) Tryz.underlying105 Tryz.underlying5 Tryz.underlying9 (fun j hj => by
          have hj' : j < s.data.toList.length := by unfold lowerL at hj; rw [List.length_map] at hj; exact hj
          have e : (⟨w.heap.size, 0, none⟩ : Addr).add j = ⟨w.heap.size, j, none⟩ := by unfold Addr.add; split <;> simp_all
          rw [e, cell_of_row wr _ j C _ _ hb, hcs j hj', if_pos (by rw [HSL.out] at hj'; exact hj')]
          simp only [lowerL, List.getElem_map]
          rfl)
        have e : (lowerL s.data.toList).length = s.size := by unfold lowerL; rw [List.length_map, HSL.out]
        rw [e] at h
        exact h
      have HBL := Lib.hid hbl
      clear hb hcs hbl
      go_wp2
      go_ret
      exact ⟨rfl, HBL.out⟩
end Go.Proofs.YtdkjenbncmedbaaGreatDoor
