/- strings.IndexAny in a short text of any bytes, for two ASCII bytes. -/
import Derived.Test.YtbcfhpomclkccaaDoorRsAny
namespace Go.Proofs.YtbcfhpomclkccaaDoor
open Go.RowKit

/-- The bytes of what is no ASCII are none. -/
theorem decode_tail (s : ByteArray) (pos : Nat) (h : pos < s.size) (ha : 128 ≤ (s[pos]'h).toNat) : ∀ k : Nat, k < (Utf8.decode s pos).2 → ∃ hk : pos + k < s.size, 128 ≤ (s[pos + k]'hk).toNat := by
  have hn : ¬ (s.get! (pos + 0)).toNat < 128 := by rw [get_at s pos h]; omega
  have h0 : ∃ hk : pos + 0 < s.size, 128 ≤ (s[pos + 0]'hk).toNat := ⟨h, ha⟩
  have hg : ∀ k : Nat, (pos + k < s.size ∧ (s.get! (pos + k)).toNat / 64 = 2) → ∃ hk : pos + k < s.size, 128 ≤ (s[pos + k]'hk).toNat := fun k ⟨h1, h2⟩ => ⟨h1, by
    have := get_at s (pos + k) h1
    rw [Nat.add_zero] at this
    rw [← this]
    omega⟩
  have g1 := hg 1; have g2 := hg 2; have g3 := hg 3
  intro k hk
  simp only [Utf8.decode] at hk
  rw [if_neg hn] at hk
  rcases k with _ | _ | _ | _ | k
  · exact h0
  all_goals
    first
    | (apply g1)
    | (apply g2)
    | (apply g3)
    | skip
  all_goals
    revert hk
    repeat' split
    all_goals
      intro hk
      first
      | (simp only [Nat.zero_add, Nat.reduceAdd, Bool.and_eq_true, decide_eq_true_eq, beq_iff_eq, Nat.lt_irrefl] at *; done)
      | (simp only [Nat.zero_add, Nat.reduceAdd, Bool.and_eq_true, decide_eq_true_eq, beq_iff_eq] at *; omega)
      | (simp_all; done)
      | (simp_all; omega)
theorem noAny_by {s : ByteArray} {cs : List UInt8} {pos n : Nat} (h : Lib.NoAny s.data.toList cs pos) (hc : ∀ b : UInt8, 128 ≤ b.toNat → cs.contains b = false) (ht : ∀ k : Nat, k < n → ∃ hk : pos + k < s.size, 128 ≤ (s[pos + k]'hk).toNat) : Lib.NoAny s.data.toList cs (pos + n) := by
  intro j b hj hb
  by_cases hp : j < pos
  · exact h j b hp hb
  · obtain ⟨k, rfl⟩ : ∃ k, j = pos + k := ⟨j - pos, by omega⟩
    obtain ⟨hk, h2⟩ := ht k (by omega)
    rw [Lib.data_getElem? s (pos + k) hk] at hb
    cases hb
    exact hc _ h2
set_option maxRecDepth 100000 in
theorem use_any (n : Int) (w : World) : Calls Tryd.prog 57 #[.int .i64 n] w fun e w' => e = .returned (.bool (decide (8 < n))) ∧ w' = w := Any.strings_shouldUseASCIISet { Tryd.lays153 with } n w
set_option maxRecDepth 100000 in
theorem runeA (s : ByteArray) (r : Int) (w : World) (h0 : 0 ≤ r) (h1 : r < 128) : Calls Tryd.prog 56 #[.string s, .int .i32 r] w fun e w' => e = .returned (.int .i64 (Lib.indexByte s.data.toList r.toNat.toUInt8)) ∧ w' = w := Any.strings_IndexRune_ascii { Tryd.lays153 with } s r w h0 h1
theorem runeB (s : ByteArray) (x : UInt8) (w : World) (h1 : x.toNat < 128) : Calls Tryd.prog 56 #[.string s, .int .i32 (x.toNat : Int)] w fun e w' => e = .returned (.int .i64 (Lib.indexByte s.data.toList x)) ∧ w' = w := by
  have h := runeA s (x.toNat : Int) w (by omega) (by omega)
  rw [show ((x.toNat : Int)).toNat.toUInt8 = x from by simp] at h
  exact h
def AnyW (s : ByteArray) (cs : List UInt8) (w : World) (g : Nat) (wr : World) : Prop :=
  ∃ i : Nat, i + g = s.size ∧ wr.heap[w.heap.size]? = some (.stringIter s i) ∧ Below w.heap.size w wr ∧ Lib.NoAny s.data.toList cs i
def AnyR (s : ByteArray) (cs : List UInt8) (w : World) (e : Ending) (w' : World) : Prop := e = .returned (.int .i64 (Lib.indexAny s.data.toList cs)) ∧ Below w.heap.size w w'
set_option maxHeartbeats 8000000 in
set_option maxRecDepth 100000 in
theorem any_short (s c : ByteArray) (w : World) (hc : c.size = 2) (x y : UInt8) (h0 : c[0]'(by omega) = x) (h1 : c[1]'(by omega) = y) (hx : x.toNat < 128) (hy : y.toNat < 128) (hcl : ∀ b : UInt8, 128 ≤ b.toNat → c.data.toList.contains b = false) (h8 : s.size ≤ 8) :
    Calls Tryd.prog 27 #[.string s, .string c] w (AnyR s c.data.toList w) := by
  have hemp : c.toList.isEmpty = false := by
    rw [Lib.toList_data]
    cases h : c.data.toList with
    | nil => have := Lib.size_eq c; rw [h, List.length_nil] at this; omega
    | cons _ _ => rfl
  have hn1 : ((c.size : Int) == 1) = false := beq_eq_false_iff_ne.2 (by omega)
  have h8z : decide ((8 : Int) < (s.size : Int)) = false := decide_eq_false (by omega)
  have HC := Lib.hid hcl
  have HR := Lib.hid fun (r : Int) (w2 : World) (h : 128 ≤ r) => rune_any c r w2 hc x y h0 h1 hx hy h
  have HU := use_any (s.size : Int) w
  rw [h8z] at HU
  have HUH := Lib.hid HU
  clear hcl hx hy h0 h1 hc h8z HU h8
  go_enter Tryd.func27, Tryd.ntmps27
  go_wp2_with fail
  refine Calls.mono HUH.out ?_
  rintro e w1 ⟨rfl, hw⟩
  rw [hw]
  clear hw
  go_wp2_with fail
  go_loopg [9, 10] s.size (fun g _ _ wx => AnyW s c.data.toList w g wx)
  case atStart =>
    refine ⟨0, by omega, ?_, (Below.refl _ _).alloc (Nat.le_refl _) _, Lib.NoAny.zero _ _⟩
    have := World.iter_heap w s 0
    simpa using this
  case round =>
    obtain ⟨i, hig, hit, hbw, hno⟩ := hrel
    have HN := Lib.hid hno
    have hlt := (Array.getElem?_eq_some_iff.1 hit).1
    clear hno
    cases gk with
    | zero =>
      obtain rfl : i = s.size := by omega
      have hnx : ∀ ty, (Instr.next (.pointer (some ⟨w.heap.size, 0, none⟩)) true ty).run Tryd.prog wr = _ := fun ty => Lib.run_next_end_at wr w.heap.size s s.size ty hit (by omega)
      go_wp2
      go_ret
      exact ⟨by rw [Lib.indexAny_none (by rw [← Lib.size_eq]; exact HN.out)]; rfl, hbw⟩
    | succ g =>
      have hi : i < s.size := by omega
      have hnx : ∀ ty, (Instr.next (.pointer (some ⟨w.heap.size, 0, none⟩)) true ty).run Tryd.prog wr = _ := fun ty => Lib.run_next_any_at wr w.heap.size s i ty hit hi
      obtain ⟨z, hz⟩ : ∃ z : UInt8, s[i]'hi = z := ⟨_, rfl⟩
      have hzl : s.data.toList[i]? = some z := by rw [← hz]; exact Lib.data_getElem? s i hi
      have HZ := Lib.hid hzl
      clear hzl
      by_cases hz1 : z.toNat < 128
      · have hd := decode_ascii s i hi (by rw [hz]; exact hz1)
        rw [hz] at hd
        rw [hd] at hnx
        have hit2 := Lib.iterAt_heap wr w.heap.size s i (i + 1) hit
        have hbw2 := Lib.below_iterAt hbw (k := w.heap.size) (by omega) s (i + 1)
        have HB := Lib.hid fun w2 : World => runeB c z w2 hz1
        have hcon := Lib.contains_iff_indexByte c.data.toList z
        generalize hW : wr.iterAt w.heap.size s (i + 1) = W at *
        have HIT2 := Lib.hid hit2
        clear hW hit2 hit hd hz
        cases hin : c.data.toList.contains z
        · rw [hin] at hcon
          have hlt0 : ¬ ((0 : Int) ≤ Lib.indexByte c.data.toList z) := of_decide_eq_false hcon.symm
          have HI := Lib.hid hin
          clear hcon hin
          go_wp2_with fail
          refine Calls.mono (HB.out _) ?_
          rintro e w2 ⟨rfl, hw⟩
          rw [hw]
          clear hw
          go_wp2_with fail
          go_roundg g
          case measure => omega
          case rel => exact ⟨i + 1, by omega, HIT2.out, hbw2, HN.out.succ HZ.out HI.out⟩
        · rw [hin] at hcon
          have hge : (0 : Int) ≤ Lib.indexByte c.data.toList z := of_decide_eq_true hcon.symm
          have HI := Lib.hid hin
          clear hcon hin
          go_wp2_with fail
          refine Calls.mono (HB.out _) ?_
          rintro e w2 ⟨rfl, hw⟩
          rw [hw]
          clear hw
          go_wp2_with fail
          go_ret
          exact ⟨by rw [Lib.indexAny_hit HN.out HZ.out HI.out]; rfl, hbw2⟩
      · obtain ⟨hd1, hd2⟩ := decode_high s i hi (by rw [hz]; omega)
        have HT := Lib.hid (decode_tail s i hi (by rw [hz]; omega))
        clear hz
        generalize Utf8.decode s i = D at *
        obtain ⟨r, n⟩ := D
        simp only at hd1 hd2 HT hnx
        have hit2 := Lib.iterAt_heap wr w.heap.size s i (i + n) hit
        have hbw2 := Lib.below_iterAt hbw (k := w.heap.size) (by omega) s (i + n)
        have hlt2 : w.heap.size < (wr.iterAt w.heap.size s (i + n)).heap.size := (Array.getElem?_eq_some_iff.1 hit2).1
        generalize hW : wr.iterAt w.heap.size s (i + n) = W at *
        have HR2 := Lib.hid (HR.out (r : Int) W (by omega))
        have HIT2 := Lib.hid hit2
        have hin : i + n ≤ s.size := by
          obtain ⟨hk, _⟩ := HT.out (n - 1) (by omega)
          omega
        clear hW hit2 hit
        go_wp2_with fail
        refine Calls.mono HR2.out ?_
        rintro e w2 ⟨rfl, hw⟩
        have HW2 := Lib.hid hw
        clear hw
        go_wp2_with fail
        go_roundg (s.size - (i + n))
        case measure => omega
        case rel =>
          refine ⟨i + n, by omega, ?_, hbw2.trans (HW2.out.mono (by omega)), noAny_by HN.out HC.out HT.out⟩
          rw [HW2.out.block _ hlt2]
          exact HIT2.out
end Go.Proofs.YtbcfhpomclkccaaDoor
