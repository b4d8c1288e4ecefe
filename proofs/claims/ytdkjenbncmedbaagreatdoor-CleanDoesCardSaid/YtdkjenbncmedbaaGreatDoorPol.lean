/- Lists of texts and of pairs in memory; the reference's 'in'; slices.Index and slices.Contains of pairs. -/
import Derived.Test.YtdkjenbncmedbaaGreatDoorSet
import Derived.Test.YtdkjenbncmedbaaGreatDoorSafe
import Derived.BigQuiet
import Derived.Deep.QuietTactic
namespace Go.Proofs.YtdkjenbncmedbaaGreatDoor
open Go.RowKit

/-- A slice of n elements of some cells each, whose cells are these. -/
def SlV (size : Nat) (w : World) (v : Value) (n : Nat) (vs : List Value) : Prop :=
  ∃ (A : Option Addr) (c : Nat), v = .slice A n c ∧ n ≤ c ∧ vs.length = n * size ∧ (0 < n → ∃ b off, A = some ⟨b, off, none⟩ ∧ b < w.heap.size ∧ ∀ j u, vs[j]? = some u → w.cell? ⟨b, off + j, none⟩ = some u)
theorem SlV.later {size : Nat} {w w' : World} {v : Value} {n : Nat} {vs : List Value} (h : SlV size w v n vs) (hb : Below w.heap.size w w') : SlV size w' v n vs := by
  obtain ⟨A, c, e, hc, hl, hp⟩ := h
  refine ⟨A, c, e, hc, hl, fun h0 => ?_⟩
  obtain ⟨b, off, hA, hlt, hj⟩ := hp h0
  exact ⟨b, off, hA, Nat.lt_of_lt_of_le hlt hb.size, fun j u hu => cell_later hb (hj j u hu)⟩
def SlS (w : World) (v : Value) (l : List ByteArray) : Prop := SlV 1 w v l.length (l.map Value.string)
def pairCs (x : ByteArray × ByteArray) : List Value := [.string x.1, .string x.2]
def SlA (w : World) (v : Value) (l : List (ByteArray × ByteArray)) : Prop := SlV 2 w v l.length (l.map pairCs).flatten
theorem SlS.later {w w' : World} {v : Value} {l : List ByteArray} (h : SlS w v l) (hb : Below w.heap.size w w') : SlS w' v l := SlV.later h hb
theorem SlA.later {w w' : World} {v : Value} {l : List (ByteArray × ByteArray)} (h : SlA w v l) (hb : Below w.heap.size w w') : SlA w' v l := SlV.later h hb
theorem add_off (b off k : Nat) : (⟨b, off, none⟩ : Addr).add k = ⟨b, off + k, none⟩ := by unfold Addr.add; split <;> simp_all
theorem SlS.open {w : World} {v : Value} {l : List ByteArray} (h : SlS w v l) : ∃ A c, v = .slice A l.length c ∧ l.length ≤ c ∧ ∀ (k : Nat) (hk : k < l.length), ∃ b off, A = some ⟨b, off, none⟩ ∧ b < w.heap.size ∧ w.cell? ((⟨b, off, none⟩ : Addr).add k) = some (.string l[k]) ∧ w.cell? ⟨b, off + k, none⟩ = some (.string l[k]) := by
  obtain ⟨A, c, e, hc, hl, hp⟩ := h
  refine ⟨A, c, e, hc, fun k hk => ?_⟩
  obtain ⟨b, off, hA, hlt, hj⟩ := hp (by omega)
  have := hj k (.string l[k]) (by simp [hk])
  exact ⟨b, off, hA, hlt, by rw [add_off]; exact this, this⟩
theorem pair_at (l : List (ByteArray × ByteArray)) (k : Nat) (hk : k < l.length) : (l.map pairCs).flatten[k * 2]? = some (.string l[k].1) ∧ (l.map pairCs).flatten[k * 2 + 1]? = some (.string l[k].2) := by
  induction l generalizing k with
  | nil => exact absurd hk (Nat.not_lt_zero _)
  | cons x l ih =>
    cases k with
    | zero => exact ⟨rfl, rfl⟩
    | succ k =>
      have := ih k (by simpa using hk)
      rw [show (k + 1) * 2 = (k * 2) + 1 + 1 by omega]
      exact this
theorem SlA.open {w : World} {v : Value} {l : List (ByteArray × ByteArray)} (h : SlA w v l) : ∃ A c, v = .slice A l.length c ∧ l.length ≤ c ∧ ∀ (k : Nat) (hk : k < l.length), ∃ b off, A = some ⟨b, off, none⟩ ∧ b < w.heap.size ∧
    w.cell? ((⟨b, off, none⟩ : Addr).add (k * 2)) = some (.string l[k].1) ∧ w.cell? ⟨b, off + k * 2, none⟩ = some (.string l[k].1) ∧ w.cell? ⟨((⟨b, off, none⟩ : Addr).add (k * 2)).block, ((⟨b, off, none⟩ : Addr).add (k * 2)).off + 1, none⟩ = some (.string l[k].2) ∧ w.cell? ⟨b, off + k * 2 + 1, none⟩ = some (.string l[k].2) := by
  obtain ⟨A, c, e, hc, hl, hp⟩ := h
  refine ⟨A, c, e, hc, fun k hk => ?_⟩
  obtain ⟨b, off, hA, hlt, hj⟩ := hp (by omega)
  have h0 := hj _ _ (pair_at l k hk).1
  have h1 := hj _ _ (pair_at l k hk).2
  exact ⟨b, off, hA, hlt, by rw [add_off]; exact h0, h0, by rw [add_off]; exact h1, h1⟩
theorem SlS.take {w : World} {A : Option Addr} {n c : Nat} {l : List ByteArray} (h : SlS w (.slice A n c) l) (k : Nat) (hk : k ≤ l.length) : SlS w (.slice A k c) (l.take k) := by
  obtain ⟨A', c', e, hc, hl, hp⟩ := h
  cases e
  refine ⟨A, c, by rw [List.length_take, Nat.min_eq_left hk], by rw [List.length_take]; omega, by simp, fun h0 => ?_⟩
  obtain ⟨b, off, hA, hlt, hj⟩ := hp (by rw [List.length_take] at h0; omega)
  refine ⟨b, off, hA, hlt, fun j u hu => hj j u ?_⟩
  rw [List.map_take] at hu
  rw [List.getElem?_take] at hu
  split at hu
  · exact hu
  · cases hu
theorem pairCs_take (l : List (ByteArray × ByteArray)) (k : Nat) : ((l.take k).map pairCs).flatten = (l.map pairCs).flatten.take (k * 2) := by
  induction l generalizing k with
  | nil => simp
  | cons x l ih =>
    cases k with
    | zero => simp
    | succ k =>
      rw [List.take_succ_cons, List.map_cons, List.flatten_cons, ih, List.map_cons, List.flatten_cons, show (k + 1) * 2 = k * 2 + 1 + 1 by omega]
      rfl
theorem pairCs_len (l : List (ByteArray × ByteArray)) : (l.map pairCs).flatten.length = l.length * 2 := by
  induction l with
  | nil => rfl
  | cons x l ih => rw [List.map_cons, List.flatten_cons, List.length_append, ih, List.length_cons]; show 2 + _ = _; omega
theorem SlA.take {w : World} {A : Option Addr} {n c : Nat} {l : List (ByteArray × ByteArray)} (h : SlA w (.slice A n c) l) (k : Nat) (hk : k ≤ l.length) : SlA w (.slice A k c) (l.take k) := by
  obtain ⟨A', c', e, hc, hl, hp⟩ := h
  cases e
  refine ⟨A, c, by rw [List.length_take, Nat.min_eq_left hk], by rw [List.length_take]; omega, pairCs_len _, fun h0 => ?_⟩
  obtain ⟨b, off, hA, hlt, hj⟩ := hp (by rw [List.length_take] at h0; omega)
  refine ⟨b, off, hA, hlt, fun j u hu => hj j u ?_⟩
  rw [pairCs_take, List.getElem?_take] at hu
  split at hu
  · exact hu
  · cases hu
/-- slices.Contains of texts. -/
theorem has_call (l : List ByteArray) (x : ByteArray) (v : Value) (w : World) (h : SlS w v l) (hl : l.length ≤ 9223372036854775807) : Calls Tryz.prog 37 #[v, .string x] w (RB w (hasS l x)) := by
  refine contains_call l x (fun _ => True) v w ?_ hl
  obtain ⟨A, c, e, _, _, hp⟩ := h
  refine ⟨A, c, e, fun h0 => ?_⟩
  obtain ⟨b, off, hA, _, hj⟩ := hp h0
  exact ⟨b, off, hA, trivial, fun j hjl => hj j _ (by simp [hjl, List.getD])⟩
def hasP (l : List (ByteArray × ByteArray)) (x : ByteArray × ByteArray) : Bool := l.any fun y => y.1.toList == x.1.toList && y.2.toList == x.2.toList
theorem hasP_take (l : List (ByteArray × ByteArray)) (x : ByteArray × ByteArray) (k : Nat) (hk : k < l.length) : hasP (l.take (k + 1)) x = (hasP (l.take k) x || (l[k].1.toList == x.1.toList && l[k].2.toList == x.2.toList)) := by
  unfold hasP
  rw [List.take_succ_eq_append_getElem hk, List.any_append]
  simp
theorem hasP_yes (l : List (ByteArray × ByteArray)) (x : ByteArray × ByteArray) (k : Nat) (hk : k < l.length) (h1 : l[k].1.toList = x.1.toList) (h2 : l[k].2.toList = x.2.toList) : hasP l x = true := by
  unfold hasP
  exact List.any_eq_true.2 ⟨_, List.getElem_mem hk, by rw [h1, h2]; simp⟩
def IdxR (w : World) (b : Bool) (e : Ending) (w' : World) : Prop := ∃ z : Int, e = .returned (.int .i64 z) ∧ decide (0 ≤ z) = b ∧ Below w.heap.size w w'
def IdxW (w : World) (l : List (ByteArray × ByteArray)) (x : ByteArray × ByteArray) (i : Value) (wr : World) : Prop := ∃ k : Nat, i = .int .i64 k ∧ k ≤ l.length ∧ hasP (l.take k) x = false ∧ ∃ d, wr = (w.alloc (.cells #[.string x.1, .string x.2] 31)).drewN d
set_option maxHeartbeats 2000000 in
set_option maxRecDepth 100000 in
theorem idxP_any (l : List (ByteArray × ByteArray)) (x : ByteArray × ByteArray) (v : Value) (w : World) (h : SlA w v l) (hl : l.length ≤ 9223372036854775807) : Calls Tryz.prog 53 #[v, .agg #[.string x.1, .string x.2]] w (IdxR w (hasP l x)) := by
  obtain ⟨A, c, rfl, hc, hk⟩ := h.open
  have HK := Lib.hid hk
  clear hk
  have hb0 : Below w.heap.size w (w.alloc (.cells #[.string x.1, .string x.2] 31)) := (Below.refl _ w).alloc (Nat.le_refl _) _
  have HB0 := Lib.hid hb0
  clear hb0
  go_enter Tryz.func53, Tryz.ntmps53
  go_wp2_with fail
  go_loopw [8] (fun v wr => IdxW w l x v wr) (fun v _ => l.length - (intOf v).toNat)
  case atStart => exact ⟨0, rfl, Nat.zero_le _, rfl, 0, rfl⟩
  case round =>
    obtain ⟨k, rfl, hk, hu, d, rfl⟩ := hrel
    have HU := Lib.hid hu
    clear hu
    by_cases hlt : k < l.length
    · have hki : (k : Int) < (l.length : Int) := by omega
      obtain ⟨b, off, hA, hbl, c0, c0', c1, c1'⟩ := HK.out k hlt
      subst hA
      have ht := hasP_take l x k hlt
      rw [HU.out, Bool.false_or] at ht
      have HT := Lib.hid ht
      have HY := Lib.hid (hasP_yes l x k hlt)
      obtain ⟨y, hy⟩ : ∃ y, l[k] = y := ⟨_, rfl⟩
      rw [hy] at c0 c0' c1 c1' HT HY
      obtain ⟨y1, y2⟩ := y
      obtain ⟨x1, x2⟩ := x
      simp only at c0 c0' c1 c1' HT HY
      clear hy ht
      have q : ∀ (o : Nat), w.cell? ⟨b, o, none⟩ = ((w.alloc (.cells #[.string x1, .string x2] 31)).drewN d).cell? ⟨b, o, none⟩ := fun o => (World.cell?_alloc_lt w _ _ hbl).symm
      by_cases h1 : x1.toList = y1.toList
      · have g1 : (x1.toList == y1.toList) = true := by simpa using h1
        by_cases h2 : x2.toList = y2.toList
        · have g2 : (x2.toList == y2.toList) = true := by simpa using h2
          have HV := Lib.hid (HY.out h1.symm h2.symm)
          clear HY HT h1 h2
          go_wp2
          go_quiet (fail)
          go_wp2
          go_ret
          exact ⟨_, rfl, by rw [HV.out]; simp, row_drewN (row_drewN HB0.out d) _⟩
        · have g2 : (x2.toList == y2.toList) = false := by simpa using h2
          have g3 : (y2.toList == x2.toList) = false := by simpa using Ne.symm h2
          clear HY
          have HN := Lib.hid (show hasP (l.take (k + 1)) (x1, x2) = false by rw [HT.out]; rw [g3, Bool.and_false])
          go_wp2
          go_quiet (fail)
          go_wp2
          go_roundw
          case rel => exact ⟨k + 1, by go_num, hlt, HN.out, _, rfl⟩
          case measure => simp [intOf]; omega
      · have g1 : (x1.toList == y1.toList) = false := by simpa using h1
        have g3 : (y1.toList == x1.toList) = false := by simpa using Ne.symm h1
        clear HY
        have HN := Lib.hid (show hasP (l.take (k + 1)) (x1, x2) = false by rw [HT.out]; rw [g3, Bool.false_and])
        go_wp2
        go_quiet (fail)
        go_wp2
        go_roundw
        case rel => exact ⟨k + 1, by go_num, hlt, HN.out, _, rfl⟩
        case measure => simp [intOf]; omega
    · obtain rfl : k = l.length := by omega
      have hv := HU.out
      rw [List.take_length] at hv
      have HV := Lib.hid hv
      clear hv HU
      go_wp2
      go_ret
      exact ⟨_, rfl, by rw [HV.out]; decide, row_drewN HB0.out d⟩
set_option maxHeartbeats 2000000 in
set_option maxRecDepth 100000 in
theorem hasP_call (l : List (ByteArray × ByteArray)) (x : ByteArray × ByteArray) (v : Value) (w : World) (h : SlA w v l) (hl : l.length ≤ 9223372036854775807) : Calls Tryz.prog 29 #[v, .agg #[.string x.1, .string x.2]] w (BoolR w (hasP l x)) := by
  have hb0 : Below w.heap.size w (w.alloc (.cells #[.string x.1, .string x.2] 31)) := (Below.refl _ w).alloc (Nat.le_refl _) _
  have HI := Lib.hid (idxP_any l x v _ (h.later hb0) hl)
  obtain ⟨A, c, rfl, hc, _⟩ := h.open
  have HB0 := Lib.hid hb0
  clear hb0 h
  go_enter Tryz.func29, Tryz.ntmps29
  go_wp2_with fail
  refine Calls.mono HI.out ?_
  rintro e w1 ⟨z, rfl, hz, b1⟩
  have HZ := Lib.hid hz
  have HB1 := Lib.hid (HB0.out.trans (b1.mono HB0.out.size))
  clear hz b1
  go_wp2
  go_ret
  exact ⟨by rw [← HZ.out]; rfl, HB1.out⟩
end Go.Proofs.YtdkjenbncmedbaaGreatDoor
