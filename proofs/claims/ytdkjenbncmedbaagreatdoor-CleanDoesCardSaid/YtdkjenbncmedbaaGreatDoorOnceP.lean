/- rule.once of pairs. -/
import Derived.Test.YtdkjenbncmedbaaGreatDoorSchm
import Derived.Deep.RegionHeld3
namespace Go.Proofs.YtdkjenbncmedbaaGreatDoor
open Go.RowKit

theorem pc_new {w wr : World} {x1 x2 : ByteArray} (hb : Below w.heap.size w wr) : (wr.alloc (.cells #[.string x1, .string x2] 31)).cell? ⟨wr.heap.size, 0, none⟩ = some (.string x1) ∧ (wr.alloc (.cells #[.string x1, .string x2] 31)).cell? ⟨wr.heap.size, 1, none⟩ = some (.string x2) ∧ Below w.heap.size w (wr.alloc (.cells #[.string x1, .string x2] 31)) ∧ wr.heap.size < (wr.alloc (.cells #[.string x1, .string x2] 31)).heap.size :=
  ⟨cell_of_row _ _ 0 _ _ _ (heap_alloc_new wr _), cell_of_row _ _ 1 _ _ _ (heap_alloc_new wr _), hb.alloc hb.size _, by simp⟩
theorem pc_drew {w w' : World} {n : Nat} {x1 x2 : ByteArray} (h : (w').cell? ⟨n, 0, none⟩ = some (.string x1) ∧ (w').cell? ⟨n, 1, none⟩ = some (.string x2) ∧ Below w.heap.size w w' ∧ n < w'.heap.size) : (w'.drew).cell? ⟨n, 0, none⟩ = some (.string x1) ∧ (w'.drew).cell? ⟨n, 1, none⟩ = some (.string x2) ∧ Below w.heap.size w w'.drew ∧ n < w'.drew.heap.size :=
  ⟨h.1, h.2.1, h.2.2.1.drew, h.2.2.2⟩
theorem pc_step {w w' w'' : World} {n : Nat} {x1 x2 : ByteArray} (h : (w').cell? ⟨n, 0, none⟩ = some (.string x1) ∧ (w').cell? ⟨n, 1, none⟩ = some (.string x2) ∧ Below w.heap.size w w' ∧ n < w'.heap.size) (hb : Below w'.heap.size w' w'') : (w'').cell? ⟨n, 0, none⟩ = some (.string x1) ∧ (w'').cell? ⟨n, 1, none⟩ = some (.string x2) ∧ Below w.heap.size w w'' ∧ n < w''.heap.size :=
  ⟨cell_later hb h.1, cell_later hb h.2.1, h.2.2.1.trans (hb.mono h.2.2.1.size), Nat.lt_of_lt_of_le h.2.2.2 hb.size⟩
theorem pc_below {w w' : World} {n : Nat} {x1 x2 : ByteArray} (h : (w').cell? ⟨n, 0, none⟩ = some (.string x1) ∧ (w').cell? ⟨n, 1, none⟩ = some (.string x2) ∧ Below w.heap.size w w' ∧ n < w'.heap.size) : Below w.heap.size w w' := h.2.2.1
def oncePF (may : (ByteArray × ByteArray) → Bool) (l : List (ByteArray × ByteArray)) (k : Nat) : Bool := (List.range k).all fun i => match l[i]? with
  | none => true
  | some x => may x && !hasP (l.take i) x
def onceP (may : (ByteArray × ByteArray) → Bool) (l : List (ByteArray × ByteArray)) : Bool := decide (l.length ≤ 400) && oncePF may l l.length
theorem oncePF_succ (may : (ByteArray × ByteArray) → Bool) (l : List (ByteArray × ByteArray)) (k : Nat) (hk : k < l.length) : oncePF may l (k + 1) = (oncePF may l k && (may l[k] && !hasP (l.take k) l[k])) := by
  unfold oncePF
  rw [List.range_succ, List.all_append, List.all_cons, List.all_nil, Bool.and_true, List.getElem?_eq_getElem hk]
theorem oncePF_no (may : (ByteArray × ByteArray) → Bool) (l : List (ByteArray × ByteArray)) (k : Nat) (hk : k < l.length) (h : (may l[k] && !hasP (l.take k) l[k]) = false) : oncePF may l l.length = false := by
  rw [← Bool.not_eq_true]
  intro ht
  have := List.all_eq_true.1 ht k (List.mem_range.2 hk)
  rw [List.getElem?_eq_getElem hk] at this
  simp only at this
  rw [h] at this
  cases this
def OncePW (w : World) (l : List (ByteArray × ByteArray)) (may : (ByteArray × ByteArray) → Bool) (i : Value) (wr : World) : Prop := ∃ k : Nat, i = .int .i64 k ∧ k ≤ l.length ∧ oncePF may l k = true ∧ Below w.heap.size w wr
set_option maxHeartbeats 2000000 in
set_option maxRecDepth 100000 in
theorem once_at (l : List (ByteArray × ByteArray)) (may : (ByteArray × ByteArray) → Bool) (v : Value) (g gp : Nat) (w : World) (hv : SlA w v l) (hl : l.length ≤ 9223372036854775807)
    (hm : ∀ x ∈ l, ∀ w', Below w.heap.size w w' → Calls Tryz.prog 36 #[.agg #[.string x.1, .string x.2], .pointer (some ⟨g, 0, none⟩), .pointer (some ⟨gp, 0, none⟩)] w' (BoolR w' (may x))) : Calls Tryz.prog 35 #[v, (.func (.func 36) #[] #[.pointer (some ⟨g, 0, none⟩), .pointer (some ⟨gp, 0, none⟩)])] w (BoolR w (onceP may l)) := by
  obtain ⟨A, c, rfl, hc, hk⟩ := hv.open
  have HK := Lib.hid hk
  have HV := Lib.hid hv
  have HM := Lib.hid hm
  clear hk hv hm
  have hon : onceP may l = (decide (l.length ≤ 400) && oncePF may l l.length) := rfl
  rw [hon]
  clear hon
  by_cases h4 : l.length ≤ 400
  · have y1 : ¬ (400 : Int) < (l.length : Int) := by omega
    rw [show decide (l.length ≤ 400) = true by simpa using h4, Bool.true_and]
    go_enter Tryz.func35, Tryz.ntmps35
    go_wp2_with fail
    go_loopw [12] (fun v wr => OncePW w l may v wr) (fun v _ => l.length - (intOf v).toNat)
    case atStart => exact ⟨0, rfl, Nat.zero_le _, rfl, Below.refl _ _⟩
    case round =>
      obtain ⟨k, rfl, hk, hu, hb⟩ := hrel
      have HU := Lib.hid hu
      have HB := Lib.hid hb
      clear hu hb
      by_cases hlt : k < l.length
      · have hki : (k : Int) < (l.length : Int) := by omega
        have hkc : (k : Int) ≤ (c : Int) := by omega
        obtain ⟨b, off, hA, hbl, c0, c0', c1, c1'⟩ := HK.out k hlt
        subst hA
        have d0 := cell_later HB.out c0
        have d0' := cell_later HB.out c0'
        have d1 := cell_later HB.out c1
        have d1' := cell_later HB.out c1'
        clear c0 c0' c1 c1'
        have ht := oncePF_succ may l k hlt
        rw [HU.out, Bool.true_and] at ht
        have HNo := Lib.hid (oncePF_no may l k hlt)
        have hmem : l[k] ∈ l := List.getElem_mem hlt
        obtain ⟨x, hx⟩ : ∃ x, l[k] = x := ⟨_, rfl⟩
        rw [hx] at ht HNo hmem d0 d0' d1 d1'
        clear hx
        obtain ⟨x1, x2⟩ := x
        simp only at d0 d0' d1 d1'
        have HS := Lib.hid (pc_new (x1 := x1) (x2 := x2) HB.out)
        obtain ⟨mb, hmb⟩ : ∃ mb, may (x1, x2) = mb := ⟨_, rfl⟩
        have HMx := Lib.hid fun w' hw' => HM.out (x1, x2) hmem w' hw'
        rw [hmb] at HMx ht HNo
        clear hmb hmem
        cases mb with
        | false =>
          have HN2 := Lib.hid (HNo.out (Bool.false_and _))
          clear ht HNo
          go_wp2_with fail
          first | go_region_with (first
            | (go_at_call 36; refine Calls.mono (HMx.out _ (pc_below (by first | assumption | exact HS.out | exact pc_drew HS.out))) ?_; rintro e w5 ⟨rfl, b5⟩; have hs5 := pc_step (w := w) (by first | assumption | exact HS.out | exact pc_drew HS.out) b5; have q0 := hs5.1; have q1 := hs5.2.1)) | fail
          all_goals
            go_wp2
            go_ret
            rw [HN2.out]
            exact ⟨rfl, pc_below (by assumption)⟩
        | true =>
          have HTk := Lib.hid fun w' hw' => hasP_call (l.take k) (x1, x2) _ w' ((SlA.later HV.out hw').take k hk) (by rw [List.length_take]; omega)
          obtain ⟨hb, hhb⟩ : ∃ hb, hasP (l.take k) (x1, x2) = hb := ⟨_, rfl⟩
          rw [hhb] at HTk ht HNo
          clear hhb
          cases hb with
          | true =>
            have HN2 := Lib.hid (HNo.out rfl)
            clear ht HNo
            go_wp2_with fail
            first | go_region_with (first
              | (go_at_call 36; refine Calls.mono (HMx.out _ (pc_below (by first | assumption | exact HS.out | exact pc_drew HS.out))) ?_; rintro e w5 ⟨rfl, b5⟩; have hs5 := pc_step (w := w) (by first | assumption | exact HS.out | exact pc_drew HS.out) b5; have q0 := hs5.1; have q1 := hs5.2.1)
              | (go_at_call 29; refine Calls.mono (HTk.out _ (pc_below (by first | assumption | exact pc_drew (by assumption)))) ?_; rintro e w6 ⟨rfl, b6⟩; have hs6 := pc_step (w := w) (by first | assumption | exact pc_drew (by assumption)) b6)) | fail
            all_goals
              go_wp2
              go_ret
              rw [HN2.out]
              exact ⟨rfl, pc_below (by assumption)⟩
          | false =>
            have HT := Lib.hid ht
            clear ht HNo
            go_wp2_with fail
            first | go_region_with (first
              | (go_at_call 36; refine Calls.mono (HMx.out _ (pc_below (by first | assumption | exact HS.out | exact pc_drew HS.out))) ?_; rintro e w5 ⟨rfl, b5⟩; have hs5 := pc_step (w := w) (by first | assumption | exact HS.out | exact pc_drew HS.out) b5; have q0 := hs5.1; have q1 := hs5.2.1)
              | (go_at_call 29; refine Calls.mono (HTk.out _ (pc_below (by first | assumption | exact pc_drew (by assumption)))) ?_; rintro e w6 ⟨rfl, b6⟩; have hs6 := pc_step (w := w) (by first | assumption | exact pc_drew (by assumption)) b6)) | fail
            all_goals
              go_wp2
              go_roundw
              case rel => exact ⟨k + 1, by go_num, hlt, HT.out, pc_below (by assumption)⟩
              case measure => simp [intOf]; omega
      · obtain rfl : k = l.length := by omega
        go_wp2
        go_ret
        rw [HU.out]
        exact ⟨rfl, HB.out⟩
  · have y1 : (400 : Int) < (l.length : Int) := by omega
    rw [show decide (l.length ≤ 400) = false by simpa using h4, Bool.false_and]
    go_enter Tryz.func35, Tryz.ntmps35
    go_wp2
    go_ret
    exact ⟨rfl, Below.refl _ _⟩
end Go.Proofs.YtdkjenbncmedbaaGreatDoor
