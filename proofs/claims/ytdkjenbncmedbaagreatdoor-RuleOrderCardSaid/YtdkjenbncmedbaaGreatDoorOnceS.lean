/- rule.once: may all in a list be there, and is none there twice? -/
import Derived.Test.YtdkjenbncmedbaaGreatDoorSchm
namespace Go.Proofs.YtdkjenbncmedbaaGreatDoor
open Go.RowKit

def onceSF (may : ByteArray → Bool) (l : List ByteArray) (k : Nat) : Bool := (List.range k).all fun i => match l[i]? with
  | none => true
  | some x => may x && !hasS (l.take i) x
def onceS (may : ByteArray → Bool) (l : List ByteArray) : Bool := decide (l.length ≤ 400) && onceSF may l l.length
theorem onceSF_succ (may : ByteArray → Bool) (l : List ByteArray) (k : Nat) (hk : k < l.length) : onceSF may l (k + 1) = (onceSF may l k && (may l[k] && !hasS (l.take k) l[k])) := by
  unfold onceSF
  rw [List.range_succ, List.all_append, List.all_cons, List.all_nil, Bool.and_true, List.getElem?_eq_getElem hk]
theorem onceSF_no (may : ByteArray → Bool) (l : List ByteArray) (k : Nat) (hk : k < l.length) (h : (may l[k] && !hasS (l.take k) l[k]) = false) : onceSF may l l.length = false := by
  rw [← Bool.not_eq_true]
  intro ht
  have := List.all_eq_true.1 ht k (List.mem_range.2 hk)
  rw [List.getElem?_eq_getElem hk] at this
  simp only at this
  rw [h] at this
  cases this
def OnceSW (w : World) (l : List ByteArray) (may : ByteArray → Bool) (i : Value) (wr : World) : Prop := ∃ k : Nat, i = .int .i64 k ∧ k ≤ l.length ∧ onceSF may l k = true ∧ Below w.heap.size w wr
set_option maxHeartbeats 2000000 in
set_option maxRecDepth 100000 in
theorem once_el (l : List ByteArray) (may : ByteArray → Bool) (v : Value) (g : Nat) (w : World) (hv : SlS w v l) (hl : l.length ≤ 9223372036854775807)
    (hm : ∀ x ∈ l, ∀ w', Below w.heap.size w w' → Calls Tryz.prog 34 #[.string x, .pointer (some ⟨g, 0, none⟩)] w' (BoolR w' (may x))) : Calls Tryz.prog 33 #[v, (.func (.func 34) #[] #[.pointer (some ⟨g, 0, none⟩)])] w (BoolR w (onceS may l)) := by
  obtain ⟨A, c, rfl, hc, hk⟩ := hv.open
  have HK := Lib.hid hk
  have HV := Lib.hid hv
  have HM := Lib.hid hm
  clear hk hv hm
  have hon : onceS may l = (decide (l.length ≤ 400) && onceSF may l l.length) := rfl
  rw [hon]
  clear hon
  by_cases h4 : l.length ≤ 400
  · have y1 : ¬ (400 : Int) < (l.length : Int) := by omega
    rw [show decide (l.length ≤ 400) = true by simpa using h4, Bool.true_and]
    go_enter Tryz.func33, Tryz.ntmps33
    go_wp2_with fail
    go_loopw [12] (fun v wr => OnceSW w l may v wr) (fun v _ => l.length - (intOf v).toNat)
    case atStart => exact ⟨0, rfl, Nat.zero_le _, rfl, Below.refl _ _⟩
    case round =>
      obtain ⟨k, rfl, hk, hu, hb⟩ := hrel
      have HU := Lib.hid hu
      have HB := Lib.hid hb
      clear hu hb
      by_cases hlt : k < l.length
      · have hki : (k : Int) < (l.length : Int) := by omega
        have hkc : (k : Int) ≤ (c : Int) := by omega
        obtain ⟨b, off, hA, hbl, c0, c0'⟩ := HK.out k hlt
        subst hA
        have d0 := cell_later HB.out c0
        have d0' := cell_later HB.out c0'
        clear c0 c0'
        have ht := onceSF_succ may l k hlt
        rw [HU.out, Bool.true_and] at ht
        have HNo := Lib.hid (onceSF_no may l k hlt)
        have hmem : l[k] ∈ l := List.getElem_mem hlt
        obtain ⟨x, hx⟩ : ∃ x, l[k] = x := ⟨_, rfl⟩
        rw [hx] at ht HNo hmem d0 d0'
        clear hx
        obtain ⟨mb, hmb⟩ : ∃ mb, may x = mb := ⟨_, rfl⟩
        have HMx := Lib.hid fun w' hw' => HM.out x hmem w' hw'
        rw [hmb] at HMx ht HNo
        clear hmb hmem
        cases mb with
        | false =>
          have HN2 := Lib.hid (HNo.out (Bool.false_and _))
          clear ht HNo
          go_wp2_with fail
          refine Calls.mono (HMx.out _ HB.out) ?_
          rintro e w1 ⟨rfl, b1⟩
          have HB1 := Lib.hid (HB.out.trans (b1.mono HB.out.size))
          clear b1
          go_wp2
          go_ret
          rw [HN2.out]
          exact ⟨rfl, HB1.out⟩
        | true =>
          have HTk := Lib.hid fun w' hw' => has_call (l.take k) x _ w' ((SlS.later HV.out hw').take k hk) (by rw [List.length_take]; omega)
          obtain ⟨hb, hhb⟩ : ∃ hb, hasS (l.take k) x = hb := ⟨_, rfl⟩
          rw [hhb] at HTk ht HNo
          clear hhb
          cases hb with
          | true =>
            have HN2 := Lib.hid (HNo.out rfl)
            clear ht HNo
            go_wp2_with fail
            refine Calls.mono (HMx.out _ HB.out) ?_
            rintro e w1 ⟨rfl, b1⟩
            have HB1 := Lib.hid (HB.out.trans (b1.mono HB.out.size))
            clear b1
            go_wp2_with fail
            refine Calls.mono (HTk.out _ HB1.out) ?_
            rintro e w2 ⟨rfl, rfl⟩
            go_wp2
            go_ret
            rw [HN2.out]
            exact ⟨rfl, HB1.out⟩
          | false =>
            have HT := Lib.hid ht
            clear ht HNo
            go_wp2_with fail
            refine Calls.mono (HMx.out _ HB.out) ?_
            rintro e w1 ⟨rfl, b1⟩
            have HB1 := Lib.hid (HB.out.trans (b1.mono HB.out.size))
            clear b1
            go_wp2_with fail
            refine Calls.mono (HTk.out _ HB1.out) ?_
            rintro e w2 ⟨rfl, rfl⟩
            go_wp2
            go_roundw
            case rel => exact ⟨k + 1, by go_num, hlt, HT.out, HB1.out⟩
            case measure => simp [intOf]; omega
      · obtain rfl : k = l.length := by omega
        go_wp2
        go_ret
        rw [HU.out]
        exact ⟨rfl, HB.out⟩
  · have y1 : (400 : Int) < (l.length : Int) := by omega
    rw [show decide (l.length ≤ 400) = false by simpa using h4, Bool.false_and]
    go_enter Tryz.func33, Tryz.ntmps33
    go_wp2
    go_ret
    exact ⟨rfl, Below.refl _ _⟩
set_option maxHeartbeats 2000000 in
set_option maxRecDepth 100000 in
theorem once_sch (l : List ByteArray) (may : ByteArray → Bool) (v : Value) (w : World) (hv : SlS w v l) (hl : l.length ≤ 9223372036854775807)
    (hm : ∀ x ∈ l, ∀ w', Below w.heap.size w w' → Calls Tryz.prog 38 #[.string x] w' (BoolR w' (may x))) : Calls Tryz.prog 33 #[v, (.func (.func 38) #[] #[])] w (BoolR w (onceS may l)) := by
  obtain ⟨A, c, rfl, hc, hk⟩ := hv.open
  have HK := Lib.hid hk
  have HV := Lib.hid hv
  have HM := Lib.hid hm
  clear hk hv hm
  have hon : onceS may l = (decide (l.length ≤ 400) && onceSF may l l.length) := rfl
  rw [hon]
  clear hon
  by_cases h4 : l.length ≤ 400
  · have y1 : ¬ (400 : Int) < (l.length : Int) := by omega
    rw [show decide (l.length ≤ 400) = true by simpa using h4, Bool.true_and]
    go_enter Tryz.func33, Tryz.ntmps33
    go_wp2_with fail
    go_loopw [12] (fun v wr => OnceSW w l may v wr) (fun v _ => l.length - (intOf v).toNat)
    case atStart => exact ⟨0, rfl, Nat.zero_le _, rfl, Below.refl _ _⟩
    case round =>
      obtain ⟨k, rfl, hk, hu, hb⟩ := hrel
      have HU := Lib.hid hu
      have HB := Lib.hid hb
      clear hu hb
      by_cases hlt : k < l.length
      · have hki : (k : Int) < (l.length : Int) := by omega
        have hkc : (k : Int) ≤ (c : Int) := by omega
        obtain ⟨b, off, hA, hbl, c0, c0'⟩ := HK.out k hlt
        subst hA
        have d0 := cell_later HB.out c0
        have d0' := cell_later HB.out c0'
        clear c0 c0'
        have ht := onceSF_succ may l k hlt
        rw [HU.out, Bool.true_and] at ht
        have HNo := Lib.hid (onceSF_no may l k hlt)
        have hmem : l[k] ∈ l := List.getElem_mem hlt
        obtain ⟨x, hx⟩ : ∃ x, l[k] = x := ⟨_, rfl⟩
        rw [hx] at ht HNo hmem d0 d0'
        clear hx
        obtain ⟨mb, hmb⟩ : ∃ mb, may x = mb := ⟨_, rfl⟩
        have HMx := Lib.hid fun w' hw' => HM.out x hmem w' hw'
        rw [hmb] at HMx ht HNo
        clear hmb hmem
        cases mb with
        | false =>
          have HN2 := Lib.hid (HNo.out (Bool.false_and _))
          clear ht HNo
          go_wp2_with fail
          refine Calls.mono (HMx.out _ HB.out) ?_
          rintro e w1 ⟨rfl, b1⟩
          have HB1 := Lib.hid (HB.out.trans (b1.mono HB.out.size))
          clear b1
          go_wp2
          go_ret
          rw [HN2.out]
          exact ⟨rfl, HB1.out⟩
        | true =>
          have HTk := Lib.hid fun w' hw' => has_call (l.take k) x _ w' ((SlS.later HV.out hw').take k hk) (by rw [List.length_take]; omega)
          obtain ⟨hb, hhb⟩ : ∃ hb, hasS (l.take k) x = hb := ⟨_, rfl⟩
          rw [hhb] at HTk ht HNo
          clear hhb
          cases hb with
          | true =>
            have HN2 := Lib.hid (HNo.out rfl)
            clear ht HNo
            go_wp2_with fail
            refine Calls.mono (HMx.out _ HB.out) ?_
            rintro e w1 ⟨rfl, b1⟩
            have HB1 := Lib.hid (HB.out.trans (b1.mono HB.out.size))
            clear b1
            go_wp2_with fail
            refine Calls.mono (HTk.out _ HB1.out) ?_
            rintro e w2 ⟨rfl, rfl⟩
            go_wp2
            go_ret
            rw [HN2.out]
            exact ⟨rfl, HB1.out⟩
          | false =>
            have HT := Lib.hid ht
            clear ht HNo
            go_wp2_with fail
            refine Calls.mono (HMx.out _ HB.out) ?_
            rintro e w1 ⟨rfl, b1⟩
            have HB1 := Lib.hid (HB.out.trans (b1.mono HB.out.size))
            clear b1
            go_wp2_with fail
            refine Calls.mono (HTk.out _ HB1.out) ?_
            rintro e w2 ⟨rfl, rfl⟩
            go_wp2
            go_roundw
            case rel => exact ⟨k + 1, by go_num, hlt, HT.out, HB1.out⟩
            case measure => simp [intOf]; omega
      · obtain rfl : k = l.length := by omega
        go_wp2
        go_ret
        rw [HU.out]
        exact ⟨rfl, HB.out⟩
  · have y1 : (400 : Int) < (l.length : Int) := by omega
    rw [show decide (l.length ≤ 400) = false by simpa using h4, Bool.false_and]
    go_enter Tryz.func33, Tryz.ntmps33
    go_wp2
    go_ret
    exact ⟨rfl, Below.refl _ _⟩
end Go.Proofs.YtdkjenbncmedbaaGreatDoor
