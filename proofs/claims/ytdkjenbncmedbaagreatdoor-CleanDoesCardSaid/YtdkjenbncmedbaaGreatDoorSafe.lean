/- url.Safe and the reference's Safe. -/
import Derived.Test.YtdkjenbncmedbaaGreatDoorAcc2
import Derived.Test.YtdkjenbncmedbaaGreatDoorScheme
import Derived.Test.YtdkjenbncmedbaaGreatDoorBld
namespace Go.Proofs.YtdkjenbncmedbaaGreatDoor
open Go.RowKit

/-- The slice value reads as these strings; its cells lie in blocks of S. -/
def StrsAt (S : Nat → Prop) (w : World) (v : Value) (l : List ByteArray) : Prop :=
  ∃ (A : Option Addr) (c : Nat), v = .slice A l.length c ∧ (0 < l.length → ∃ b off, A = some ⟨b, off, none⟩ ∧ S b ∧ ∀ j, j < l.length → w.cell? ⟨b, off + j, none⟩ = some (.string (l.getD j ByteArray.empty)))
theorem StrsAt.keep {S : Nat → Prop} {w w' : World} {v : Value} {l : List ByteArray} (h : StrsAt S w v l) (hk : ∀ k, S k → w'.heap[k]? = w.heap[k]?) : StrsAt S w' v l := by
  obtain ⟨A, c, e, hc⟩ := h
  refine ⟨A, c, e, fun h0 => ?_⟩
  obtain ⟨b, off, hA, hS, hj⟩ := hc h0
  exact ⟨b, off, hA, hS, fun j hjl => (World.cell?_of_block (a := ⟨b, off + j, none⟩) (hk b hS)).trans (hj j hjl)⟩

def hasS (sc : List ByteArray) (x : ByteArray) : Bool := sc.any fun y => y.toList == x.toList
theorem bytes_eq {x y : ByteArray} (h : x.toList = y.toList) : x = y := by
  rw [ByteArray.toList_eq, ByteArray.toList_eq] at h
  exact ByteArray.ext (Array.toList_inj.1 h)
theorem hasS_iff (sc : List ByteArray) (x : ByteArray) : hasS sc x = true ↔ x ∈ sc := by
  unfold hasS
  rw [List.any_eq_true]
  constructor
  · rintro ⟨y, hy, e⟩
    rw [← bytes_eq (beq_iff_eq.1 e)]
    exact hy
  · exact fun h => ⟨x, h, by simp⟩
theorem hasS_take (sc : List ByteArray) (x y : ByteArray) (k : Nat) (h : sc.take (k + 1) = sc.take k ++ [y]) : hasS (sc.take (k + 1)) x = (hasS (sc.take k) x || (y.toList == x.toList)) := by
  rw [h]
  unfold hasS
  rw [List.any_append]
  simp
def safe (l : List UInt8) (sc : List ByteArray) : Bool := match scheme l with | none => true | some x => hasS sc ⟨x.toArray⟩
theorem contains_call (l : List ByteArray) (x : ByteArray) (S : Nat → Prop) (v : Value) (w : World) (h : StrsAt S w v l) (hl : l.length ≤ 9223372036854775807) : Calls Tryz.prog 37 #[v, .string x] w (RB w (hasS l x)) := by
  obtain ⟨A, c, rfl, hc⟩ := h
  by_cases h0 : 0 < l.length
  · obtain ⟨b, off, rfl, _, hj⟩ := hc h0
    refine (Tryz.slices_Contains_string b off l.length c l x w (Nat.le_refl _) hl hj).mono ?_
    rintro e w' ⟨rfl, rfl⟩
    refine ⟨?_, rfl⟩
    rw [List.take_of_length_le (Nat.le_refl _)]
    congr 2
    rw [Bool.eq_iff_iff, Lib.containsS_iff, hasS_iff]
  · have hz : l = [] := List.eq_nil_of_length_eq_zero (by omega)
    subst hz
    refine (Tryz.slices_Contains_string_empty A c x w).mono ?_
    rintro e w' ⟨rfl, rfl⟩
    exact ⟨rfl, rfl⟩
def BoolR (w : World) (b : Bool) (e : Ending) (w' : World) : Prop := e = .returned (.bool b) ∧ Below w.heap.size w w'

set_option maxHeartbeats 1000000 in
theorem safe_any (s : ByteArray) (v : Value) (sc : List ByteArray) (w : World) (hG : Glob w) (hs : s.size ≤ 1000000000) (hv : StrsAt (fun k => k < w.heap.size) w v sc) (hl : sc.length ≤ 9223372036854775807) :
    Calls Tryz.prog 31 #[.string s, v] w (BoolR w (safe s.data.toList sc)) := by
  have hsch := scheme_any s w hG hs
  have hsf : safe s.data.toList sc = match scheme s.data.toList with | none => true | some x => hasS sc ⟨x.toArray⟩ := rfl
  obtain ⟨A, c, rfl, _⟩ := id hv
  have HV := Lib.hid hv
  cases ho : scheme s.data.toList with
  | none =>
    rw [ho] at hsch hsf
    have HS := Lib.hid hsch
    have HF := Lib.hid hsf
    clear hsch hsf ho hv
    go_enter Tryz.func31, Tryz.ntmps31
    go_wp2_with fail
    refine Calls.mono HS.out ?_
    rintro e w1 ⟨rfl, b1⟩
    have HB := Lib.hid b1
    clear b1
    go_wp2
    go_ret
    exact ⟨by rw [HF.out]; rfl, HB.out⟩
  | some x =>
    rw [ho] at hsch hsf
    have HS := Lib.hid hsch
    have HF := Lib.hid hsf
    clear hsch hsf ho hv
    go_enter Tryz.func31, Tryz.ntmps31
    go_wp2_with fail
    refine Calls.mono HS.out ?_
    rintro e w1 ⟨rfl, b1⟩
    have HB := Lib.hid b1
    have hv1 := HV.out.keep (fun k hk => b1.block k hk)
    have HV1 := Lib.hid hv1
    clear b1 hv1
    go_wp2_with fail
    refine Calls.mono (contains_call sc ⟨x.toArray⟩ _ _ _ HV1.out hl) ?_
    rintro e w2 ⟨rfl, rfl⟩
    go_wp2
    go_ret
    exact ⟨by rw [HF.out]; rfl, HB.out⟩

set_option maxHeartbeats 2000000 in
set_option maxRecDepth 100000 in
theorem refsafe_any (s : ByteArray) (v : Value) (sc : List ByteArray) (w : World) (hs : s.size ≤ 1000000000) (hv : StrsAt (fun k => k < w.heap.size) w v sc) (hl : sc.length ≤ 9223372036854775807) :
    Calls Tryz.prog 75 #[.string s, v] w (BoolR w (safe s.data.toList sc)) := by
  have hsch := refscheme_any s w hs
  obtain ⟨o, ho⟩ : ∃ o, scheme s.data.toList = o := ⟨_, rfl⟩
  have hsf : safe s.data.toList sc = !(o.isSome && !hasS sc ⟨(o.getD []).toArray⟩) := by
    unfold safe
    rw [ho]
    cases o with
    | none => rfl
    | some x => simp
  rw [ho] at hsch
  obtain ⟨X, hX⟩ : ∃ X : ByteArray, (⟨(o.getD []).toArray⟩ : ByteArray) = X := ⟨_, rfl⟩
  rw [hX] at hsf
  obtain ⟨A, c, rfl, _⟩ := id hv
  have HV := Lib.hid hv
  have HS := Lib.hid hsch
  have HF := Lib.hid hsf
  have HX := Lib.hid hX
  clear hsch hsf hv ho hX
  go_enter Tryz.func75, Tryz.ntmps75
  go_wp2_with fail
  refine Calls.mono HS.out ?_
  rintro e w1 ⟨rfl, b1⟩
  rw [HX.out]
  have HB := Lib.hid b1
  have hv1 := HV.out.keep (fun k hk => b1.block k hk)
  have HV1 := Lib.hid hv1
  clear b1 hv1
  obtain ⟨iso, hio⟩ : ∃ iso, o.isSome = iso := ⟨_, rfl⟩
  rw [hio] at HF ⊢
  go_wp2_with fail
  go_loop [6, 7] (fun is i => ∃ (k : Nat) (b : Bool), i = .int .i64 k ∧ k ≤ sc.length ∧ is = .bool b ∧ Hid (b = (iso && !hasS (sc.take k) X))) (fun _ i => sc.length - (intOf i).toNat)
  case atStart => exact ⟨0, iso, rfl, Nat.zero_le _, rfl, Lib.hid (by simp [hasS])⟩
  case round =>
    obtain ⟨k, b, rfl, hk, rfl, HBB⟩ := hrel
    by_cases hlt : k < sc.length
    · obtain ⟨A2, c2, e2, hc2⟩ := HV1.out
      injection e2 with e2 _ e3
      subst e2 e3
      obtain ⟨bb, off, rfl, _, hj⟩ := hc2 (by omega)
      have hcell := hj k hlt
      obtain ⟨Y, hY⟩ : ∃ Y, sc.getD k ByteArray.empty = Y := ⟨_, rfl⟩
      rw [hY] at hcell
      have hYk : sc[k] = Y := by rw [← hY, List.getD, List.getElem?_eq_getElem hlt]; rfl
      have htk : sc.take (k + 1) = sc.take k ++ [Y] := by rw [List.take_succ_eq_append_getElem hlt, hYk]
      have hki : (k : Int) < (sc.length : Int) := by omega
      have hh := hasS_take sc X Y k htk
      have HH := Lib.hid hh
      clear hc2 hj hY hYk htk hh
      cases b with
      | false =>
        go_wp2
        go_round
        case rel => exact ⟨k + 1, false, by go_num, by omega, rfl, Lib.hid (by
          have h := HBB.out
          rw [HH.out]
          revert h
          cases iso <;> cases hasS (sc.take k) X <;> simp)⟩
        case measure => simp [intOf]; omega
      | true =>
        go_wp2
        go_round
        case rel => exact ⟨k + 1, _, by go_num, by omega, rfl, Lib.hid (by
          have h := HBB.out
          rw [HH.out]
          revert h
          cases iso <;> cases hasS (sc.take k) X <;> simp)⟩
        case measure => simp [intOf]; omega
    · obtain rfl : k = sc.length := by omega
      go_wp2
      go_ret
      refine ⟨?_, HB.out⟩
      have h := HBB.out
      rw [List.take_of_length_le (Nat.le_refl _)] at h
      rw [HF.out, ← h]
      rfl
end Go.Proofs.YtdkjenbncmedbaaGreatDoor
