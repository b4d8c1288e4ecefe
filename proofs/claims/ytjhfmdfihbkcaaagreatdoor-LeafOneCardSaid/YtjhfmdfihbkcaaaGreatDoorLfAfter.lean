/- leaf.after. -/
import Derived.Test.YtjhfmdfihbkcaaaGreatDoorLfCols
import Derived.Test.YtjhfmdfihbkcaaaGreatDoorAtClosed
import Derived.Test.YtjhfmdfihbkcaaaGreatDoorLower
import Derived.Lib.SmallJoins
namespace Go.Proofs.YtjhfmdfihbkcaaaGreatDoor
open Go.RowKit

def SpTab (w : World) : Prop := Lib.TabIs Tryz.prog w "strings.asciiSpace" .u8 Lib.asciiSpaceTab
theorem SpTab.later {w w' : World} (h : SpTab w) (hb : Below w.heap.size w w') : SpTab w' :=
  Joins.tab_stays (g := 0) (by kernel_rfl) h hb (Nat.le_refl _)
/-- Does a front and one word stand first, and then nothing, a blank, or one of some ends? -/
def aftW (low : List UInt8) (front : ByteArray) (ends : List ByteArray) (x : List UInt8) : Bool :=
  Lib.hasPrefix low (front.data.toList ++ x) && (apartB (Lib.trimPrefix low (front.data.toList ++ x)) || decide (0 < closedN (Lib.trimPrefix low (front.data.toList ++ x)) 0 ends))
def aftB (low : List UInt8) (front : ByteArray) (ends : List ByteArray) (ws : List (List UInt8)) : Bool := ws.any (aftW low front ends)
theorem aft_take (low : List UInt8) (front : ByteArray) (ends : List ByteArray) (ws : List (List UInt8)) (k : Nat) (hk : k < ws.length) : aftB low front ends (ws.take (k + 1)) = (aftB low front ends (ws.take k) || aftW low front ends ws[k]) := by
  unfold aftB
  rw [List.take_succ_eq_append_getElem hk, List.any_append]
  simp
theorem aft_yes (low : List UInt8) (front : ByteArray) (ends : List ByteArray) (ws : List (List UInt8)) (k : Nat) (hk : k < ws.length) (h : aftW low front ends ws[k] = true) : aftB low front ends ws = true := List.any_eq_true.2 ⟨_, List.getElem_mem hk, h⟩
def AftW (W : World) (low : List UInt8) (front : ByteArray) (ends : List ByteArray) (ws : List (List UInt8)) (i : Value) (wr : World) : Prop := ∃ k : Nat, i = .int .i64 k ∧ k ≤ ws.length ∧ aftB low front ends (ws.take k) = false ∧ wr = W
theorem trimPrefix_len (l p : List UInt8) : (Lib.trimPrefix l p).length ≤ l.length := by
  unfold Lib.trimPrefix
  split
  · rw [List.length_drop]; omega
  · exact Nat.le_refl _
set_option maxHeartbeats 4000000 in
set_option maxRecDepth 100000 in
theorem after_any (s front words : ByteArray) (g : Nat) (ends : List ByteArray) (w : World) (hs : s.size ≤ 1099511627) (hf : front.size ≤ 100) (hw : words.size ≤ 100000) (hascii : ∀ (j : Nat) b, words.data.toList[j]? = some b → b.toNat < 128)
    (hws : ∀ x ∈ Lib.fields words.data.toList, x.length ≤ 100) (hwn : (Lib.fields words.data.toList).length ≤ 100000) (hb : Box w g 9 (ends.map Value.string).toArray) (hx : ∀ x ∈ ends, x.size ≤ 100) (hn : ends.length ≤ 100) (ht : SpTab w) :
    Calls Tryz.prog 28 #[.string s, .string front, .string words, .slice (some ⟨g, 0, none⟩) ends.length ends.length] w (RBw w (aftB (lowerL s.data.toList) front ends (Lib.fields words.data.toList))) := by
  have hL := lower_any s w (by omega)
  have hll : (lowerL s.data.toList).length ≤ s.size := by unfold lowerL; rw [List.length_map]; exact Nat.le_of_eq Array.length_toList
  obtain ⟨L, hLe⟩ : ∃ L : ByteArray, (⟨(lowerL s.data.toList).toArray⟩ : ByteArray) = L := ⟨_, rfl⟩
  have hLd : lowerL s.data.toList = L.data.toList := by rw [← hLe]
  have hLs : L.size ≤ s.size := by rw [← hLe]; exact hll
  unfold StrR at hL
  rw [hLe] at hL
  rw [hLd]
  have hF := fun w' (h : SpTab w') => Tryz.strings_Fields words w' (by omega) hascii h
  obtain ⟨ws, hwse⟩ : ∃ ws, Lib.fields words.data.toList = ws := ⟨_, rfl⟩
  rw [hwse] at hF hws hwn ⊢
  have HF := Lib.hid hF
  have HL := Lib.hid hL
  have HWS := Lib.hid hws
  have HT := Lib.hid ht
  have HB := Lib.hid hb
  clear hLe hLd hll hL hF hws ht hb hwse hascii
  have HCL := Lib.hid fun (X : ByteArray) w' (hX : X.size ≤ 1099511627) (hbx : Box w' g 9 (ends.map Value.string).toArray) => closed_any X 0 g ends w' hX (Nat.zero_le _) hbx hx hn
  clear hx hn
  go_enter Tryz.func28, Tryz.ntmps28
  go_wp2_with fail
  refine Calls.mono HL.out ?_
  rintro e w1 ⟨rfl, b1⟩
  have HB1 := Lib.hid b1
  clear b1
  go_wp2_with fail
  refine Calls.mono (HF.out _ (HT.out.later HB1.out)) ?_
  rintro e w2 ⟨rfl, hw2⟩
  have bw : Below w.heap.size w w2 := by rw [hw2]; exact HB1.out.alloc HB1.out.size _
  have hbw : Box w2 w1.heap.size 9 (ws.map fun l => Value.string ⟨l.toArray⟩).toArray := by rw [hw2]; exact Box.new w1 _ _
  have hbe : Box w2 g 9 (ends.map Value.string).toArray := HB.out.below bw HB.out.lt
  have HBW := Lib.hid bw
  have HBX := Lib.hid hbw
  have HBE := Lib.hid hbe
  clear hw2 bw hbw hbe
  go_wp2_with fail
  go_loopw [19] (fun v wr => AftW w2 L.data.toList front ends ws v wr) (fun v _ => ws.length - (intOf v).toNat)
  case atStart => exact ⟨0, rfl, Nat.zero_le _, rfl, rfl⟩
  case round =>
    obtain ⟨k, rfl, hk, hu, rfl⟩ := hrel
    have HU := Lib.hid hu
    clear hu
    by_cases hlt : k < ws.length
    · have hki : (k : Int) < (ws.length : Int) := by omega
      have x1 := box_lie HBX.out k (.string ⟨ws[k].toArray⟩) (by simp)
      have x2 := HBX.out.cell k
      rw [show (ws.map fun l => Value.string ⟨l.toArray⟩).toArray[k]? = some (.string ⟨ws[k].toArray⟩) by simp] at x2
      have hsz := HWS.out _ (List.getElem_mem hlt)
      have ht1 := aft_take L.data.toList front ends ws k hlt
      rw [HU.out, Bool.false_or] at ht1
      have HYes := Lib.hid (aft_yes L.data.toList front ends ws k hlt)
      obtain ⟨p, hp⟩ : ∃ p : ByteArray, p = ⟨ws[k].toArray⟩ := ⟨_, rfl⟩
      have hpd : p.data.toList = ws[k] := by rw [hp]
      have hps : p.size ≤ 100 := by rw [hp]; exact hsz
      rw [← hp] at x1 x2
      rw [← hpd] at ht1 HYes
      clear hp hpd hsz
      have hov : ¬ (9223372036854775807 < front.size + p.size) := by omega
      have HC := Lib.hid (fun w' => Tryz.strings_CutPrefix L (front ++ p) w')
      have hfp : (front ++ p).data.toList = front.data.toList ++ p.data.toList := by rw [ByteArray.data_append, Array.toList_append]
      rw [hfp] at HC
      obtain ⟨R, hR⟩ : ∃ R : ByteArray, (⟨(Lib.trimPrefix L.data.toList (front.data.toList ++ p.data.toList)).toArray⟩ : ByteArray) = R := ⟨_, rfl⟩
      have hRd : Lib.trimPrefix L.data.toList (front.data.toList ++ p.data.toList) = R.data.toList := by rw [← hR]
      have hRs : R.size ≤ L.size := by rw [← hR]; have := trimPrefix_len L.data.toList (front.data.toList ++ p.data.toList); rw [show L.data.toList.length = L.size from Array.length_toList] at this; exact this
      rw [hR] at HC
      have hw0 : aftW L.data.toList front ends p.data.toList = (Lib.hasPrefix L.data.toList (front.data.toList ++ p.data.toList) && (apartB R.data.toList || decide (0 < closedN R.data.toList 0 ends))) := by
        unfold aftW
        rw [hRd]
      rw [hw0] at ht1 HYes
      have HA := Lib.hid fun w' => apart_any R w'
      have HCX := Lib.hid (HCL.out R wr (by omega) HBE.out)
      have HT1 := Lib.hid ht1
      clear hR hRd hfp hw0 ht1
      cases hh : Lib.hasPrefix L.data.toList (front.data.toList ++ p.data.toList) with
      | false =>
        rw [hh] at HC HT1
        clear hh HYes
        go_wp2_with fail
        refine Calls.mono (HC.out _) ?_
        rintro e w4 ⟨rfl, rfl⟩
        go_wp2
        go_roundw
        case rel => exact ⟨k + 1, by go_num, hlt, HT1.out, rfl⟩
        case measure => simp [intOf]; omega
      | true =>
        rw [hh] at HC HT1 HYes
        clear hh
        cases ha : apartB R.data.toList with
        | true =>
          rw [ha] at HA HYes
          have HY2 := Lib.hid (HYes.out rfl)
          clear ha
          go_wp2_with fail
          refine Calls.mono (HC.out _) ?_
          rintro e w4 ⟨rfl, rfl⟩
          go_wp2_with fail
          refine Calls.mono (HA.out _) ?_
          rintro e w4 ⟨rfl, rfl⟩
          go_wp2
          go_ret
          rw [HY2.out]
          exact ⟨rfl, HBW.out⟩
        | false =>
          rw [ha] at HA HYes HT1
          clear ha
          obtain ⟨c, hc⟩ : ∃ c, closedN R.data.toList 0 ends = c := ⟨_, rfl⟩
          rw [hc] at HCX HYes HT1
          clear hc
          by_cases hc0 : 0 < c
          · have z0 : (0 : Int) < (c : Int) := by omega
            have HY2 := Lib.hid (HYes.out (by simpa using hc0))
            clear HYes
            go_wp2_with fail
            refine Calls.mono (HC.out _) ?_
            rintro e w4 ⟨rfl, rfl⟩
            go_wp2_with fail
            refine Calls.mono (HA.out _) ?_
            rintro e w4 ⟨rfl, rfl⟩
            go_wp2_with fail
            refine Calls.mono HCX.out ?_
            rintro e w4 ⟨rfl, rfl⟩
            go_wp2
            go_ret
            rw [HY2.out]
            exact ⟨rfl, HBW.out⟩
          · have z0 : ¬ (0 : Int) < (c : Int) := by omega
            rw [show decide (0 < c) = false by simpa using hc0] at HT1
            clear HYes
            go_wp2_with fail
            refine Calls.mono (HC.out _) ?_
            rintro e w4 ⟨rfl, rfl⟩
            go_wp2_with fail
            refine Calls.mono (HA.out _) ?_
            rintro e w4 ⟨rfl, rfl⟩
            go_wp2_with fail
            refine Calls.mono HCX.out ?_
            rintro e w4 ⟨rfl, rfl⟩
            go_wp2
            go_roundw
            case rel => exact ⟨k + 1, by go_num, hlt, HT1.out, rfl⟩
            case measure => simp [intOf]; omega
    · obtain rfl : k = ws.length := by omega
      have hv : aftB L.data.toList front ends ws = false := by have := HU.out; rw [List.take_length] at this; exact this
      have HV := Lib.hid hv
      clear hv HU
      go_wp2
      go_ret
      rw [HV.out]
      exact ⟨rfl, HBW.out⟩
end Go.Proofs.YtjhfmdfihbkcaaaGreatDoor
