/- atoms.mail: is a text an address of mail? -/
import Derived.Test.YtikokedphocpiaaGreatDoorAtAddr
import Derived.Lib.SplitLaws
import Derived.Test.YtikokedphocpiaaGreatDoorAtNl
import Derived.Test.YtikokedphocpiaaGreatDoorRow
namespace Go.Proofs.YtikokedphocpiaaGreatDoor
open Go.RowKit

def RBb (w : World) (v : Bool) (e : Ending) (w' : World) : Prop := e = .returned (.bool v) ∧ Below w.heap.size w w'
def partB (p : ByteArray) : Bool := !p.data.toList.isEmpty && decide (p.size ≤ 63) && (Lib.trimB p.data.toList 45 == p.data.toList) && allB hostB p.data.toList
def partsOf (h : ByteArray) : List ByteArray := Lib.splitB ⟨#[46]⟩ 0 (Lib.countB h ⟨#[46]⟩) h
def partsB (ps : List ByteArray) : Bool := ps.all partB
def mailC (c : List UInt8 × List UInt8 × Bool) : Bool := c.2.2 && !c.1.isEmpty && allB (inB (⟨#[46, 33, 35, 36, 37, 38, 39, 42, 43, 47, 61, 63, 94, 95, 123, 124, 125, 126, 45, 96]⟩ : ByteArray).data.toList) c.1 && partsB (partsOf ⟨c.2.1.toArray⟩)
def mailB (l : List UInt8) : Bool := mailC (Lib.cut l [64])
theorem trim_dash (s : ByteArray) (w : World) (hs : s.size ≤ 9223372036854775807) : Calls Tryz.prog 22 #[.string s, .string ⟨#[45]⟩] w fun e w' => e = .returned (.string ⟨(Lib.trimB s.data.toList 45).toArray⟩) ∧ ∃ d, w' = w.drewN d := by
  refine (Tryz.strings_Trim_one s 45 (by decide) w hs).mono ?_
  rintro e w' ⟨rfl, rfl | rfl⟩
  · exact ⟨rfl, 0, rfl⟩
  · exact ⟨rfl, 1, rfl⟩
theorem parts_take (ps : List ByteArray) (k : Nat) (hk : k < ps.length) : partsB (ps.take (k + 1)) = (partsB (ps.take k) && partB ps[k]) := by
  unfold partsB
  rw [List.take_succ_eq_append_getElem hk, List.all_append]
  simp
theorem parts_no (ps : List ByteArray) (k : Nat) (hk : k < ps.length) (h : partB ps[k] = false) : partsB ps = false := by
  rw [← Bool.not_eq_true]
  intro h2
  unfold partsB at h2
  rw [List.all_eq_true] at h2
  rw [h2 _ (List.getElem_mem hk)] at h
  cases h
theorem splitB_part (sep : ByteArray) : ∀ (k : Nat) (s : ByteArray), ∀ p ∈ Lib.splitB sep 0 k s, p.size ≤ s.size
  | 0, s => fun p h => by
    rw [Lib.splitB_zero, List.mem_singleton] at h
    rw [h]
    exact Nat.le_refl _
  | k + 1, s => fun p h => by
    rcases Lib.indexB_cases s sep with hix | ⟨i, hix, hroom⟩
    · rw [Lib.splitB_miss sep 0 _ s hix, List.mem_singleton] at h
      rw [h]
      exact Nat.le_refl _
    · rw [Lib.splitB_hit sep 0 k s i hix, List.mem_cons] at h
      rcases h with rfl | h
      · rw [ByteArray.size_extract]; omega
      · have := splitB_part sep k _ p h
        rw [ByteArray.size_extract] at this
        omega
theorem split_part (s : ByteArray) : ∀ p ∈ partsOf s, p.size ≤ s.size := splitB_part _ _ s
theorem split_len (s : ByteArray) : (partsOf s).length = Lib.countB s ⟨#[46]⟩ + 1 := Lib.splitB_all ⟨#[46]⟩ (by decide) 0 _ s rfl
/-- How far the loop over the parts of the host has come. -/
def MailW (w : World) (ps : List ByteArray) (i : Value) (wr : World) : Prop := ∃ k : Nat, i = .int .i64 k ∧ k ≤ ps.length ∧ partsB (ps.take k) = true ∧ Box wr w.heap.size 9 (ps.map Value.string).toArray ∧ Below w.heap.size w wr
theorem box_drewN {w : World} {g : Nat} {t : TypeId} {cs : Array Value} (h : Box w g t cs) (d : Nat) : Box (w.drewN d) g t cs := h.below (row_drewN (Below.refl w.heap.size _) d) h.lt

set_option maxHeartbeats 4000000 in
set_option maxRecDepth 100000 in
theorem mail_any (s : ByteArray) (w : World) (hs : s.size ≤ 1099511627) (hm : MaxB w) : Calls Tryz.prog 28 #[.string s] w (RBb w (mailB s.data.toList)) := by
  obtain ⟨m, hm1⟩ := hm
  have hc := Tryz.strings_Cut s ⟨#[64]⟩ m w (by omega) hm1
  have hle := cut_le s.data.toList [64]
  unfold mailB
  rw [show (⟨#[64]⟩ : ByteArray).data.toList = [64] from rfl] at hc
  obtain ⟨c, hcc⟩ : ∃ c, Lib.cut s.data.toList [64] = c := ⟨_, rfl⟩
  rw [hcc] at hc hle ⊢
  obtain ⟨sc, rc, ib⟩ := c
  obtain ⟨S, hS⟩ : ∃ S : ByteArray, (⟨sc.toArray⟩ : ByteArray) = S := ⟨_, rfl⟩
  obtain ⟨R, hR⟩ : ∃ R : ByteArray, (⟨rc.toArray⟩ : ByteArray) = R := ⟨_, rfl⟩
  obtain rfl : S.data.toList = sc := by rw [← hS]
  obtain rfl : R.data.toList = rc := by rw [← hR]
  clear hS hR
  have hSs : S.size ≤ 1099511627 := by have := hle.1; have e : S.data.toList.length = S.size := Array.length_toList; have e2 : s.data.toList.length = s.size := Array.length_toList; simp only at this; omega
  have hRs : R.size ≤ 1099511627 := by have := hle.2; have e : R.data.toList.length = R.size := Array.length_toList; have e2 : s.data.toList.length = s.size := Array.length_toList; simp only at this; omega
  have hSl : S.data.toList.length = S.size := Array.length_toList
  have hc2 : Calls Tryz.prog 26 #[.string s, .string ⟨#[64]⟩] w fun e w' => e = .returned (.tuple #[.string S, .string R, .bool ib]) ∧ ∃ n, w' = w.drewN n := hc
  have HC := Lib.hid hc2
  have HSL := Lib.hid hSl
  have HM := Lib.hid hm1
  clear hc hc2 hle hcc hSl hm1
  have mkB : ∀ (v : Bool) (d : Nat), RBb w v (.returned (.bool v)) (w.drewN d) := fun v d => ⟨rfl, row_drewN (Below.refl _ _) d⟩
  cases ib with
  | false =>
    have hv : mailC (S.data.toList, R.data.toList, false) = false := by unfold mailC; simp []
    rw [hv]
    clear hv
    go_enter Tryz.func28, Tryz.ntmps28
    go_wp2_with fail
    refine Calls.mono HC.out ?_
    rintro e w1 ⟨rfl, d, rfl⟩
    go_wp2
    go_ret
    exact mkB _ _
  | true =>
    by_cases hS0 : S = ⟨#[]⟩
    · subst hS0
      have hv : mailC ((⟨#[]⟩ : ByteArray).data.toList, R.data.toList, true) = false := rfl
      rw [hv]
      clear hv
      go_enter Tryz.func28, Tryz.ntmps28
      go_wp2_with fail
      refine Calls.mono HC.out ?_
      rintro e w1 ⟨rfl, d, rfl⟩
      go_wp2
      go_ret
      exact mkB _ _
    · have hne1 : ¬ S.toList = [] := by
        rw [ByteArray.toList_eq]
        intro h
        exact hS0 (str_mk S [] h)
      have hne0 : S.toList.isEmpty = false := by
        cases h : S.toList with
        | nil => exact absurd h hne1
        | cons a r => rfl
      have hne2 : S.data.toList.isEmpty = false := by
        cases h : S.data.toList with
        | nil => exact absurd (str_mk S [] h) hS0
        | cons a r => rfl
      cases ha1 : allB (inB (⟨#[46, 33, 35, 36, 37, 38, 39, 42, 43, 47, 61, 63, 94, 95, 123, 124, 125, 126, 45, 96]⟩ : ByteArray).data.toList) S.data.toList with
      | false =>
        have HA1 := Lib.hid ha1
        have hv : mailC (S.data.toList, R.data.toList, true) = false := by unfold mailC; simp [ha1]
        rw [hv]
        clear hv ha1 hne2
        go_enter Tryz.func28, Tryz.ntmps28
        go_wp2_with fail
        refine Calls.mono HC.out ?_
        rintro e w1 ⟨rfl, d, rfl⟩
        go_wp2_with fail
        refine Calls.mono (all_any 59 (enters_of Tryz.func59 (by kernel_rfl) rfl) _ says_user S _ (by omega)) ?_
        rintro e w' ⟨rfl, rfl⟩
        rw [HA1.out]
        go_wp2
        go_ret
        exact mkB _ _
      | true =>
        have hv : mailC (S.data.toList, R.data.toList, true) = partsB (partsOf R) := by unfold mailC; rw [ha1, hne2]; rfl
        rw [hv]
        have HA1 := Lib.hid ha1
        clear hv ha1 hne2
        have hlen := split_len R
        have hpart := split_part R
        have hcnt := Lib.countB_le ⟨#[46]⟩ (by decide) _ R (Nat.le_refl _)
        have hsp : ∀ d : Nat, Calls Tryz.prog 60 #[.string R, .string ⟨#[46]⟩] (w.drewN d) fun e w' => e = .returned (.slice (some ⟨w.heap.size, 0, none⟩) (partsOf R).length (partsOf R).length) ∧ w' = (w.drewN d).alloc (.cells ((partsOf R).map Value.string).toArray 9) := fun d => by
          rw [hlen]
          exact Tryz.strings_Split R ⟨#[46]⟩ m (w.drewN d) (by omega) HM.out (by decide)
        obtain ⟨ps, hps⟩ : ∃ ps, partsOf R = ps := ⟨_, rfl⟩
        rw [hps] at hlen hpart hsp ⊢
        have hpl : ps.length ≤ 1099511628 := by omega
        have HSP := Lib.hid hsp
        have HPT := Lib.hid hpart
        clear hlen hpart hsp hcnt hps
        go_enter Tryz.func28, Tryz.ntmps28
        go_wp2_with fail
        refine Calls.mono HC.out ?_
        rintro e w1 ⟨rfl, d, rfl⟩
        go_wp2_with fail
        refine Calls.mono (all_any 59 (enters_of Tryz.func59 (by kernel_rfl) rfl) _ says_user S _ (by omega)) ?_
        rintro e w' ⟨rfl, rfl⟩
        rw [HA1.out]
        go_wp2_with fail
        refine Calls.mono (HSP.out _) ?_
        rintro e w2 ⟨rfl, rfl⟩
        go_wp2_with fail
        have hz : (w.drewN d).heap.size = w.heap.size := rfl
        go_loopw [28] (fun i wr => MailW w ps i wr) (fun i _ => ps.length - (intOf i).toNat)
        case atStart => exact ⟨0, rfl, Nat.zero_le _, rfl, Box.new (w.drewN d) _ _, (row_drewN (Below.refl _ _) d).alloc (Nat.le_refl _) _⟩
        case round =>
          obtain ⟨k, rfl, hk, htk, hbx, hbl⟩ := hrel
          have HBL := Lib.hid hbl
          by_cases hlt : k < ps.length
          · have hki : (k : Int) < (ps.length : Int) := by omega
            have x1 := box_lie hbx k (.string ps[k]) (by simp)
            have x2 := hbx.cell k
            rw [show (ps.map Value.string).toArray[k]? = some (.string ps[k]) by simp] at x2
            have HBX := Lib.hid hbx
            have hp1 : ps[k].size ≤ 1099511627 := Nat.le_trans (HPT.out _ (List.getElem_mem hlt)) hRs
            have htk2 := parts_take ps k hlt
            rw [htk, Bool.true_and] at htk2
            have HNO := fun h => Lib.hid (parts_no ps k hlt h)
            obtain ⟨p, hp⟩ : ∃ p, ps[k] = p := ⟨_, rfl⟩
            rw [hp] at x1 x2 hp1 htk2 HNO
            have HTK := Lib.hid htk2
            clear hbx hbl htk htk2 hp
            by_cases hp0 : p.toList = []
            · have hp2 : p.toList.isEmpty = true := by rw [hp0]; rfl
              have hv : partB p = false := by unfold partB; rw [← ByteArray.toList_eq, hp2]; rfl
              have HV := HNO hv
              clear hv HNO
              go_wp2_with fail
              go_ret
              rw [HV.out]
              exact ⟨rfl, HBL.out⟩
            · have hp2 : p.toList.isEmpty = false := by
                cases h : p.toList with
                | nil => exact absurd h hp0
                | cons a r => rfl
              by_cases h63 : p.size ≤ 63
              · have z63 : decide ((63 : Int) < (p.size : Int)) = false := by simp; omega
                have htr := trim_dash p wr (by omega)
                have hpb : partB p = (Lib.trimB p.data.toList 45 == p.data.toList && allB hostB p.data.toList) := by
                  unfold partB
                  rw [decide_eq_true h63, ← ByteArray.toList_eq, hp2]
                  rfl
                obtain ⟨U, hU⟩ : ∃ U : ByteArray, (⟨(Lib.trimB p.data.toList 45).toArray⟩ : ByteArray) = U := ⟨_, rfl⟩
                have hUl : U.data.toList = Lib.trimB p.data.toList 45 := by rw [← hU]
                rw [hU] at htr
                rw [← hUl] at hpb
                have HTR := Lib.hid htr
                clear htr hU hUl
                by_cases hUp : U = p
                · subst hUp
                  rw [beq_self_eq_true, Bool.true_and] at hpb
                  cases ha2 : allB hostB U.data.toList with
                  | false =>
                    rw [ha2] at hpb
                    have HV := HNO hpb
                    have HA2 := Lib.hid ha2
                    clear hpb HNO h63 ha2
                    go_wp2_with fail
                    refine Calls.mono HTR.out ?_
                    rintro e w5 ⟨rfl, d5, rfl⟩
                    go_wp2_with fail
                    refine Calls.mono (all_any 61 (enters_of Tryz.func61 (by kernel_rfl) rfl) _ says_host U _ (by omega)) ?_
                    rintro e w6 ⟨rfl, rfl⟩
                    rw [HA2.out]
                    go_wp2
                    go_ret
                    rw [HV.out]
                    exact ⟨rfl, row_drewN HBL.out d5⟩
                  | true =>
                    rw [ha2] at hpb
                    have HPB := Lib.hid hpb
                    have HA2 := Lib.hid ha2
                    clear hpb HNO h63 ha2
                    go_wp2_with fail
                    refine Calls.mono HTR.out ?_
                    rintro e w5 ⟨rfl, d5, rfl⟩
                    go_wp2_with fail
                    refine Calls.mono (all_any 61 (enters_of Tryz.func61 (by kernel_rfl) rfl) _ says_host U _ (by omega)) ?_
                    rintro e w6 ⟨rfl, rfl⟩
                    rw [HA2.out]
                    go_wp2
                    go_roundw
                    case rel => exact ⟨k + 1, by go_num, hlt, by rw [HTK.out, HPB.out], box_drewN HBX.out d5, row_drewN HBL.out d5⟩
                    case measure => simp [intOf]; omega
                · have hq : ¬ U.data.toList = p.data.toList := fun h => hUp (str_mk U _ h)
                  rw [beq_eq_false_iff_ne.2 hq] at hpb
                  have hq2 : ¬ U.toList = p.toList := by rw [ByteArray.toList_eq, ByteArray.toList_eq]; exact hq
                  have HV := HNO hpb
                  clear hpb HNO h63 hq
                  go_wp2_with fail
                  refine Calls.mono HTR.out ?_
                  rintro e w5 ⟨rfl, d5, rfl⟩
                  go_wp2
                  go_ret
                  rw [HV.out]
                  exact ⟨rfl, row_drewN HBL.out d5⟩
              · have z63 : decide ((63 : Int) < (p.size : Int)) = true := by simp; omega
                have hv : partB p = false := by unfold partB; rw [decide_eq_false h63]; simp
                have HV := HNO hv
                clear hv HNO h63
                go_wp2_with fail
                go_ret
                rw [HV.out]
                exact ⟨rfl, HBL.out⟩
          · obtain rfl : k = ps.length := by omega
            rw [List.take_of_length_le (Nat.le_refl _)] at htk
            have HTK := Lib.hid htk
            clear htk hbx hbl
            go_wp2
            go_ret
            rw [HTK.out]
            exact ⟨rfl, HBL.out⟩
end Go.Proofs.YtikokedphocpiaaGreatDoor
