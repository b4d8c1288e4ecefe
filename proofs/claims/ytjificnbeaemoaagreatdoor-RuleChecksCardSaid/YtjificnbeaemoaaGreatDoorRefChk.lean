/- tympanref05's in, Known, attrs, scheme. -/
import Derived.Test.YtjificnbeaemoaaGreatDoorRefChkP
import Derived.BigQuiet
namespace Go.Proofs.YtjificnbeaemoaaGreatDoor
open Go.RowKit

def InW (w : World) (l : List ByteArray) (x : ByteArray) (i : Value) (wr : World) : Prop := ∃ k : Nat, i = .int .i64 k ∧ k ≤ l.length ∧ hasS (l.take k) x = false ∧ wr = w
set_option maxHeartbeats 2000000 in
set_option maxRecDepth 100000 in
theorem refin_any (l : List ByteArray) (x : ByteArray) (v : Value) (w : World) (h : SlS w v l) (hl : l.length ≤ 9223372036854775807) : Calls Tryz.prog 27 #[v, .string x] w (RB w (hasS l x)) := by
  obtain ⟨A, c, rfl, _, hk⟩ := h.open
  have HK := Lib.hid hk
  clear hk h
  go_enter Tryz.func27, Tryz.ntmps27
  go_wp2_with fail
  go_loopw [5] (fun v wr => InW w l x v wr) (fun v _ => l.length - (intOf v).toNat)
  case atStart => exact ⟨0, rfl, Nat.zero_le _, rfl, rfl⟩
  case round =>
    obtain ⟨k, rfl, hk, hu, rfl⟩ := hrel
    by_cases hlt : k < l.length
    · have hki : (k : Int) < (l.length : Int) := by omega
      obtain ⟨b, o, hA, hb, g1, g1'⟩ := HK.out k hlt
      subst hA
      have ht := hasS_take l x l[k] k (by rw [List.take_succ_eq_append_getElem hlt])
      rw [hu, Bool.false_or] at ht
      have HT := Lib.hid ht
      have HM := Lib.hid (fun h : l[k].toList = x.toList => (hasS_iff l x).2 (bytes_eq h ▸ List.getElem_mem hlt))
      obtain ⟨y, hy⟩ : ∃ y, l[k] = y := ⟨_, rfl⟩
      rw [hy] at g1 g1' HT HM
      clear hy ht hu
      by_cases h1 : y.toList = x.toList
      · have e1 : (y.toList == x.toList) = true := by simpa using h1
        have HV := Lib.hid (HM.out h1)
        clear HT HM h1
        go_wp2
        go_ret
        exact ⟨by rw [HV.out]; rfl, rfl⟩
      · have e1 : (y.toList == x.toList) = false := by simpa using h1
        have HN := Lib.hid (HT.out.trans e1)
        clear HT HM h1
        go_wp2
        go_roundw
        case rel => exact ⟨k + 1, by go_num, hlt, HN.out, rfl⟩
        case measure => simp [intOf]; omega
    · obtain rfl : k = l.length := by omega
      rw [List.take_length] at hu
      have HU := Lib.hid hu
      clear hu
      go_wp2
      go_ret
      exact ⟨by rw [HU.out]; rfl, rfl⟩
theorem new_row (w : World) (l : List ByteArray) (ar : Array Value) (h : ar.toList = l.map Value.string) : SlS (w.alloc (.cells ar 9)) (.slice (some ⟨w.heap.size, 0, none⟩) l.length l.length) l :=
  sl_own (heap_alloc_new _ _) (Nat.le_refl _) (by simp) (by rw [h, Nat.mul_one]; exact List.take_of_length_le (by simp))
def RowOf (w : World) (l : List ByteArray) (e : Ending) (w' : World) : Prop := ∃ v, e = .returned v ∧ SlS w' v l ∧ Below w.heap.size w w'
set_option maxRecDepth 100000 in
theorem elements_any (w : World) : Calls Tryz.prog 40 #[] w (RowOf w elB) := by
  go_enter Tryz.func40, Tryz.ntmps40
  go_wp2
  go_ret
  exact ⟨_, rfl, new_row w elB _ rfl, (Below.refl _ w).alloc (Nat.le_refl _) _⟩
set_option maxRecDepth 100000 in
theorem attrs_any (w : World) : Calls Tryz.prog 28 #[] w (RowOf w atB) := by
  go_enter Tryz.func28, Tryz.ntmps28
  go_wp2
  go_ret
  exact ⟨_, rfl, new_row w atB _ rfl, (Below.refl _ w).alloc (Nat.le_refl _) _⟩
set_option maxRecDepth 100000 in
theorem refknown_any (x : ByteArray) (w : World) : Calls Tryz.prog 26 #[.string x] w (BoolR w (knownB x)) := by
  go_enter Tryz.func26, Tryz.ntmps26
  go_wp2_with fail
  refine Calls.mono (elements_any w) ?_
  rintro e w1 ⟨v, rfl, hv, b1⟩
  obtain ⟨A, c, rfl, _, _⟩ := hv.open
  have HV := Lib.hid hv
  have B1 := Lib.hid b1
  clear hv b1
  go_wp2_with fail
  refine Calls.mono (refin_any elB x _ w1 HV.out (by decide)) ?_
  rintro e w2 ⟨rfl, rfl⟩
  go_wp2
  go_ret
  exact ⟨by rw [hasS_el]; rfl, B1.out⟩
theorem neA_l : neA.toList = [106, 97, 118, 97, 115, 99, 114, 105, 112, 116] := by rw [Lib.toList_data]; rfl
theorem neV_l : neV.toList = [118, 98, 115, 99, 114, 105, 112, 116] := by rw [Lib.toList_data]; rfl
theorem neD_l : neD.toList = [100, 97, 116, 97] := by rw [Lib.toList_data]; rfl
def RschW (w : World) (l : List UInt8) (i : Value) (wr : World) : Prop := ∃ k : Nat, i = .int .i64 k ∧ k ≤ l.length ∧ rschF l k = true ∧ wr = w
set_option maxHeartbeats 4000000 in
set_option maxRecDepth 100000 in
theorem refscheme_any (s : ByteArray) (w : World) (hs : s.size ≤ 9223372036854775807) : Calls Tryz.prog 29 #[.string s] w (RB w (schB s)) := by
  rw [schB_eq, never_words]
  have hlen : s.data.toList.length = s.size := Array.length_toList
  by_cases h0 : s.toList = []
  · have hv : s.data.toList.isEmpty = true := by rw [← Lib.toList_data, h0]; rfl
    have h0' : s.toList.isEmpty = true := by rw [h0]; rfl
    rw [hv]
    clear hv hlen
    go_enter Tryz.func29, Tryz.ntmps29
    go_wp2
    go_ret
    exact ⟨rfl, rfl⟩
  · have hv : s.data.toList.isEmpty = false := by rw [← Lib.toList_data]; simpa using h0
    have h0' : s.toList.isEmpty = false := by simpa using h0
    rw [hv]
    clear hv
    by_cases h64 : s.size ≤ 64
    · have z64 : ¬ (64 : Int) < (s.size : Int) := by omega
      rw [show decide (s.size ≤ 64) = true by simpa using h64]
      obtain ⟨n1, hn1⟩ : ∃ n1, (s.toList == neA.toList) = n1 := ⟨_, rfl⟩
      obtain ⟨n2, hn2⟩ : ∃ n2, (s.toList == neV.toList) = n2 := ⟨_, rfl⟩
      obtain ⟨n3, hn3⟩ : ∃ n3, (s.toList == neD.toList) = n3 := ⟨_, rfl⟩
      rw [hn1, hn2, hn3]
      rw [neA_l] at hn1
      rw [neV_l] at hn2
      rw [neD_l] at hn3
      cases n1 with
      | true =>
        have hm1 : s.toList = [106, 97, 118, 97, 115, 99, 114, 105, 112, 116] := by simpa using hn1
        go_enter Tryz.func29, Tryz.ntmps29
        go_wp2
        go_ret
        exact ⟨rfl, rfl⟩
      | false =>
        have hm1 : ¬ s.toList = [106, 97, 118, 97, 115, 99, 114, 105, 112, 116] := by simpa using hn1
        cases n2 with
        | true =>
          have hm2 : s.toList = [118, 98, 115, 99, 114, 105, 112, 116] := by simpa using hn2
          go_enter Tryz.func29, Tryz.ntmps29
          go_wp2
          go_ret
          exact ⟨rfl, rfl⟩
        | false =>
          have hm2 : ¬ s.toList = [118, 98, 115, 99, 114, 105, 112, 116] := by simpa using hn2
          cases n3 with
          | true =>
            have hm3 : s.toList = [100, 97, 116, 97] := by simpa using hn3
            go_enter Tryz.func29, Tryz.ntmps29
            go_wp2
            go_ret
            exact ⟨rfl, rfl⟩
          | false =>
            have hm3 : ¬ s.toList = [100, 97, 116, 97] := by simpa using hn3
            have hgoal : (!false && (true && (!(false || (false || false)) && rschF s.data.toList s.data.toList.length))) = rschF s.data.toList s.data.toList.length := by simp
            rw [hgoal]
            obtain ⟨l, hl⟩ : ∃ l, s.data.toList = l := ⟨_, rfl⟩
            rw [hl] at hlen ⊢
            obtain ⟨R, hR⟩ : ∃ R, rschF l l.length = R := ⟨_, rfl⟩
            rw [hR]
            have HR := Lib.hid hR
            clear hR
            have HG := Lib.hid fun (k : Nat) (hk : k < l.length) => show ∃ b : UInt8, l[k] = b ∧ s[k]'(by omega) = b from ⟨_, rfl, by subst hl; simp [Array.getElem_toList]; rfl⟩
            clear hgoal hl
            go_enter Tryz.func29, Tryz.ntmps29
            go_wp2_with fail
            go_loopw [3, 4, 5] (fun v3 _ _ wr => RschW w l v3 wr) (fun v3 _ _ _ => l.length - (intOf v3).toNat)
            case atStart => exact ⟨0, rfl, Nat.zero_le _, rfl, rfl⟩
            case round =>
              obtain ⟨k, rfl, hk, hu, rfl⟩ := hrel
              by_cases hlt : k < l.length
              · have hks : k < s.size := by omega
                have hki : (k : Int) < (s.size : Int) := by omega
                obtain ⟨b, hlb, hsb⟩ := HG.out k hlt
                have hsu := rschF_succ l k hlt
                rw [hlb, hu, Bool.true_and] at hsu
                have hno := rschF_no l k hlt
                rw [hlb] at hno
                have HSU := Lib.hid hsu
                have HNO := Lib.hid hno
                clear hu hsu hno
                have hb256 : (b.toNat : Int) < 256 := by have := UInt8.toNat_lt b; omega
                by_cases l1 : 97 ≤ b.toNat
                · have l1i : (97 : Int) ≤ (b.toNat : Int) := by omega
                  by_cases l2 : b.toNat ≤ 122
                  · have l2i : (b.toNat : Int) ≤ 122 := by omega
                    have hstep : stepB k b = true := by unfold stepB lowN; simp [l1, l2]
                    clear l1 l2
                    have HN := Lib.hid (HSU.out.trans hstep)
                    clear HSU HNO hstep
                    go_wp2
                    go_roundw
                    case rel => exact ⟨k + 1, by go_num, hlt, HN.out, rfl⟩
                    case measure => simp [intOf]; omega
                  · have l2i : ¬ (b.toNat : Int) ≤ 122 := by omega
                    have hlow : lowN b.toNat = false := by unfold lowN; simp [l2]
                    clear l1 l2
                    by_cases k0 : k = 0
                    · subst k0
                      have hstep : stepB 0 b = false := by unfold stepB; rw [hlow]; rfl
                      obtain rfl : R = false := HR.out.symm.trans (HNO.out hstep)
                      clear HSU HNO hstep
                      go_wp2
                      go_ret
                      exact ⟨rfl, rfl⟩
                    · have k0i : ¬ (k : Int) = 0 := by omega
                      have n0 : ((k : Int) == 0) = false := by simpa using k0i
                      obtain ⟨dg, hdg⟩ : ∃ dg, digit b = dg := ⟨_, rfl⟩
                      have HD := Lib.hid hdg
                      have hst : stepB k b = (dg || (decide (b.toNat = 43) || (decide (b.toNat = 45) || decide (b.toNat = 46)))) := by unfold stepB restN; rw [hlow, show digitN b.toNat = dg from hdg]; simp [k0]
                      clear k0 hdg
                      cases dg with
                      | true =>
                        have hstep : stepB k b = true := by rw [hst]; rfl
                        clear hst
                        go_wp2_with fail
                        refine Calls.mono (refdigit_any b wr) ?_
                        rintro e w1 ⟨rfl, rfl⟩
                        rw [HD.out]
                        have HN := Lib.hid (HSU.out.trans hstep)
                        clear HSU HNO hstep
                        go_wp2
                        go_roundw
                        case rel => exact ⟨k + 1, by go_num, hlt, HN.out, rfl⟩
                        case measure => simp [intOf]; omega
                      | false =>
                        by_cases c43 : b.toNat = 43
                        · exfalso; omega
                        · have c43i : ¬ (b.toNat : Int) = 43 := by omega
                          have n43 : ((b.toNat : Int) != 43) = true := by simpa using c43i
                          by_cases c45 : b.toNat = 45
                          · exfalso; omega
                          · have c45i : ¬ (b.toNat : Int) = 45 := by omega
                            have n45 : ((b.toNat : Int) != 45) = true := by simpa using c45i
                            by_cases c46 : b.toNat = 46
                            · exfalso; omega
                            · have c46i : ¬ (b.toNat : Int) = 46 := by omega
                              have n46 : ((b.toNat : Int) != 46) = true := by simpa using c46i
                              have hstep : stepB k b = false := by rw [hst]; simp [c43, c45, c46]
                              clear hst c43 c45 c46
                              go_wp2_with fail
                              refine Calls.mono (refdigit_any b wr) ?_
                              rintro e w1 ⟨rfl, rfl⟩
                              rw [HD.out]
                              obtain rfl : R = false := HR.out.symm.trans (HNO.out hstep)
                              clear HSU HNO hstep
                              go_wp2
                              go_ret
                              exact ⟨rfl, rfl⟩
                · have l1i : ¬ (97 : Int) ≤ (b.toNat : Int) := by omega
                  have hlow : lowN b.toNat = false := by unfold lowN; simp [l1]
                  clear l1
                  by_cases k0 : k = 0
                  · subst k0
                    have hstep : stepB 0 b = false := by unfold stepB; rw [hlow]; rfl
                    obtain rfl : R = false := HR.out.symm.trans (HNO.out hstep)
                    clear HSU HNO hstep
                    go_wp2
                    go_ret
                    exact ⟨rfl, rfl⟩
                  · have k0i : ¬ (k : Int) = 0 := by omega
                    have n0 : ((k : Int) == 0) = false := by simpa using k0i
                    obtain ⟨dg, hdg⟩ : ∃ dg, digit b = dg := ⟨_, rfl⟩
                    have HD := Lib.hid hdg
                    have hst : stepB k b = (dg || (decide (b.toNat = 43) || (decide (b.toNat = 45) || decide (b.toNat = 46)))) := by unfold stepB restN; rw [hlow, show digitN b.toNat = dg from hdg]; simp [k0]
                    clear k0 hdg
                    cases dg with
                    | true =>
                      have hstep : stepB k b = true := by rw [hst]; rfl
                      clear hst
                      go_wp2_with fail
                      refine Calls.mono (refdigit_any b wr) ?_
                      rintro e w1 ⟨rfl, rfl⟩
                      rw [HD.out]
                      have HN := Lib.hid (HSU.out.trans hstep)
                      clear HSU HNO hstep
                      go_wp2
                      go_roundw
                      case rel => exact ⟨k + 1, by go_num, hlt, HN.out, rfl⟩
                      case measure => simp [intOf]; omega
                    | false =>
                      by_cases c43 : b.toNat = 43
                      · have c43i : (b.toNat : Int) = 43 := by omega
                        have hstep : stepB k b = true := by rw [hst]; simp [c43]
                        clear hst c43
                        have hcall := refdigit_any b wr
                        rw [c43i] at hcall
                        go_wp2_with fail
                        refine Calls.mono hcall ?_
                        rintro e w1 ⟨rfl, rfl⟩
                        rw [HD.out]
                        have HN := Lib.hid (HSU.out.trans hstep)
                        clear HSU HNO hstep
                        go_wp2
                        go_roundw
                        case rel => exact ⟨k + 1, by go_num, hlt, HN.out, rfl⟩
                        case measure => simp [intOf]; omega
                      · have c43i : ¬ (b.toNat : Int) = 43 := by omega
                        have n43 : ((b.toNat : Int) != 43) = true := by simpa using c43i
                        by_cases c45 : b.toNat = 45
                        · have c45i : (b.toNat : Int) = 45 := by omega
                          have hstep : stepB k b = true := by rw [hst]; simp [c45]
                          clear hst c45
                          have hcall := refdigit_any b wr
                          rw [c45i] at hcall
                          go_wp2_with fail
                          refine Calls.mono hcall ?_
                          rintro e w1 ⟨rfl, rfl⟩
                          rw [HD.out]
                          have HN := Lib.hid (HSU.out.trans hstep)
                          clear HSU HNO hstep
                          go_wp2
                          go_roundw
                          case rel => exact ⟨k + 1, by go_num, hlt, HN.out, rfl⟩
                          case measure => simp [intOf]; omega
                        · have c45i : ¬ (b.toNat : Int) = 45 := by omega
                          have n45 : ((b.toNat : Int) != 45) = true := by simpa using c45i
                          by_cases c46 : b.toNat = 46
                          · have c46i : (b.toNat : Int) = 46 := by omega
                            have hstep : stepB k b = true := by rw [hst]; simp [c46]
                            clear hst c46
                            have hcall := refdigit_any b wr
                            rw [c46i] at hcall
                            go_wp2_with fail
                            refine Calls.mono hcall ?_
                            rintro e w1 ⟨rfl, rfl⟩
                            rw [HD.out]
                            have HN := Lib.hid (HSU.out.trans hstep)
                            clear HSU HNO hstep
                            go_wp2
                            go_roundw
                            case rel => exact ⟨k + 1, by go_num, hlt, HN.out, rfl⟩
                            case measure => simp [intOf]; omega
                          · have c46i : ¬ (b.toNat : Int) = 46 := by omega
                            have n46 : ((b.toNat : Int) != 46) = true := by simpa using c46i
                            have hstep : stepB k b = false := by rw [hst]; simp [c43, c45, c46]
                            clear hst c43 c45 c46
                            go_wp2_with fail
                            refine Calls.mono (refdigit_any b wr) ?_
                            rintro e w1 ⟨rfl, rfl⟩
                            rw [HD.out]
                            obtain rfl : R = false := HR.out.symm.trans (HNO.out hstep)
                            clear HSU HNO hstep
                            go_wp2
                            go_ret
                            exact ⟨rfl, rfl⟩
              · obtain rfl : k = l.length := by omega
                have hks : ¬ (l.length : Int) < (s.size : Int) := by omega
                obtain rfl : R = true := HR.out.symm.trans hu
                clear hu
                go_wp2
                go_ret
                exact ⟨rfl, rfl⟩
    · have z64 : (64 : Int) < (s.size : Int) := by omega
      rw [show decide (s.size ≤ 64) = false by simpa using h64]
      go_enter Tryz.func29, Tryz.ntmps29
      go_wp2
      go_ret
      exact ⟨rfl, rfl⟩
end Go.Proofs.YtjificnbeaemoaaGreatDoor
