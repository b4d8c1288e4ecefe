/- tympanlaw26.AtomsBack answers true for every input. -/
import Derived.Test.YtikokedphocpiaaDoorBackP
import Derived.Test.YtikokedphocpiaaDoorKnown26
import Derived.Test.YtikokedphocpiaaDoorTxt4
namespace Go.Proofs.YtikokedphocpiaaDoor
open Go.RowKit

theorem app_list (a b : ByteArray) : (a ++ b).data.toList = a.data.toList ++ b.data.toList := by rw [ByteArray.data_append, Array.toList_append]
theorem no_nl (b : UInt8) (h : b ≠ 10) : noNl b = b := by unfold noNl; rw [if_neg h]
theorem map_take (l : List UInt8) (k : Nat) (h : k < l.length) : (l.take (k + 1)).map noNl = (l.take k).map noNl ++ [noNl l[k]] := by
  rw [List.take_succ_eq_append_getElem h, List.map_append, List.map_singleton]
def BackW (l : List UInt8) (v6 v7 v8 v9 : Value) : Prop := ∃ (k : Nat) (W : ByteArray), v6 = .string W ∧ v7 = .int .i64 (mostK l k : Nat) ∧ v8 = .int .i64 (trailK l k : Nat) ∧ v9 = .int .i64 (k : Int) ∧ k ≤ l.length ∧ W.data.toList = (l.take k).map noNl
def SignW (M : Nat) (v10 v11 : Value) : Prop := ∃ (k : Nat) (W : ByteArray), v10 = .string W ∧ v11 = .int .i64 (k : Int) ∧ k ≤ M ∧ W.data.toList = List.replicate (k + 1) 96
def blankK (l : List UInt8) : Nat → Bool
  | 0 => true
  | k + 1 => blankK l k && (l[k]? == some 32)
theorem blank_any (l : List UInt8) : ∀ k, k ≤ l.length → blankK l k = !((l.take k).any (· != 32))
  | 0, _ => rfl
  | k + 1, h => by
    rw [blankK, blank_any l k (by omega), List.take_succ_eq_append_getElem (by omega), List.any_append, Bool.not_or, List.getElem?_eq_getElem (by omega)]
    have e : ∀ b : UInt8, ((some b == some (32 : UInt8)) : Bool) = !(b != 32) := fun b => by simp [bne]
    rw [e]
    simp
def BlankW (l : List UInt8) (v12 v13 : Value) : Prop := ∃ (k : Nat), v12 = .bool (blankK l k) ∧ v13 = .int .i64 (k : Int) ∧ k ≤ l.length
set_option maxHeartbeats 4000000 in
set_option maxRecDepth 100000 in
theorem back_law (v1 v2 : Value) (l1 l2 : List UInt8) (w : World) (hm : MaxB w) (h1 : SlU8 w v1 l1) (h2 : SlU8 w v2 l2) (hl1 : l1.length ≤ 9223372036854775807) (hl2 : l2.length ≤ 9223372036854775807) :
    Calls Tryd.prog 3 #[v1, v2] w (Yes w) := by
  have h10 := h1
  have h20 := h2
  obtain ⟨A1, m1, c1, rfl, hml1, _, _⟩ := h1
  obtain ⟨A2, m2, c2, rfl, hml2, _, _⟩ := h2
  have HM := Lib.hid hm
  by_cases hb1 : 1250 < m1
  · have z : decide ((1250 : Int) < (m1 : Int)) = true := by simp; omega
    clear hl1 hl2 hml1 hml2 h10 h20 hm
    go_enter Tryd.func3, Tryd.ntmps3
    go_wp2_with fail
    refine Calls.mono (known_any _ HM.out) ?_
    rintro e w1 ⟨rfl, b1⟩
    go_wp2
    go_ret
    exact ⟨rfl, b1⟩
  · have z : decide ((1250 : Int) < (m1 : Int)) = false := by simp; omega
    by_cases hb2 : 1250 < m2
    · have z2 : decide ((1250 : Int) < (m2 : Int)) = true := by simp; omega
      clear hl1 hl2 hml1 hml2 h10 h20 hm
      go_enter Tryd.func3, Tryd.ntmps3
      go_wp2_with fail
      refine Calls.mono (known_any _ HM.out) ?_
      rintro e w1 ⟨rfl, b1⟩
      go_wp2
      go_ret
      exact ⟨rfl, b1⟩
    · have z2 : decide ((1250 : Int) < (m2 : Int)) = false := by simp; omega
      have htl := textL_len l1
      have htl2 := textL_len l2
      obtain ⟨T, hT⟩ : ∃ T : ByteArray, T = ⟨(textL l1).toArray⟩ := ⟨_, rfl⟩
      obtain ⟨U, hU⟩ : ∃ U : ByteArray, U = ⟨(textL l2).toArray⟩ := ⟨_, rfl⟩
      have hTs : T.size ≤ 3750 := by rw [hT]; show (textL l1).length ≤ 3750; omega
      have hUs : U.size ≤ 3750 := by rw [hU]; show (textL l2).length ≤ 3750; omega
      have E1 := Lib.hid (show ∀ w', Below w.heap.size w w' → Calls Tryd.prog 6 #[.slice A1 m1 c1] w' (StrE w' T) from fun w' hb => (reftext_any (.slice A1 m1 c1) l1 w' (by omega) (h10.later hb)).mono fun _ _ h => by rw [hT]; exact h)
      have E2 := Lib.hid (show ∀ w', Below w.heap.size w w' → Calls Tryd.prog 6 #[.slice A2 m2 c2] w' (StrE w' U) from fun w' hb => (reftext_any (.slice A2 m2 c2) l2 w' (by omega) (h20.later hb)).mono fun _ _ h => by rw [hU]; exact h)
      have hTl : T.data.toList.length = T.size := Array.length_toList
      have HTL := Lib.hid hTl
      obtain ⟨l, hl⟩ : ∃ l, T.data.toList = l := ⟨_, rfl⟩
      have HL := Lib.hid hl
      have hlT : l.length = T.size := by rw [← hl, hTl]
      have HLT := Lib.hid hlT
      clear hT hU htl htl2 hl1 hl2 hml1 hml2 h10 h20 hm hl hTl hlT
      go_enter Tryd.func3, Tryd.ntmps3
      go_wp2_with fail
      refine Calls.mono (known_any _ HM.out) ?_
      rintro e w1 ⟨rfl, b1⟩
      go_wp2_with fail
      refine Calls.mono (E1.out _ b1) ?_
      rintro e w2 ⟨rfl, b2⟩
      have b2 := below_on b1 b2
      have HB := Lib.hid b2
      clear b1 b2
      go_wp2_with fail
      go_loopw [6, 7, 8, 9] (fun v6 v7 v8 v9 wr => BackW l v6 v7 v8 v9 ∧ wr = w2) (fun _ _ _ v9 _ => T.size - (intOf v9).toNat)
      case atStart => exact ⟨⟨0, ⟨#[]⟩, rfl, rfl, rfl, rfl, Nat.zero_le _, rfl⟩, rfl⟩
      case round =>
        obtain ⟨⟨k, W, rfl, rfl, rfl, rfl, hk, hW⟩, rfl⟩ := hrel
        by_cases hlt : k < T.size
        · have hkl : k < l.length := by rw [HLT.out]; exact hlt
          have hkI : (k : Int) < (T.size : Int) := by omega
          have hgk : l[k] = T[k] := by simp [← HL.out]; rfl
          obtain ⟨x, hx⟩ : ∃ x, T[k] = x := ⟨_, rfl⟩
          have hex := ext_one T k hlt
          rw [hx] at hex hgk
          have hWs : W.size = k := by
            have e : W.data.toList.length = W.size := Array.length_toList
            rw [← e, hW, List.length_map, List.length_take]
            omega
          have hmt := map_take l k hkl
          rw [hgk] at hmt
          have htr : trailK l (k + 1) = if x = 96 then trailK l k + 1 else 0 := by rw [trailK, List.getElem?_eq_getElem hkl, hgk]; simp
          have hmo : mostK l (k + 1) = max (mostK l k) (trailK l (k + 1)) := rfl
          have hb1 := trailK_le l k
          have hb2 := mostK_le l k
          have hs1 : ¬ (9223372036854775807 < W.size + (⟨#[32]⟩ : ByteArray).size) := by rw [hWs]; show ¬ (9223372036854775807 < k + 1); omega
          have hs2 : ¬ (9223372036854775807 < W.size + (⟨#[x]⟩ : ByteArray).size) := by rw [hWs]; show ¬ (9223372036854775807 < k + 1); omega
          obtain ⟨t, ht⟩ : ∃ t, trailK l k = t := ⟨_, rfl⟩
          obtain ⟨M, hM⟩ : ∃ M, mostK l k = M := ⟨_, rfl⟩
          rw [ht] at htr hb1 ⊢
          rw [hM] at hmo hb2 ⊢
          have HMT := Lib.hid hmt
          have HTR := Lib.hid htr
          have HMO := Lib.hid hmo
          have HW := Lib.hid hW
          clear hmt htr hmo hW hgk ht hM hWs
          by_cases h96 : x = 96
          · have z1 : ((x.toNat : Int) == 96) = true := by rw [h96]; rfl
            have z2 : ((x.toNat : Int) == 10) = false := by rw [h96]; rfl
            subst h96
            go_wp2
            exact ⟨⟨⟨k + 1, _, rfl, by rw [HMO.out, HTR.out, if_pos rfl]; congr 1; omega, by rw [HTR.out, if_pos rfl]; rfl, by go_num, by omega, by rw [app_list, HW.out, HMT.out]; rfl⟩, trivial⟩, by simp [intOf]; omega⟩
          · have z1 : ((x.toNat : Int) == 96) = false := by rw [beq_eq_false_iff_ne]; intro e; exact h96 (UInt8.toNat_inj.1 (by show x.toNat = 96; omega))
            by_cases h10 : x = 10
            · have z2 : ((x.toNat : Int) == 10) = true := by rw [h10]; rfl
              subst h10
              go_wp2
              exact ⟨⟨⟨k + 1, _, rfl, by rw [HMO.out, HTR.out, if_neg h96]; congr 1; omega, by rw [HTR.out, if_neg h96]; rfl, by go_num, by omega, by rw [app_list, HW.out, HMT.out]; rfl⟩, trivial⟩, by simp [intOf]; omega⟩
            · have z2 : ((x.toNat : Int) == 10) = false := by rw [beq_eq_false_iff_ne]; intro e; exact h10 (UInt8.toNat_inj.1 (by show x.toNat = 10; omega))
              go_wp2
              exact ⟨⟨⟨k + 1, _, rfl, by rw [HMO.out, HTR.out, if_neg h96]; congr 1; omega, by rw [HTR.out, if_neg h96]; rfl, by go_num, by omega, by rw [app_list, HW.out, HMT.out]; rw [no_nl _ h10]⟩, trivial⟩, by simp [intOf]; omega⟩
        · have hkT : k = T.size := by have := HLT.out; omega
          have hkl : k = l.length := by rw [HLT.out]; exact hkT
          have hM0 := mostK_le l k
          have hW2 : W.data.toList = l.map noNl := by rw [hW, hkl, List.take_of_length_le (Nat.le_refl _)]
          have hWs : W.size = T.size := by
            have e : W.data.toList.length = W.size := Array.length_toList
            rw [← e, hW2, List.length_map, HLT.out]
          obtain ⟨M, hM⟩ : ∃ M, mostK l k = M := ⟨_, rfl⟩
          rw [hM] at hM0 ⊢
          have hM2 : M = mostK l l.length := by rw [← hM, hkl]
          have HM2 := Lib.hid hM2
          have HW2 := Lib.hid hW2
          have HWS := Lib.hid hWs
          obtain ⟨t, ht⟩ : ∃ t, trailK l k = t := ⟨_, rfl⟩
          rw [ht]
          have hMT : M ≤ T.size := by omega
          have zk : ¬ (k : Int) < (T.size : Int) := by omega
          clear hM ht hM0 hM2 hW2 hWs hW hkl hlt hk hkT
          go_wp2_with fail
          go_loopw [10, 11] (fun v10 v11 wx => SignW M v10 v11 ∧ wx = wr) (fun _ v11 _ => M - (intOf v11).toNat)
          case atStart => exact ⟨⟨0, _, rfl, rfl, Nat.zero_le _, rfl⟩, rfl⟩
          case round =>
            obtain ⟨⟨j, X, rfl, rfl, hj, hX⟩, rfl⟩ := hrel
            have hXs : X.size = j + 1 := by
              have e : X.data.toList.length = X.size := Array.length_toList
              rw [← e, hX, List.length_replicate]
            by_cases hjl : j < M
            · have zj : (j : Int) < (M : Int) := by omega
              have hs1 : ¬ (9223372036854775807 < X.size + (⟨#[96]⟩ : ByteArray).size) := by rw [hXs]; show ¬ (9223372036854775807 < j + 1 + 1); omega
              have HX := Lib.hid hX
              clear hX hXs
              go_wp2
              exact ⟨⟨⟨j + 1, _, rfl, by go_num, by omega, by rw [app_list, HX.out, List.replicate_succ' (n := j + 1)]⟩, trivial⟩, by simp [intOf]; omega⟩
            · have hjM : j = M := by omega
              subst hjM
              have zj : ¬ (j : Int) < (j : Int) := by omega
              have HX := Lib.hid hX
              have HXS := Lib.hid hXs
              have hW3 : W.size ≤ 3750 := by rw [HWS.out]; exact hTs
              clear hX hXs hjl hj
              go_wp2_with fail
              go_loopw [12, 13] (fun v12 v13 wx => BlankW W.data.toList v12 v13 ∧ wx = wr) (fun _ v13 _ => W.size - (intOf v13).toNat)
              case atStart => exact ⟨⟨0, rfl, rfl, Nat.zero_le _⟩, rfl⟩
              case round =>
                obtain ⟨⟨q, rfl, rfl, hq⟩, rfl⟩ := hrel
                have hWl : W.data.toList.length = W.size := Array.length_toList
                have hqW : q ≤ W.size := by omega
                by_cases hqs : q < W.size
                · have zq : (q : Int) < (W.size : Int) := by omega
                  obtain ⟨x, hx⟩ : ∃ x, W[q] = x := ⟨_, rfl⟩
                  have hgq : W.data.toList[q]? = some x := by rw [List.getElem?_eq_getElem (by omega), ← hx]; rfl
                  have hbk : blankK W.data.toList (q + 1) = (blankK W.data.toList q && (x == 32)) := by rw [blankK, hgq]; rfl
                  have HBK := Lib.hid hbk
                  have hxe : ((x.toNat : Int) == 32) = (x == 32) := by
                    rw [Bool.eq_iff_iff, beq_iff_eq, beq_iff_eq]
                    exact ⟨fun e => UInt8.toNat_inj.1 (by show x.toNat = 32; omega), fun e => by rw [e]; rfl⟩
                  obtain ⟨y, hy⟩ : ∃ y, (x == 32) = y := ⟨_, rfl⟩
                  rw [hy] at hxe HBK
                  clear hbk hgq hq
                  cases hbq : blankK W.data.toList q with
                  | true =>
                    rw [hbq] at HBK
                    go_wp2
                    exact ⟨⟨⟨q + 1, by rw [HBK.out]; rfl, by go_num, by omega⟩, trivial⟩, by simp [intOf]; omega⟩
                  | false =>
                    rw [hbq] at HBK
                    go_wp2
                    exact ⟨⟨⟨q + 1, by rw [HBK.out]; rfl, by go_num, by omega⟩, trivial⟩, by simp [intOf]; omega⟩
                · have hqe : q = W.data.toList.length := by omega
                  have hbl := blank_any W.data.toList q hq
                  rw [hqe, List.take_of_length_le (Nat.le_refl _)] at hbl
                  rw [← hqe] at hbl
                  have zq : ¬ (q : Int) < (W.size : Int) := by omega
                  cases hbq : blankK W.data.toList q with
                  | true =>
                    clear hbl hqe hWl hqW hqs hq
                    go_wp2
                    go_ret
                    exact ⟨rfl, HB.out⟩
                  | false =>
                    have hany : (l.map noNl).any (· != 32) = true := by
                      rw [hbq, HW2.out] at hbl
                      simpa using hbl
                    have hZ : (X ++ ⟨#[32]⟩ ++ T ++ ⟨#[32]⟩ ++ X ++ ⟨#[120]⟩ ++ U).data.toList = backT (j + 1) l U.data.toList := by
                      rw [app_list, app_list, app_list, app_list, app_list, app_list, HX.out, HL.out]
                      unfold backT
                      simp
                    have hZs : (X ++ ⟨#[32]⟩ ++ T ++ ⟨#[32]⟩ ++ X ++ ⟨#[120]⟩ ++ U).size ≤ 1099511627 := by
                      have := HXS.out
                      simp only [ByteArray.size_append]
                      show X.size + 1 + T.size + 1 + X.size + 1 + U.size ≤ _
                      omega
                    have hWe : W = ⟨(l.map noNl).toArray⟩ := str_mk _ _ HW2.out
                    have HC := Lib.hid (show ∀ w', MaxB w' → Calls Tryd.prog 7 #[.string (X ++ ⟨#[32]⟩ ++ T ++ ⟨#[32]⟩ ++ X ++ ⟨#[120]⟩ ++ U), .int .i64 0] w' (Tup3 w' W ((T.size : Int) + 2 + 2 * (X.size : Int)) true) from fun w' hm' => (code_any _ 0 w' hZs (by omega) hm').mono fun e w2 h => by
                      rw [hZ, back_code l U.data.toList (j + 1) (by rw [HM2.out]) hany] at h
                      refine ⟨?_, h.2⟩
                      rw [h.1, hWe]
                      have e1 := HXS.out
                      have e2 := HLT.out
                      have e3 : ((l.length + 2 + 2 * (j + 1) : Nat) : Int) = (T.size : Int) + 2 + 2 * (X.size : Int) := by omega
                      rw [← e3])
                    have hXb : X.size ≤ 3751 := by have := HXS.out; omega
                    have hs1 : ¬ (9223372036854775807 < X.size + (⟨#[32]⟩ : ByteArray).size) := by show ¬ (_ < X.size + 1); omega
                    have hs2 : ¬ (9223372036854775807 < (X ++ ⟨#[32]⟩).size + T.size) := by simp only [ByteArray.size_append]; show ¬ (_ < X.size + 1 + T.size); omega
                    have hs3 : ¬ (9223372036854775807 < (X ++ ⟨#[32]⟩ ++ T).size + (⟨#[32]⟩ : ByteArray).size) := by simp only [ByteArray.size_append]; show ¬ (_ < X.size + 1 + T.size + 1); omega
                    have hs4 : ¬ (9223372036854775807 < (X ++ ⟨#[32]⟩ ++ T ++ ⟨#[32]⟩).size + X.size) := by simp only [ByteArray.size_append]; show ¬ (_ < X.size + 1 + T.size + 1 + X.size); omega
                    have hs5 : ¬ (9223372036854775807 < (X ++ ⟨#[32]⟩ ++ T ++ ⟨#[32]⟩ ++ X).size + (⟨#[120]⟩ : ByteArray).size) := by simp only [ByteArray.size_append]; show ¬ (_ < X.size + 1 + T.size + 1 + X.size + 1); omega
                    have hs6 : ¬ (9223372036854775807 < (X ++ ⟨#[32]⟩ ++ T ++ ⟨#[32]⟩ ++ X ++ ⟨#[120]⟩).size + U.size) := by simp only [ByteArray.size_append]; show ¬ (_ < X.size + 1 + T.size + 1 + X.size + 1 + U.size); omega
                    clear hbl hqe hWl hqW hqs hq hany hZ hZs hWe
                    go_wp2_with fail
                    refine Calls.mono (E2.out _ HB.out) ?_
                    rintro e w3 ⟨rfl, b3⟩
                    have b3 := below_on HB.out b3
                    go_wp2_with fail
                    refine Calls.mono (HC.out _ (HM.out.later b3)) ?_
                    rintro e w4 ⟨rfl, b4⟩
                    have b4 := below_on b3 b4
                    go_wp2
                    go_ret
                    exact ⟨rfl, b4⟩
end Go.Proofs.YtikokedphocpiaaDoor
