/- tympanlaw04.UrlBack: percent signs taken for bytes again, what was escaped is what it was. -/
import Derived.Test.YtibaoocklempnaaGreatDoorKnown4
import Derived.IntWalk
namespace Go.Proofs.YtibaoocklempnaaGreatDoor
open Go.RowKit

theorem hexU_val : ∀ p : Fin 16, (hexU p.val).toNat = if p.val < 10 then 48 + p.val else 55 + p.val := by decide +kernel
def IntR (w : World) (n : Int) (e : Ending) (w' : World) : Prop := e = .returned (.int .i64 n) ∧ w = w'
theorem hex_any (p : Nat) (hp : p < 16) (w : World) : Calls Tryz.prog 24 #[.int .u8 ((hexU p).toNat : Int)] w (IntR w (p : Int)) := by
  have hv := hexU_val ⟨p, hp⟩
  simp only at hv
  obtain ⟨n, hn⟩ : ∃ n, (hexU p).toNat = n := ⟨_, rfl⟩
  rw [hn] at hv ⊢
  clear hn
  by_cases h10 : p < 10
  · rw [if_pos h10] at hv
    have z1 : (48 : Int) ≤ (n : Int) := by omega
    have z2 : (n : Int) ≤ 57 := by omega
    have hs := u8_sub n 48 (by omega) (by omega)
    rw [if_pos (by omega)] at hs
    have hs' : IntKind.u8.wrap ((n : Int) - 48) = (p : Int) := by
      show IntKind.u8.wrap ((n : Int) - ((48 : Nat) : Int)) = _
      rw [hs]
      omega
    have hp0 : (0 : Int) ≤ (p : Int) := by omega
    have hp1 : (p : Int) < 16 := by omega
    clear hs hv
    go_enter Tryz.func24, Tryz.ntmps24
    go_wp2
    go_ret
    exact ⟨rfl, rfl⟩
  · rw [if_neg h10] at hv
    have z1 : (48 : Int) ≤ (n : Int) := by omega
    have z2 : ¬ (n : Int) ≤ 57 := by omega
    have z3 : ¬ (97 : Int) ≤ (n : Int) := by omega
    have z4 : (65 : Int) ≤ (n : Int) := by omega
    have z5 : (n : Int) ≤ 70 := by omega
    have hs := u8_sub n 65 (by omega) (by omega)
    rw [if_pos (by omega)] at hs
    obtain ⟨r, hr⟩ : ∃ r, p - 10 = r := ⟨_, rfl⟩
    have hs' : IntKind.u8.wrap ((n : Int) - 65) = (r : Int) := by
      show IntKind.u8.wrap ((n : Int) - ((65 : Nat) : Int)) = _
      rw [hs]
      omega
    have hr0 : (0 : Int) ≤ (r : Int) := by omega
    have hr1 : (r : Int) < 6 := by omega
    have hfin : (r : Int) + 10 = (p : Int) := by omega
    have HF := Lib.hid hfin
    clear hs hv hr hfin
    go_enter Tryz.func24, Tryz.ntmps24
    go_wp2
    go_ret
    exact ⟨by rw [← HF.out]; rfl, rfl⟩

def n37 (b : UInt8) : Bool := b != 37
theorem fine_range : ∀ x : Fin 256, fineB (UInt8.ofNat x.val) = true → 33 ≤ x.val ∧ x.val ≤ 126 := by decide +kernel
theorem fine_bounds (x : UInt8) (h : fineB x = true) : 33 ≤ x.toNat ∧ x.toNat ≤ 126 := by
  have := fine_range ⟨x.toNat, UInt8.toNat_lt x⟩
  simp only [UInt8.ofNat_toNat] at this
  exact this h
theorem conv1g (x : UInt8) (W : World) (g c : Nat) (h0 : W.cell? ⟨g, 0, none⟩ = some (.int .u8 (x.toNat : Int))) :
    (convert 30 9 (.slice (some ⟨g, 0, none⟩) 1 c)).run Tryz.prog W = .ok (.string ⟨#[x]⟩) W := by
  refine run_convert_bytes_back (P := Tryz.prog) W 30 9 5 ⟨g, 0, none⟩ c [x] Tryz.underlying30 Tryz.underlying5 Tryz.underlying9 ?_
  intro j hj
  have hj0 : j = 0 := by simp at hj; exact hj
  subst hj0
  exact h0
/-- A list that is seen as a text at a place: the byte there. -/
theorem at_split {T : ByteArray} {a b c : List UInt8} {i : Nat} (hT : T.data.toList = a ++ (b ++ c)) (hi : i < b.length) : ∃ h : a.length + i < T.size, T[a.length + i]'h = b[i] := by
  have hl : T.data.toList.length = T.size := Array.length_toList
  have hlen : a.length + i < T.data.toList.length := by rw [hT, List.length_append, List.length_append]; omega
  refine ⟨by omega, ?_⟩
  have e : T.data.toList[a.length + i]'hlen = b[i] := by
    have h1 : T.data.toList[a.length + i]? = some b[i] := by
      rw [hT, List.getElem?_append_right (by omega), Nat.add_sub_cancel_left, List.getElem?_append_left hi, List.getElem?_eq_getElem hi]
    rw [List.getElem?_eq_getElem hlen] at h1
    exact Option.some.inj h1
  exact e
theorem escape_split (l : List UInt8) (j : Nat) (h : j < l.length) : escape l = escape (l.take j) ++ (esc1 l[j] ++ escape (l.drop (j + 1))) := by
  conv => lhs; rw [← List.take_append_drop j l, List.drop_eq_getElem_cons h]
  rw [escape_append]
  rfl
theorem ext_one (s : ByteArray) (k : Nat) (h : k < s.size) : (s.extract k (k + 1)).data.toList = [s[k]] := by
  have hl : s.data.toList.length = s.size := Array.length_toList
  rw [Lib.extract_data, Nat.add_sub_cancel_left, List.drop_eq_getElem_cons (by omega)]
  rfl
theorem str_add (X Y : ByteArray) : (X ++ Y).data.toList = X.data.toList ++ Y.data.toList := by
  rw [ByteArray.data_append, Array.toList_append]
def Bare (l : List UInt8) (v i : Value) : Prop := ∃ (k : Nat) (X : ByteArray), i = .int .i64 k ∧ k ≤ l.length ∧ v = .string X ∧ Hid (X.data.toList = (l.take k).filter n37) ∧ X.size ≤ k
def BackW (B : List UInt8) (w : World) (v i : Value) (wr : World) : Prop := ∃ (j q : Nat) (O : ByteArray), i = .int .i64 q ∧ v = .string O ∧ j ≤ B.length ∧ Hid (q = (escape (B.take j)).length) ∧ Hid (O.data.toList = B.take j) ∧ O.size ≤ j ∧ Below w.heap.size w wr

set_option maxHeartbeats 4000000 in
set_option maxRecDepth 100000 in
theorem back_law (s : ByteArray) (w : World) (hG : Glob w) (hs : s.size ≤ 9223372036854775807) : Calls Tryz.prog 7 #[.string s] w (Yes w) := by
  have HG := Lib.hid hG
  clear hG
  by_cases hb : 3000 < s.size
  · go_enter Tryz.func7, Tryz.ntmps7
    go_wp2_with fail
    refine Calls.mono (known_any _ HG.out) ?_
    rintro e w1 ⟨rfl, b1⟩
    go_wp2
    go_ret
    exact ⟨rfl, b1⟩
  · have hsl : s.data.toList.length = s.size := Array.length_toList
    have HSL := Lib.hid hsl
    clear hsl
    go_enter Tryz.func7, Tryz.ntmps7
    go_wp2_with fail
    refine Calls.mono (known_any _ HG.out) ?_
    rintro e w1 ⟨rfl, b1⟩
    have HB1 := Lib.hid b1
    clear b1
    go_wp2_with fail
    go_loop [3, 4] (fun v i => Bare s.data.toList v i) (fun _ i => s.size - (intOf i).toNat)
    case atStart => exact ⟨0, ⟨#[]⟩, rfl, Nat.zero_le _, rfl, rfl, Nat.le_refl _⟩
    case round =>
      obtain ⟨k, X, rfl, hk, rfl, HX, hXk⟩ := hrel
      have hks : k ≤ s.size := by rw [HSL.out] at hk; exact hk
      clear hk
      by_cases hlt : k < s.size
      · obtain ⟨x, hx⟩ : ∃ x, s[k] = x := ⟨_, rfl⟩
        have hki : (k : Int) < (s.size : Int) := by omega
        have hlt' : k < s.data.toList.length := by rw [HSL.out]; exact hlt
        have hft : (s.data.toList.take (k + 1)).filter n37 = (s.data.toList.take k).filter n37 ++ (if n37 x then [x] else []) := by
          rw [List.take_succ_eq_append_getElem hlt', List.filter_append]
          show _ ++ List.filter n37 [s[k]] = _
          rw [hx, List.filter_cons, List.filter_nil]
        have hex := ext_one s k hlt
        rw [hx] at hex
        have HFT := Lib.hid hft
        have HEX := Lib.hid hex
        clear hft hex
        by_cases h37 : x = 37
        · have z37 : ((x.toNat : Int) != 37) = false := by rw [h37]; rfl
          have hn : n37 x = false := by rw [h37]; rfl
          have HN := Lib.hid hn
          clear h37 hn
          go_wp2
          go_round
          case rel => exact ⟨k + 1, X, by go_num, by rw [HSL.out]; omega, rfl, Lib.hid (by rw [HX.out, HFT.out, HN.out]; simp), by omega⟩
          case measure => simp [intOf]; omega
        · have z37 : ((x.toNat : Int) != 37) = true := u8_ne h37
          have hn : n37 x = true := by unfold n37; simp [h37]
          have HN := Lib.hid hn
          obtain ⟨Y, hY⟩ : ∃ Y, s.extract k (k + 1) = Y := ⟨_, rfl⟩
          have hYs : Y.size = 1 := by rw [← hY, ByteArray.size_extract]; omega
          have hsum : ¬ (9223372036854775807 < X.size + Y.size) := by omega
          have hlast : (X ++ Y).size ≤ k + 1 := by rw [ByteArray.size_append]; omega
          have HLAST := Lib.hid hlast
          have HYY := Lib.hid hY
          clear h37 hn hYs hlast
          go_wp2
          go_round
          case rel => exact ⟨k + 1, _, by go_num, by rw [HSL.out]; omega, rfl, Lib.hid (by rw [str_add, HX.out, ← HYY.out, HEX.out, HFT.out, HN.out]; rfl), HLAST.out⟩
          case measure => simp [intOf]; omega
      · obtain rfl : k = s.size := by omega
        have hXl : X.data.toList = s.data.toList.filter n37 := by
          have h := HX.out
          rw [List.take_of_length_le (by rw [HSL.out]; exact Nat.le_refl _)] at h
          exact h
        obtain ⟨Bl, hBl⟩ : ∃ Bl, s.data.toList.filter n37 = Bl := ⟨_, rfl⟩
        have hno : ∀ b ∈ Bl, b ≠ 37 := by
          intro b hb2
          rw [← hBl] at hb2
          have := (List.mem_filter.1 hb2).2
          unfold n37 at this
          simpa using this
        rw [hBl] at hXl
        have hBlen : Bl.length = X.size := by rw [← hXl]; exact Array.length_toList
        obtain ⟨T, hT⟩ : ∃ T : ByteArray, (⟨(escape X.data.toList).toArray⟩ : ByteArray) = T := ⟨_, rfl⟩
        have hTl : T.data.toList = escape Bl := by rw [← hT, hXl]
        have hTs : T.size = (escape Bl).length := by rw [← hTl]; exact Array.length_toList.symm
        have hTb : T.size ≤ 9000 := by
          have := escape_le Bl
          omega
        have HNO := Lib.hid hno
        have HXL := Lib.hid hXl
        have HBLEN := Lib.hid hBlen
        have HT := Lib.hid hT
        have HTL := Lib.hid hTl
        have HTS := Lib.hid hTs
        have hBb : Bl.length ≤ 3000 := by omega
        clear hXl hBl hno hBlen hT hTl hTs HX
        go_wp2_with fail
        refine Calls.mono (escape_any X _ (by omega)) ?_
        rintro e w2 ⟨rfl, b2⟩
        rw [HT.out]
        have HB2 := Lib.hid (below_on HB1.out b2)
        clear b2
        go_wp2_with fail
        go_loopw [6, 7] (fun v i wr => BackW Bl w v i wr) (fun _ i _ => T.size - (intOf i).toNat)
        case atStart => exact ⟨0, 0, ⟨#[]⟩, rfl, rfl, Nat.zero_le _, rfl, rfl, Nat.le_refl _, HB2.out⟩
        case round =>
          obtain ⟨j, q, O, rfl, rfl, hj, HQ, HO, hOj, hbl⟩ := hrel
          have HBL := Lib.hid hbl
          clear hbl
          by_cases hjl : j < Bl.length
          · obtain ⟨x, hx⟩ : ∃ x, Bl[j] = x := ⟨_, rfl⟩
            have hsp := escape_split Bl j hjl
            rw [hx] at hsp
            have htk : Bl.take (j + 1) = Bl.take j ++ [x] := by rw [List.take_succ_eq_append_getElem hjl, hx]
            have hTsp : T.data.toList = escape (Bl.take j) ++ (esc1 x ++ escape (Bl.drop (j + 1))) := by rw [HTL.out, hsp]
            have hx37 : x ≠ 37 := HNO.out x (by rw [← hx]; exact List.getElem_mem hjl)
            have hetk : (escape (Bl.take (j + 1))).length = q + (esc1 x).length := by rw [htk, escape_append, List.length_append, ← HQ.out]; congr 1; show (esc1 x ++ []).length = _; rw [List.append_nil]
            have HTK := Lib.hid htk
            have HETK := Lib.hid hetk
            clear hsp htk hetk hx
            cases hv : fineB x with
            | true =>
              have he : esc1 x = [x] := by unfold esc1; rw [hv]; rfl
              obtain ⟨hlo, hhi⟩ := fine_bounds x hv
              rw [he] at hTsp
              obtain ⟨hq0, hTq⟩ := at_split (i := 0) hTsp (by simp)
              have hTq' : ∃ h : q < T.size, T[q] = x := by
                have e := HQ.out
                subst e
                exact ⟨hq0, hTq⟩
              obtain ⟨hqT, hTq2⟩ := hTq'
              have z1 : ¬ ((x.toNat : Int) ≤ 32) := by omega
              have z2 : ¬ ((127 : Int) ≤ (x.toNat : Int)) := by omega
              have z37 : ((x.toNat : Int) != 37) = true := u8_ne hx37
              have hqi : (q : Int) < (T.size : Int) := by omega
              have hex := ext_one T q hqT
              rw [hTq2] at hex
              obtain ⟨Y, hY⟩ : ∃ Y, T.extract q (q + 1) = Y := ⟨_, rfl⟩
              have hYs : Y.size = 1 := by rw [← hY, ByteArray.size_extract]; omega
              have hsum : ¬ (9223372036854775807 < O.size + Y.size) := by omega
              have hlast : (O ++ Y).size ≤ j + 1 := by rw [ByteArray.size_append]; omega
              rw [hY] at hex
              have HE := Lib.hid he
              have HEX := Lib.hid hex
              have HLAST := Lib.hid hlast
              clear he hex hYs hlast hTsp hTq hq0 hv hx37
              go_wp2
              go_roundw
              case rel => exact ⟨j + 1, q + 1, _, by go_num, rfl, hjl, Lib.hid (by rw [HETK.out, HE.out]; rfl), Lib.hid (by rw [str_add, HO.out, HEX.out, HTK.out]), HLAST.out, HBL.out⟩
              case measure => simp [intOf]; omega
            | false =>
              obtain ⟨p, hp⟩ : ∃ p, x.toNat / 16 = p := ⟨_, rfl⟩
              obtain ⟨r, hr⟩ : ∃ r, x.toNat % 16 = r := ⟨_, rfl⟩
              have hx9 : x.toNat < 256 := UInt8.toNat_lt x
              have hp16 : p < 16 := by omega
              have hr16 : r < 16 := by omega
              have hpl : (p : Int) < 16 := by omega
              have hrl : (r : Int) < 16 := by omega
              have hp0 : (0 : Int) ≤ (p : Int) := by omega
              have hr0 : (0 : Int) ≤ (r : Int) := by omega
              have hxv : IntKind.u8.wrap (16 * (p : Int) + (r : Int)) = (x.toNat : Int) := by rw [IntKind.wrap_u8]; omega
              have he : esc1 x = [37, hexU p, hexU r] := by unfold esc1; rw [hv, hp, hr]; rfl
              rw [he] at hTsp
              have hT3 : ∃ (h0 : q < T.size) (h1 : q + 1 < T.size) (h2 : q + 2 < T.size), T[q] = 37 ∧ T[q + 1] = hexU p ∧ T[q + 2] = hexU r := by
                obtain ⟨a0, a1⟩ := at_split (i := 0) hTsp (by simp)
                obtain ⟨b0, b1⟩ := at_split (i := 1) hTsp (by simp)
                obtain ⟨c0, c1⟩ := at_split (i := 2) hTsp (by simp)
                have e := HQ.out
                subst e
                exact ⟨a0, b0, c0, a1, b1, c1⟩
              obtain ⟨g0, g1, g2, t0, t1, t2⟩ := hT3
              have hqi : (q : Int) < (T.size : Int) := by omega
              have hqi1 : (q : Int) + 1 < (T.size : Int) := by omega
              have hqi2 : (q : Int) + 2 < (T.size : Int) := by omega
              have hY1 : (⟨#[x]⟩ : ByteArray).size = 1 := rfl
              have hsum : ¬ (9223372036854775807 < O.size + (⟨#[x]⟩ : ByteArray).size) := by rw [hY1]; omega
              have hsum1 : ¬ (9223372036854775807 < O.size + 1) := by omega
              have hlast : (O ++ ⟨#[x]⟩).size ≤ j + 1 := by rw [ByteArray.size_append, hY1]; omega
              have hcv := conv1g x
              have hh1 := hex_any p hp16
              have hh2 := hex_any r hr16
              have HE := Lib.hid he
              have HLAST := Lib.hid hlast
              have hlen2 : ¬ ((T.size : Int) ≤ (q : Int) + 2) := by omega
              have hw1 : IntKind.i64.wrap ((q : Int) + 1) = (q : Int) + 1 := IntWalk.i64_in _ (by omega)
              have hw2 : IntKind.i64.wrap ((q : Int) + 2) = (q : Int) + 2 := IntWalk.i64_in _ (by omega)
              have hw3 : IntKind.i64.wrap (16 * (p : Int)) = 16 * (p : Int) := IntWalk.i64_in _ (by omega)
              have hw4 : IntKind.i64.wrap (16 * (p : Int) + (r : Int)) = 16 * (p : Int) + (r : Int) := IntWalk.i64_in _ (by omega)
              have hn1 : (0 : Int) ≤ (q : Int) + 1 := by omega
              have hn2 : (0 : Int) ≤ (q : Int) + 2 := by omega
              have ht1 : ((q : Int) + 1).toNat = q + 1 := by omega
              have ht2 : ((q : Int) + 2).toNat = q + 2 := by omega
              have HH1 := Lib.hid hh1
              have HH2 := Lib.hid hh2
              clear he hlast hTsp hv hx37 hp hr hh1 hh2 hY1
              go_upto_region 20 with fail
              go_region_with (first | (go_at_call_of 24 ((hexU p).toNat : Int); refine Calls.mono (HH1.out _) ?_; rintro e w5 ⟨rfl, rfl⟩) | (go_at_call 24; refine Calls.mono (HH2.out _) ?_; rintro e w6 ⟨rfl, rfl⟩))
              all_goals
                go_wp2
                clear hw1 hw2 hw3 hw4 ht1 ht2
                go_roundw
                case rel => exact ⟨j + 1, q + 3, _, by go_num, rfl, hjl, Lib.hid (by rw [HETK.out, HE.out]; rfl), Lib.hid (by rw [str_add, HO.out, HTK.out]), HLAST.out, (HBL.out.alloc HBL.out.size _).drew⟩
                case measure => simp [intOf]; omega
          · obtain rfl : j = Bl.length := by omega
            have hqT : q = T.size := by
              have h := HQ.out
              rw [List.take_of_length_le (Nat.le_refl _)] at h
              rw [h, HTS.out]
            have hOX : O = X := by
              have h := HO.out
              rw [List.take_of_length_le (Nat.le_refl _), ← HXL.out] at h
              exact ByteArray.ext (Array.toList_inj.1 h)
            subst hqT hOX
            go_wp2
            go_ret
            exact ⟨rfl, HBL.out⟩
end Go.Proofs.YtibaoocklempnaaGreatDoor
