/- url.Scheme and the reference's Scheme: an address's scheme. url.Scheme. The reference's Scheme. -/
import Derived.Test.YtdkjenbncmedbaaGreatDoorStrip
import Derived.Lib.IndexBytes
namespace Go.Proofs.YtdkjenbncmedbaaGreatDoor
open Go.RowKit

def ne (c b : UInt8) : Bool := b != c
theorem take_index (c : UInt8) : ∀ l : List UInt8, c ∈ l → l.take (Lib.indexByte l c).toNat = l.takeWhile (ne c)
  | [], h => by cases h
  | b :: l, h => by
    unfold Lib.indexByte
    by_cases hb : b = c
    · subst hb
      rw [List.takeWhile_cons]
      simp [ne]
    · have hb' : (b == c) = false := by simpa using hb
      have hm : c ∈ l := by
        rcases List.mem_cons.1 h with h | h
        · exact absurd h.symm hb
        · exact h
      have h0 := (indexByte_has l c).2 hm
      have h1 : (Lib.indexByte l c == -1) = false := by rw [beq_eq_false_iff_ne]; omega
      have h2 : (Lib.indexByte l c + 1).toNat = (Lib.indexByte l c).toNat + 1 := by omega
      have h3 : ne c b = true := by unfold ne; simp [hb]
      rw [hb', h1]
      simp only [Bool.false_eq_true, if_false]
      rw [h2, List.take_succ_cons, take_index c l hm, List.takeWhile_cons, h3]
      rfl
theorem cut_byte (l : List UInt8) (c : UInt8) : Lib.cut l [c] = if c ∈ l then (l.takeWhile (ne c), l.drop ((Lib.indexByte l c).toNat + 1), true) else (l, [], false) := by
  unfold Lib.cut
  rw [Lib.index_one]
  by_cases h : c ∈ l
  · rw [if_pos ((indexByte_has l c).2 h), if_pos h, take_index c l h]
    rfl
  · rw [if_neg (fun h' => h ((indexByte_has l c).1 h')), if_neg h]

def mayS (b : UInt8) : Bool := letter b || digit b || (b == 43 || b == 45 || b == 46)
/-- The scheme of a name that stands ahead of a colon. -/
def schemeOf (name : List UInt8) : Option (List UInt8) := if (match name with | [] => false | b :: _ => letter b) && name.all mayS then some (lowerL name) else none
def scheme (l : List UInt8) : Option (List UInt8) := if (58 : UInt8) ∈ strip l then schemeOf ((strip l).takeWhile (ne 58)) else none
def SchR (w : World) (o : Option (List UInt8)) (e : Ending) (w' : World) : Prop := e = .returned (.tuple #[.string ⟨(o.getD []).toArray⟩, .bool o.isSome]) ∧ Below w.heap.size w w'

theorem plus_mem (b : UInt8) : (0 ≤ Lib.indexByte (⟨#[43, 45, 46]⟩ : ByteArray).data.toList b) ↔ (b == 43 || b == 45 || b == 46) = true := by
  rw [indexByte_has]
  simp [or_assoc]
theorem mayS_any (b : UInt8) (w : World) : Calls Tryz.prog 80 #[.int .u8 (b.toNat : Int)] w (RB w (mayS b)) := by
  have hL := letter_any b w
  have hD := digit_any b w
  have hI := indexByte_any ⟨#[43, 45, 46]⟩ b w
  have hp := plus_mem b
  obtain ⟨i, hi⟩ : ∃ i, Lib.indexByte (⟨#[43, 45, 46]⟩ : ByteArray).data.toList b = i := ⟨_, rfl⟩
  rw [hi] at hI hp
  have hms : mayS b = (letter b || digit b || (b == 43 || b == 45 || b == 46)) := rfl
  obtain ⟨p, hpe⟩ : ∃ p, (b == 43 || b == 45 || b == 46) = p := ⟨_, rfl⟩
  rw [hpe] at hp hms
  have HL := Lib.hid hL
  have HD := Lib.hid hD
  have HI := Lib.hid hI
  have HM := Lib.hid hms
  clear hL hD hI hms hpe hi
  cases hl : letter b with
  | true =>
    rw [hl] at HL HM
    clear hp
    go_enter Tryz.func80, Tryz.ntmps80
    go_wp2_with fail
    refine Calls.mono HL.out ?_
    rintro e w1 ⟨rfl, rfl⟩
    go_wp2
    go_ret
    exact ⟨by rw [HM.out]; rfl, rfl⟩
  | false =>
    rw [hl] at HL HM
    cases hd : digit b with
    | true =>
      rw [hd] at HD HM
      clear hp
      go_enter Tryz.func80, Tryz.ntmps80
      go_wp2_with fail
      refine Calls.mono HL.out ?_
      rintro e w1 ⟨rfl, rfl⟩
      go_wp2_with fail
      refine Calls.mono HD.out ?_
      rintro e w1 ⟨rfl, rfl⟩
      go_wp2
      go_ret
      exact ⟨by rw [HM.out]; rfl, rfl⟩
    | false =>
      rw [hd] at HD HM
      have hpd : decide ((0 : Int) ≤ i) = p := by rw [Bool.eq_iff_iff, decide_eq_true_iff]; exact hp
      clear hp
      go_enter Tryz.func80, Tryz.ntmps80
      go_wp2_with fail
      refine Calls.mono HL.out ?_
      rintro e w1 ⟨rfl, rfl⟩
      go_wp2_with fail
      refine Calls.mono HD.out ?_
      rintro e w1 ⟨rfl, rfl⟩
      go_wp2_with fail
      refine Calls.mono HI.out ?_
      rintro e w1 ⟨rfl, rfl⟩
      go_wp2
      go_ret
      exact ⟨by rw [HM.out]; rfl, rfl⟩

def CutY (t : List UInt8) (w : World) (e : Ending) (w' : World) : Prop := ∃ (v : ByteArray) (n : Nat), e = .returned (.tuple #[.string ⟨(t.takeWhile (ne 58)).toArray⟩, .string v, .bool true]) ∧ w' = w.drewN n
def CutN (t : List UInt8) (w : World) (e : Ending) (w' : World) : Prop := ∃ (n : Nat), e = .returned (.tuple #[.string ⟨t.toArray⟩, .string ⟨#[]⟩, .bool false]) ∧ w' = w.drewN n
theorem cut_yes (t : List UInt8) (w : World) (hG : Glob w) (hs : t.length ≤ 1000000000) (h : (58 : UInt8) ∈ t) : Calls Tryz.prog 52 #[.string ⟨t.toArray⟩, .string ⟨#[58]⟩] w (CutY t w) := by
  obtain ⟨m, hm⟩ := hG.maxLen
  refine (Tryz.strings_Cut ⟨t.toArray⟩ ⟨#[58]⟩ m w (by show t.toArray.size < _; rw [List.size_toArray]; omega) hm).mono ?_
  rintro e w' ⟨rfl, n, rfl⟩
  have e1 : (⟨t.toArray⟩ : ByteArray).data.toList = t := rfl
  have e2 : (⟨#[58]⟩ : ByteArray).data.toList = [58] := rfl
  rw [e1, e2, cut_byte, if_pos h]
  exact ⟨_, n, rfl, rfl⟩
theorem cut_no (t : List UInt8) (w : World) (hG : Glob w) (hs : t.length ≤ 1000000000) (h : (58 : UInt8) ∉ t) : Calls Tryz.prog 52 #[.string ⟨t.toArray⟩, .string ⟨#[58]⟩] w (CutN t w) := by
  obtain ⟨m, hm⟩ := hG.maxLen
  refine (Tryz.strings_Cut ⟨t.toArray⟩ ⟨#[58]⟩ m w (by show t.toArray.size < _; rw [List.size_toArray]; omega) hm).mono ?_
  rintro e w' ⟨rfl, n, rfl⟩
  have e1 : (⟨t.toArray⟩ : ByteArray).data.toList = t := rfl
  have e2 : (⟨#[58]⟩ : ByteArray).data.toList = [58] := rfl
  rw [e1, e2, cut_byte, if_neg h]
  exact ⟨n, rfl, rfl⟩

set_option maxHeartbeats 2000000 in
set_option maxRecDepth 100000 in
theorem scheme_any (s : ByteArray) (w : World) (hG : Glob w) (hs : s.size ≤ 1000000000) : Calls Tryz.prog 54 #[.string s] w (SchR w (scheme s.data.toList)) := by
  have hstr := strip_any s w hG (by omega)
  have hsc : scheme s.data.toList = if (58 : UInt8) ∈ strip s.data.toList then schemeOf ((strip s.data.toList).takeWhile (ne 58)) else none := rfl
  have htl := strip_len s.data.toList
  obtain ⟨t, ht⟩ : ∃ t, strip s.data.toList = t := ⟨_, rfl⟩
  have hsl : s.data.toList.length = s.size := Array.length_toList
  rw [ht] at hstr hsc htl
  rw [hsl] at htl
  have HST := Lib.hid hstr
  have HG := Lib.hid hG
  clear hstr ht hsl hG
  by_cases hm : (58 : UInt8) ∈ t
  · rw [if_pos hm] at hsc
    obtain ⟨N, hN⟩ : ∃ N : ByteArray, (⟨(t.takeWhile (ne 58)).toArray⟩ : ByteArray) = N := ⟨_, rfl⟩
    have hNl : N.data.toList = t.takeWhile (ne 58) := by rw [← hN]
    rw [← hNl] at hsc
    have hNs : N.size ≤ 1000000000 := by
      have e : N.data.toList.length = N.size := Array.length_toList
      have := (List.takeWhile_sublist (ne 58) (l := t)).length_le
      rw [hNl] at e
      omega
    have HSC := Lib.hid hsc
    have HN := Lib.hid hN
    clear hsc hN hNl
    have hNsl : N.data.toList.length = N.size := Array.length_toList
    by_cases h0 : N.size = 0
    · have hnil : N.data.toList = [] := List.eq_nil_of_length_eq_zero (by omega)
      have hse : N.toList = [] := by rw [ByteArray.toList_eq, hnil]
      have hno : schemeOf N.data.toList = none := by rw [hnil]; rfl
      have HNO := Lib.hid hno
      clear hno hnil hNsl h0
      go_enter Tryz.func54, Tryz.ntmps54
      go_wp2_with fail
      refine Calls.mono HST.out ?_
      rintro e w1 ⟨rfl, b1⟩
      go_wp2_with fail
      refine Calls.mono (cut_yes t _ (HG.out.later b1) (by omega) hm) ?_
      rintro e w2 ⟨v, n, rfl, rfl⟩
      rw [HN.out]
      go_wp2
      go_ret2
      exact ⟨by rw [HSC.out, HNO.out]; rfl, below_dn b1 n⟩
    · have hse : ¬ N.toList = [] := by
        rw [ByteArray.toList_eq]
        intro h
        rw [h] at hNsl
        exact h0 hNsl.symm
      have hse2 : N.toList.isEmpty = false := by
        cases h : N.toList with
        | nil => exact absurd h hse
        | cons _ _ => rfl
      have hp0 : 0 < N.size := by omega
      have hpi : (0 : Int) < (N.size : Int) := by omega
      obtain ⟨b0, hb0⟩ : ∃ b, N[0] = b := ⟨_, rfl⟩
      have hcons : N.data.toList = b0 :: N.data.toList.drop 1 := by
        have := List.drop_eq_getElem_cons (l := N.data.toList) (i := 0) (by omega)
        rw [List.drop_zero] at this
        rw [← hb0]
        exact this
      have hso : schemeOf N.data.toList = if letter b0 && N.data.toList.all mayS then some (lowerL N.data.toList) else none := by
        unfold schemeOf
        rw [hcons]
      have HSO := Lib.hid hso
      have HNL := Lib.hid hNsl
      have hL := letter_any b0
      have HL := Lib.hid hL
      clear hso hNsl hcons h0 hL
      cases hl : letter b0 with
      | false =>
        rw [hl] at HL HSO
        go_enter Tryz.func54, Tryz.ntmps54
        go_wp2_with fail
        refine Calls.mono HST.out ?_
        rintro e w1 ⟨rfl, b1⟩
        go_wp2_with fail
        refine Calls.mono (cut_yes t _ (HG.out.later b1) (by omega) hm) ?_
        rintro e w2 ⟨v, n, rfl, rfl⟩
        rw [HN.out]
        go_wp2_with fail
        refine Calls.mono (HL.out _) ?_
        rintro e w3 ⟨rfl, rfl⟩
        go_wp2
        go_ret2
        exact ⟨by rw [HSC.out, HSO.out]; rfl, below_dn b1 n⟩
      | true =>
        rw [hl] at HL HSO
        have em := enters_of Tryz.func80 (by kernel_rfl) rfl
        have hlow := lower_any N
        have HLOW := Lib.hid hlow
        have hms := mayS_any
        have HMS := Lib.hid hms
        clear hlow hms
        go_enter Tryz.func54, Tryz.ntmps54
        go_wp2_with fail
        refine Calls.mono HST.out ?_
        rintro e w1 ⟨rfl, b1⟩
        go_wp2_with fail
        refine Calls.mono (cut_yes t _ (HG.out.later b1) (by omega) hm) ?_
        rintro e w2 ⟨v, n, rfl, rfl⟩
        rw [HN.out]
        go_wp2_with fail
        refine Calls.mono (HL.out _) ?_
        rintro e w3 ⟨rfl, rfl⟩
        have HB1 := Lib.hid b1
        clear b1
        go_wp2_with fail
        go_loop [30] (fun i => ∃ k : Nat, i = .int .i64 k ∧ k ≤ N.size ∧ (N.data.toList.take k).all mayS = true) (fun i => N.size - (intOf i).toNat)
        case atStart => exact ⟨0, rfl, Nat.zero_le _, rfl⟩
        case round =>
          obtain ⟨k, rfl, hk, hall⟩ := hrel
          have HALL := Lib.hid hall
          clear hall
          by_cases hlt : k < N.size
          · obtain ⟨x, hx⟩ : ∃ x, N[k] = x := ⟨_, rfl⟩
            have hki : (k : Int) < (N.size : Int) := by omega
            have hlt' : k < N.data.toList.length := by rw [HNL.out]; exact hlt
            have htk : N.data.toList.take (k + 1) = N.data.toList.take k ++ [x] := by
              rw [List.take_succ_eq_append_getElem hlt', ← hx]; rfl
            have hmem : x ∈ N.data.toList := by rw [← hx]; exact List.getElem_mem hlt'
            have HTK := Lib.hid htk
            have HMEM := Lib.hid hmem
            clear htk hmem
            have hmx := HMS.out x
            cases hmv : mayS x with
            | true =>
              rw [hmv] at hmx
              have HMX := Lib.hid hmx
              have HMV := Lib.hid hmv
              clear hmx hmv
              go_wp2_with fail
              refine Calls.mono (HMX.out _) ?_
              rintro e w4 ⟨rfl, rfl⟩
              go_wp2
              go_round
              case rel => exact ⟨k + 1, by go_num, by omega, by rw [HTK.out, List.all_append, HALL.out, List.all_cons, HMV.out]; rfl⟩
              case measure => simp [intOf]; omega
            | false =>
              rw [hmv] at hmx
              have HMX := Lib.hid hmx
              have hnall : N.data.toList.all mayS = false := by
                rw [List.all_eq_false]
                exact ⟨x, HMEM.out, by rw [hmv]; decide⟩
              have HNA := Lib.hid hnall
              clear hmx hmv hnall
              go_wp2_with fail
              refine Calls.mono (HMX.out _) ?_
              rintro e w4 ⟨rfl, rfl⟩
              go_wp2
              go_ret2
              exact ⟨by rw [HSC.out, HSO.out, HNA.out]; rfl, below_dn HB1.out n⟩
          · obtain rfl : k = N.size := by omega
            have hall2 : N.data.toList.all mayS = true := by
              have h := HALL.out
              rw [List.take_of_length_le (by rw [HNL.out]; exact Nat.le_refl _)] at h
              exact h
            have HA2 := Lib.hid hall2
            clear hall2
            go_wp2_with fail
            refine Calls.mono (HLOW.out _ (by omega)) ?_
            rintro e w4 ⟨rfl, b4⟩
            have HB4 := Lib.hid b4
            clear b4
            go_wp2
            go_ret2
            exact ⟨by rw [HSC.out, HSO.out, HA2.out]; rfl, (below_dn HB1.out n).trans (HB4.out.mono (below_dn HB1.out n).size)⟩
  · rw [if_neg hm] at hsc
    have HSC := Lib.hid hsc
    clear hsc
    go_enter Tryz.func54, Tryz.ntmps54
    go_wp2_with fail
    refine Calls.mono HST.out ?_
    rintro e w1 ⟨rfl, b1⟩
    go_wp2_with fail
    refine Calls.mono (cut_no t _ (HG.out.later b1) (by omega) hm) ?_
    rintro e w2 ⟨n, rfl, rfl⟩
    go_wp2
    go_ret2
    exact ⟨by rw [HSC.out]; rfl, below_dn b1 n⟩

def good : List UInt8 → Bool
  | [] => true
  | b :: r => letter b && r.all mayS
theorem letter_mayS {b : UInt8} (h : letter b = true) : mayS b = true := by unfold mayS; rw [h]; rfl
theorem good_snoc (l : List UInt8) (x : UInt8) (hne : l ≠ []) (h : good l = true) : good (l ++ [x]) = mayS x := by
  cases l with
  | nil => exact absurd rfl hne
  | cons b r =>
    simp only [good, Bool.and_eq_true] at h
    simp only [List.cons_append, good, h.1, List.all_append, h.2, List.all_cons, List.all_nil, Bool.true_and, Bool.and_true]
theorem good_prefix (l r : List UInt8) (h : good l = false) : good (l ++ r) = false := by
  cases l with
  | nil => simp [good] at h
  | cons b q =>
    simp only [good, List.cons_append, List.all_append] at h ⊢
    rw [← Bool.and_assoc, h, Bool.false_and]
theorem schemeOf_good (l : List UInt8) : schemeOf l = if l ≠ [] ∧ good l = true then some (lowerL l) else none := by
  unfold schemeOf
  cases l with
  | nil => simp
  | cons b r =>
    simp only [good, List.all_cons]
    by_cases hl : letter b = true
    · simp [hl, letter_mayS hl]
    · simp [hl]
theorem take_ne (l : List UInt8) (k : Nat) (h0 : 0 < k) (h : k ≤ l.length) : l.take k ≠ [] := by
  intro e
  have := congrArg List.length e
  rw [List.length_take, List.length_nil] at this
  omega
theorem schemeOf_bad (l : List UInt8) (h : good l = false) : schemeOf l = none := by
  rw [schemeOf_good, if_neg (by rw [h]; simp)]
theorem tw_split (t : List UInt8) (k : Nat) (x : UInt8) (hk : k < t.length) (hx : t[k] = x) (hx8 : x ≠ 58) (hall : (t.take k).all (ne 58) = true) : ∃ r, t.takeWhile (ne 58) = (t.take k ++ [x]) ++ r := by
  have e : t = t.take k ++ x :: t.drop (k + 1) := by
    conv => lhs; rw [← List.take_append_drop k t]
    rw [List.drop_eq_getElem_cons hk, hx]
  have h1 : ne 58 x = true := by unfold ne; simp [hx8]
  refine ⟨(t.drop (k + 1)).takeWhile (ne 58), ?_⟩
  conv => lhs; rw [e]
  rw [List.takeWhile_append_of_pos (fun b hb => List.all_eq_true.1 hall b hb), List.takeWhile_cons, h1]
  simp
theorem tw_at (t : List UInt8) (k : Nat) (hk : k < t.length) (hx : t[k] = 58) (hall : (t.take k).all (ne 58) = true) : t.takeWhile (ne 58) = t.take k ∧ (58 : UInt8) ∈ t := by
  have e : t = t.take k ++ 58 :: t.drop (k + 1) := by
    conv => lhs; rw [← List.take_append_drop k t]
    rw [List.drop_eq_getElem_cons hk, hx]
  refine ⟨?_, by rw [← hx]; exact List.getElem_mem hk⟩
  conv => lhs; rw [e]
  rw [List.takeWhile_append_of_pos (fun b hb => List.all_eq_true.1 hall b hb), List.takeWhile_cons]
  simp [ne]
theorem u8_beq {x c : UInt8} (h : x ≠ c) : ((x.toNat : Int) == (c.toNat : Int)) = false := by
  rw [beq_eq_false_iff_ne]
  intro e
  exact h (UInt8.toNat_inj.1 (by omega))

set_option maxHeartbeats 4000000 in
set_option maxRecDepth 100000 in
theorem refscheme_any (s : ByteArray) (w : World) (hs : s.size ≤ 1000000000) : Calls Tryz.prog 100 #[.string s] w (SchR w (scheme s.data.toList)) := by
  have hstr := refstrip_any s w (by omega)
  have hsc : scheme s.data.toList = if (58 : UInt8) ∈ strip s.data.toList then schemeOf ((strip s.data.toList).takeWhile (ne 58)) else none := rfl
  have htl := strip_len s.data.toList
  obtain ⟨t, ht⟩ : ∃ t, strip s.data.toList = t := ⟨_, rfl⟩
  have hsl : s.data.toList.length = s.size := Array.length_toList
  rw [ht] at hstr hsc htl
  rw [hsl] at htl
  obtain ⟨T, hT⟩ : ∃ T : ByteArray, (⟨t.toArray⟩ : ByteArray) = T := ⟨_, rfl⟩
  have hTt : T.data.toList = t := by rw [← hT]
  have hTs : T.size = t.length := by rw [← hTt]; exact Array.length_toList.symm
  have hTb : T.size ≤ 1000000000 := by omega
  have hstr2 : Calls Tryz.prog 116 #[.string s] w (fun e w' => e = .returned (.string T) ∧ Below w.heap.size w w') := by
    rw [← hT]; exact hstr
  have HST := Lib.hid hstr2
  have HSC := Lib.hid hsc
  have HTS := Lib.hid hTs
  have HTT := Lib.hid hTt
  have hreflow := reflower_any
  have HLOW := Lib.hid hreflow
  clear hstr hstr2 hsc ht hsl htl hT hTt hTs hreflow
  go_enter Tryz.func100, Tryz.ntmps100
  go_wp2_with fail
  refine Calls.mono HST.out ?_
  rintro e w1 ⟨rfl, b1⟩
  have HB1 := Lib.hid b1
  clear b1
  go_wp2_with fail
  go_loop [4] (fun i => ∃ k : Nat, i = .int .i64 k ∧ k ≤ T.size ∧ good (t.take k) = true ∧ (t.take k).all (ne 58) = true) (fun i => T.size - (intOf i).toNat)
  case atStart => exact ⟨0, rfl, Nat.zero_le _, rfl, rfl⟩
  case round =>
    obtain ⟨k, rfl, hk, hgk, hne⟩ := hrel
    have HGK := Lib.hid hgk
    have HNE := Lib.hid hne
    clear hgk hne
    by_cases hlt : k < T.size
    · obtain ⟨x, hx⟩ : ∃ x, T[k] = x := ⟨_, rfl⟩
      have hki : (k : Int) < (T.size : Int) := by omega
      have hlt' : k < t.length := by rw [← HTS.out]; exact hlt
      have hxt : t[k] = x := by
        rw [← hx]
        have h2 := HTT.out
        subst h2
        rfl
      by_cases h58 : x = 58
      · have z58 : ((x.toNat : Int) != 58) = false := by rw [h58]; rfl
        obtain ⟨htw, hmem⟩ := tw_at t k hlt' (by rw [hxt]; exact h58) HNE.out
        have hres : scheme s.data.toList = schemeOf (t.take k) := by rw [HSC.out, if_pos hmem, htw]
        have hext : (T.extract 0 k).data.toList = t.take k := by rw [Lib.extract_data, HTT.out]; simp
        have HRES := Lib.hid hres
        have HEXT := Lib.hid hext
        clear htw hmem hres hxt h58 hext
        by_cases hk0 : k = 0
        · subst hk0
          go_wp2
          go_ret2
          exact ⟨by rw [HRES.out]; rfl, HB1.out⟩
        · have zk : (((k : Nat) : Int) == 0) = false := by rw [beq_eq_false_iff_ne]; omega
          have zt : (((k : Nat) : Int) == ((T.size : Nat) : Int)) = false := by rw [beq_eq_false_iff_ne]; omega
          go_wp2_with fail
          refine Calls.mono (HLOW.out (T.extract 0 k) _ (by rw [ByteArray.size_extract]; omega)) ?_
          rintro e w4 ⟨rfl, b4⟩
          have HB4 := Lib.hid b4
          clear b4
          go_wp2
          go_ret2
          refine ⟨?_, HB1.out.trans (HB4.out.mono HB1.out.size)⟩
          rw [HRES.out, schemeOf_good, if_pos ⟨take_ne t k (by omega) (by omega), HGK.out⟩, ← HTT.out]
          rfl
      · have z58 : ((x.toNat : Int) != 58) = true := u8_ne h58
        have htk : t.take (k + 1) = t.take k ++ [x] := by rw [List.take_succ_eq_append_getElem hlt', hxt]
        have hx58 : ne 58 x = true := by unfold ne; simp [h58]
        have hbadf : good (t.take k ++ [x]) = false → scheme s.data.toList = none := by
          intro hb
          obtain ⟨r, hr⟩ := tw_split t k x hlt' hxt h58 HNE.out
          rw [HSC.out]
          split
          · rw [hr, schemeOf_bad _ (good_prefix _ _ hb)]
          · rfl
        have hL := refletter_any x
        have hD := refdigit_any x
        have HL := Lib.hid hL
        have HD := Lib.hid hD
        have HTK := Lib.hid htk
        have HGO := Lib.hid (congrArg good htk)
        have HX58 := Lib.hid hx58
        have HBADF := Lib.hid hbadf
        clear hL hD htk hx58 hbadf hxt h58
        by_cases hk0 : k = 0
        · subst hk0
          have hok : good [x] = letter x := by simp [good]
          cases hl : letter x with
          | true =>
            rw [hl] at HL hok
            have HOK := Lib.hid (show good (t.take 0 ++ [x]) = true from hok)
            clear hok HBADF
            go_wp2_with fail
            refine Calls.mono (HL.out _) ?_
            rintro e w4 ⟨rfl, rfl⟩
            go_wp2
            go_round
            case rel => exact ⟨0 + 1, rfl, by omega, by rw [HGO.out]; exact HOK.out, by rw [HTK.out, List.all_append, HNE.out, List.all_cons, HX58.out]; rfl⟩
            case measure => simp [intOf]; omega
          | false =>
            rw [hl] at HL hok
            have HBAD := Lib.hid (HBADF.out hok)
            clear hok HBADF
            go_wp2_with fail
            refine Calls.mono (HL.out _) ?_
            rintro e w4 ⟨rfl, rfl⟩
            go_wp2
            go_ret2
            exact ⟨by rw [HBAD.out]; rfl, HB1.out⟩
        · have hki2 : (0 : Int) < (k : Int) := by omega
          have hok : good (t.take k ++ [x]) = mayS x := good_snoc (t.take k) x (take_ne t k (by omega) (by omega)) HGK.out
          cases hl : letter x with
          | true =>
            rw [hl] at HL
            have hms : mayS x = true := by unfold mayS; rw [hl]; rfl
            have HOK := Lib.hid (hok.trans hms)
            clear hok hms HBADF
            go_wp2_with fail
            refine Calls.mono (HL.out _) ?_
            rintro e w4 ⟨rfl, rfl⟩
            go_wp2
            go_round
            case rel => exact ⟨k + 1, by go_num, by omega, by rw [HGO.out]; exact HOK.out, by rw [HTK.out, List.all_append, HNE.out, List.all_cons, HX58.out]; rfl⟩
            case measure => simp [intOf]; omega
          | false =>
            rw [hl] at HL
            cases hd : digit x with
            | true =>
              rw [hd] at HD
              have hms : mayS x = true := by unfold mayS; rw [hl, hd]; rfl
              have HOK := Lib.hid (hok.trans hms)
              clear hok hms HBADF
              go_wp2_with fail
              refine Calls.mono (HL.out _) ?_
              rintro e w4 ⟨rfl, rfl⟩
              go_wp2_with fail
              refine Calls.mono (HD.out _) ?_
              rintro e w5 ⟨rfl, rfl⟩
              go_wp2
              go_round
              case rel => exact ⟨k + 1, by go_num, by omega, by rw [HGO.out]; exact HOK.out, by rw [HTK.out, List.all_append, HNE.out, List.all_cons, HX58.out]; rfl⟩
              case measure => simp [intOf]; omega
            | false =>
              rw [hd] at HD
              by_cases h43 : x = 43
              · have z43 : ((x.toNat : Int) == 43) = true := by rw [h43]; rfl
                have hms : mayS x = true := by rw [h43]; decide
                have HOK := Lib.hid (hok.trans hms)
                clear hok hms HBADF h43
                go_wp2_with fail
                refine Calls.mono (HL.out _) ?_
                rintro e w4 ⟨rfl, rfl⟩
                go_wp2_with fail
                refine Calls.mono (HD.out _) ?_
                rintro e w5 ⟨rfl, rfl⟩
                go_wp2
                go_round
                case rel => exact ⟨k + 1, by go_num, by omega, by rw [HGO.out]; exact HOK.out, by rw [HTK.out, List.all_append, HNE.out, List.all_cons, HX58.out]; rfl⟩
                case measure => simp [intOf]; omega
              · have z43 : ((x.toNat : Int) == 43) = false := u8_beq h43
                by_cases h45 : x = 45
                · have z45 : ((x.toNat : Int) == 45) = true := by rw [h45]; rfl
                  have hms : mayS x = true := by rw [h45]; decide
                  have HOK := Lib.hid (hok.trans hms)
                  clear hok hms HBADF h43 h45
                  go_wp2_with fail
                  refine Calls.mono (HL.out _) ?_
                  rintro e w4 ⟨rfl, rfl⟩
                  go_wp2_with fail
                  refine Calls.mono (HD.out _) ?_
                  rintro e w5 ⟨rfl, rfl⟩
                  go_wp2
                  go_round
                  case rel => exact ⟨k + 1, by go_num, by omega, by rw [HGO.out]; exact HOK.out, by rw [HTK.out, List.all_append, HNE.out, List.all_cons, HX58.out]; rfl⟩
                  case measure => simp [intOf]; omega
                · have z45 : ((x.toNat : Int) == 45) = false := u8_beq h45
                  by_cases h46 : x = 46
                  · have z46 : ((x.toNat : Int) == 46) = true := by rw [h46]; rfl
                    have hms : mayS x = true := by rw [h46]; decide
                    have HOK := Lib.hid (hok.trans hms)
                    clear hok hms HBADF h43 h45 h46
                    go_wp2_with fail
                    refine Calls.mono (HL.out _) ?_
                    rintro e w4 ⟨rfl, rfl⟩
                    go_wp2_with fail
                    refine Calls.mono (HD.out _) ?_
                    rintro e w5 ⟨rfl, rfl⟩
                    go_wp2
                    go_round
                    case rel => exact ⟨k + 1, by go_num, by omega, by rw [HGO.out]; exact HOK.out, by rw [HTK.out, List.all_append, HNE.out, List.all_cons, HX58.out]; rfl⟩
                    case measure => simp [intOf]; omega
                  · have z46 : ((x.toNat : Int) == 46) = false := u8_beq h46
                    have hms : mayS x = false := by unfold mayS; rw [hl, hd]; simp [h43, h45, h46]
                    have HBAD := Lib.hid (HBADF.out (hok.trans hms))
                    clear hok hms HBADF h43 h45 h46
                    go_wp2_with fail
                    refine Calls.mono (HL.out _) ?_
                    rintro e w4 ⟨rfl, rfl⟩
                    go_wp2_with fail
                    refine Calls.mono (HD.out _) ?_
                    rintro e w5 ⟨rfl, rfl⟩
                    go_wp2
                    go_ret2
                    exact ⟨by rw [HBAD.out]; rfl, HB1.out⟩
    · obtain rfl : k = T.size := by omega
      have hno : scheme s.data.toList = none := by
        rw [HSC.out, if_neg]
        intro hm
        have h := HNE.out
        rw [List.take_of_length_le (by rw [HTS.out]; exact Nat.le_refl _)] at h
        have := List.all_eq_true.1 h _ hm
        simp [ne] at this
      have HNO := Lib.hid hno
      clear hno
      obtain ⟨q, hq⟩ : ∃ q, (((T.size : Nat) : Int) == 0) = q := ⟨_, rfl⟩
      cases q
      all_goals
        go_wp2
        go_ret2
        exact ⟨by rw [HNO.out]; rfl, HB1.out⟩
end Go.Proofs.YtdkjenbncmedbaaGreatDoor
