/- The reference's Tag: how long is the tag at a text's head? -/
import Derived.Test.YtikokedphocpiaaGreatDoorRfAttr
import Derived.Test.YtikokedphocpiaaGreatDoorAtTag
namespace Go.Proofs.YtikokedphocpiaaGreatDoor
open Go.RowKit

theorem has_at (l : List UInt8) (k : Nat) (c : UInt8) : Lib.hasPrefix (l.drop k) [c] = condR l (fun b => b == c) k := by
  unfold Lib.hasPrefix condR
  rcases Nat.lt_or_ge k l.length with h | h
  · rw [List.getElem?_eq_getElem h, List.drop_eq_getElem_cons h]
    show ((c == l[k]) && List.isPrefixOf [] _) = _
    rw [List.isPrefixOf_nil_left, Bool.and_true, Bool.beq_comm]
  · rw [List.getElem?_eq_none h, List.drop_eq_nil_of_le h]
    rfl
theorem has_at2 (l : List UInt8) (k : Nat) (c d : UInt8) : Lib.hasPrefix (l.drop k) [c, d] = (condR l (fun b => b == c) k && condR l (fun b => b == d) (k + 1)) := by
  rw [← has_at l (k + 1)]
  unfold Lib.hasPrefix condR
  rcases Nat.lt_or_ge k l.length with h | h
  · rw [List.getElem?_eq_getElem h, List.drop_eq_getElem_cons h]
    show ((c == l[k]) && List.isPrefixOf [d] (l.drop (k + 1))) = _
    rw [Bool.beq_comm]
  · rw [List.getElem?_eq_none h, List.drop_eq_nil_of_le h]
    rfl
theorem shut_eq (l : List UInt8) (k : Nat) : closedN l k [⟨#[62]⟩] = if condR l (fun b => b == 62) k = true then k + 1 else 0 := by
  unfold closedN
  rw [show (⟨#[62]⟩ : ByteArray).data.toList = [62] from rfl, has_at]
  rfl
theorem open_eq (l : List UInt8) (k : Nat) : closedN l k [⟨#[47, 62]⟩, ⟨#[62]⟩] = if condR l (fun b => b == 47) k = true then (if condR l (fun b => b == 62) (k + 1) = true then k + 2 else 0) else (if condR l (fun b => b == 62) k = true then k + 1 else 0) := by
  rw [closedN, shut_eq, show (⟨#[47, 62]⟩ : ByteArray).data.toList = [47, 62] from rfl, has_at2]
  cases h : condR l (fun b => b == 47) k with
  | true =>
    have h2 : condR l (fun b => b == 62) k = false := by
      unfold condR at h ⊢
      cases hg : l[k]? with
      | none => rfl
      | some x =>
        rw [hg] at h
        have : x = 47 := by simpa using h
        rw [this]
        rfl
    rw [h2]
    cases condR l (fun b => b == 62) (k + 1) <;> rfl
  | false => rfl
def TagD (w : World) (l : List UInt8) (E : Nat) (v4 : Value) (wr : World) : Prop := ∃ (i n : Nat), v4 = .int .i64 (i : Int) ∧ i ≤ l.length ∧ l.length - i < n ∧ attrsF l n i = E ∧ ∃ d, wr = w.drewN d
set_option maxHeartbeats 4000000 in
set_option maxRecDepth 100000 in
theorem reftag_none (s : ByteArray) (w : World) (hs : s.size ≤ 1099511627) (h : s.size < 2 ∨ ∃ h : 0 < s.size, s[0] ≠ 60) : Calls Tryz.prog 35 #[.string s] w (IntD w (tagN s.data.toList : Nat)) := by
  have hsl : s.data.toList.length = s.size := Array.length_toList
  by_cases h2 : s.size < 2
  · have hv : tagN s.data.toList = 0 := by
      unfold tagN
      split
      · have hn : ∀ k, 1 ≤ k → wordN s.data.toList ⟨#[]⟩ ⟨#[45]⟩ k = none := fun k hk => by unfold wordN; rw [dif_neg (by omega)]
        rw [hn _ (by split <;> omega)]
      · rfl
    rw [hv]
    have z1 : decide (s.size < 2) = true := by simp; omega
    have z2 : (s.size : Int) < 2 := by omega
    clear h hv hsl h2
    go_enter Tryz.func35, Tryz.ntmps35
    go_wp2
    go_ret
    exact ⟨rfl, 0, rfl⟩
  · obtain ⟨h0, h3⟩ : ∃ h : 0 < s.size, s[0] ≠ 60 := by rcases h with h | h; exact absurd h h2; exact h
    have hv : tagN s.data.toList = 0 := by
      unfold tagN
      have e : Lib.hasPrefix s.data.toList [60] = false := by
        have := has_at s.data.toList 0 60
        rw [List.drop_zero] at this
        rw [this, condR_some (get_list s 0 h0)]
        exact beq_no h3
      rw [e]
      rfl
    rw [hv]
    have z1 : decide (s.size < 2) = false := by simp; omega
    have z2 : ¬ (s.size : Int) < 2 := by omega
    have z3 : (0 : Int) < (s.size : Int) := by omega
    have z4 : ((s[0].toNat : Int) != 60) = true := (bnec s[0] 60).trans (by unfold bne; rw [beq_no h3]; rfl)
    clear h hv hsl h2 h3
    go_enter Tryz.func35, Tryz.ntmps35
    go_wp2
    go_ret
    exact ⟨rfl, 0, rfl⟩
set_option maxHeartbeats 4000000 in
set_option maxRecDepth 100000 in
theorem reftag_shut (s : ByteArray) (w : World) (hs : s.size ≤ 1099511627) (h2 : 2 ≤ s.size) (h60 : s[0] = 60) (h47 : s[1] = 47) : Calls Tryz.prog 35 #[.string s] w (IntD w (tagN s.data.toList : Nat)) := by
  have z1 : decide (s.size < 2) = false := by simp; omega
  have z2 : ¬ (s.size : Int) < 2 := by omega
  have z3 : (0 : Int) < (s.size : Int) := by omega
  have z3b : (1 : Int) < (s.size : Int) := by omega
  have z4 : ((s[0].toNat : Int) != 60) = false := (bnec s[0] 60).trans (by unfold bne; rw [h60]; rfl)
  have z5 : ((s[1].toNat : Int) == 47) = true := (beqc s[1] 47).trans (beq_yes h47)
  have hsl : s.data.toList.length = s.size := Array.length_toList
  obtain ⟨l, hl⟩ : ∃ l, s.data.toList = l := ⟨_, rfl⟩
  have hget : ∀ (k : Nat) (h : k < s.size), l[k]? = some s[k] := fun k h => by rw [← hl]; exact get_list s k h
  have HG := Lib.hid (show ∀ (k : Nat) w', k ≤ s.size → Calls Tryz.prog 71 #[.string s, .int .i64 (k : Int)] w' (RI w' (gapN l k : Nat)) from fun k w' hk => by rw [← hl]; exact refgap_any s k w' hs hk)
  have HA := Lib.hid (show ∀ (k : Nat) w', k ≤ s.size → Calls Tryz.prog 72 #[.string s, .int .i64 (k : Int)] w' (IntD w' (optI (attrN l k))) from fun k w' hk => by rw [← hl]; exact refattr_any s k w' hs hk)
  have HN := Lib.hid (show ∀ (k : Nat) w', k ≤ s.size → Calls Tryz.prog 70 #[.string s, .int .i64 (k : Int)] w' (RI w' (optI (wordN l ⟨#[]⟩ ⟨#[45]⟩ k))) from fun k w' hk => by rw [← hl]; exact refname_any s k w' hs hk)
  have hp1 : Lib.hasPrefix l [60] = true := by
    have := has_at l 0 60
    rw [List.drop_zero] at this
    rw [this, condR_some (hget 0 (by omega)), h60]
    rfl
  have hp2 : Lib.hasPrefix l [60, 47] = (s[1] == 47) := by
    have := has_at2 l 0 60 47
    rw [List.drop_zero] at this
    rw [this, condR_some (hget 0 (by omega)), condR_some (hget 1 (by omega)), h60]
    rfl
  obtain ⟨E, hE⟩ : ∃ E : Int, ((tagN s.data.toList : Nat) : Int) = E := ⟨_, rfl⟩
  rw [hE]
  rw [hl] at hE hsl
  have hv : tagN l = match wordN l ⟨#[]⟩ ⟨#[45]⟩ 2 with | none => 0 | some j => closedN l (gapN l j) [⟨#[62]⟩] := by unfold tagN tagEnd; rw [hp1, hp2, h47]; rfl
  rw [hv] at hE
  have hN := fun w' => HN.out 2 w' h2
  have HGET := Lib.hid hget
  have HSL := Lib.hid hsl
  have hls : l.length = s.size := hsl
  clear hget hl hp1 hp2 hv h60 h47 hsl
  cases hw : wordN l ⟨#[]⟩ ⟨#[45]⟩ 2 with
  | none =>
    rw [hw] at hN hE
    have HN2 := Lib.hid hN
    have hE0 : E = 0 := hE.symm
    subst hE0
    clear hN hw hE hls
    go_enter Tryz.func35, Tryz.ntmps35
    go_wp2_with fail
    refine Calls.mono (HN2.out _) ?_
    rintro e w1 ⟨rfl, rfl⟩
    rw [show optI none = -1 from rfl]
    go_wp2
    go_ret
    exact ⟨rfl, 0, rfl⟩
  | some j =>
    rw [hw] at hN hE
    have hj := wordN_le _ _ _ _ _ hw
    have hkl := gapN_le l j hj
    obtain ⟨k, hk⟩ : ∃ k, gapN l j = k := ⟨_, rfl⟩
    have hG := fun w' => HG.out j w' (by omega)
    rw [hk] at hG hkl
    have hop : optI (some j) = (j : Int) := rfl
    rw [hop] at hN
    simp only at hE
    rw [hk, shut_eq] at hE
    have HE := Lib.hid (show E = if condR l (fun b => b == 62) k = true then ((k + 1 : Nat) : Int) else 0 by rw [← hE]; split <;> rfl)
    have hks : k ≤ s.size := by omega
    have HN2 := Lib.hid hN
    have HG2 := Lib.hid hG
    clear hN hw hE hG hk hop hj hkl hls
    go_enter Tryz.func35, Tryz.ntmps35
    go_wp2_with fail
    refine Calls.mono (HN2.out _) ?_
    rintro e w1 ⟨rfl, rfl⟩
    go_wp2_with fail
    refine Calls.mono (HG2.out _) ?_
    rintro e w2 ⟨rfl, rfl⟩
    by_cases h9 : k < s.size
    · have q1 : decide (k < s.size) = true := by simp; omega
      have q2 : ((k : Int)) < (s.size : Int) := by omega
      have hc := condR_some (p := fun b => b == 62) (HGET.out (k) h9)
      obtain ⟨y, hy⟩ : ∃ y, s[k] = y := ⟨_, rfl⟩
      have y62 : ((s[k].toNat : Int) == 62) = (y == 62) := by rw [hy]; exact beqc y 62
      rw [hy] at hc
      cases h62 : (y == 62) with
      | true =>
        rw [h62] at y62
        have hv : E = ((k + 1 : Nat) : Int) := by rw [HE.out, hc.trans h62]; rfl
        subst hv
        clear hc hy h62 HE
        go_wp2
        go_ret
        exact ⟨by go_num, 0, rfl⟩
      | false =>
        rw [h62] at y62
        have hv : E = 0 := by rw [HE.out, hc.trans h62]; rfl
        subst hv
        clear hc hy h62 HE
        go_wp2
        go_ret
        exact ⟨rfl, 0, rfl⟩
    · have q1 : decide (k < s.size) = false := by simp; omega
      have q2 : ¬ ((k : Int)) < (s.size : Int) := by omega
      have hv : E = 0 := by rw [HE.out, condR_none (by rw [HSL.out]; omega)]; rfl
      subst hv
      clear h9 HE
      go_wp2
      go_ret
      exact ⟨rfl, 0, rfl⟩
set_option maxHeartbeats 4000000 in
set_option maxRecDepth 100000 in
theorem reftag_open (s : ByteArray) (w : World) (hs : s.size ≤ 1099511627) (h2 : 2 ≤ s.size) (h60 : s[0] = 60) (h47 : s[1] ≠ 47) : Calls Tryz.prog 35 #[.string s] w (IntD w (tagN s.data.toList : Nat)) := by
  have z1 : decide (s.size < 2) = false := by simp; omega
  have z2 : ¬ (s.size : Int) < 2 := by omega
  have z3 : (0 : Int) < (s.size : Int) := by omega
  have z3b : (1 : Int) < (s.size : Int) := by omega
  have z4 : ((s[0].toNat : Int) != 60) = false := (bnec s[0] 60).trans (by unfold bne; rw [h60]; rfl)
  have z5 : ((s[1].toNat : Int) == 47) = false := (beqc s[1] 47).trans (beq_no h47)
  have hsl : s.data.toList.length = s.size := Array.length_toList
  obtain ⟨l, hl⟩ : ∃ l, s.data.toList = l := ⟨_, rfl⟩
  have hget : ∀ (k : Nat) (h : k < s.size), l[k]? = some s[k] := fun k h => by rw [← hl]; exact get_list s k h
  have HG := Lib.hid (show ∀ (k : Nat) w', k ≤ s.size → Calls Tryz.prog 71 #[.string s, .int .i64 (k : Int)] w' (RI w' (gapN l k : Nat)) from fun k w' hk => by rw [← hl]; exact refgap_any s k w' hs hk)
  have HA := Lib.hid (show ∀ (k : Nat) w', k ≤ s.size → Calls Tryz.prog 72 #[.string s, .int .i64 (k : Int)] w' (IntD w' (optI (attrN l k))) from fun k w' hk => by rw [← hl]; exact refattr_any s k w' hs hk)
  have HN := Lib.hid (show ∀ (k : Nat) w', k ≤ s.size → Calls Tryz.prog 70 #[.string s, .int .i64 (k : Int)] w' (RI w' (optI (wordN l ⟨#[]⟩ ⟨#[45]⟩ k))) from fun k w' hk => by rw [← hl]; exact refname_any s k w' hs hk)
  have hp1 : Lib.hasPrefix l [60] = true := by
    have := has_at l 0 60
    rw [List.drop_zero] at this
    rw [this, condR_some (hget 0 (by omega)), h60]
    rfl
  have hp2 : Lib.hasPrefix l [60, 47] = (s[1] == 47) := by
    have := has_at2 l 0 60 47
    rw [List.drop_zero] at this
    rw [this, condR_some (hget 0 (by omega)), condR_some (hget 1 (by omega)), h60]
    rfl
  obtain ⟨E, hE⟩ : ∃ E : Int, ((tagN s.data.toList : Nat) : Int) = E := ⟨_, rfl⟩
  rw [hE]
  rw [hl] at hE hsl
  have hv : tagN l = match wordN l ⟨#[]⟩ ⟨#[45]⟩ 1 with | none => 0 | some j => closedN l (gapN l (attrsN l j)) [⟨#[47, 62]⟩, ⟨#[62]⟩] := by unfold tagN tagEnd; rw [hp1, hp2, beq_no h47]; rfl
  rw [hv] at hE
  have hN := fun w' => HN.out 1 w' (by omega)
  have HGET := Lib.hid hget
  have HSL := Lib.hid hsl
  have hls : l.length = s.size := hsl
  clear hget hl hp1 hp2 hv h60 h47 hsl
  cases hw : wordN l ⟨#[]⟩ ⟨#[45]⟩ 1 with
  | none =>
    rw [hw] at hN hE
    have HN2 := Lib.hid hN
    have hE0 : E = 0 := hE.symm
    subst hE0
    clear hN hw hE hls
    go_enter Tryz.func35, Tryz.ntmps35
    go_wp2_with fail
    refine Calls.mono (HN2.out _) ?_
    rintro e w1 ⟨rfl, rfl⟩
    rw [show optI none = -1 from rfl]
    go_wp2
    go_ret
    exact ⟨rfl, 0, rfl⟩
  | some j =>
    rw [hw] at hN hE
    have hj := wordN_le _ _ _ _ _ hw
    obtain ⟨q, hq⟩ : ∃ q, attrsN l j = q := ⟨_, rfl⟩
    have hql : q ≤ l.length := by rw [← hq]; exact attrsF_le _ _ _ hj
    have hkl := gapN_le l q hql
    obtain ⟨k, hk⟩ : ∃ k, gapN l q = k := ⟨_, rfl⟩
    have hG := fun w' => HG.out q w' (by omega)
    rw [hk] at hG hkl
    have hop : optI (some j) = (j : Int) := rfl
    rw [hop] at hN
    simp only at hE
    rw [hq, hk, open_eq] at hE
    have hat : Hid (attrsF l (l.length + 1) j = q) := hq
    have HE0 := Lib.hid (show E = if condR l (fun b => b == 47) k = true then (if condR l (fun b => b == 62) (k + 1) = true then ((k + 2 : Nat) : Int) else 0) else (if condR l (fun b => b == 62) k = true then ((k + 1 : Nat) : Int) else 0) by rw [← hE]; repeat (split <;> try rfl))
    have hks : k ≤ s.size := by omega
    have HN2 := Lib.hid hN
    have HG2 := Lib.hid hG
    have HJ := Lib.hid hj
    clear hN hw hE hG hk hop hj hkl hls hq hql
    go_enter Tryz.func35, Tryz.ntmps35
    go_wp2_with fail
    refine Calls.mono (HN2.out _) ?_
    rintro e w1 ⟨rfl, rfl⟩
    go_wp2_with fail
    go_loopw [4, 5] (fun v4 _ wx => TagD w l q v4 wx) (fun v4 _ _ => s.size - (intOf v4).toNat)
    case atStart => exact ⟨j, l.length + 1, rfl, HJ.out, by omega, hat.out, 0, rfl⟩
    case round =>
      obtain ⟨i, n, rfl, hi, hn, hE, d, rfl⟩ := hrel
      have his : i ≤ s.size := by have := HSL.out; omega
      have hA := fun w' => HA.out i w' his
      cases ha : attrN l i with
      | none =>
        rw [attrsF_none ha] at hE
        rw [ha] at hA
        subst hE
        have HA2 := Lib.hid hA
        clear ha hat hA hi hn
        go_wp2_with fail
        refine Calls.mono (HA2.out _) ?_
        rintro e w5 ⟨rfl, d2, rfl⟩
        rw [show optI none = -1 from rfl]
        go_wp2_with fail
        refine Calls.mono (HG2.out _) ?_
        rintro e w6 ⟨rfl, rfl⟩
        obtain ⟨D, hD⟩ : ∃ D, condR l (fun b => b == 47) k = D := ⟨_, rfl⟩
        rw [hD] at HE0
        have HD0 := Lib.hid hD
        clear hD
        by_cases h8 : k < s.size
        · have p1 : decide (k < s.size) = true := by simp; omega
          have p2 : (k : Int) < (s.size : Int) := by omega
          have hc := condR_some (p := fun b => b == 47) (HGET.out k h8)
          rw [HD0.out] at hc
          obtain ⟨x, hx⟩ : ∃ x, s[k] = x := ⟨_, rfl⟩
          have y47 : ((s[k].toNat : Int) == 47) = (x == 47) := by rw [hx]; exact beqc x 47
          rw [hx] at hc
          cases h47 : (x == 47) with
          | true =>
            rw [h47] at y47
            have HE := Lib.hid (show E = if condR l (fun b => b == 62) (k + 1) = true then ((k + 1 + 1 : Nat) : Int) else 0 by rw [HE0.out, hc, h47, if_pos rfl])
            have pb : (k : Int) + 1 ≤ (s.size : Int) := by omega
            clear hc hx h47 HE0 HD0
            by_cases h9 : k + 1 < s.size
            · have q1 : decide (k + 1 < s.size) = true := by simp; omega
              have q2 : ((k : Int) + 1) < (s.size : Int) := by omega
              have hc := condR_some (p := fun b => b == 62) (HGET.out (k + 1) h9)
              obtain ⟨y, hy⟩ : ∃ y, s[k + 1] = y := ⟨_, rfl⟩
              have y62 : ((s[k + 1].toNat : Int) == 62) = (y == 62) := by rw [hy]; exact beqc y 62
              rw [hy] at hc
              cases h62 : (y == 62) with
              | true =>
                rw [h62] at y62
                have hv : E = ((k + 1 + 1 : Nat) : Int) := by rw [HE.out, hc.trans h62]; rfl
                subst hv
                clear hc hy h62 HE
                go_wp2
                go_ret
                exact ⟨by go_num, d + d2, rfl⟩
              | false =>
                rw [h62] at y62
                have hv : E = 0 := by rw [HE.out, hc.trans h62]; rfl
                subst hv
                clear hc hy h62 HE
                go_wp2
                go_ret
                exact ⟨rfl, d + d2, rfl⟩
            · have q1 : decide (k + 1 < s.size) = false := by simp; omega
              have q2 : ¬ ((k : Int) + 1) < (s.size : Int) := by omega
              have hv : E = 0 := by rw [HE.out, condR_none (by rw [HSL.out]; omega)]; rfl
              subst hv
              clear h9 HE
              go_wp2
              go_ret
              exact ⟨rfl, d + d2, rfl⟩
          | false =>
            rw [h47] at y47
            have HE := Lib.hid (show E = if condR l (fun b => b == 62) k = true then ((k + 1 : Nat) : Int) else 0 by rw [HE0.out, hc, h47, if_neg (by simp)])
            clear hc hx h47 HE0 HD0
            by_cases h9 : k < s.size
            · have q1 : decide (k < s.size) = true := by simp; omega
              have q2 : ((k : Int)) < (s.size : Int) := by omega
              have hc := condR_some (p := fun b => b == 62) (HGET.out (k) h9)
              obtain ⟨y, hy⟩ : ∃ y, s[k] = y := ⟨_, rfl⟩
              have y62 : ((s[k].toNat : Int) == 62) = (y == 62) := by rw [hy]; exact beqc y 62
              rw [hy] at hc
              cases h62 : (y == 62) with
              | true =>
                rw [h62] at y62
                have hv : E = ((k + 1 : Nat) : Int) := by rw [HE.out, hc.trans h62]; rfl
                subst hv
                clear hc hy h62 HE
                go_wp2
                go_ret
                exact ⟨by go_num, d + d2, rfl⟩
              | false =>
                rw [h62] at y62
                have hv : E = 0 := by rw [HE.out, hc.trans h62]; rfl
                subst hv
                clear hc hy h62 HE
                go_wp2
                go_ret
                exact ⟨rfl, d + d2, rfl⟩
            · exact absurd h8 h9
        · have p1 : decide (k < s.size) = false := by simp; omega
          have p2 : ¬ (k : Int) < (s.size : Int) := by omega
          have hv : E = 0 := by
            have h0 := HD0.out
            rw [condR_none (by rw [HSL.out]; omega)] at h0
            rw [HE0.out, ← h0, if_neg (by simp), condR_none (by rw [HSL.out]; omega), if_neg (by simp)]
          subst hv
          clear h8 HE0 HD0
          go_wp2
          go_ret
          exact ⟨rfl, d + d2, rfl⟩
      | some m =>
        have hm := attrN_lt l i m hi ha
        rw [ha] at hA
        rw [show optI (some m) = (m : Int) from rfl] at hA
        obtain ⟨n', rfl⟩ : ∃ n', n = n' + 1 := ⟨n - 1, by omega⟩
        rw [attrsF_some ha] at hE
        have HE := Lib.hid hE
        have HA2 := Lib.hid hA
        have HM := Lib.hid hm
        have HN3 := Lib.hid hn
        have him : i < m := hm.1
        have hms : m ≤ s.size := by have := HSL.out; omega
        clear hE ha hA hi hm hn
        go_wp2_with fail
        refine Calls.mono (HA2.out _) ?_
        rintro e w5 ⟨rfl, d2, rfl⟩
        go_wp2
        go_roundw
        case rel => exact ⟨m, n', rfl, HM.out.2, by have := HN3.out; have := HM.out.2; omega, HE.out, d + d2, by first | rfl | exact World.drewN_drewN _ _ _⟩
        case measure => simp [intOf]; omega
theorem reftag_any (s : ByteArray) (w : World) (hs : s.size ≤ 1099511627) : Calls Tryz.prog 35 #[.string s] w (IntD w (tagN s.data.toList : Nat)) := by
  by_cases h2 : s.size < 2
  · exact reftag_none s w hs (.inl h2)
  · by_cases h60 : s[0]'(by omega) = 60
    · by_cases h47 : s[1]'(by omega) = 47
      · exact reftag_shut s w hs (by omega) h60 h47
      · exact reftag_open s w hs (by omega) h60 h47
    · exact reftag_none s w hs (.inr ⟨by omega, h60⟩)
end Go.Proofs.YtikokedphocpiaaGreatDoor
