/- The reference's Unescape and the program's, plainly. The reference's Unescape. -/
import Derived.Test.YtbcfhpomclkccaaDoorRsRk
import Derived.Test.YtbcfhpomclkccaaDoorRsDst
namespace Go.Proofs.YtbcfhpomclkccaaDoor
open Go.RowKit

def refU : Nat → ByteArray → List UInt8
  | 0, _ => []
  | f + 1, s => if s.size = 0 then [] else unescF.unescS f (refU f) s
theorem mark_noamp (s : ByteArray) (h : ¬ s.data.toList[0]? = some 38) : (markN s).2 = 0 := by
  have hp : Lib.hasPrefix s.data.toList [38, 35] = false := by
    cases hq : Lib.hasPrefix s.data.toList [38, 35] with
    | false => rfl
    | true =>
      unfold Lib.hasPrefix at hq
      obtain ⟨t, ht⟩ := List.isPrefixOf_iff_prefix.1 hq
      exact absurd (by rw [← ht]; rfl) h
  have hn : numericN s.data.toList = (0, 0, 0) := by unfold numericN; rw [hp, if_neg Bool.false_ne_true]
  unfold markN
  rw [hn, if_neg (by decide)]
  split
  · rfl
  · rename_i hc
    exfalso
    rw [not_or] at hc
    obtain ⟨hc1, hc2⟩ := hc
    unfold cutS at hc1 hc2
    split at hc1
    · exact absurd rfl hc1
    · rename_i hneg
      rw [if_neg hneg] at hc2
      simp only at hc2
      apply h
      have : ((s.extract 0 (Lib.indexByte s.data.toList 59).toNat).data.toList[0]? == some 38) = true := by simpa using hc2
      rw [Lib.extract_data, List.drop_zero, beq_iff_eq, List.getElem?_take] at this
      split at this
      · exact this
      · cases this
theorem ext_cons (s : ByteArray) (h : 0 < s.size) : s.data.toList = s[0] :: (s.extract 1 s.size).data.toList := by
  have hl : s.data.toList.length = s.size := Array.length_toList
  rw [Lib.extract_data, List.take_of_length_le (by rw [List.length_drop]; omega)]
  have := List.drop_eq_getElem_cons (l := s.data.toList) (i := 0) (by omega)
  rw [List.drop_zero] at this
  exact this
theorem unescF_skip (f : Nat) (s : ByteArray) (h : 0 < s.size) (h92 : ¬ s[0] = 92) (h38 : ¬ s[0] = 38) : unescF (f + 1) s = s[0] :: unescF (f + 1) (s.extract 1 s.size) := by
  have hc := ext_cons s h
  obtain ⟨t, ht⟩ : ∃ t, s.extract 1 s.size = t := ⟨_, rfl⟩
  rw [ht] at hc ⊢
  have hz : t.size = s.size - 1 := by rw [← ht, ByteArray.size_extract]; omega
  have hcon : ([92, 38] : List UInt8).contains s[0] = false := by simp [h92, h38]
  have hi : Lib.indexAny s.data.toList [92, 38] = if Lib.indexAny t.data.toList [92, 38] == -1 then -1 else Lib.indexAny t.data.toList [92, 38] + 1 := by
    rw [hc, Lib.indexAny, if_neg (by rw [hcon]; exact Bool.false_ne_true)]
  rcases iany_spec t.data.toList with h1 | ⟨a, b, h1, h2⟩
  · rw [h1, if_pos (by decide)] at hi
    unfold unescF
    rw [hi, h1, if_pos (by decide), if_pos (by decide), hc]
  · rw [h1, if_neg (by rw [beq_iff_eq]; omega)] at hi
    unfold unescF
    rw [hi, h1, if_neg (by omega), if_neg (by omega), show ((a : Int) + 1).toNat = a + 1 by omega, Int.toNat_natCast]
    have hx : s.extract (a + 1) s.size = t.extract a t.size := by
      have e : (s.extract (a + 1) s.size).data.toList = (t.extract a t.size).data.toList := by
        rw [Lib.extract_data, Lib.extract_data]
        conv => lhs; rw [hc]
        rw [List.drop_succ_cons, hz, show s.size - (a + 1) = s.size - 1 - a by omega]
      exact ByteArray.ext (Array.toList_inj.1 e)
    rw [hx]
    conv => lhs; rw [hc]
    rfl
theorem unescF_here (f : Nat) (s : ByteArray) (h : 0 < s.size) (hc : s[0] = 92 ∨ s[0] = 38) : unescF (f + 1) s = unescF.unescS f (unescF f) s := by
  have hcs := ext_cons s h
  have hi : Lib.indexAny s.data.toList [92, 38] = 0 := by
    rw [hcs, Lib.indexAny, if_pos]
    rcases hc with h | h <;> rw [h] <;> rfl
  unfold unescF
  rw [hi, if_neg (by decide), show (0 : Int).toNat = 0 from rfl, List.take_zero, List.nil_append]
  have hx : s.extract 0 s.size = s := by
    apply ByteArray.ext
    apply Array.toList_inj.1
    rw [Lib.extract_data, List.drop_zero, List.take_of_length_le]
    rw [show s.data.toList.length = s.size from Array.length_toList]; omega
  rw [hx]
theorem unescS_skip (f : Nat) (r : ByteArray → List UInt8) (s : ByteArray) (h : 0 < s.size) (h92 : ¬ s[0] = 92) (h38 : ¬ s[0] = 38) : unescF.unescS f r s = s[0] :: r (s.extract 1 s.size) := by
  have hg := get_list s 0 h
  unfold unescF.unescS
  rw [hg, if_neg (by simp [h92]), if_pos (mark_noamp s (by rw [hg]; intro e; exact h38 (Option.some.inj e)))]
  conv => lhs; rw [ext_cons s h]
  rfl
theorem unescS_congr (f g : Nat) (r q : ByteArray → List UInt8) (s : ByteArray) (h : 0 < s.size) (hrq : ∀ t : ByteArray, t.size < s.size → r t = q t) : unescF.unescS f r s = unescF.unescS g q s := by
  have e1 : ∀ k, 0 < k → (s.extract k s.size).size < s.size := fun k hk => by rw [ByteArray.size_extract]; omega
  unfold unescF.unescS
  split
  · rw [hrq _ (e1 2 (by omega))]
  · split
    · rw [hrq _ (e1 1 (by omega))]
    · rename_i hn
      rw [hrq _ (e1 _ (by omega))]
theorem refU_eq : ∀ (n : Nat) (s : ByteArray) (f g : Nat), s.size ≤ n → s.size < f → s.size ≤ g → unescF f s = refU g s := by
  intro n
  induction n with
  | zero =>
    intro s f g hn hf hg
    obtain ⟨f, rfl⟩ : ∃ f', f = f' + 1 := ⟨f - 1, by omega⟩
    have hs : s.data.toList = [] := List.eq_nil_of_length_eq_zero (by rw [show s.data.toList.length = s.size from Array.length_toList]; omega)
    have h1 : unescF (f + 1) s = [] := by unfold unescF; rw [hs]; rfl
    rw [h1]
    cases g with
    | zero => rfl
    | succ g => rw [refU, if_pos (by omega)]
  | succ n ih =>
    intro s f g hn hf hg
    by_cases h0 : s.size = 0
    · exact ih s f g (by omega) hf hg
    · obtain ⟨f, rfl⟩ : ∃ f', f = f' + 1 := ⟨f - 1, by omega⟩
      obtain ⟨g, rfl⟩ : ∃ g', g = g' + 1 := ⟨g - 1, by omega⟩
      rw [refU, if_neg h0]
      by_cases hc : s[0]'(by omega) = 92 ∨ s[0]'(by omega) = 38
      · rw [unescF_here f s (by omega) hc]
        exact unescS_congr f g _ _ s (by omega) (fun t ht => ih t f g (by omega) (by omega) (by omega))
      · rw [not_or] at hc
        have hz : (s.extract 1 s.size).size = s.size - 1 := by rw [ByteArray.size_extract]; omega
        rw [unescF_skip f s (by omega) hc.1 hc.2, unescS_skip g _ s (by omega) hc.1 hc.2, ih _ (f + 1) g (by omega) (by omega) (by omega)]

def RuW (L : List UInt8) (N : Nat) (w : World) (g : Nat) (v0 v3 : Value) (wr : World) : Prop := ∃ (t x : ByteArray) (f : Nat), v0 = .string t ∧ v3 = .string x ∧ t.size = g ∧ t.size ≤ f ∧ x.data.toList ++ refU f t = L ∧ x.size + 8 * t.size ≤ N ∧ Below w.heap.size w wr
theorem app_list (a b : ByteArray) : (a ++ b).data.toList = a.data.toList ++ b.data.toList := by rw [ByteArray.data_append, Array.toList_append]
set_option maxHeartbeats 4000000 in
set_option maxRecDepth 100000 in
theorem refunesc_any (s : ByteArray) (w : World) (hs : s.size ≤ 1000000000) : Calls Tryd.prog 12 #[.string s] w (UnR w (unescB s).data.toList) := by
  obtain ⟨L, hL⟩ : ∃ L, (unescB s).data.toList = L := ⟨_, rfl⟩
  have hL2 : refU s.size s = L := by rw [← hL, ← refU_eq s.size s (s.size + 1) s.size (Nat.le_refl _) (by omega) (Nat.le_refl _)]; rfl
  rw [hL]
  have H0 := Lib.hid (show RuW L (8 * s.size) w s.size (.string s) (.string ⟨#[]⟩) w from ⟨s, ⟨#[]⟩, s.size, rfl, rfl, rfl, Nat.le_refl _, hL2, by show 0 + _ ≤ _; omega, Below.refl _ _⟩)
  clear hL hL2
  go_enter Tryd.func12, Tryd.ntmps12
  go_wp2
  go_loopg [0, 3] s.size (fun g v0 v3 wr => RuW L (8 * s.size) w g v0 v3 wr)
  case atStart => exact H0.out
  case round =>
    obtain ⟨t, x, f, rfl, rfl, hg, hf, hLL, hlen, hbw⟩ := hrel
    subst hg
    have HLL := Lib.hid hLL
    have HBW := Lib.hid hbw
    have hxl : x.data.toList.length = x.size := Array.length_toList
    clear hLL hbw H0
    by_cases h0 : t.size = 0
    · have hti : ¬ (0 : Int) < (t.size : Int) := by omega
      have HV := Lib.hid (show x.data.toList = L by
        rw [← HLL.out]
        cases f with
        | zero => simp [refU]
        | succ f => rw [refU, if_pos h0, List.append_nil])
      clear h0
      go_wp2
      go_ret
      exact ⟨congrArg (fun l : List UInt8 => Ending.returned (Value.string ⟨l.toArray⟩)) HV.out, HBW.out⟩
    · have hti : (0 : Int) < (t.size : Int) := by omega
      have htn : 0 < t.size := by omega
      obtain ⟨f, rfl⟩ : ∃ f', f = f' + 1 := ⟨f - 1, by omega⟩
      have hst : refU (f + 1) t = unescF.unescS f (refU f) t := by rw [refU, if_neg h0]
      have HP := Lib.hid fun w' => refpair_at t 0 w' (by omega) (by omega)
      have hsp := step_pair t.data.toList 0
      have hcond : (t.data.toList[0]? == some 92 && (t.data.toList[1]?).any signB) = decide (stepL t.data.toList 0 = 2) := by
        rw [Bool.eq_iff_iff, decide_eq_true_iff, hsp, Bool.and_eq_true, beq_iff_eq]
        refine and_congr_right fun _ => ?_
        show (t.data.toList[1]?).any signB = true ↔ ∃ c, t.data.toList[1]? = some c ∧ signB c = true
        cases t.data.toList[1]? <;> simp
      by_cases h2 : stepL t.data.toList 0 = 2
      · rw [decide_eq_true h2] at HP hcond
        obtain ⟨_, c, hc, _⟩ := hsp.1 h2
        have h1z : 1 < t.size := by have := (List.getElem?_eq_some_iff.1 hc).1; simpa using this
        have h2i : (2 : Int) ≤ (t.size : Int) := by omega
        obtain ⟨y, hy⟩ : ∃ y, t.extract 1 2 = y := ⟨_, rfl⟩
        obtain ⟨t2, ht2⟩ : ∃ t2, t.extract 2 t.size = t2 := ⟨_, rfl⟩
        have hyl : y.data.toList = [c] := by rw [← hy, ext_list t 1 h1z]; rw [get_list t 1 h1z] at hc; rw [Option.some.inj hc]
        have hyz : y.size = 1 := by rw [Lib.size_eq, hyl]; rfl
        have ht2z : t2.size = t.size - 2 := by rw [← ht2, ByteArray.size_extract]; omega
        have HS := Lib.hid (show unescF.unescS f (refU f) t = [c] ++ refU f t2 by unfold unescF.unescS; rw [hcond, if_pos rfl, hc, ht2]; rfl)
        have HYL := Lib.hid hyl; have HY := Lib.hid hy; have HT2 := Lib.hid ht2; have HST := Lib.hid hst
        clear hcond hsp h2 hc hyl hy ht2 hst h0
        go_wp2_with fail
        refine Calls.mono (HP.out _) ?_
        rintro e w' ⟨rfl, hw⟩
        rw [← hw]
        clear hw
        go_wp2_with fail
        rw [HY.out]
        go_wp2_with fail
        (try rw [HT2.out])
        go_wp2_with fail
        go_roundg (t.size - 2)
        case measure => omega
        case rel =>
          refine ⟨t2, x ++ y, f, by first | rfl | rw [HT2.out], rfl, ht2z, by omega, ?_, by rw [ByteArray.size_append]; omega, HBW.out⟩
          rw [← HLL.out, HST.out, HS.out, app_list, HYL.out, List.append_assoc]
      · rw [decide_eq_false h2] at HP hcond
        obtain ⟨hml, hmn⟩ := mark_le t
        have HM := Lib.hid fun w' => refmark_any t w' (by omega)
        by_cases hn : (markN t).2 = 0
        · have hni : ¬ (0 : Int) < (((markN t).2 : Nat) : Int) := by omega
          obtain ⟨y, hy⟩ : ∃ y, t.extract 0 1 = y := ⟨_, rfl⟩
          obtain ⟨t2, ht2⟩ : ∃ t2, t.extract 1 t.size = t2 := ⟨_, rfl⟩
          have hyl : y.data.toList = t.data.toList.take 1 := by rw [← hy, Lib.extract_data, List.drop_zero]
          have hyz : y.size = 1 := by rw [← hy, ByteArray.size_extract]; omega
          have ht2z : t2.size = t.size - 1 := by rw [← ht2, ByteArray.size_extract]; omega
          have h1i : (1 : Int) ≤ (t.size : Int) := by omega
          have HS := Lib.hid (show unescF.unescS f (refU f) t = y.data.toList ++ refU f t2 by unfold unescF.unescS; rw [hcond, if_neg Bool.false_ne_true, if_pos hn, hyl, ht2])
          have HY := Lib.hid hy; have HT2 := Lib.hid ht2; have HST := Lib.hid hst
          obtain ⟨⟨p, q⟩, hpq⟩ : ∃ z, markN t = z := ⟨_, rfl⟩
          rw [hpq] at HM hni hn
          simp only at hni hn
          clear hcond hsp h2 hyl hy ht2 hst h0 hpq hn hml hmn
          go_wp2_with fail
          refine Calls.mono (HP.out _) ?_
          rintro e w' ⟨rfl, hw⟩
          rw [← hw]
          clear hw
          go_wp2_with fail
          refine Calls.mono (HM.out _) ?_
          rintro e w2 ⟨rfl, b2⟩
          have HB2 := Lib.hid (below_on HBW.out b2)
          clear b2
          go_wp2_with fail
          (try rw [HY.out])
          go_wp2_with fail
          (try rw [HT2.out])
          go_wp2_with fail
          go_roundg (t.size - 1)
          case measure => omega
          case rel =>
            refine ⟨t2, x ++ y, f, by first | rfl | rw [HT2.out], by first | rfl | rw [HY.out], ht2z, by omega, ?_, by rw [ByteArray.size_append]; omega, HB2.out⟩
            rw [← HLL.out, HST.out, HS.out, app_list, List.append_assoc]
        · have hni : (0 : Int) < (((markN t).2 : Nat) : Int) := by omega
          have hmi : (((markN t).2 : Nat) : Int) ≤ (t.size : Int) := by omega
          obtain ⟨t2, ht2⟩ : ∃ t2, t.extract (markN t).2 t.size = t2 := ⟨_, rfl⟩
          have ht2z : t2.size = t.size - (markN t).2 := by rw [← ht2, ByteArray.size_extract]; omega
          have HS := Lib.hid (show unescF.unescS f (refU f) t = (markN t).1.data.toList ++ refU f t2 by unfold unescF.unescS; rw [hcond, if_neg Bool.false_ne_true, if_neg hn, ht2])
          have HST := Lib.hid hst
          obtain ⟨⟨p, q⟩, hpq⟩ : ∃ z, markN t = z := ⟨_, rfl⟩
          rw [hpq] at HM hni hn hmi HS ht2z ht2 hml hmn
          simp only at hni hn hmi ht2z ht2 hml hmn
          have HT2 := Lib.hid ht2
          have hq0 : (0 : Int) ≤ (q : Int) := by omega
          clear hcond hsp h2 hst h0 hpq ht2
          go_wp2_with fail
          refine Calls.mono (HP.out _) ?_
          rintro e w' ⟨rfl, hw⟩
          rw [← hw]
          clear hw
          go_wp2_with fail
          refine Calls.mono (HM.out _) ?_
          rintro e w2 ⟨rfl, b2⟩
          have HB2 := Lib.hid (below_on HBW.out b2)
          clear b2
          go_wp2_with fail
          (try rw [HT2.out])
          go_wp2_with fail
          go_roundg (t.size - q)
          case measure => omega
          case rel =>
            refine ⟨t2, x ++ p, f, by first | rfl | rw [HT2.out], rfl, ht2z, by omega, ?_, by rw [ByteArray.size_append]; omega, HB2.out⟩
            rw [← HLL.out, HST.out, HS.out, app_list, List.append_assoc]
end Go.Proofs.YtbcfhpomclkccaaDoor
