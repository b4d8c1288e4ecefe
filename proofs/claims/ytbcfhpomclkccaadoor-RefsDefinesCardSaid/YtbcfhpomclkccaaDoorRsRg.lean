/- The reference's pair, blanks, Gap, rest. -/
import Derived.Test.YtbcfhpomclkccaaDoorRfEsc
import Derived.Test.YtbcfhpomclkccaaDoorRsGap
namespace Go.Proofs.YtbcfhpomclkccaaDoor
open Go.RowKit

theorem step_pair (l : List UInt8) (i : Nat) : stepL l i = 2 ↔ (l[i]? = some 92 ∧ ∃ c, l[i + 1]? = some c ∧ signB c = true) := by
  unfold stepL
  by_cases h : l[i]? = some 92
  · rw [h, if_pos (by rfl)]
    cases hc : l[i + 1]? with
    | none => simp
    | some c => cases hs : signB c <;> simp [hs]
  · rw [if_neg (by simpa using h)]
    simp [h]
set_option maxRecDepth 100000 in
theorem refpair_at (s : ByteArray) (i : Nat) (w : World) (_ : s.size ≤ 1099511627776) (hi : i ≤ 1099511627776) : Calls Tryd.prog 33 #[.string s, .int .i64 (i : Int)] w (RB w (decide (stepL s.data.toList i = 2))) := by
  have hp := step_pair s.data.toList i
  by_cases h1 : i + 1 < s.size
  · have hki : (i : Int) + 1 < (s.size : Int) := by omega
    have hil : i < s.size := by omega
    rw [get_list s i hil, get_list s (i + 1) h1] at hp
    obtain ⟨b, hb⟩ : ∃ b, s[i] = b := ⟨_, rfl⟩
    obtain ⟨c, hc⟩ : ∃ c, s[i + 1] = c := ⟨_, rfl⟩
    rw [hb, hc] at hp
    have HS := Lib.hid (refsign_any c w)
    by_cases h92 : b = 92
    · have i92 : ((b.toNat : Int) == 92) = true := by rw [h92]; rfl
      have hv : decide (stepL s.data.toList i = 2) = signB c := by
        rw [Bool.eq_iff_iff, decide_eq_true_iff, hp, h92]
        constructor
        · rintro ⟨_, d, hd, hs⟩
          cases hd
          exact hs
        · exact fun h => ⟨rfl, c, rfl, h⟩
      rw [hv]
      clear hv hp h92
      go_enter Tryd.func33, Tryd.ntmps33
      go_wp2_with fail
      (try rw [hb])
      (try rw [hc])
      go_wp2_with fail
      (try rw [hc])
      refine Calls.mono HS.out ?_
      rintro e w' ⟨rfl, rfl⟩
      go_wp2
      go_ret
      exact ⟨rfl, rfl⟩
    · have i92 : ((b.toNat : Int) == 92) = false := by rw [show ((b.toNat : Int) == 92) = (b == 92) from beqc b 92]; exact beq_no h92
      have hv : decide (stepL s.data.toList i = 2) = false := by
        rw [decide_eq_false_iff_not, hp]
        rintro ⟨h, _⟩
        cases h
        exact h92 rfl
      rw [hv]
      clear hv hp h92
      go_enter Tryd.func33, Tryd.ntmps33
      go_wp2_with fail
      (try rw [hb])
      go_wp2
      go_ret
      exact ⟨rfl, rfl⟩
  · have hki : ¬ (i : Int) + 1 < (s.size : Int) := by omega
    have hv : decide (stepL s.data.toList i = 2) = false := by
      rw [decide_eq_false_iff_not, hp, get_none s (i + 1) (by omega)]
      rintro ⟨_, _, h, _⟩
      cases h
    rw [hv]
    clear hv hp
    go_enter Tryd.func33, Tryd.ntmps33
    go_wp2
    go_ret
    exact ⟨rfl, rfl⟩
theorem blk_yes (s : ByteArray) (i : Nat) (h : i < s.size) (hw : wsB s[i] = true) : blk s.data.toList (i + 1) = blk s.data.toList i := by
  unfold blk
  rw [show s.data.toList.drop i = s[i] :: s.data.toList.drop (i + 1) by rw [List.drop_eq_getElem_cons (by simpa using h)]; rfl, List.takeWhile_cons, if_pos hw]
  simp
  omega
theorem blk_no (s : ByteArray) (i : Nat) (h : i < s.size) (hw : wsB s[i] = false) : blk s.data.toList i = i := by
  unfold blk
  rw [show s.data.toList.drop i = s[i] :: s.data.toList.drop (i + 1) by rw [List.drop_eq_getElem_cons (by simpa using h)]; rfl, List.takeWhile_cons, hw]
  simp
theorem blk_at_end (s : ByteArray) : blk s.data.toList s.size = s.size := by
  unfold blk
  rw [List.drop_eq_nil_of_le (by simp)]
  simp
set_option maxRecDepth 100000 in
theorem refblanks_any (s : ByteArray) (i : Nat) (w : World) (_ : s.size ≤ 1099511627776) (hi : i ≤ s.size) : Calls Tryd.prog 73 #[.string s, .int .i64 (i : Int)] w (IntR w (blk s.data.toList i : Nat)) := by
  obtain ⟨Q, hQ⟩ : ∃ Q, blk s.data.toList i = Q := ⟨_, rfl⟩
  rw [hQ]
  have HQ0 := Lib.hid hQ
  clear hQ
  go_enter Tryd.func73, Tryd.ntmps73
  go_wp2
  go_loopw [1] (fun v wr => ∃ k : Nat, v = .int .i64 (k : Int) ∧ k ≤ s.size ∧ Hid (blk s.data.toList k = Q) ∧ wr = w) (fun v _ => s.size - (intOf v).toNat)
  case atStart => exact ⟨i, rfl, hi, HQ0, rfl⟩
  case round =>
    obtain ⟨k, rfl, hk, HQ, hwr⟩ := hrel
    have hwr2 := hwr.symm
    subst hwr2
    clear hwr
    by_cases hlt : k < s.size
    · have hki : (k : Int) < (s.size : Int) := by omega
      have hy := blk_yes s k hlt
      have hn := blk_no s k hlt
      obtain ⟨c, hc⟩ : ∃ c, s[k] = c := ⟨_, rfl⟩
      rw [hc] at hy hn
      by_cases h32 : c = 32
      · have i32 : ((c.toNat : Int) == 32) = true := by rw [h32]; rfl
        have HN := Lib.hid ((hy (by rw [h32]; rfl)).trans HQ.out)
        clear hy hn h32
        go_wp2_with fail
        (try rw [hc])
        go_wp2_with fail
        go_roundw
        case rel => exact ⟨k + 1, rfl, by omega, HN, by first | rfl | trivial⟩
        case measure => simp [intOf]; omega
      · have i32 : ((c.toNat : Int) == 32) = false := by rw [show ((c.toNat : Int) == 32) = (c == 32) from beqc c 32]; exact beq_no h32
        by_cases h9 : c = 9
        · have i9 : ((c.toNat : Int) == 9) = true := by rw [h9]; rfl
          have HN := Lib.hid ((hy (by rw [h9]; rfl)).trans HQ.out)
          clear hy hn h32 h9
          go_wp2_with fail
          (try rw [hc])
          go_wp2_with fail
          go_roundw
          case rel => exact ⟨k + 1, rfl, by omega, HN, by first | rfl | trivial⟩
          case measure => simp [intOf]; omega
        · have i9 : ((c.toNat : Int) == 9) = false := by rw [show ((c.toNat : Int) == 9) = (c == 9) from beqc c 9]; exact beq_no h9
          have HN := Lib.hid ((hn (by unfold wsB; simp [h32, h9])).symm.trans HQ.out)
          clear hy hn h32 h9
          go_wp2_with fail
          (try rw [hc])
          go_wp2
          go_ret
          rw [← HN.out]
          exact ⟨rfl, rfl⟩
    · have hk2 : k = s.size := by omega
      have HN := Lib.hid (show k = Q by rw [← HQ.out, hk2, blk_at_end])
      clear hk2
      go_wp2
      go_ret
      rw [← HN.out]
      exact ⟨rfl, rfl⟩
set_option maxRecDepth 100000 in
theorem refgap_any (s : ByteArray) (i : Nat) (w : World) (hs : s.size ≤ 1099511627776) (hi : i ≤ s.size) : Calls Tryd.prog 40 #[.string s, .int .i64 (i : Int)] w (IntR w (gapN s.data.toList i : Nat)) := by
  have hl : s.data.toList.length = s.size := Array.length_toList
  have hb := (blk_in s.data.toList i (by omega)).2
  have H1 := Lib.hid fun w' => refblanks_any s i w' hs hi
  have hg : gapN s.data.toList i = if s.data.toList[blk s.data.toList i]? == some 10 then blk s.data.toList (blk s.data.toList i + 1) else blk s.data.toList i := rfl
  obtain ⟨k, hk⟩ : ∃ k, blk s.data.toList i = k := ⟨_, rfl⟩
  rw [hk] at H1 hg hb
  rw [hl] at hb
  have hii : ¬ (s.size : Int) < (i : Int) := by omega
  by_cases hlt : k < s.size
  · have hki : (k : Int) < (s.size : Int) := by omega
    rw [get_list s k hlt] at hg
    have H2 := Lib.hid fun w' => refblanks_any s (k + 1) w' hs (by omega)
    obtain ⟨c, hc⟩ : ∃ c, s[k] = c := ⟨_, rfl⟩
    rw [hc] at hg
    by_cases h10 : c = 10
    · have i10 : ((c.toNat : Int) == 10) = true := by rw [h10]; rfl
      rw [hg, if_pos (by rw [h10]; rfl)]
      obtain ⟨q, hq⟩ : ∃ q, blk s.data.toList (k + 1) = q := ⟨_, rfl⟩
      rw [hq] at H2 ⊢
      clear hg hk h10 hq hl
      go_enter Tryd.func40, Tryd.ntmps40
      go_wp2_with fail
      refine Calls.mono (H1.out _) ?_
      rintro e w' ⟨rfl, rfl⟩
      go_wp2_with fail
      (try rw [hc])
      go_wp2_with fail
      refine Calls.mono (H2.out _) ?_
      rintro e w' ⟨rfl, rfl⟩
      go_wp2
      go_ret
      exact ⟨rfl, rfl⟩
    · have i10 : ((c.toNat : Int) == 10) = false := by rw [show ((c.toNat : Int) == 10) = (c == 10) from beqc c 10]; exact beq_no h10
      rw [hg, if_neg (by simpa using h10)]
      clear hg hk h10 hl
      go_enter Tryd.func40, Tryd.ntmps40
      go_wp2_with fail
      refine Calls.mono (H1.out _) ?_
      rintro e w' ⟨rfl, rfl⟩
      go_wp2_with fail
      (try rw [hc])
      go_wp2
      go_ret
      exact ⟨rfl, rfl⟩
  · have hki : ¬ (k : Int) < (s.size : Int) := by omega
    rw [get_none s k hlt] at hg
    rw [hg, if_neg (by decide)]
    clear hg hk hl
    go_enter Tryd.func40, Tryd.ntmps40
    go_wp2_with fail
    refine Calls.mono (H1.out _) ?_
    rintro e w' ⟨rfl, rfl⟩
    go_wp2
    go_ret
    exact ⟨rfl, rfl⟩
def restI (o : Option Nat) : Int := match o with
  | some n => (n : Int)
  | none => -1
set_option maxRecDepth 100000 in
theorem refrest_any (s : ByteArray) (i : Nat) (w : World) (hs : s.size ≤ 1099511627776) (hi : i ≤ s.size) : Calls Tryd.prog 42 #[.string s, .int .i64 (i : Int)] w (IntR w (restI (lineN s.data.toList i))) := by
  have hl : s.data.toList.length = s.size := Array.length_toList
  have hb := (blk_in s.data.toList i (by omega)).2
  have H1 := Lib.hid fun w' => refblanks_any s i w' hs hi
  have hg : lineN s.data.toList i = match s.data.toList[blk s.data.toList i]? with
    | none => some (min (blk s.data.toList i + 1) s.data.toList.length)
    | some b => if b == 10 then some (min (blk s.data.toList i + 1) s.data.toList.length) else none := rfl
  obtain ⟨k, hk⟩ : ∃ k, blk s.data.toList i = k := ⟨_, rfl⟩
  rw [hk] at H1 hg hb
  rw [hl] at hb hg
  by_cases hlt : k < s.size
  · have hki : (k : Int) < (s.size : Int) := by omega
    have hks : ((k : Int) == (s.size : Int)) = false := by rw [beq_eq_false_iff_ne]; omega
    rw [get_list s k hlt] at hg
    obtain ⟨c, hc⟩ : ∃ c, s[k] = c := ⟨_, rfl⟩
    rw [hc] at hg
    simp only at hg
    by_cases h10 : c = 10
    · have i10 : ((c.toNat : Int) == 10) = true := by rw [h10]; rfl
      rw [if_pos (by rw [h10]; rfl), Nat.min_eq_left (by omega)] at hg
      rw [hg]
      show Calls _ _ _ _ (IntR w ((k + 1 : Nat) : Int))
      clear hg hk h10 hl
      go_enter Tryd.func42, Tryd.ntmps42
      go_wp2_with fail
      refine Calls.mono (H1.out _) ?_
      rintro e w' ⟨rfl, rfl⟩
      go_wp2_with fail
      (try rw [hc])
      go_wp2
      go_ret
      exact ⟨rfl, rfl⟩
    · have i10 : ((c.toNat : Int) == 10) = false := by rw [show ((c.toNat : Int) == 10) = (c == 10) from beqc c 10]; exact beq_no h10
      rw [if_neg (by simpa using h10)] at hg
      rw [hg]
      show Calls _ _ _ _ (IntR w (-1))
      clear hg hk h10 hl
      go_enter Tryd.func42, Tryd.ntmps42
      go_wp2_with fail
      refine Calls.mono (H1.out _) ?_
      rintro e w' ⟨rfl, rfl⟩
      go_wp2_with fail
      (try rw [hc])
      go_wp2
      go_ret
      exact ⟨rfl, rfl⟩
  · have hks2 : k = s.size := by omega
    have hks : ((k : Int) == (s.size : Int)) = true := by rw [hks2, beq_self_eq_true]
    rw [get_none s k hlt] at hg
    simp only at hg
    rw [Nat.min_eq_right (by omega), ← hks2] at hg
    rw [hg]
    show Calls _ _ _ _ (IntR w ((k : Nat) : Int))
    clear hg hk hl hks2
    go_enter Tryd.func42, Tryd.ntmps42
    go_wp2_with fail
    refine Calls.mono (H1.out _) ?_
    rintro e w' ⟨rfl, rfl⟩
    go_wp2
    go_ret
    exact ⟨rfl, rfl⟩
end Go.Proofs.YtbcfhpomclkccaaDoor
