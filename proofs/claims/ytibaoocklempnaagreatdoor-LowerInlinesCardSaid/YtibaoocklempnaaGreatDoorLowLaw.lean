/- tympanlaw30: LowerTexts and LowerInlines answer true. -/
import Derived.Test.YtibaoocklempnaaGreatDoorKnown30
import Derived.Test.YtibaoocklempnaaGreatDoorISame
namespace Go.Proofs.YtibaoocklempnaaGreatDoor
open Go.RowKit

theorem below_on {w a b : World} (h : Below w.heap.size w a) (k : Below a.heap.size a b) : Below w.heap.size w b := h.trans (k.mono h.size)
theorem Pow.later {w w' : World} (h : Pow w) (hb : Below w.heap.size w w') : Pow w' := ((PowB.mk' h).on hb).1
theorem mem_at (T : ByteArray) (k : Nat) (hk : k < T.size) : T[k] ∈ T.data.toList := by
  show T.data[k] ∈ T.data.toList
  exact Array.mem_def.1 (Array.getElem_mem _)

set_option maxHeartbeats 2000000 in
set_option maxRecDepth 100000 in
theorem texts_law (s : ByteArray) (w : World) (hP : Pow w) (hs : s.size ≤ 9223372036854775807) : Calls Tryz.prog 9 #[.string s] w (Yes w) := by
  have HP := Lib.hid hP
  clear hP
  by_cases hb : 3200 < s.size
  · go_enter Tryz.func9, Tryz.ntmps9
    go_wp2
    go_ret
    exact ⟨rfl, Below.refl _ _⟩
  · have hle := lowT_le s.data.toList
    have hno := lowT_no s.data.toList
    obtain ⟨T, hT⟩ : ∃ T : ByteArray, (⟨(lowT s.data.toList).toArray⟩ : ByteArray) = T := ⟨_, rfl⟩
    have hTl : T.data.toList = lowT s.data.toList := by rw [← hT]
    rw [← hTl, len_list, len_list] at hle
    rw [← hTl] at hno
    have HT := Lib.hid hT
    have HNO := Lib.hid hno
    clear hT hTl hno
    go_enter Tryz.func9, Tryz.ntmps9
    go_wp2_with fail
    refine Calls.mono (lowText_any s _ (by omega)) ?_
    rintro e w1 ⟨rfl, b1⟩
    rw [HT.out]
    have HB1 := Lib.hid b1
    clear b1
    go_wp2_with fail
    go_loop [4] (fun i => ∃ k : Nat, i = .int .i64 k ∧ k ≤ T.size) (fun i => T.size - (intOf i).toNat)
    case atStart => exact ⟨0, rfl, Nat.zero_le _⟩
    case round =>
      obtain ⟨k, rfl, hk⟩ := hrel
      by_cases hlt : k < T.size
      · have hki : (k : Int) < (T.size : Int) := by omega
        obtain ⟨n1, n2, n3⟩ := HNO.out _ (mem_at T k hlt)
        have z1 : ((T[k].toNat : Int) == 60) = false := u8_eqf n1
        have z2 : ((T[k].toNat : Int) == 62) = false := u8_eqf n2
        have z3 : ((T[k].toNat : Int) == 34) = false := u8_eqf n3
        clear n1 n2 n3
        go_wp2
        go_round
        case rel => exact ⟨k + 1, by go_num, hlt⟩
        case measure => simp [intOf]; omega
      · obtain rfl : k = T.size := by omega
        go_wp2_with fail
        refine Calls.mono (known_any w1 (HP.out.later HB1.out)) ?_
        rintro e w2 ⟨rfl, b2⟩
        have HB2 := Lib.hid b2
        clear b2
        go_wp2_with fail
        refine Calls.mono (reflowText_any s _ (by omega)) ?_
        rintro e w3 ⟨rfl, rfl⟩
        rw [HT.out]
        go_wp2
        go_ret
        exact ⟨rfl, below_on HB1.out HB2.out⟩

set_option maxHeartbeats 2000000 in
set_option maxRecDepth 100000 in
theorem inlines_law (n : Nat) (v : Value) (l : List (IT n)) (w : World) (hP : Pow w) (h : InlsAt n w (fun k => k < w.heap.size) v l) : Calls Tryz.prog 8 #[v] w (Yes w) := by
  have HP := Lib.hid hP
  have H := Lib.hid h
  obtain ⟨A, m, c, rfl⟩ := h.shape
  clear h hP
  go_enter Tryz.func8, Tryz.ntmps8
  go_wp2_with fail
  refine Calls.mono (inls_cnt n _ l 0 400 _ _ H.out (by decide) (by decide) (by decide) (by decide)) ?_
  rintro e w1 ⟨r, rfl, ⟨c1, c2, c3, c4⟩, d, rfl⟩
  by_cases hr : 400 < r
  · go_wp2
    go_ret
    exact ⟨rfl, row_drewN (Below.refl _ w) d⟩
  · have hw : iwt n l ≤ 1000000 := by have := c3 (by omega); omega
    clear c1 c2 c3 c4
    have hb1 : Below w.heap.size w (w.drewN d) := row_drewN (Below.refl _ w) d
    have HB1 := Lib.hid hb1
    clear hb1
    obtain ⟨X, hX⟩ : ∃ X : ByteArray, (⟨(inlOut n l).toArray⟩ : ByteArray) = X := ⟨_, rfl⟩
    obtain ⟨Y, hY⟩ : ∃ Y : ByteArray, (⟨(plainOut n l).toArray⟩ : ByteArray) = Y := ⟨_, rfl⟩
    have HX := Lib.hid hX
    have HY := Lib.hid hY
    clear hX hY
    go_wp2_with fail
    refine Calls.mono (lent_inls n _ l _ _ (H.out.drewN d) (fun k hk => hk) hw) ?_
    rintro e w2 ⟨v', rfl, b2, h2⟩
    obtain ⟨A', m', c', rfl⟩ := h2.shape
    have H2 := Lib.hid h2
    have HB2 := Lib.hid (below_on HB1.out b2)
    clear h2 b2
    go_wp2_with fail
    refine Calls.mono (lowInlines_any n _ l _ _ H2.out (fun k hk => hk.2) hw) ?_
    rintro e w3 ⟨rfl, b3⟩
    rw [HX.out]
    have HB3 := Lib.hid b3
    clear b3
    go_wp2_with fail
    refine Calls.mono (known_any _ (HP.out.later (below_on HB2.out HB3.out))) ?_
    rintro e w4 ⟨rfl, b4⟩
    have HB4 := Lib.hid (below_on HB3.out b4)
    clear b4
    go_wp2_with fail
    refine Calls.mono (refinlines_any n _ l (fun k => k < w.heap.size) _ (InlsAt.keep (fun k hk => (below_on HB2.out HB4.out).block k hk) n H.out) (fun k hk => Nat.lt_of_lt_of_le hk (below_on HB2.out HB4.out).size) hw) ?_
    rintro e w5 ⟨rfl, b5⟩
    rw [HX.out]
    have HB5 := Lib.hid (below_on HB4.out b5)
    clear b5
    go_wp2_with fail
    refine Calls.mono (plain_any n _ l _ _ (InlsAt.keep (fun k hk => HB5.out.block k hk.2) n H2.out) (fun k hk => Nat.lt_of_lt_of_le hk.2 HB5.out.size) hw) ?_
    rintro e w6 ⟨rfl, b6⟩
    rw [HY.out]
    have HB6 := Lib.hid (below_on HB5.out b6)
    clear b6
    go_wp2_with fail
    refine Calls.mono (refplain_any n _ l (fun k => k < w.heap.size) _ (InlsAt.keep (fun k hk => (below_on HB2.out HB6.out).block k hk) n H.out) (fun k hk => Nat.lt_of_lt_of_le hk (below_on HB2.out HB6.out).size) hw) ?_
    rintro e w7 ⟨rfl, b7⟩
    rw [HY.out]
    have HB7 := Lib.hid (below_on HB6.out b7)
    clear b7
    go_wp2_with fail
    refine Calls.mono (same_inls n _ _ l (New (w.drewN d) w2) (fun k => k < w.heap.size) _ (InlsAt.keep (fun k hk => HB7.out.block k hk.2) n H2.out) (InlsAt.keep (fun k hk => (below_on HB2.out HB7.out).block k hk) n H.out) (fun k hk => Nat.lt_of_lt_of_le hk.2 HB7.out.size) (fun k hk => Nat.lt_of_lt_of_le hk (below_on HB2.out HB7.out).size)) ?_
    rintro e w8 ⟨rfl, b8⟩
    go_wp2
    go_ret
    exact ⟨rfl, below_on (below_on HB2.out HB7.out) b8⟩
end Go.Proofs.YtibaoocklempnaaGreatDoor
