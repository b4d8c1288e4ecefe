/- strings.IndexRune at a rune above ASCII, in two bytes of ASCII: it is not there. -/
import Derived.Test.YtbcfhpomclkccaaDoorRsCut
import Derived.Test.YtbcfhpomclkccaaDoorRsLab
import Derived.Test.YtbcfhpomclkccaaDoorShelfA
import Derived.Laws.RangeAny
import Derived.Deep.LoopGhost
import Derived.IntWalk
import Derived.WalkMore
import Derived.Deep.Cut
import Derived.Deep.QuietTactic
namespace Go.Proofs.YtbcfhpomclkccaaDoor
open Go.RowKit

def lastOf (e : ByteArray) (m : Nat) (b : UInt8) : Prop := e.size = m + 1 ∧ 1 ≤ m ∧ m ≤ 3 ∧ (∃ h : m < e.size, e[m]'h = b) ∧ 128 ≤ b.toNat
theorem enc_last (r : Int) (h : 128 ≤ r) : ∃ (m : Nat) (b : UInt8), lastOf (Utf8.encode r) m b := by
  have hk : ∀ k : Nat, 128 ≤ (UInt8.ofNat (128 + k % 64)).toNat := fun k => by
    rw [UInt8.toNat_ofNat']
    omega
  unfold Utf8.encode
  simp only []
  generalize hc : (if Utf8.valid r = true then r.toNat else Utf8.runeError) = c
  have hc' : 128 ≤ c := by
    rw [← hc]
    split
    · omega
    · decide
  rw [if_neg (by omega)]
  split
  · exact ⟨1, _, rfl, by omega, by omega, ⟨(by show _ < _; exact Nat.lt_succ_self _), rfl⟩, hk _⟩
  · split
    · exact ⟨2, _, rfl, by omega, by omega, ⟨(by show _ < _; exact Nat.lt_succ_self _), rfl⟩, hk _⟩
    · exact ⟨3, _, rfl, by omega, by omega, ⟨(by show _ < _; exact Nat.lt_succ_self _), rfl⟩, hk _⟩

def validB (r : Int) : Bool := (decide (0 ≤ r) && decide (r < 55296)) || (decide (57343 < r) && decide (r ≤ 1114111))
set_option maxRecDepth 100000 in
theorem valid_any (r : Int) (w : World) : Calls Tryd.prog 88 #[.int .i32 r] w fun e w' => e = .returned (.bool (validB r)) ∧ w' = w := by
  obtain ⟨x, hx⟩ : ∃ x, validB r = x := ⟨_, rfl⟩
  rw [hx]
  unfold validB at hx
  by_cases h1 : (0 : Int) ≤ r
  · by_cases h2 : r < 55296
    · rw [decide_eq_true h1, decide_eq_true h2] at hx
      have HX := Lib.hid hx
      clear hx
      go_enter Tryd.func88, Tryd.ntmps88
      go_wp2_with fail
      go_ret
      exact ⟨by rw [← HX.out]; rfl, rfl⟩
    · by_cases h3 : (57343 : Int) < r
      · by_cases h4 : r ≤ 1114111
        · rw [decide_eq_true h1, decide_eq_false h2, decide_eq_true h3, decide_eq_true h4] at hx
          have HX := Lib.hid hx
          clear hx
          go_enter Tryd.func88, Tryd.ntmps88
          go_wp2_with fail
          go_ret
          exact ⟨by rw [← HX.out]; rfl, rfl⟩
        · rw [decide_eq_true h1, decide_eq_false h2, decide_eq_true h3, decide_eq_false h4] at hx
          have HX := Lib.hid hx
          clear hx
          go_enter Tryd.func88, Tryd.ntmps88
          go_wp2_with fail
          go_ret
          exact ⟨by rw [← HX.out]; rfl, rfl⟩
      · rw [decide_eq_true h1, decide_eq_false h2, decide_eq_false h3] at hx
        have HX := Lib.hid hx
        clear hx
        go_enter Tryd.func88, Tryd.ntmps88
        go_wp2_with fail
        go_ret
        exact ⟨by rw [← HX.out]; rfl, rfl⟩
  · have h3 : ¬ (57343 : Int) < r := by omega
    rw [decide_eq_false h1, decide_eq_false h3] at hx
    have HX := Lib.hid hx
    clear hx
    go_enter Tryd.func88, Tryd.ntmps88
    go_wp2_with fail
    go_ret
    exact ⟨by rw [← HX.out]; rfl, rfl⟩
def InR (w : World) (e : Ending) (w' : World) : Prop := e = .returned (.int .i64 (-1)) ∧ Below w.heap.size w w'
set_option maxRecDepth 100000 in
set_option maxHeartbeats 2000000 in
theorem rune_bad (s : ByteArray) (r : Int) (w : World) (h : 128 ≤ r) (hr : r ≠ 65533) (hv : validB r = false) : Calls Tryd.prog 56 #[.string s, .int .i32 r] w (InR w) := by
  have h1 : ¬ r < 128 := by omega
  have h2 : (0 : Int) ≤ r := by omega
  have h3 : (r == 65533) = false := beq_eq_false_iff_ne.2 hr
  have HV := valid_any r w
  rw [hv] at HV
  have HVH := Lib.hid HV
  clear HV hv hr h
  go_enter Tryd.func56, Tryd.ntmps56
  go_wp2_with fail
  refine Calls.mono HVH.out ?_
  rintro e w1 ⟨rfl, hw⟩
  rw [hw]
  clear hw
  go_wp2_with fail
  go_ret
  exact ⟨rfl, Below.refl _ _⟩
set_option maxRecDepth 100000 in
set_option maxHeartbeats 4000000 in
theorem rune_fffd (s : ByteArray) (w : World) (hs : s.size = 2) (x y : UInt8) (h0 : s[0]'(by omega) = x) (h1 : s[1]'(by omega) = y) (hx : x.toNat < 128) (hy : y.toNat < 128) : Calls Tryd.prog 56 #[.string s, .int .i32 65533] w (InR w) := by
  have n0 := fun ty => run_next_ascii (P := Tryd.prog) w s 0 ty (by omega) (by rw [h0]; exact hx)
  have n1 := fun ty => run_next_ascii (P := Tryd.prog) w s 1 ty (by omega) (by rw [h1]; exact hy)
  have n2 := fun ty => run_next_end (P := Tryd.prog) w s 2 ty (by omega)
  rw [h0] at n0
  rw [h1] at n1
  have e0 : ((x.toNat : Int) == 65533) = false := beq_eq_false_iff_ne.2 (by omega)
  have e1 : ((y.toNat : Int) == 65533) = false := beq_eq_false_iff_ne.2 (by omega)
  clear h0 h1 hx hy hs
  go_enter Tryd.func56, Tryd.ntmps56
  go_wp2
  refine wp_loop_rounds 3 ?_
  rw [rounds_succ]
  go_wp2
  rw [rounds_succ]
  go_wp2
  rw [rounds_succ]
  go_wp2
  go_ret
  refine ⟨rfl, ?_⟩
  first | exact (Below.refl _ _).alloc (Nat.le_refl _) _ | trace_state
set_option maxRecDepth 100000 in
theorem iB0 (s : ByteArray) (c : Int) (w : World) : Calls Tryd.prog 87 #[.string s, .int .u8 c] w fun e w' => e = .returned (.int .i64 (Lib.indexByte s.data.toList c.toNat.toUInt8)) ∧ w' = w := Any.strings_IndexByte { Tryd.lays153 with } s c w
theorem iB_any (s : ByteArray) (c : UInt8) (w : World) : Calls Tryd.prog 87 #[.string s, .int .u8 (c.toNat : Int)] w fun e w' => e = .returned (.int .i64 (Lib.indexByte s.data.toList c)) ∧ w' = w := by
  have h := iB0 s (c.toNat : Int) w
  rw [show ((c.toNat : Int)).toNat.toUInt8 = c from by simp] at h
  exact h
set_option maxRecDepth 100000 in
set_option maxHeartbeats 4000000 in
theorem rune_val (s : ByteArray) (r : Int) (w : World) (hs : s.size = 2) (y : UInt8) (h1 : s[1]'(by omega) = y) (hy : y.toNat < 128) (h : 128 ≤ r) (hr : r ≠ 65533) (hv : validB r = true) : Calls Tryd.prog 56 #[.string s, .int .i32 r] w (InR w) := by
  have p1 : ¬ r < 128 := by omega
  have p2 : (0 : Int) ≤ r := by omega
  have p3 : (r == 65533) = false := beq_eq_false_iff_ne.2 hr
  have HV := valid_any r w
  rw [hv] at HV
  have HVH := Lib.hid HV
  obtain ⟨m, b, hz, hm1, hm3, ⟨hmz, hb⟩, hb128⟩ := enc_last r h
  clear HV hv hr h
  by_cases hm : m = 1
  · subst hm
    have q1 : IntKind.i64.wrap (((Utf8.encode r).size : Int) - 1) = 1 := by rw [hz]; rfl
    have q2 : (1 : Int) < (s.size : Int) := by omega
    have q3 : 1 < s.size := by omega
    have q4 : ((y.toNat : Int) == (b.toNat : Int)) = false := beq_eq_false_iff_ne.2 (by omega)
    have q5 : (2 : Int) ≤ (s.size : Int) := by omega
    have q6 : (1 : Int) < ((Utf8.encode r).size : Int) := by omega
    have q7 : Lib.indexByte (s.extract 2 s.size).data.toList b = -1 := by
      have : (s.extract 2 s.size).data.toList = [] := by
        apply List.eq_nil_of_length_eq_zero
        rw [Array.length_toList]
        show (s.extract 2 s.size).size = 0
        rw [ByteArray.size_extract]
        omega
      rw [this]
      rfl
    have q8 : IntKind.i64.wrap 2 = 2 := by decide
    have HI := fun w2 : World => iB_any (s.extract 2 s.size) b w2
    rw [q7] at HI
    have HIH := Lib.hid HI
    have h1' : s[1]'q3 = y := h1
    clear HI q7 hz hm1 hm3 hb128 hy h1 hs
    go_enter Tryd.func56, Tryd.ntmps56
    go_wp2_with fail
    refine Calls.mono HVH.out ?_
    rintro e w1 ⟨rfl, hw⟩
    rw [hw]
    clear hw
    go_wp2_with fail
    go_step3
    go_wp2_with fail
    refine wp_loop_rounds 1 ?_
    rw [rounds_succ]
    go_wp2_with fail
    go_step3
    go_wp2_with fail
    go_quiet (fail)
    go_wp2_with fail
    go_quiet ((exact quiet_more (HIH.out _)))
    go_wp2_with fail
    show bodyPost Tryd.prog Tryd.f56 (InR w) .ret _ _
    go_ret
    exact ⟨rfl, below_drewN (Below.refl _ _) _⟩
  · have q1 : IntKind.i64.wrap (((Utf8.encode r).size : Int) - 1) = (m : Int) := by rw [hz, IntWalk.i64_in _ (by omega)]; omega
    have q2 : ¬ (m : Int) < (s.size : Int) := by omega
    clear hz hm1 hm3 hb128 hy h1 hs hb hmz hm
    go_enter Tryd.func56, Tryd.ntmps56
    go_wp2_with fail
    refine Calls.mono HVH.out ?_
    rintro e w1 ⟨rfl, hw⟩
    rw [hw]
    clear hw
    go_wp2_with fail
    go_step3
    go_wp2_with fail
    refine wp_loop_rounds 1 ?_
    rw [rounds_succ]
    go_wp2_with fail
    go_ret
    exact ⟨rfl, Below.refl _ _⟩
/-- strings.IndexRune in two ASCII bytes, at what is no ASCII. -/
theorem rune_any (s : ByteArray) (r : Int) (w : World) (hs : s.size = 2) (x y : UInt8) (h0 : s[0]'(by omega) = x) (h1 : s[1]'(by omega) = y) (hx : x.toNat < 128) (hy : y.toNat < 128) (h : 128 ≤ r) : Calls Tryd.prog 56 #[.string s, .int .i32 r] w (InR w) := by
  by_cases hr : r = 65533
  · subst hr
    exact rune_fffd s w hs x y h0 h1 hx hy
  · by_cases hv : validB r = true
    · exact rune_val s r w hs y h1 hy h hr hv
    · exact rune_bad s r w h hr (by simpa using hv)
#print axioms valid_any
end Go.Proofs.YtbcfhpomclkccaaDoor
