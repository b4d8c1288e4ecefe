/- refs: a text's byte, its step, and up to a sign. -/
import Derived.Test.YtbcfhpomclkccaaDoorRsBase
import Derived.Test.YtbcfhpomclkccaaDoorRow
import Derived.Test.YtbcfhpomclkccaaDoorAcc
import Derived.Lib.SmallJoins
import Derived.Deep.QuietTactic
import Derived.Deep.LoopGhost
namespace Go.Proofs.YtbcfhpomclkccaaDoor
open Go.RowKit

def isB (l : List UInt8) (i : Int) (c : UInt8) : Bool := decide (0 ≤ i) && (l[i.toNat]? == some c)
theorem beq_get (s : ByteArray) (k : Nat) (h : k < s.size) (c : UInt8) : (s.data.toList[k]? == some c) = (s[k] == c) := by rw [get_list s k h]; rfl
set_option maxRecDepth 100000 in
theorem is_any (s : ByteArray) (i : Int) (c : UInt8) (w : World) (_ : s.size ≤ 1099511627776) : Calls Tryd.prog 35 #[.string s, .int .i64 i, .int .u8 (c.toNat : Int)] w (RB w (isB s.data.toList i c)) := by
  by_cases h0 : 0 ≤ i
  · obtain ⟨k, rfl⟩ : ∃ k : Nat, i = k := ⟨i.toNat, by omega⟩
    by_cases hk : k < s.size
    · obtain ⟨q, hq⟩ : ∃ q, (s[k] == c) = q := ⟨_, rfl⟩
      have hv : isB s.data.toList (k : Int) c = q := by
        unfold isB
        rw [decide_eq_true h0, Int.toNat_natCast, beq_get s k hk, hq]
        rfl
      rw [hv]
      have hq2 : ((s[k].toNat : Int) == (c.toNat : Int)) = q := by rw [beqc]; exact hq
      have hki : (k : Int) < (s.size : Int) := by omega
      clear hv hq
      go_enter Tryd.func35, Tryd.ntmps35
      go_wp2
      go_ret
      exact ⟨rfl, rfl⟩
    · have hv : isB s.data.toList (k : Int) c = false := by
        unfold isB
        rw [Int.toNat_natCast, get_none s k hk]
        simp
      rw [hv]
      clear hv
      go_enter Tryd.func35, Tryd.ntmps35
      go_wp2
      go_ret
      exact ⟨rfl, rfl⟩
  · have hv : isB s.data.toList i c = false := by unfold isB; rw [decide_eq_false h0]; rfl
    rw [hv]
    clear hv
    go_enter Tryd.func35, Tryd.ntmps35
    go_wp2
    go_ret
    exact ⟨rfl, rfl⟩
/-- How many bytes stand as one. -/
def stepL (l : List UInt8) (i : Nat) : Nat := if l[i]? == some 92 then (match l[i + 1]? with
    | some c => if signB c then 2 else 1
    | none => 1) else 1
theorem stepL_in (l : List UInt8) (i : Nat) : 1 ≤ stepL l i ∧ stepL l i ≤ 2 := by
  unfold stepL
  split
  · split
    · split <;> omega
    · omega
  · omega
theorem stepL_le (l : List UInt8) (i : Nat) (h : i < l.length) : i + stepL l i ≤ l.length := by
  unfold stepL
  split
  · split
    · rename_i hc
      have := (List.getElem?_eq_some_iff.1 hc).1
      split <;> omega
    · omega
  · omega
def IntR (w : World) (n : Int) (e : Ending) (w' : World) : Prop := e = .returned (.int .i64 n) ∧ w = w'
set_option maxRecDepth 100000 in
theorem step_any (s : ByteArray) (k : Nat) (w : World) (hs : s.size ≤ 1099511627776) (hk : k ≤ 1099511627776) : Calls Tryd.prog 52 #[.string s, .int .i64 (k : Int)] w (IntR w (stepL s.data.toList k : Nat)) := by
  have HI := Lib.hid (is_any s (k : Int) 92 w hs)
  have hi : isB s.data.toList (k : Int) 92 = (s.data.toList[k]? == some 92) := by unfold isB; rw [decide_eq_true (by omega), Int.toNat_natCast]; rfl
  rw [hi] at HI
  obtain ⟨q, hq⟩ : ∃ q, (s.data.toList[k]? == some 92) = q := ⟨_, rfl⟩
  rw [hq] at HI
  cases q with
  | false =>
    have hv : stepL s.data.toList k = 1 := by unfold stepL; rw [hq]; rfl
    rw [hv]
    clear hv hi hq
    go_enter Tryd.func52, Tryd.ntmps52
    go_wp2_with fail
    refine Calls.mono HI.out ?_
    rintro e w' ⟨rfl, rfl⟩
    go_wp2
    go_ret
    exact ⟨rfl, rfl⟩
  | true =>
    by_cases h2 : k + 1 < s.size
    · obtain ⟨sg, hsg⟩ : ∃ sg, signB s[k + 1] = sg := ⟨_, rfl⟩
      have hv : stepL s.data.toList k = if sg then 2 else 1 := by
        unfold stepL
        rw [hq, get_list s (k + 1) h2]
        simp only [hsg, if_true]
      have HSg := Lib.hid (sign_any s[k + 1] w)
      rw [hsg] at HSg
      rw [hv]
      have hki : (k : Int) + 1 < (s.size : Int) := by omega
      clear hv hi hq hsg
      cases sg with
      | false =>
        go_enter Tryd.func52, Tryd.ntmps52
        go_wp2_with fail
        refine Calls.mono HI.out ?_
        rintro e w' ⟨rfl, rfl⟩
        go_wp2_with fail
        refine Calls.mono HSg.out ?_
        rintro e w' ⟨rfl, rfl⟩
        go_wp2
        go_ret
        exact ⟨rfl, rfl⟩
      | true =>
        go_enter Tryd.func52, Tryd.ntmps52
        go_wp2_with fail
        refine Calls.mono HI.out ?_
        rintro e w' ⟨rfl, rfl⟩
        go_wp2_with fail
        refine Calls.mono HSg.out ?_
        rintro e w' ⟨rfl, rfl⟩
        go_wp2
        go_ret
        exact ⟨rfl, rfl⟩
    · have hv : stepL s.data.toList k = 1 := by
        unfold stepL
        rw [hq, get_none s (k + 1) h2]
        rfl
      rw [hv]
      have hki : ¬ (k : Int) + 1 < (s.size : Int) := by omega
      clear hv hi hq
      go_enter Tryd.func52, Tryd.ntmps52
      go_wp2_with fail
      refine Calls.mono HI.out ?_
      rintro e w' ⟨rfl, rfl⟩
      go_wp2
      go_ret
      exact ⟨rfl, rfl⟩
/-- Up to a sign that is not escaped. -/
def upF (l : List UInt8) (e : UInt8) (may : UInt8 → Bool) : Nat → Nat → Nat × Bool
  | 0, i => (i, false)
  | f + 1, i => match l[i]? with
    | none => (i, false)
    | some b => if stepL l i = 1 then (if b == e then (i, true) else if may b then upF l e may f (i + 1) else (i, false)) else upF l e may f (i + 2)
def CurAt (w : World) (cb : Nat) (s : ByteArray) (i : Nat) : Prop := w.heap[cb]? = some (.cells #[.string s, .int .i64 (i : Int)] 63 (0, 0))
def CurR (w : World) (cb : Nat) (s : ByteArray) (x : Nat × Bool) (e : Ending) (w' : World) : Prop := e = .returned (.bool x.2) ∧ CurAt w' cb s x.1 ∧ w.grownBy w' (some cb)
theorem grown_refl (w : World) (r : Option Nat) : w.grownBy w r := ⟨rfl, rfl, rfl, Nat.le_refl _, fun _ _ _ => rfl⟩
theorem grown_drewN {w w' : World} {r : Option Nat} (h : w.grownBy w' r) (d : Nat) : w.grownBy (w'.drewN d) r := ⟨h.os, h.tape, h.output, h.size, h.block⟩
theorem grown_put {w w' : World} {n : Nat} (h : w.grownBy w' (some n)) (o : Nat) (u : Value) : w.grownBy (w'.setCell ⟨n, o, none⟩ u) (some n) :=
  ⟨h.os, h.tape, h.output, by rw [size_setCell]; exact h.size, fun k hk hn => by rw [Below.heap_setCell _ _ _ _ (fun e => hn (by rw [e]))]; exact h.block k hk hn⟩
theorem cur_put {w : World} {cb i j : Nat} {s : ByteArray} (h : CurAt w cb s i) : CurAt (w.setCell ⟨cb, 1, none⟩ (.int .i64 (j : Int))) cb s j := by
  have := Joins.block_setCell h (i := 1) (.int .i64 (j : Int))
  unfold CurAt
  simpa using this
/-- A quiet call where draws stand already. -/
theorem quiet_more {P : Program} {f : FuncId} {args : Array Value} {w : World} {a n : Nat} {v : Value} (h : Calls P f args (w.drewN (a + n)) fun e w' => e = .returned v ∧ w' = w.drewN (a + n)) : Calls P f args (w.drewN (a + n)) fun e w'' => e = .returned v ∧ ∃ m, w'' = w.drewN (a + m) :=
  h.mono fun _ _ ⟨he, hm⟩ => ⟨he, n, hm⟩
def UpW (l : List UInt8) (e : UInt8) (may : UInt8 → Bool) (s : ByteArray) (cb : Nat) (E : Nat × Bool) (w : World) (g : Nat) (v : Value) (wr : World) : Prop :=
  v = .bool false ∧ ∃ k f : Nat, k + g = s.size ∧ s.size ≤ k + f ∧ upF l e may f k = E ∧ CurAt wr cb s k ∧ w.grownBy wr (some cb)
set_option maxHeartbeats 4000000 in
set_option maxRecDepth 100000 in
theorem upTo_label (s : ByteArray) (i cb : Nat) (en : UInt8) (may : UInt8 → Bool) (w : World) (hs : s.size ≤ 1099511627776) (hi : i ≤ s.size) (hc : CurAt w cb s i) (hm : ∀ (b : UInt8) (w' : World), w.grownBy w' (some cb) → Calls Tryd.prog 45 #[.int .u8 (b.toNat : Int)] w' (RB w' (may b))) :
    Calls Tryd.prog 44 #[.pointer (some ⟨cb, 0, none⟩), .int .u8 (en.toNat : Int), .func (.func 45) #[] #[]] w (CurR w cb s (upF s.data.toList en may s.size i)) := by
  obtain ⟨E, hE⟩ : ∃ E, upF s.data.toList en may s.size i = E := ⟨_, rfl⟩
  rw [hE]
  have hcb : cb < w.heap.size := (Array.getElem?_eq_some_iff.1 (show w.heap[cb]? = _ from hc)).1
  have H0 := Lib.hid (show UpW s.data.toList en may s cb E w (s.size - i) (.bool false) w from ⟨rfl, i, s.size, by omega, by omega, hE, hc, grown_refl _ _⟩)
  have HM := Lib.hid hm
  have HSt := Lib.hid fun (k : Nat) (hk : k ≤ s.size) (w' : World) (d : Nat) => (step_any s k (w'.drewN d) hs (by omega)).mono fun e w2 (h : IntR (w'.drewN d) _ e w2) => (⟨h.1, h.2.symm⟩ : e = .returned (.int .i64 (stepL s.data.toList k : Nat)) ∧ w2 = w'.drewN d)
  clear hE hc hm
  go_enter Tryd.func44, Tryd.ntmps44
  go_wp2_with fail
  go_loopg [6] (s.size - i) (fun g v wr => UpW s.data.toList en may s cb E w g v wr)
  case atStart => exact H0.out
  case round =>
    obtain ⟨rfl, k, f, hk, hf, hu, hc, hgr⟩ := hrel
    have hcb' : cb < wr.heap.size := Nat.lt_of_lt_of_le hcb hgr.size
    have c01 := fun j => cell_of_row wr cb j _ _ _ hc
    have c0 : wr.cell? ⟨cb, 0, none⟩ = some (.string s) := c01 0
    have c1 : wr.cell? ⟨cb, 1, none⟩ = some (.int .i64 (k : Int)) := c01 1
    have fz : ∀ j, wr.frozen? ⟨cb, j, none⟩ = false := (fun j => by simp [World.frozen?, show wr.heap[cb]? = _ from hc])
    have HU := Lib.hid hu; have HC := Lib.hid hc; have HG := Lib.hid hgr; have HK := Lib.hid hk
    clear hu hc hgr c01 H0 hk
    by_cases hlt : k < s.size
    · have hki : (k : Int) < (s.size : Int) := by omega
      have hk0 : (0 : Int) ≤ (k : Int) := by omega
      have HS1 := Lib.hid fun (w2 : World) d => HSt.out k (by omega) w2 d
      obtain ⟨f', hf'⟩ : ∃ f', f = f' + 1 := ⟨f - 1, by have := HK.out; omega⟩
      have hu := HU.out
      rw [hf', upF, get_list s k hlt] at hu
      simp only at hu
      have hst := stepL_in s.data.toList k
      have hsl := stepL_le s.data.toList k (by simpa using hlt)
      have hsl2 : s.data.toList.length = s.size := Array.length_toList
      have hsl3 : k + stepL s.data.toList k ≤ s.size := by omega
      obtain ⟨b, hb⟩ : ∃ b, s[k] = b := ⟨_, rfl⟩
      rw [hb] at hu
      obtain ⟨n, hn⟩ : ∃ n, stepL s.data.toList k = n := ⟨_, rfl⟩
      rw [hn] at hu HS1 hst hsl3
      have HMb := Lib.hid (HM.out b)
      obtain ⟨q, hq⟩ : ∃ q, (b == en) = q := ⟨_, rfl⟩
      obtain ⟨m, hm⟩ : ∃ m, may b = m := ⟨_, rfl⟩
      rw [hq, hm] at hu
      rw [hm] at HMb
      have hq2 : ((b.toNat : Int) == (en.toNat : Int)) = q := by rw [beqc]; exact hq
      have HU2 := Lib.hid hu
      have hn1 : n = 1 ∨ n = 2 := by omega
      clear hu hn hq hm HU hsl2 hsl
      rcases hn1 with rfl | rfl
      · cases q with
        | true =>
          have hE : (k, true) = E := by have := HU2.out; simpa using this
          have HE := Lib.hid hE
          clear hE HU2
          go_wp2_with fail
          go_quiet (fail)
          go_wp2_with fail
          go_quiet (fail)
          (try rw [hb])
          go_wp2_with fail
          go_quiet ((go_at_call 52; exact quiet_more (HS1.out _ _)))
          go_wp2
          go_ret
          rw [← HE.out]
          exact ⟨rfl, HC.out, grown_drewN HG.out _⟩
        | false =>
          cases m with
          | true =>
            have hE : upF s.data.toList en may f' (k + 1) = E := by have := HU2.out; simpa using this
            have HE := Lib.hid hE
            clear hE HU2
            go_wp2_with fail
            go_quiet (fail)
            go_wp2_with fail
            go_quiet (fail)
            (try rw [hb])
            go_wp2_with fail
            go_quiet ((go_at_call 52; exact quiet_more (HS1.out _ _)))
            go_wp2_with fail
            refine Calls.mono (HMb.out _ (grown_drewN HG.out _)) ?_
            rintro e w' ⟨rfl, rfl⟩
            go_wp2
            go_roundg (s.size - (k + 1))
            case measure => have := HK.out; omega
            case rel => exact ⟨rfl, k + 1, f', by omega, by have := HK.out; omega, HE.out, by first | exact cur_put HC.out | exact cur_put (i := k) HC.out, grown_put (grown_drewN HG.out _) _ _⟩
          | false =>
            have hE : (k, false) = E := by have := HU2.out; simpa using this
            have HE := Lib.hid hE
            clear hE HU2
            go_wp2_with fail
            go_quiet (fail)
            go_wp2_with fail
            go_quiet (fail)
            (try rw [hb])
            go_wp2_with fail
            go_quiet ((go_at_call 52; exact quiet_more (HS1.out _ _)))
            go_wp2_with fail
            refine Calls.mono (HMb.out _ (grown_drewN HG.out _)) ?_
            rintro e w' ⟨rfl, rfl⟩
            go_wp2
            go_ret
            rw [← HE.out]
            exact ⟨rfl, HC.out, grown_drewN HG.out _⟩
      · have hE : upF s.data.toList en may f' (k + 2) = E := by have := HU2.out; simpa using this
        have HE := Lib.hid hE
        clear hE HU2
        cases q with
        | true =>
          go_wp2_with fail
          go_quiet (fail)
          go_wp2_with fail
          go_quiet (fail)
          (try rw [hb])
          go_wp2_with fail
          go_quiet ((go_at_call 52; exact quiet_more (HS1.out _ _)))
          go_wp2
          go_roundg (s.size - (k + 2))
          case measure => have := HK.out; omega
          case rel => exact ⟨rfl, k + 2, f', by omega, by have := HK.out; omega, HE.out, by first | exact cur_put HC.out | exact cur_put (i := k) HC.out, grown_put (grown_drewN HG.out _) _ _⟩
        | false =>
          go_wp2_with fail
          go_quiet (fail)
          go_wp2_with fail
          go_quiet (fail)
          (try rw [hb])
          go_wp2_with fail
          go_quiet ((go_at_call 52; exact quiet_more (HS1.out _ _)))
          go_wp2
          go_roundg (s.size - (k + 2))
          case measure => have := HK.out; omega
          case rel => exact ⟨rfl, k + 2, f', by omega, by have := HK.out; omega, HE.out, by first | exact cur_put HC.out | exact cur_put (i := k) HC.out, grown_put (grown_drewN HG.out _) _ _⟩
    · obtain rfl : k = s.size := by have := HK.out; omega
      have hu := HU.out
      have hE : (s.size, false) = E := by
        rw [← hu]
        cases f with
        | zero => rfl
        | succ f => rw [upF, get_none s s.size (Nat.lt_irrefl _)]
      have HE := Lib.hid hE
      clear hu hE HU
      go_wp2_with fail
      go_quiet (fail)
      go_wp2
      go_ret
      rw [← HE.out]
      exact ⟨rfl, HC.out, grown_drewN HG.out _⟩
set_option maxHeartbeats 4000000 in
set_option maxRecDepth 100000 in
theorem upTo_dest (s : ByteArray) (i cb : Nat) (en : UInt8) (may : UInt8 → Bool) (w : World) (hs : s.size ≤ 1099511627776) (hi : i ≤ s.size) (hc : CurAt w cb s i) (hm : ∀ (b : UInt8) (w' : World), w.grownBy w' (some cb) → Calls Tryd.prog 51 #[.int .u8 (b.toNat : Int)] w' (RB w' (may b))) :
    Calls Tryd.prog 44 #[.pointer (some ⟨cb, 0, none⟩), .int .u8 (en.toNat : Int), .func (.func 51) #[] #[]] w (CurR w cb s (upF s.data.toList en may s.size i)) := by
  obtain ⟨E, hE⟩ : ∃ E, upF s.data.toList en may s.size i = E := ⟨_, rfl⟩
  rw [hE]
  have hcb : cb < w.heap.size := (Array.getElem?_eq_some_iff.1 (show w.heap[cb]? = _ from hc)).1
  have H0 := Lib.hid (show UpW s.data.toList en may s cb E w (s.size - i) (.bool false) w from ⟨rfl, i, s.size, by omega, by omega, hE, hc, grown_refl _ _⟩)
  have HM := Lib.hid hm
  have HSt := Lib.hid fun (k : Nat) (hk : k ≤ s.size) (w' : World) (d : Nat) => (step_any s k (w'.drewN d) hs (by omega)).mono fun e w2 (h : IntR (w'.drewN d) _ e w2) => (⟨h.1, h.2.symm⟩ : e = .returned (.int .i64 (stepL s.data.toList k : Nat)) ∧ w2 = w'.drewN d)
  clear hE hc hm
  go_enter Tryd.func44, Tryd.ntmps44
  go_wp2_with fail
  go_loopg [6] (s.size - i) (fun g v wr => UpW s.data.toList en may s cb E w g v wr)
  case atStart => exact H0.out
  case round =>
    obtain ⟨rfl, k, f, hk, hf, hu, hc, hgr⟩ := hrel
    have hcb' : cb < wr.heap.size := Nat.lt_of_lt_of_le hcb hgr.size
    have c01 := fun j => cell_of_row wr cb j _ _ _ hc
    have c0 : wr.cell? ⟨cb, 0, none⟩ = some (.string s) := c01 0
    have c1 : wr.cell? ⟨cb, 1, none⟩ = some (.int .i64 (k : Int)) := c01 1
    have fz : ∀ j, wr.frozen? ⟨cb, j, none⟩ = false := (fun j => by simp [World.frozen?, show wr.heap[cb]? = _ from hc])
    have HU := Lib.hid hu; have HC := Lib.hid hc; have HG := Lib.hid hgr; have HK := Lib.hid hk
    clear hu hc hgr c01 H0 hk
    by_cases hlt : k < s.size
    · have hki : (k : Int) < (s.size : Int) := by omega
      have hk0 : (0 : Int) ≤ (k : Int) := by omega
      have HS1 := Lib.hid fun (w2 : World) d => HSt.out k (by omega) w2 d
      obtain ⟨f', hf'⟩ : ∃ f', f = f' + 1 := ⟨f - 1, by have := HK.out; omega⟩
      have hu := HU.out
      rw [hf', upF, get_list s k hlt] at hu
      simp only at hu
      have hst := stepL_in s.data.toList k
      have hsl := stepL_le s.data.toList k (by simpa using hlt)
      have hsl2 : s.data.toList.length = s.size := Array.length_toList
      have hsl3 : k + stepL s.data.toList k ≤ s.size := by omega
      obtain ⟨b, hb⟩ : ∃ b, s[k] = b := ⟨_, rfl⟩
      rw [hb] at hu
      obtain ⟨n, hn⟩ : ∃ n, stepL s.data.toList k = n := ⟨_, rfl⟩
      rw [hn] at hu HS1 hst hsl3
      have HMb := Lib.hid (HM.out b)
      obtain ⟨q, hq⟩ : ∃ q, (b == en) = q := ⟨_, rfl⟩
      obtain ⟨m, hm⟩ : ∃ m, may b = m := ⟨_, rfl⟩
      rw [hq, hm] at hu
      rw [hm] at HMb
      have hq2 : ((b.toNat : Int) == (en.toNat : Int)) = q := by rw [beqc]; exact hq
      have HU2 := Lib.hid hu
      have hn1 : n = 1 ∨ n = 2 := by omega
      clear hu hn hq hm HU hsl2 hsl
      rcases hn1 with rfl | rfl
      · cases q with
        | true =>
          have hE : (k, true) = E := by have := HU2.out; simpa using this
          have HE := Lib.hid hE
          clear hE HU2
          go_wp2_with fail
          go_quiet (fail)
          go_wp2_with fail
          go_quiet (fail)
          (try rw [hb])
          go_wp2_with fail
          go_quiet ((go_at_call 52; exact quiet_more (HS1.out _ _)))
          go_wp2
          go_ret
          rw [← HE.out]
          exact ⟨rfl, HC.out, grown_drewN HG.out _⟩
        | false =>
          cases m with
          | true =>
            have hE : upF s.data.toList en may f' (k + 1) = E := by have := HU2.out; simpa using this
            have HE := Lib.hid hE
            clear hE HU2
            go_wp2_with fail
            go_quiet (fail)
            go_wp2_with fail
            go_quiet (fail)
            (try rw [hb])
            go_wp2_with fail
            go_quiet ((go_at_call 52; exact quiet_more (HS1.out _ _)))
            go_wp2_with fail
            refine Calls.mono (HMb.out _ (grown_drewN HG.out _)) ?_
            rintro e w' ⟨rfl, rfl⟩
            go_wp2
            go_roundg (s.size - (k + 1))
            case measure => have := HK.out; omega
            case rel => exact ⟨rfl, k + 1, f', by omega, by have := HK.out; omega, HE.out, by first | exact cur_put HC.out | exact cur_put (i := k) HC.out, grown_put (grown_drewN HG.out _) _ _⟩
          | false =>
            have hE : (k, false) = E := by have := HU2.out; simpa using this
            have HE := Lib.hid hE
            clear hE HU2
            go_wp2_with fail
            go_quiet (fail)
            go_wp2_with fail
            go_quiet (fail)
            (try rw [hb])
            go_wp2_with fail
            go_quiet ((go_at_call 52; exact quiet_more (HS1.out _ _)))
            go_wp2_with fail
            refine Calls.mono (HMb.out _ (grown_drewN HG.out _)) ?_
            rintro e w' ⟨rfl, rfl⟩
            go_wp2
            go_ret
            rw [← HE.out]
            exact ⟨rfl, HC.out, grown_drewN HG.out _⟩
      · have hE : upF s.data.toList en may f' (k + 2) = E := by have := HU2.out; simpa using this
        have HE := Lib.hid hE
        clear hE HU2
        cases q with
        | true =>
          go_wp2_with fail
          go_quiet (fail)
          go_wp2_with fail
          go_quiet (fail)
          (try rw [hb])
          go_wp2_with fail
          go_quiet ((go_at_call 52; exact quiet_more (HS1.out _ _)))
          go_wp2
          go_roundg (s.size - (k + 2))
          case measure => have := HK.out; omega
          case rel => exact ⟨rfl, k + 2, f', by omega, by have := HK.out; omega, HE.out, by first | exact cur_put HC.out | exact cur_put (i := k) HC.out, grown_put (grown_drewN HG.out _) _ _⟩
        | false =>
          go_wp2_with fail
          go_quiet (fail)
          go_wp2_with fail
          go_quiet (fail)
          (try rw [hb])
          go_wp2_with fail
          go_quiet ((go_at_call 52; exact quiet_more (HS1.out _ _)))
          go_wp2
          go_roundg (s.size - (k + 2))
          case measure => have := HK.out; omega
          case rel => exact ⟨rfl, k + 2, f', by omega, by have := HK.out; omega, HE.out, by first | exact cur_put HC.out | exact cur_put (i := k) HC.out, grown_put (grown_drewN HG.out _) _ _⟩
    · obtain rfl : k = s.size := by have := HK.out; omega
      have hu := HU.out
      have hE : (s.size, false) = E := by
        rw [← hu]
        cases f with
        | zero => rfl
        | succ f => rw [upF, get_none s s.size (Nat.lt_irrefl _)]
      have HE := Lib.hid hE
      clear hu hE HU
      go_wp2_with fail
      go_quiet (fail)
      go_wp2
      go_ret
      rw [← HE.out]
      exact ⟨rfl, HC.out, grown_drewN HG.out _⟩
set_option maxHeartbeats 4000000 in
set_option maxRecDepth 100000 in
theorem upTo_title (s : ByteArray) (i cb : Nat) (en : UInt8) (may : UInt8 → Bool) (p r : Nat) (w : World) (hs : s.size ≤ 1099511627776) (hi : i ≤ s.size) (hc : CurAt w cb s i) (hm : ∀ (b : UInt8) (w' : World), w.grownBy w' (some cb) → Calls Tryd.prog 72 #[.int .u8 (b.toNat : Int), .pointer (some ⟨p, 0, none⟩), .pointer (some ⟨r, 0, none⟩)] w' (RB w' (may b))) :
    Calls Tryd.prog 44 #[.pointer (some ⟨cb, 0, none⟩), .int .u8 (en.toNat : Int), .func (.func 72) #[] #[.pointer (some ⟨p, 0, none⟩), .pointer (some ⟨r, 0, none⟩)]] w (CurR w cb s (upF s.data.toList en may s.size i)) := by
  obtain ⟨E, hE⟩ : ∃ E, upF s.data.toList en may s.size i = E := ⟨_, rfl⟩
  rw [hE]
  have hcb : cb < w.heap.size := (Array.getElem?_eq_some_iff.1 (show w.heap[cb]? = _ from hc)).1
  have H0 := Lib.hid (show UpW s.data.toList en may s cb E w (s.size - i) (.bool false) w from ⟨rfl, i, s.size, by omega, by omega, hE, hc, grown_refl _ _⟩)
  have HM := Lib.hid hm
  have HSt := Lib.hid fun (k : Nat) (hk : k ≤ s.size) (w' : World) (d : Nat) => (step_any s k (w'.drewN d) hs (by omega)).mono fun e w2 (h : IntR (w'.drewN d) _ e w2) => (⟨h.1, h.2.symm⟩ : e = .returned (.int .i64 (stepL s.data.toList k : Nat)) ∧ w2 = w'.drewN d)
  clear hE hc hm
  go_enter Tryd.func44, Tryd.ntmps44
  go_wp2_with fail
  go_loopg [6] (s.size - i) (fun g v wr => UpW s.data.toList en may s cb E w g v wr)
  case atStart => exact H0.out
  case round =>
    obtain ⟨rfl, k, f, hk, hf, hu, hc, hgr⟩ := hrel
    have hcb' : cb < wr.heap.size := Nat.lt_of_lt_of_le hcb hgr.size
    have c01 := fun j => cell_of_row wr cb j _ _ _ hc
    have c0 : wr.cell? ⟨cb, 0, none⟩ = some (.string s) := c01 0
    have c1 : wr.cell? ⟨cb, 1, none⟩ = some (.int .i64 (k : Int)) := c01 1
    have fz : ∀ j, wr.frozen? ⟨cb, j, none⟩ = false := (fun j => by simp [World.frozen?, show wr.heap[cb]? = _ from hc])
    have HU := Lib.hid hu; have HC := Lib.hid hc; have HG := Lib.hid hgr; have HK := Lib.hid hk
    clear hu hc hgr c01 H0 hk
    by_cases hlt : k < s.size
    · have hki : (k : Int) < (s.size : Int) := by omega
      have hk0 : (0 : Int) ≤ (k : Int) := by omega
      have HS1 := Lib.hid fun (w2 : World) d => HSt.out k (by omega) w2 d
      obtain ⟨f', hf'⟩ : ∃ f', f = f' + 1 := ⟨f - 1, by have := HK.out; omega⟩
      have hu := HU.out
      rw [hf', upF, get_list s k hlt] at hu
      simp only at hu
      have hst := stepL_in s.data.toList k
      have hsl := stepL_le s.data.toList k (by simpa using hlt)
      have hsl2 : s.data.toList.length = s.size := Array.length_toList
      have hsl3 : k + stepL s.data.toList k ≤ s.size := by omega
      obtain ⟨b, hb⟩ : ∃ b, s[k] = b := ⟨_, rfl⟩
      rw [hb] at hu
      obtain ⟨n, hn⟩ : ∃ n, stepL s.data.toList k = n := ⟨_, rfl⟩
      rw [hn] at hu HS1 hst hsl3
      have HMb := Lib.hid (HM.out b)
      obtain ⟨q, hq⟩ : ∃ q, (b == en) = q := ⟨_, rfl⟩
      obtain ⟨m, hm⟩ : ∃ m, may b = m := ⟨_, rfl⟩
      rw [hq, hm] at hu
      rw [hm] at HMb
      have hq2 : ((b.toNat : Int) == (en.toNat : Int)) = q := by rw [beqc]; exact hq
      have HU2 := Lib.hid hu
      have hn1 : n = 1 ∨ n = 2 := by omega
      clear hu hn hq hm HU hsl2 hsl
      rcases hn1 with rfl | rfl
      · cases q with
        | true =>
          have hE : (k, true) = E := by have := HU2.out; simpa using this
          have HE := Lib.hid hE
          clear hE HU2
          go_wp2_with fail
          go_quiet (fail)
          go_wp2_with fail
          go_quiet (fail)
          (try rw [hb])
          go_wp2_with fail
          go_quiet ((go_at_call 52; exact quiet_more (HS1.out _ _)))
          go_wp2
          go_ret
          rw [← HE.out]
          exact ⟨rfl, HC.out, grown_drewN HG.out _⟩
        | false =>
          cases m with
          | true =>
            have hE : upF s.data.toList en may f' (k + 1) = E := by have := HU2.out; simpa using this
            have HE := Lib.hid hE
            clear hE HU2
            go_wp2_with fail
            go_quiet (fail)
            go_wp2_with fail
            go_quiet (fail)
            (try rw [hb])
            go_wp2_with fail
            go_quiet ((go_at_call 52; exact quiet_more (HS1.out _ _)))
            go_wp2_with fail
            refine Calls.mono (HMb.out _ (grown_drewN HG.out _)) ?_
            rintro e w' ⟨rfl, rfl⟩
            go_wp2
            go_roundg (s.size - (k + 1))
            case measure => have := HK.out; omega
            case rel => exact ⟨rfl, k + 1, f', by omega, by have := HK.out; omega, HE.out, by first | exact cur_put HC.out | exact cur_put (i := k) HC.out, grown_put (grown_drewN HG.out _) _ _⟩
          | false =>
            have hE : (k, false) = E := by have := HU2.out; simpa using this
            have HE := Lib.hid hE
            clear hE HU2
            go_wp2_with fail
            go_quiet (fail)
            go_wp2_with fail
            go_quiet (fail)
            (try rw [hb])
            go_wp2_with fail
            go_quiet ((go_at_call 52; exact quiet_more (HS1.out _ _)))
            go_wp2_with fail
            refine Calls.mono (HMb.out _ (grown_drewN HG.out _)) ?_
            rintro e w' ⟨rfl, rfl⟩
            go_wp2
            go_ret
            rw [← HE.out]
            exact ⟨rfl, HC.out, grown_drewN HG.out _⟩
      · have hE : upF s.data.toList en may f' (k + 2) = E := by have := HU2.out; simpa using this
        have HE := Lib.hid hE
        clear hE HU2
        cases q with
        | true =>
          go_wp2_with fail
          go_quiet (fail)
          go_wp2_with fail
          go_quiet (fail)
          (try rw [hb])
          go_wp2_with fail
          go_quiet ((go_at_call 52; exact quiet_more (HS1.out _ _)))
          go_wp2
          go_roundg (s.size - (k + 2))
          case measure => have := HK.out; omega
          case rel => exact ⟨rfl, k + 2, f', by omega, by have := HK.out; omega, HE.out, by first | exact cur_put HC.out | exact cur_put (i := k) HC.out, grown_put (grown_drewN HG.out _) _ _⟩
        | false =>
          go_wp2_with fail
          go_quiet (fail)
          go_wp2_with fail
          go_quiet (fail)
          (try rw [hb])
          go_wp2_with fail
          go_quiet ((go_at_call 52; exact quiet_more (HS1.out _ _)))
          go_wp2
          go_roundg (s.size - (k + 2))
          case measure => have := HK.out; omega
          case rel => exact ⟨rfl, k + 2, f', by omega, by have := HK.out; omega, HE.out, by first | exact cur_put HC.out | exact cur_put (i := k) HC.out, grown_put (grown_drewN HG.out _) _ _⟩
    · obtain rfl : k = s.size := by have := HK.out; omega
      have hu := HU.out
      have hE : (s.size, false) = E := by
        rw [← hu]
        cases f with
        | zero => rfl
        | succ f => rw [upF, get_none s s.size (Nat.lt_irrefl _)]
      have HE := Lib.hid hE
      clear hu hE HU
      go_wp2_with fail
      go_quiet (fail)
      go_wp2
      go_ret
      rw [← HE.out]
      exact ⟨rfl, HC.out, grown_drewN HG.out _⟩
end Go.Proofs.YtbcfhpomclkccaaDoor
