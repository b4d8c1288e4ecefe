/- refs. -/
import Derived.Test.YtebfjlfkofibpaaGreatDoorBase
import Derived.Test.YtebfjlfkofibpaaGreatDoorShelf
import Derived.Lib.SmallJoins
import Derived.Deep.QuietTactic
import Derived.Deep.LoopGhost
import Derived.Lib.SlTrimSet
import Derived.IntWalk
namespace Go.Proofs.YtebfjlfkofibpaaGreatDoor
set_option maxHeartbeats 4000000
set_option maxRecDepth 100000
section
open Go.RowKit
def isB (l : List UInt8) (i : Int) (c : UInt8) : Bool := decide (0 ≤ i) && (l[i.toNat]? == some c)
theorem beq_get (s : ByteArray) (k : Nat) (h : k < s.size) (c : UInt8) : (s.data.toList[k]? == some c) = (s[k] == c) := by rw [get_list s k h]; rfl
theorem is_any (s : ByteArray) (i : Int) (c : UInt8) (w : World) (_ : s.size ≤ 1099511627776) : Calls Tryz.prog 104 #[.string s, .int .i64 i, .int .u8 (c.toNat : Int)] w (RB w (isB s.data.toList i c)) := by
 by_cases h0 : 0 ≤ i
 ·obtain ⟨k, rfl⟩ : ∃ k : Nat, i = k := ⟨i.toNat, by omega⟩
  by_cases hk : k < s.size
  ·obtain ⟨q, hq⟩ : ∃ q, (s[k] == c) = q := ⟨_, rfl⟩;have hv : isB s.data.toList (k : Int) c = q := by
    unfold isB;rw [decide_eq_true h0, Int.toNat_natCast, beq_get s k hk, hq];rfl
   rw [hv];have hq2 : ((s[k].toNat : Int) == (c.toNat : Int)) = q := by rw [beqc]; exact hq
   have hki : (k : Int) < (s.size : Int) := by omega
   clear hv hq;go_enter Tryz.func104, Tryz.ntmps104;go_wp2;go_ret;exact ⟨rfl, rfl⟩
  ·have hv : isB s.data.toList (k : Int) c = false := by
    unfold isB;rw [Int.toNat_natCast, get_none s k hk];simp
   rw [hv];clear hv;go_enter Tryz.func104, Tryz.ntmps104;go_wp2;go_ret;exact ⟨rfl, rfl⟩
 ·have hv : isB s.data.toList i c = false := by unfold isB; rw [decide_eq_false h0]; rfl
  rw [hv];clear hv;go_enter Tryz.func104, Tryz.ntmps104;go_wp2;go_ret;exact ⟨rfl, rfl⟩
def stepL (l : List UInt8) (i : Nat) : Nat := if l[i]? == some 92 then (match l[i + 1]? with
  | some c => if signB c then 2 else 1
  | none => 1) else 1
theorem stepL_in (l : List UInt8) (i : Nat) : 1 ≤ stepL l i ∧ stepL l i ≤ 2 := by
 unfold stepL;split
 ·split
  ·split <;> omega
  ·omega
 ·omega
theorem stepL_le (l : List UInt8) (i : Nat) (h : i < l.length) : i + stepL l i ≤ l.length := by
 unfold stepL;split
 ·split
  ·rename_i hc;have := (List.getElem?_eq_some_iff.1 hc).1;split <;> omega
  ·omega
 ·omega
def IntR (w : World) (n : Int) (e : Ending) (w' : World) : Prop := e = .returned (.int .i64 n) ∧ w = w'
theorem step_any (s : ByteArray) (k : Nat) (w : World) (hs : s.size ≤ 1099511627776) (hk : k ≤ 1099511627776) : Calls Tryz.prog 151 #[.string s, .int .i64 (k : Int)] w (IntR w (stepL s.data.toList k : Nat)) := by
 have HI := hdn (is_any s (k : Int) 92 w hs);have hi : isB s.data.toList (k : Int) 92 = (s.data.toList[k]? == some 92) := by unfold isB; rw [decide_eq_true (by omega), Int.toNat_natCast]; rfl
 rw [hi] at HI;obtain ⟨q, hq⟩ : ∃ q, (s.data.toList[k]? == some 92) = q := ⟨_, rfl⟩;rw [hq] at HI
 cases q with
 | false =>
  have hv : stepL s.data.toList k = 1 := by unfold stepL; rw [hq]; rfl
  rw [hv];clear hv hi hq;go_enter Tryz.func151, Tryz.ntmps151;go_wp2_with fail;refine cMq HI.out ?_;rintro e w' ⟨rfl, rfl⟩;go_wp2;go_ret;exact ⟨rfl, rfl⟩
 | true =>
  by_cases h2 : k + 1 < s.size
  ·obtain ⟨sg, hsg⟩ : ∃ sg, signB s[k + 1] = sg := ⟨_, rfl⟩;have hv : stepL s.data.toList k = if sg then 2 else 1 := by
    unfold stepL;rw [hq, get_list s (k + 1) h2];simp only [hsg, if_true]
   have HSg := hdn (sign_any s[k + 1] w);rw [hsg] at HSg;rw [hv];have hki : (k : Int) + 1 < (s.size : Int) := by omega
   clear hv hi hq hsg
   cases sg with
   | false =>
    go_enter Tryz.func151, Tryz.ntmps151;go_wp2_with fail;refine cMq HI.out ?_;rintro e w' ⟨rfl, rfl⟩;go_wp2_with fail;refine cMq HSg.out ?_;rintro e w' ⟨rfl, rfl⟩;go_wp2;go_ret;exact ⟨rfl, rfl⟩
   | true =>
    go_enter Tryz.func151, Tryz.ntmps151;go_wp2_with fail;refine cMq HI.out ?_;rintro e w' ⟨rfl, rfl⟩;go_wp2_with fail;refine cMq HSg.out ?_;rintro e w' ⟨rfl, rfl⟩;go_wp2;go_ret;exact ⟨rfl, rfl⟩
  ·have hv : stepL s.data.toList k = 1 := by
    unfold stepL;rw [hq, get_none s (k + 1) h2];rfl
   rw [hv];have hki : ¬ (k : Int) + 1 < (s.size : Int) := by omega
   clear hv hi hq;go_enter Tryz.func151, Tryz.ntmps151;go_wp2_with fail;refine cMq HI.out ?_;rintro e w' ⟨rfl, rfl⟩;go_wp2;go_ret;exact ⟨rfl, rfl⟩
def upF (l : List UInt8) (e : UInt8) (may : UInt8 -> Bool) : Nat -> Nat -> Nat × Bool
 | 0, i => (i, false)
 | f + 1, i => match l[i]? with
  | none => (i, false)
  | some b => if stepL l i = 1 then (if b == e then (i, true) else if may b then upF l e may f (i + 1) else (i, false)) else upF l e may f (i + 2)
def CurAt (w : World) (cb : Nat) (s : ByteArray) (i : Nat) : Prop := w.heap[cb]? = some (.cells #[.string s, .int .i64 (i : Int)] 162 (0, 0))
def CurR (w : World) (cb : Nat) (s : ByteArray) (x : Nat × Bool) (e : Ending) (w' : World) : Prop := e = .returned (.bool x.2) ∧ CurAt w' cb s x.1 ∧ w.grownBy w' (some cb)
theorem grown_refl (w : World) (r : Option Nat) : w.grownBy w r := ⟨rfl, rfl, rfl, Nat.le_refl _, fun _ _ _ => rfl⟩
theorem grown_drewN {w w' : World} {r : Option Nat} (h : w.grownBy w' r) (d : Nat) : w.grownBy (w'.drewN d) r := ⟨h.os, h.tape, h.output, h.size, h.block⟩
theorem grown_put {w w' : World} {n : Nat} (h : w.grownBy w' (some n)) (o : Nat) (u : Value) : w.grownBy (w'.setCell ⟨n, o, none⟩ u) (some n) :=
 ⟨h.os, h.tape, h.output, by rw [size_setCell]; exact h.size, fun k hk hn => by rw [Below.heap_setCell _ _ _ _ (fun e => hn (by rw [e]))]; exact h.block k hk hn⟩
theorem cur_put {w : World} {cb i j : Nat} {s : ByteArray} (h : CurAt w cb s i) : CurAt (w.setCell ⟨cb, 1, none⟩ (.int .i64 (j : Int))) cb s j := by
 have := Joins.block_setCell h (i := 1) (.int .i64 (j : Int));unfold CurAt;simpa using this
theorem quiet_more {P : Program} {f : FuncId} {args : Array Value} {w : World} {a n : Nat} {v : Value} (h : Calls P f args (w.drewN (a + n)) fun e w' => e = .returned v ∧ w' = w.drewN (a + n)) : Calls P f args (w.drewN (a + n)) fun e w'' => e = .returned v ∧ ∃ m, w'' = w.drewN (a + m) :=
 h.mono fun _ _ ⟨he, hm⟩ => ⟨he, n, hm⟩
def UpW (l : List UInt8) (e : UInt8) (may : UInt8 -> Bool) (s : ByteArray) (cb : Nat) (E : Nat × Bool) (w : World) (g : Nat) (v : Value) (wr : World) : Prop :=
 v = .bool false ∧ ∃ k f : Nat, k + g = s.size ∧ s.size ≤ k + f ∧ upF l e may f k = E ∧ CurAt wr cb s k ∧ w.grownBy wr (some cb)
theorem upTo_label (s : ByteArray) (i cb : Nat) (en : UInt8) (may : UInt8 -> Bool) (w : World) (hs : s.size ≤ 1099511627776) (hi : i ≤ s.size) (hc : CurAt w cb s i) (hm : ∀ (b : UInt8) (w' : World), w.grownBy w' (some cb) -> Calls Tryz.prog 149 #[.int .u8 (b.toNat : Int)] w' (RB w' (may b))) :
  Calls Tryz.prog 148 #[.pointer (some ⟨cb, 0, none⟩), .int .u8 (en.toNat : Int), .func (.func 149) #[] #[]] w (CurR w cb s (upF s.data.toList en may s.size i)) := by
 obtain ⟨E, hE⟩ : ∃ E, upF s.data.toList en may s.size i = E := ⟨_, rfl⟩;rw [hE];have hcb : cb < w.heap.size := (gSq.1 (show w.heap[cb]? = _ from hc)).1;have H0 := hdn (show UpW s.data.toList en may s cb E w (s.size - i) (.bool false) w from ⟨rfl, i, s.size, by omega, by omega, hE, hc, grown_refl _ _⟩);have HM := hdn hm
 have HSt := hdn fun (k : Nat) (hk : k ≤ s.size) (w' : World) (d : Nat) => (step_any s k (w'.drewN d) hs (by omega)).mono fun e w2 (h : IntR (w'.drewN d) _ e w2) => (⟨h.1, h.2.symm⟩ : e = .returned (.int .i64 (stepL s.data.toList k : Nat)) ∧ w2 = w'.drewN d);clear hE hc hm;go_enter Tryz.func148, Tryz.ntmps148;go_wp2_with fail
 go_loopg [6] (s.size - i) (fun g v wr => UpW s.data.toList en may s cb E w g v wr)
 case atStart => exact H0.out
 case round =>
  obtain ⟨rfl, k, f, hk, hf, hu, hc, hgr⟩ := hrel;have hcb' : cb < wr.heap.size := Nat.lt_of_lt_of_le hcb hgr.size;have c01 := fun j => cell_of_row wr cb j _ _ _ hc;have c0 : wr.cell? ⟨cb, 0, none⟩ = some (.string s) := c01 0;have c1 : wr.cell? ⟨cb, 1, none⟩ = some (.int .i64 (k : Int)) := c01 1;have fz : ∀ j, wr.frozen? ⟨cb, j, none⟩ = false := (fun j => by simp [World.frozen?, show wr.heap[cb]? = _ from hc]);have HU := hdn hu; have HC := hdn hc; have HG := hdn hgr; have HK := hdn hk;clear hu hc hgr c01 H0 hk
  by_cases hlt : k < s.size
  ·have hki : (k : Int) < (s.size : Int) := by omega
   have hk0 : (0 : Int) ≤ (k : Int) := by omega
   have HS1 := hdn fun (w2 : World) d => HSt.out k (by omega) w2 d;obtain ⟨f', hf'⟩ : ∃ f', f = f' + 1 := ⟨f - 1, by have := HK.out; omega⟩;have hu := HU.out;rw [hf', upF, get_list s k hlt] at hu;simp only at hu;have hst := stepL_in s.data.toList k;have hsl := stepL_le s.data.toList k (by simpa using hlt);have hsl2 : s.data.toList.length = s.size := lTq;have hsl3 : k + stepL s.data.toList k ≤ s.size := by omega
   obtain ⟨b, hb⟩ : ∃ b, s[k] = b := ⟨_, rfl⟩;rw [hb] at hu;obtain ⟨n, hn⟩ : ∃ n, stepL s.data.toList k = n := ⟨_, rfl⟩;rw [hn] at hu HS1 hst hsl3;have HMb := hdn (HM.out b);obtain ⟨q, hq⟩ : ∃ q, (b == en) = q := ⟨_, rfl⟩;obtain ⟨m, hm⟩ : ∃ m, may b = m := ⟨_, rfl⟩;rw [hq, hm] at hu;rw [hm] at HMb;have hq2 : ((b.toNat : Int) == (en.toNat : Int)) = q := by rw [beqc]; exact hq
   have HU2 := hdn hu;have hn1 : n = 1 ∨ n = 2 := by omega
   clear hu hn hq hm HU hsl2 hsl;rcases hn1 with rfl | rfl
   ·cases q with
    | true =>
     have hE : (k, true) = E := by have := HU2.out; simpa using this
     have HE := hdn hE;clear hE HU2;go_wp2_with fail
     go_quiet (fail)
     go_wp2_with fail
     go_quiet (fail)
     (try rw [hb])
     go_wp2_with fail
     go_quiet ((go_at_call 151; exact quiet_more (HS1.out _ _)))
     go_wp2;go_ret;rw [<- HE.out];exact ⟨rfl, HC.out, grown_drewN HG.out _⟩
    | false =>
     cases m with
     | true =>
      have hE : upF s.data.toList en may f' (k + 1) = E := by have := HU2.out; simpa using this
      have HE := hdn hE;clear hE HU2;go_wp2_with fail
      go_quiet (fail)
      go_wp2_with fail
      go_quiet (fail)
      (try rw [hb])
      go_wp2_with fail
      go_quiet ((go_at_call 151; exact quiet_more (HS1.out _ _)))
      go_wp2_with fail;refine cMq (HMb.out _ (grown_drewN HG.out _)) ?_;rintro e w' ⟨rfl, rfl⟩;go_wp2
      go_roundg (s.size - (k + 1))
      case measure => have := HK.out; omega
      case rel => exact ⟨rfl, k + 1, f', by omega, by have := HK.out; omega, HE.out, by first | exact cur_put HC.out | exact cur_put (i := k) HC.out, grown_put (grown_drewN HG.out _) _ _⟩
     | false =>
      have hE : (k, false) = E := by have := HU2.out; simpa using this
      have HE := hdn hE;clear hE HU2;go_wp2_with fail
      go_quiet (fail)
      go_wp2_with fail
      go_quiet (fail)
      (try rw [hb])
      go_wp2_with fail
      go_quiet ((go_at_call 151; exact quiet_more (HS1.out _ _)))
      go_wp2_with fail;refine cMq (HMb.out _ (grown_drewN HG.out _)) ?_;rintro e w' ⟨rfl, rfl⟩;go_wp2;go_ret;rw [<- HE.out];exact ⟨rfl, HC.out, grown_drewN HG.out _⟩
   ·have hE : upF s.data.toList en may f' (k + 2) = E := by have := HU2.out; simpa using this
    have HE := hdn hE;clear hE HU2
    cases q with
    | true =>
     go_wp2_with fail
     go_quiet (fail)
     go_wp2_with fail
     go_quiet (fail)
     (try rw [hb])
     go_wp2_with fail
     go_quiet ((go_at_call 151; exact quiet_more (HS1.out _ _)))
     go_wp2
     go_roundg (s.size - (k + 2))
     case measure => have := HK.out; omega
     case rel => exact ⟨rfl, k + 2, f', by omega, by have := HK.out; omega, HE.out, by first | exact cur_put HC.out | exact cur_put (i := k) HC.out, grown_put (grown_drewN HG.out _) _ _⟩
    | false =>
     go_wp2_with fail
     go_quiet (fail)
     go_wp2_with fail
     go_quiet (fail)
     (try rw [hb])
     go_wp2_with fail
     go_quiet ((go_at_call 151; exact quiet_more (HS1.out _ _)))
     go_wp2
     go_roundg (s.size - (k + 2))
     case measure => have := HK.out; omega
     case rel => exact ⟨rfl, k + 2, f', by omega, by have := HK.out; omega, HE.out, by first | exact cur_put HC.out | exact cur_put (i := k) HC.out, grown_put (grown_drewN HG.out _) _ _⟩
  ·obtain rfl : k = s.size := by have := HK.out; omega
   have hu := HU.out;have hE : (s.size, false) = E := by
    rw [<- hu]
    cases f with
    | zero => rfl
    | succ f => rw [upF, get_none s s.size (Nat.lt_irrefl _)]
   have HE := hdn hE;clear hu hE HU;go_wp2_with fail
   go_quiet (fail)
   go_wp2;go_ret;rw [<- HE.out];exact ⟨rfl, HC.out, grown_drewN HG.out _⟩
theorem upTo_dest (s : ByteArray) (i cb : Nat) (en : UInt8) (may : UInt8 -> Bool) (w : World) (hs : s.size ≤ 1099511627776) (hi : i ≤ s.size) (hc : CurAt w cb s i) (hm : ∀ (b : UInt8) (w' : World), w.grownBy w' (some cb) -> Calls Tryz.prog 150 #[.int .u8 (b.toNat : Int)] w' (RB w' (may b))) :
  Calls Tryz.prog 148 #[.pointer (some ⟨cb, 0, none⟩), .int .u8 (en.toNat : Int), .func (.func 150) #[] #[]] w (CurR w cb s (upF s.data.toList en may s.size i)) := by
 obtain ⟨E, hE⟩ : ∃ E, upF s.data.toList en may s.size i = E := ⟨_, rfl⟩;rw [hE];have hcb : cb < w.heap.size := (gSq.1 (show w.heap[cb]? = _ from hc)).1;have H0 := hdn (show UpW s.data.toList en may s cb E w (s.size - i) (.bool false) w from ⟨rfl, i, s.size, by omega, by omega, hE, hc, grown_refl _ _⟩);have HM := hdn hm
 have HSt := hdn fun (k : Nat) (hk : k ≤ s.size) (w' : World) (d : Nat) => (step_any s k (w'.drewN d) hs (by omega)).mono fun e w2 (h : IntR (w'.drewN d) _ e w2) => (⟨h.1, h.2.symm⟩ : e = .returned (.int .i64 (stepL s.data.toList k : Nat)) ∧ w2 = w'.drewN d);clear hE hc hm;go_enter Tryz.func148, Tryz.ntmps148;go_wp2_with fail
 go_loopg [6] (s.size - i) (fun g v wr => UpW s.data.toList en may s cb E w g v wr)
 case atStart => exact H0.out
 case round =>
  obtain ⟨rfl, k, f, hk, hf, hu, hc, hgr⟩ := hrel;have hcb' : cb < wr.heap.size := Nat.lt_of_lt_of_le hcb hgr.size;have c01 := fun j => cell_of_row wr cb j _ _ _ hc;have c0 : wr.cell? ⟨cb, 0, none⟩ = some (.string s) := c01 0;have c1 : wr.cell? ⟨cb, 1, none⟩ = some (.int .i64 (k : Int)) := c01 1;have fz : ∀ j, wr.frozen? ⟨cb, j, none⟩ = false := (fun j => by simp [World.frozen?, show wr.heap[cb]? = _ from hc]);have HU := hdn hu; have HC := hdn hc; have HG := hdn hgr; have HK := hdn hk;clear hu hc hgr c01 H0 hk
  by_cases hlt : k < s.size
  ·have hki : (k : Int) < (s.size : Int) := by omega
   have hk0 : (0 : Int) ≤ (k : Int) := by omega
   have HS1 := hdn fun (w2 : World) d => HSt.out k (by omega) w2 d;obtain ⟨f', hf'⟩ : ∃ f', f = f' + 1 := ⟨f - 1, by have := HK.out; omega⟩;have hu := HU.out;rw [hf', upF, get_list s k hlt] at hu;simp only at hu;have hst := stepL_in s.data.toList k;have hsl := stepL_le s.data.toList k (by simpa using hlt);have hsl2 : s.data.toList.length = s.size := lTq;have hsl3 : k + stepL s.data.toList k ≤ s.size := by omega
   obtain ⟨b, hb⟩ : ∃ b, s[k] = b := ⟨_, rfl⟩;rw [hb] at hu;obtain ⟨n, hn⟩ : ∃ n, stepL s.data.toList k = n := ⟨_, rfl⟩;rw [hn] at hu HS1 hst hsl3;have HMb := hdn (HM.out b);obtain ⟨q, hq⟩ : ∃ q, (b == en) = q := ⟨_, rfl⟩;obtain ⟨m, hm⟩ : ∃ m, may b = m := ⟨_, rfl⟩;rw [hq, hm] at hu;rw [hm] at HMb;have hq2 : ((b.toNat : Int) == (en.toNat : Int)) = q := by rw [beqc]; exact hq
   have HU2 := hdn hu;have hn1 : n = 1 ∨ n = 2 := by omega
   clear hu hn hq hm HU hsl2 hsl;rcases hn1 with rfl | rfl
   ·cases q with
    | true =>
     have hE : (k, true) = E := by have := HU2.out; simpa using this
     have HE := hdn hE;clear hE HU2;go_wp2_with fail
     go_quiet (fail)
     go_wp2_with fail
     go_quiet (fail)
     (try rw [hb])
     go_wp2_with fail
     go_quiet ((go_at_call 151; exact quiet_more (HS1.out _ _)))
     go_wp2;go_ret;rw [<- HE.out];exact ⟨rfl, HC.out, grown_drewN HG.out _⟩
    | false =>
     cases m with
     | true =>
      have hE : upF s.data.toList en may f' (k + 1) = E := by have := HU2.out; simpa using this
      have HE := hdn hE;clear hE HU2;go_wp2_with fail
      go_quiet (fail)
      go_wp2_with fail
      go_quiet (fail)
      (try rw [hb])
      go_wp2_with fail
      go_quiet ((go_at_call 151; exact quiet_more (HS1.out _ _)))
      go_wp2_with fail;refine cMq (HMb.out _ (grown_drewN HG.out _)) ?_;rintro e w' ⟨rfl, rfl⟩;go_wp2
      go_roundg (s.size - (k + 1))
      case measure => have := HK.out; omega
      case rel => exact ⟨rfl, k + 1, f', by omega, by have := HK.out; omega, HE.out, by first | exact cur_put HC.out | exact cur_put (i := k) HC.out, grown_put (grown_drewN HG.out _) _ _⟩
     | false =>
      have hE : (k, false) = E := by have := HU2.out; simpa using this
      have HE := hdn hE;clear hE HU2;go_wp2_with fail
      go_quiet (fail)
      go_wp2_with fail
      go_quiet (fail)
      (try rw [hb])
      go_wp2_with fail
      go_quiet ((go_at_call 151; exact quiet_more (HS1.out _ _)))
      go_wp2_with fail;refine cMq (HMb.out _ (grown_drewN HG.out _)) ?_;rintro e w' ⟨rfl, rfl⟩;go_wp2;go_ret;rw [<- HE.out];exact ⟨rfl, HC.out, grown_drewN HG.out _⟩
   ·have hE : upF s.data.toList en may f' (k + 2) = E := by have := HU2.out; simpa using this
    have HE := hdn hE;clear hE HU2
    cases q with
    | true =>
     go_wp2_with fail
     go_quiet (fail)
     go_wp2_with fail
     go_quiet (fail)
     (try rw [hb])
     go_wp2_with fail
     go_quiet ((go_at_call 151; exact quiet_more (HS1.out _ _)))
     go_wp2
     go_roundg (s.size - (k + 2))
     case measure => have := HK.out; omega
     case rel => exact ⟨rfl, k + 2, f', by omega, by have := HK.out; omega, HE.out, by first | exact cur_put HC.out | exact cur_put (i := k) HC.out, grown_put (grown_drewN HG.out _) _ _⟩
    | false =>
     go_wp2_with fail
     go_quiet (fail)
     go_wp2_with fail
     go_quiet (fail)
     (try rw [hb])
     go_wp2_with fail
     go_quiet ((go_at_call 151; exact quiet_more (HS1.out _ _)))
     go_wp2
     go_roundg (s.size - (k + 2))
     case measure => have := HK.out; omega
     case rel => exact ⟨rfl, k + 2, f', by omega, by have := HK.out; omega, HE.out, by first | exact cur_put HC.out | exact cur_put (i := k) HC.out, grown_put (grown_drewN HG.out _) _ _⟩
  ·obtain rfl : k = s.size := by have := HK.out; omega
   have hu := HU.out;have hE : (s.size, false) = E := by
    rw [<- hu]
    cases f with
    | zero => rfl
    | succ f => rw [upF, get_none s s.size (Nat.lt_irrefl _)]
   have HE := hdn hE;clear hu hE HU;go_wp2_with fail
   go_quiet (fail)
   go_wp2;go_ret;rw [<- HE.out];exact ⟨rfl, HC.out, grown_drewN HG.out _⟩
theorem upTo_title (s : ByteArray) (i cb : Nat) (en : UInt8) (may : UInt8 -> Bool) (p r : Nat) (w : World) (hs : s.size ≤ 1099511627776) (hi : i ≤ s.size) (hc : CurAt w cb s i) (hm : ∀ (b : UInt8) (w' : World), w.grownBy w' (some cb) -> Calls Tryz.prog 155 #[.int .u8 (b.toNat : Int), .pointer (some ⟨p, 0, none⟩), .pointer (some ⟨r, 0, none⟩)] w' (RB w' (may b))) :
  Calls Tryz.prog 148 #[.pointer (some ⟨cb, 0, none⟩), .int .u8 (en.toNat : Int), .func (.func 155) #[] #[.pointer (some ⟨p, 0, none⟩), .pointer (some ⟨r, 0, none⟩)]] w (CurR w cb s (upF s.data.toList en may s.size i)) := by
 obtain ⟨E, hE⟩ : ∃ E, upF s.data.toList en may s.size i = E := ⟨_, rfl⟩;rw [hE];have hcb : cb < w.heap.size := (gSq.1 (show w.heap[cb]? = _ from hc)).1;have H0 := hdn (show UpW s.data.toList en may s cb E w (s.size - i) (.bool false) w from ⟨rfl, i, s.size, by omega, by omega, hE, hc, grown_refl _ _⟩);have HM := hdn hm
 have HSt := hdn fun (k : Nat) (hk : k ≤ s.size) (w' : World) (d : Nat) => (step_any s k (w'.drewN d) hs (by omega)).mono fun e w2 (h : IntR (w'.drewN d) _ e w2) => (⟨h.1, h.2.symm⟩ : e = .returned (.int .i64 (stepL s.data.toList k : Nat)) ∧ w2 = w'.drewN d);clear hE hc hm;go_enter Tryz.func148, Tryz.ntmps148;go_wp2_with fail
 go_loopg [6] (s.size - i) (fun g v wr => UpW s.data.toList en may s cb E w g v wr)
 case atStart => exact H0.out
 case round =>
  obtain ⟨rfl, k, f, hk, hf, hu, hc, hgr⟩ := hrel;have hcb' : cb < wr.heap.size := Nat.lt_of_lt_of_le hcb hgr.size;have c01 := fun j => cell_of_row wr cb j _ _ _ hc;have c0 : wr.cell? ⟨cb, 0, none⟩ = some (.string s) := c01 0;have c1 : wr.cell? ⟨cb, 1, none⟩ = some (.int .i64 (k : Int)) := c01 1;have fz : ∀ j, wr.frozen? ⟨cb, j, none⟩ = false := (fun j => by simp [World.frozen?, show wr.heap[cb]? = _ from hc]);have HU := hdn hu; have HC := hdn hc; have HG := hdn hgr; have HK := hdn hk;clear hu hc hgr c01 H0 hk
  by_cases hlt : k < s.size
  ·have hki : (k : Int) < (s.size : Int) := by omega
   have hk0 : (0 : Int) ≤ (k : Int) := by omega
   have HS1 := hdn fun (w2 : World) d => HSt.out k (by omega) w2 d;obtain ⟨f', hf'⟩ : ∃ f', f = f' + 1 := ⟨f - 1, by have := HK.out; omega⟩;have hu := HU.out;rw [hf', upF, get_list s k hlt] at hu;simp only at hu;have hst := stepL_in s.data.toList k;have hsl := stepL_le s.data.toList k (by simpa using hlt);have hsl2 : s.data.toList.length = s.size := lTq;have hsl3 : k + stepL s.data.toList k ≤ s.size := by omega
   obtain ⟨b, hb⟩ : ∃ b, s[k] = b := ⟨_, rfl⟩;rw [hb] at hu;obtain ⟨n, hn⟩ : ∃ n, stepL s.data.toList k = n := ⟨_, rfl⟩;rw [hn] at hu HS1 hst hsl3;have HMb := hdn (HM.out b);obtain ⟨q, hq⟩ : ∃ q, (b == en) = q := ⟨_, rfl⟩;obtain ⟨m, hm⟩ : ∃ m, may b = m := ⟨_, rfl⟩;rw [hq, hm] at hu;rw [hm] at HMb;have hq2 : ((b.toNat : Int) == (en.toNat : Int)) = q := by rw [beqc]; exact hq
   have HU2 := hdn hu;have hn1 : n = 1 ∨ n = 2 := by omega
   clear hu hn hq hm HU hsl2 hsl;rcases hn1 with rfl | rfl
   ·cases q with
    | true =>
     have hE : (k, true) = E := by have := HU2.out; simpa using this
     have HE := hdn hE;clear hE HU2;go_wp2_with fail
     go_quiet (fail)
     go_wp2_with fail
     go_quiet (fail)
     (try rw [hb])
     go_wp2_with fail
     go_quiet ((go_at_call 151; exact quiet_more (HS1.out _ _)))
     go_wp2;go_ret;rw [<- HE.out];exact ⟨rfl, HC.out, grown_drewN HG.out _⟩
    | false =>
     cases m with
     | true =>
      have hE : upF s.data.toList en may f' (k + 1) = E := by have := HU2.out; simpa using this
      have HE := hdn hE;clear hE HU2;go_wp2_with fail
      go_quiet (fail)
      go_wp2_with fail
      go_quiet (fail)
      (try rw [hb])
      go_wp2_with fail
      go_quiet ((go_at_call 151; exact quiet_more (HS1.out _ _)))
      go_wp2_with fail;refine cMq (HMb.out _ (grown_drewN HG.out _)) ?_;rintro e w' ⟨rfl, rfl⟩;go_wp2
      go_roundg (s.size - (k + 1))
      case measure => have := HK.out; omega
      case rel => exact ⟨rfl, k + 1, f', by omega, by have := HK.out; omega, HE.out, by first | exact cur_put HC.out | exact cur_put (i := k) HC.out, grown_put (grown_drewN HG.out _) _ _⟩
     | false =>
      have hE : (k, false) = E := by have := HU2.out; simpa using this
      have HE := hdn hE;clear hE HU2;go_wp2_with fail
      go_quiet (fail)
      go_wp2_with fail
      go_quiet (fail)
      (try rw [hb])
      go_wp2_with fail
      go_quiet ((go_at_call 151; exact quiet_more (HS1.out _ _)))
      go_wp2_with fail;refine cMq (HMb.out _ (grown_drewN HG.out _)) ?_;rintro e w' ⟨rfl, rfl⟩;go_wp2;go_ret;rw [<- HE.out];exact ⟨rfl, HC.out, grown_drewN HG.out _⟩
   ·have hE : upF s.data.toList en may f' (k + 2) = E := by have := HU2.out; simpa using this
    have HE := hdn hE;clear hE HU2
    cases q with
    | true =>
     go_wp2_with fail
     go_quiet (fail)
     go_wp2_with fail
     go_quiet (fail)
     (try rw [hb])
     go_wp2_with fail
     go_quiet ((go_at_call 151; exact quiet_more (HS1.out _ _)))
     go_wp2
     go_roundg (s.size - (k + 2))
     case measure => have := HK.out; omega
     case rel => exact ⟨rfl, k + 2, f', by omega, by have := HK.out; omega, HE.out, by first | exact cur_put HC.out | exact cur_put (i := k) HC.out, grown_put (grown_drewN HG.out _) _ _⟩
    | false =>
     go_wp2_with fail
     go_quiet (fail)
     go_wp2_with fail
     go_quiet (fail)
     (try rw [hb])
     go_wp2_with fail
     go_quiet ((go_at_call 151; exact quiet_more (HS1.out _ _)))
     go_wp2
     go_roundg (s.size - (k + 2))
     case measure => have := HK.out; omega
     case rel => exact ⟨rfl, k + 2, f', by omega, by have := HK.out; omega, HE.out, by first | exact cur_put HC.out | exact cur_put (i := k) HC.out, grown_put (grown_drewN HG.out _) _ _⟩
  ·obtain rfl : k = s.size := by have := HK.out; omega
   have hu := HU.out;have hE : (s.size, false) = E := by
    rw [<- hu]
    cases f with
    | zero => rfl
    | succ f => rw [upF, get_none s s.size (Nat.lt_irrefl _)]
   have HE := hdn hE;clear hu hE HU;go_wp2_with fail
   go_quiet (fail)
   go_wp2;go_ret;rw [<- HE.out];exact ⟨rfl, HC.out, grown_drewN HG.out _⟩
end
section
open Go.RowKit
def wsB (b : UInt8) : Bool := b == 32 || b == 9
def blk (l : List UInt8) (i : Nat) : Nat := i + ((l.drop i).takeWhile wsB).length
theorem blk_in (l : List UInt8) (i : Nat) (h : i ≤ l.length) : i ≤ blk l i ∧ blk l i ≤ l.length := by
 unfold blk;have h1 := (List.takeWhile_prefix (p := wsB) (l := l.drop i)).length_le;rw [List.length_drop] at h1;omega
theorem blk_drop (l : List UInt8) (i : Nat) (h : i ≤ l.length) : ((l.drop i).dropWhile wsB).length + blk l i = l.length := by
 unfold blk;have h1 : ((l.drop i).takeWhile wsB ++ (l.drop i).dropWhile wsB).length = (l.drop i).length := by rw [List.takeWhile_append_dropWhile]
 rw [List.length_append, List.length_drop] at h1;omega
def gapN (l : List UInt8) (i : Nat) : Nat := if l[blk l i]? == some 10 then blk l (blk l i + 1) else blk l i
def gapI (l : List UInt8) (i : Int) : Int := if i < 0 ∨ (l.length : Int) < i then i else (gapN l i.toNat : Nat)
theorem gapN_in (l : List UInt8) (i : Nat) (h : i ≤ l.length) : i ≤ gapN l i ∧ gapN l i ≤ l.length := by
 have h1 := blk_in l i h;unfold gapN;split
 ·rename_i hc;have h2 : l[blk l i]? = some 10 := by simpa using hc
  have h3 := (List.getElem?_eq_some_iff.1 h2).1;have h4 := blk_in l (blk l i + 1) (by omega);omega
 ·exact h1
def lineN (l : List UInt8) (i : Nat) : Option Nat := match l[blk l i]? with
 | none => some (min (blk l i + 1) l.length)
 | some b => if b == 10 then some (min (blk l i + 1) l.length) else none
def IntB (w : World) (n : Int) (e : Ending) (w' : World) : Prop := e = .returned (.int .i64 n) ∧ Below w.heap.size w w'
theorem trimL_any (s : ByteArray) (w : World) : Calls Tryz.prog 83 #[.string s, .string ⟨#[32, 9]⟩] w fun e w' => e = .returned (.string ⟨(Lib.trimLeftS s.data.toList [32, 9]).toArray⟩) ∧ Below w.heap.size w w' :=
 Any.strings_TrimLeft_laid Tryz.lays161 (by kernel_rfl) s ⟨#[32, 9]⟩ w (by decide) (ascii_of_all (by decide))
theorem trimL_ws (l : List UInt8) : Lib.trimLeftS l [32, 9] = l.dropWhile wsB := by
 unfold Lib.trimLeftS
 congr 1
 funext b
 unfold wsB;simp only [List.contains_cons, List.contains_nil, Bool.or_false]
theorem ret_int {k : IntKind} {a b : Int} (h : a = b) : Ending.returned (.int k a) = .returned (.int k b) := by rw [h]
theorem ret_ib {a b : Int} {x y : Bool} (h : a = b) (k : x = y) : Ending.returned (.tuple #[.int .i64 a, .bool x]) = .returned (.tuple #[.int .i64 b, .bool y]) := by rw [h, k]
theorem blanks_any (s : ByteArray) (i : Nat) (w : World) (hs : s.size ≤ 1099511627776) (hi : i ≤ s.size) : Calls Tryz.prog 152 #[.string s, .int .i64 (i : Int)] w (IntB w (blk s.data.toList i : Nat)) := by
 have hl : s.data.toList.length = s.size := lTq;have hT := trimL_any (s.extract i s.size) w;rw [trimL_ws, Lib.extract_data, List.take_of_length_le (by rw [List.length_drop]; omega)] at hT;have hd := blk_drop s.data.toList i (by omega);obtain ⟨T, hTe⟩ : ∃ T : ByteArray, (⟨((s.data.toList.drop i).dropWhile wsB).toArray⟩ : ByteArray) = T := ⟨_, rfl⟩;have hTs : T.size = ((s.data.toList.drop i).dropWhile wsB).length := by rw [<- hTe]; show (List.toArray _).size = _; simp
 rw [hTe] at hT;rw [<- hTs] at hd;obtain ⟨n, hn⟩ : ∃ n, blk s.data.toList i = n := ⟨_, rfl⟩;rw [hn] at hd ⊢;have HT := hdn hT;have hd2 : T.size + n ≤ s.size := by omega
 have HD := hdn hd;have hii : (i : Int) ≤ (s.size : Int) := by omega
 clear hT hTe hTs hn hd;go_enter Tryz.func152, Tryz.ntmps152;go_wp2_with fail;refine cMq HT.out ?_;rintro e w1 ⟨rfl, b1⟩;have HB := hdn b1;clear b1;go_wp2;go_ret;exact ⟨ret_int (by have := HD.out; omega), HB.out⟩
theorem prefix_one (l : List UInt8) (c : UInt8) : Lib.hasPrefix l [c] = (l[0]? == some c) := by
 unfold Lib.hasPrefix
 cases l with
 | nil => rfl
 | cons a l =>
  show ((c == a) && List.isPrefixOf [] _) = _;rw [List.isPrefixOf_nil_left, Bool.and_true, Bool.beq_comm];rfl
theorem prefix_at (s : ByteArray) (k : Nat) (c : UInt8) (h : k ≤ s.size) : Lib.hasPrefix (s.extract k s.size).data.toList [c] = (s.data.toList[k]? == some c) := by
 have hl : s.data.toList.length = s.size := lTq;rw [prefix_one, Lib.extract_data, List.take_of_length_le (by rw [List.length_drop]; omega), List.getElem?_drop];rfl
theorem gap_any (s : ByteArray) (i : Int) (w : World) (hs : s.size ≤ 1099511627776) (hi : -9223372036854775808 ≤ i ∧ i ≤ 9223372036854775807) : Calls Tryz.prog 106 #[.string s, .int .i64 i] w (IntB w (gapI s.data.toList i)) := by
 have hl : s.data.toList.length = s.size := lTq
 by_cases h0 : i < 0
 ·have hv : gapI s.data.toList i = i := by unfold gapI; rw [if_pos (.inl h0)]
  rw [hv];clear hv;go_enter Tryz.func106, Tryz.ntmps106;go_wp2;go_ret;exact ⟨rfl, Below.refl _ _⟩
 ·obtain ⟨k, rfl⟩ : ∃ k : Nat, i = k := ⟨i.toNat, by omega⟩
  by_cases h1 : s.size < k
  ·have hv : gapI s.data.toList (k : Int) = k := by unfold gapI; rw [if_pos (.inr (by omega))]
   rw [hv];clear hv;go_enter Tryz.func106, Tryz.ntmps106;go_wp2;go_ret;exact ⟨rfl, Below.refl _ _⟩
  ·have hv : gapI s.data.toList (k : Int) = (gapN s.data.toList k : Nat) := by unfold gapI; rw [if_neg (by omega), Int.toNat_natCast]
   rw [hv];have hk : k ≤ s.size := by omega
   have hB := blanks_any s k w hs hk;have hin := blk_in s.data.toList k (by omega);have hg : gapN s.data.toList k = if s.data.toList[blk s.data.toList k]? == some 10 then blk s.data.toList (blk s.data.toList k + 1) else blk s.data.toList k := rfl;obtain ⟨j, hj⟩ : ∃ j, blk s.data.toList k = j := ⟨_, rfl⟩;rw [hj] at hB hin hg;have hpre := prefix_at s j 10 (by omega);obtain ⟨q, hq⟩ : ∃ q, (s.data.toList[j]? == some 10) = q := ⟨_, rfl⟩;rw [hq] at hpre hg;have HB := hdn hB; have HG := hdn hg;have HP := hdn fun (w' : World) => Tryz.strings_HasPrefix (s.extract j s.size) ⟨#[10]⟩ w'
   have hj1 : q = true -> j + 1 ≤ s.size := fun h => by
    subst h;have h2 : s.data.toList[j]? = some 10 := by simpa using hq
    have := (List.getElem?_eq_some_iff.1 h2).1;omega
   have HQ := hdn hpre;have hjs : j ≤ s.size := by omega
   have hji : (j : Int) ≤ (s.size : Int) := by omega
   clear hB hg hpre hq hj hv hin;go_enter Tryz.func106, Tryz.ntmps106;go_wp2_with fail;refine cMq HB.out ?_;rintro e w1 ⟨rfl, b1⟩;have HB1 := hdn b1;clear b1;go_wp2_with fail;refine cMq (HP.out _) ?_;rintro e w2 ⟨rfl, rfl⟩;rw [show Lib.hasPrefix (s.extract j s.size).data.toList (⟨#[10]⟩ : ByteArray).data.toList = q from HQ.out]
   cases q with
   | false =>
    go_wp2;go_ret;exact ⟨by rw [HG.out]; rfl, HB1.out⟩
   | true =>
    have hj2 := hj1 rfl;go_wp2_with fail;refine cMq (blanks_any s (j + 1) _ hs hj2) ?_;rintro e w3 ⟨rfl, b3⟩;have HB3 := hdn b3;clear b3;go_wp2;go_ret;exact ⟨by rw [HG.out]; rfl, HB1.out.trans (HB3.out.mono HB1.out.size)⟩
def LineR (w : World) (o : Option Nat) (e : Ending) (w' : World) : Prop := e = .returned (.tuple #[.int .i64 (o.getD 0 : Nat), .bool o.isSome]) ∧ Below w.heap.size w w'
theorem line_any (s : ByteArray) (i : Nat) (w : World) (hs : s.size ≤ 1099511627776) (hi : i ≤ s.size) : Calls Tryz.prog 109 #[.string s, .int .i64 (i : Int)] w (LineR w (lineN s.data.toList i)) := by
 have hl : s.data.toList.length = s.size := lTq;have hB := blanks_any s i w hs hi;have hin := blk_in s.data.toList i (by omega);obtain ⟨o, ho⟩ : ∃ o, lineN s.data.toList i = o := ⟨_, rfl⟩;rw [ho];unfold lineN at ho;rw [hl] at ho;obtain ⟨j, hj⟩ : ∃ j, blk s.data.toList i = j := ⟨_, rfl⟩;rw [hj] at hB hin ho;have HB := hdn hB;have hjs : j ≤ s.size := by omega
 by_cases hlt : j < s.size
 ·rw [get_list s j hlt] at ho;simp only at ho;obtain ⟨q, hq⟩ : ∃ q, (s[j] == 10) = q := ⟨_, rfl⟩;have hq2 : ((s[j].toNat : Int) != 10) = !q := by rw [show ((s[j].toNat : Int) != 10) = (s[j] != 10) from bnec s[j] 10, <- hq]; rfl
  rw [hq] at ho;have hjj : (j : Int) + 1 ≤ (s.size : Int) := by omega
  cases q with
  | true =>
   have HO := hdn (show some (j + 1) = o by rw [<- ho, if_pos rfl, Nat.min_eq_left (by omega)]);have HM := hdn (show min ((j : Int) + 1) (s.size : Int) = ((j + 1 : Nat) : Int) by omega);simp only [Bool.not_true] at hq2;clear hB hin ho hj hq;go_enter Tryz.func109, Tryz.ntmps109;go_wp2_with fail;refine cMq HB.out ?_;rintro e w1 ⟨rfl, b1⟩;have HB1 := hdn b1;clear b1;go_wp2
   go_ret2
   exact ⟨by rw [<- HO.out]; exact ret_ib HM.out rfl, HB1.out⟩
  | false =>
   have HO := hdn (show none = o by rw [<- ho]; rfl);simp only [Bool.not_false] at hq2;clear hB hin ho hj hq;go_enter Tryz.func109, Tryz.ntmps109;go_wp2_with fail;refine cMq HB.out ?_;rintro e w1 ⟨rfl, b1⟩;have HB1 := hdn b1;clear b1;go_wp2
   go_ret2
   exact ⟨by rw [<- HO.out]; rfl, HB1.out⟩
 ·obtain rfl : j = s.size := by omega
  rw [get_none s s.size hlt] at ho;simp only at ho;have HO := hdn (show some s.size = o by rw [<- ho, Nat.min_eq_right (by omega)]);have HM := hdn (show min ((s.size : Int) + 1) (s.size : Int) = ((s.size : Nat) : Int) by omega);have hjj : ¬ (s.size : Int) + 1 ≤ (s.size : Int) := by omega
  clear hB hin ho hj;go_enter Tryz.func109, Tryz.ntmps109;go_wp2_with fail;refine cMq HB.out ?_;rintro e w1 ⟨rfl, b1⟩;have HB1 := hdn b1;clear b1;go_wp2
  go_ret2
  exact ⟨by rw [<- HO.out]; exact ret_ib HM.out rfl, HB1.out⟩
end
section
open Go.RowKit
theorem rsIndexByte_spec (l : List UInt8) (c : UInt8) : (Lib.indexByte l c = -1 ∧ ∀ j : Nat, l[j]? ≠ some c) ∨ ∃ a : Nat, Lib.indexByte l c = (a : Int) ∧ l[a]? = some c ∧ ∀ j : Nat, j < a -> l[j]? ≠ some c := by
 induction l with
 | nil => exact .inl ⟨rfl, fun j => by simp⟩
 | cons b l ih =>
  unfold Lib.indexByte
  by_cases hb : b = c
  ·subst hb;refine .inr ⟨0, by simp, rfl, fun j hj => by omega⟩
  ·have hb' : (b == c) = false := by simpa using hb
   rw [hb'];rcases ih with ⟨h1, h2⟩ | ⟨a, h1, h2, h3⟩
   ·refine .inl ⟨by simp [h1], fun j => ?_⟩
    cases j with
    | zero => simpa using hb
    | succ j => simpa using h2 j
   ·refine .inr ⟨a + 1, ?_, by simpa using h2, fun j hj => ?_⟩
    ·have hne : ((Lib.indexByte l c) == (-1 : Int)) = false := by rw [h1, beq_eq_false_iff_ne]; omega
     rw [hne, h1];simp
    ·cases j with
     | zero => simpa using hb
     | succ j => simpa using h3 j (by omega)
def cutS (s : ByteArray) (c : UInt8) : ByteArray × ByteArray × Bool := if Lib.indexByte s.data.toList c < 0 then (s, ⟨#[]⟩, false) else (s.extract 0 (Lib.indexByte s.data.toList c).toNat, s.extract ((Lib.indexByte s.data.toList c).toNat + 1) s.size, true)
def CutR (w : World) (x : ByteArray × ByteArray × Bool) (e : Ending) (w' : World) : Prop := e = .returned (.tuple #[.string x.1, .string x.2.1, .bool x.2.2]) ∧ ∃ d, w' = w.drewN d
theorem slcut_any (s : ByteArray) (c : UInt8) (w : World) (hs : s.size ≤ 1099511627776) : Calls Tryz.prog 45 #[.string s, .string ⟨#[c]⟩] w (CutR w (cutS s c)) := by
 have hl : s.data.toList.length = s.size := lTq;obtain ⟨x, hx⟩ : ∃ x, cutS s c = x := ⟨_, rfl⟩;rw [hx];unfold cutS at hx;have HI := hdn (Tryz.stringslite_Index_one s c w);rcases rsIndexByte_spec s.data.toList c with ⟨h1, _⟩ | ⟨a, h1, h2, _⟩
 ·rw [h1] at HI hx;rw [if_pos (by decide)] at hx;have HX := hdn hx;clear h1 hx hl;go_enter Tryz.func45, Tryz.ntmps45;go_wp2_with fail;refine cMq HI.out ?_;rintro e w1 ⟨rfl, hw1⟩;rw [hw1];clear hw1;go_wp2
  go_ret3
  rw [<- HX.out];exact ⟨rfl, 0, rfl⟩
 ·have ha := (List.getElem?_eq_some_iff.1 h2).1;rw [h1] at HI hx;rw [if_neg (by omega), Int.toNat_natCast] at hx;have HX := hdn hx;have h3 : (a : Int) ≤ (s.size : Int) := by omega
  have h4 : (a : Int) + 1 ≤ (s.size : Int) := by omega
  have h5 : (0 : Int) ≤ (a : Int) := by omega
  have h6 : a ≤ s.size := by omega
  have h7 : a + 1 ≤ s.size := by omega
  have h8 : IntKind.i64.wrap ((a : Int) + 1) = (a : Int) + 1 := IntWalk.i64_in _ (by omega);have h9 : (0 : Int) ≤ (a : Int) + 1 := by omega
  have h10 : ((a : Int) + 1).toNat = a + 1 := by omega
  clear h1 hx h2 hl ha;go_enter Tryz.func45, Tryz.ntmps45;go_wp2_with fail;refine cMq HI.out ?_;rintro e w1 ⟨rfl, hw1⟩;rw [hw1];clear hw1;go_wp2_with fail
  go_quiet (fail)
  go_wp2
  go_ret3
  rw [<- HX.out];exact ⟨rfl, _, rfl⟩
theorem cut_any (s : ByteArray) (c : UInt8) (w : World) (hs : s.size ≤ 1099511627776) : Calls Tryz.prog 27 #[.string s, .string ⟨#[c]⟩] w (CutR w (cutS s c)) := by
 have HC := hdn (slcut_any s c w hs);obtain ⟨⟨x1, x2, x3⟩, hx⟩ : ∃ x, cutS s c = x := ⟨_, rfl⟩;rw [hx] at HC ⊢;clear hx;go_enter Tryz.func27, Tryz.ntmps27;go_wp2_with fail;refine cMq HC.out ?_;rintro e w1 ⟨rfl, d, rfl⟩;go_wp2
 go_ret3
 exact ⟨rfl, _, rfl⟩
end
section
open Go.RowKit
theorem below_on {w a b : World} (h : Below w.heap.size w a) (k : Below a.heap.size a b) : Below w.heap.size w b := h.trans (k.mono h.size)
theorem below_drewN {B : Nat} {a w : World} (h : Below B a w) (n : Nat) : Below B a (w.drewN n) := ⟨h.os, h.tape, h.output, h.size, h.block⟩
theorem upF_in (l : List UInt8) (e : UInt8) (may : UInt8 -> Bool) : ∀ (f i : Nat), i ≤ l.length -> i ≤ (upF l e may f i).1 ∧ (upF l e may f i).1 ≤ l.length
 | 0, i, h => ⟨Nat.le_refl _, h⟩
 | f + 1, i, h => by
  rw [upF]
  cases hg : l[i]? with
  | none => exact ⟨Nat.le_refl _, h⟩
  | some b =>
   have hlt := (List.getElem?_eq_some_iff.1 hg).1;have hs := stepL_le l i hlt;have hs1 := stepL_in l i;simp only
   by_cases h1 : stepL l i = 1
   ·rw [if_pos h1];split
    ·exact ⟨Nat.le_refl _, h⟩
    ·split
     ·have := upF_in l e may f (i + 1) (by omega); omega
     ·exact ⟨Nat.le_refl _, h⟩
   ·rw [if_neg h1];have := upF_in l e may f (i + 2) (by omega);omega
theorem upF_true (l : List UInt8) (e : UInt8) (may : UInt8 -> Bool) : ∀ (f i : Nat), (upF l e may f i).2 = true -> (upF l e may f i).1 < l.length
 | 0, i, h => by cases h
 | f + 1, i, h => by
  rw [upF] at h ⊢
  cases hg : l[i]? with
  | none => rw [hg] at h; cases h
  | some b =>
   rw [hg] at h;have hlt := (List.getElem?_eq_some_iff.1 hg).1;simp only at h ⊢
   by_cases h1 : stepL l i = 1
   ·rw [if_pos h1] at h ⊢
    by_cases h2 : (b == e) = true
    ·rw [if_pos h2]; exact hlt
    ·rw [if_neg h2] at h ⊢
     by_cases h3 : may b = true
     ·rw [if_pos h3] at h ⊢; exact upF_true l e may f (i + 1) h
     ·rw [if_neg h3] at h; cases h
   ·rw [if_neg h1] at h ⊢; exact upF_true l e may f (i + 2) h
def noBr (b : UInt8) : Bool := b != 91
theorem label1_any (b : UInt8) (w : World) : Calls Tryz.prog 149 #[.int .u8 (b.toNat : Int)] w (RB w (noBr b)) := by
 obtain ⟨q, hq⟩ : ∃ q, noBr b = q := ⟨_, rfl⟩;rw [hq];have hq2 : ((b.toNat : Int) != 91) = q := by rw [show ((b.toNat : Int) != 91) = (b != 91) from bnec b 91]; exact hq
 clear hq;go_enter Tryz.func149, Tryz.ntmps149;go_wp2;go_ret;exact ⟨rfl, rfl⟩
def ws3 (b : UInt8) : Bool := b == 32 || b == 9 || b == 10
def labelN (l : List UInt8) (i : Nat) : Option Nat :=
 if l[i]? == some 91 then (if (upF l 93 noBr l.length (i + 1)).2 && !(((l.drop (i + 1)).take ((upF l 93 noBr l.length (i + 1)).1 - (i + 1))).all ws3) && decide ((upF l 93 noBr l.length (i + 1)).1 - (i + 1) ≤ 999) then some (upF l 93 noBr l.length (i + 1)).1 else none) else none
def labelS (s : ByteArray) (i : Nat) : ByteArray := match labelN s.data.toList i with
 | some j => s.extract (i + 1) j
 | none => ⟨#[]⟩
def labelE (l : List UInt8) (i : Nat) : Nat := match labelN l i with
 | some j => j + 1
 | none => 0
def SIb (w : World) (x : ByteArray) (n : Int) (e : Ending) (w' : World) : Prop := e = .returned (.tuple #[.string x, .int .i64 n]) ∧ Below w.heap.size w w'
theorem trim3_any (s : ByteArray) (w : World) (hs : s.size ≤ 1099511627776) : Calls Tryz.prog 33 #[.string s, .string ⟨#[32, 9, 10]⟩] w fun e w' => e = .returned (.string ⟨(Lib.trimS s.data.toList [32, 9, 10]).toArray⟩) ∧ Below w.heap.size w w' :=
 Any.strings_Trim_laid Tryz.lays160 (by kernel_rfl) s ⟨#[32, 9, 10]⟩ w (by omega) (by decide) (ascii_of_all (by decide))
theorem dropWhile_nil' {α : Type} (p : α -> Bool) : ∀ l : List α, l.dropWhile p = [] ↔ ∀ x ∈ l, p x = true
 | [] => by simp
 | a :: l => by
  rw [List.dropWhile_cons]
  cases h : p a with
  | true => simp [h, dropWhile_nil' p l]
  | false => simp [h]
theorem trimS_nil' (l cs : List UInt8) : Lib.trimS l cs = [] ↔ ∀ x ∈ l, cs.contains x = true := by
 unfold Lib.trimS Lib.trimLeftS Lib.trimRightS;rw [dropWhile_nil'];constructor
 ·intro h x hx
  by_cases hc : cs.contains x = true
  ·exact hc
  ·exfalso;have hm : x ∈ (l.reverse.dropWhile (cs.contains ·)).reverse := by
    rw [List.mem_reverse];have : x ∈ l.reverse.takeWhile (cs.contains ·) ++ l.reverse.dropWhile (cs.contains ·) := by rw [List.takeWhile_append_dropWhile]; exact List.mem_reverse.2 hx
    rcases List.mem_append.1 this with h1 | h1
    ·exact absurd (List.all_eq_true.1 List.all_takeWhile x h1) hc
    ·exact h1
   exact hc (h x hm)
 ·intro h x hx;rw [List.mem_reverse] at hx;exact h x (List.mem_reverse.1 ((List.dropWhile_suffix _).subset hx))
theorem trim3_nil (l : List UInt8) : (Lib.trimS l [32, 9, 10]).isEmpty = l.all ws3 := by
 rw [Bool.eq_iff_iff, List.isEmpty_iff, trimS_nil', List.all_eq_true];refine forall_congr' fun x => forall_congr' fun _ => ?_;simp [ws3, or_assoc]
theorem below_of_grown {w w' : World} {cb : Nat} {o : Obj} (h : (w.alloc o).grownBy w' (some cb)) (hc : cb = w.heap.size) : Below w.heap.size w w' := by
 subst hc;have hz := h.size;rw [World.size_alloc] at hz;exact ⟨h.os, h.tape, h.output, by omega, fun j hj => (h.block j (by rw [World.size_alloc]; omega) (fun e => by have := Option.some.inj e; omega)).trans (Below.heap_alloc _ _ _ hj)⟩
theorem label_any (s : ByteArray) (i : Nat) (w : World) (hs : s.size ≤ 1099511627776) (hi : i ≤ 1099511627776) : Calls Tryz.prog 103 #[.string s, .int .i64 (i : Int)] w (SIb w (labelS s i) (labelE s.data.toList i : Nat)) := by
 have hl : s.data.toList.length = s.size := lTq;obtain ⟨W, hW⟩ : ∃ W, w.alloc (.cells #[.string s, .int .i64 ((i : Int) + 1)] 162) = W := ⟨_, rfl⟩;have hbW : Below w.heap.size w W := by rw [<- hW]; exact (Below.refl _ w).alloc (Nat.le_refl _) _
 have hcW : CurAt W w.heap.size s (i + 1) := by rw [<- hW]; exact heap_alloc_new w _
 have hnc := fun j => cell_of_row W w.heap.size j _ _ _ hcW;have hc0 : W.cell? ⟨w.heap.size, 0, none⟩ = some (.string s) := hnc 0;have HI := hdn (is_any s (i : Int) 91 W hs);have hib : isB s.data.toList (i : Int) 91 = (s.data.toList[i]? == some 91) := by unfold isB; rw [decide_eq_true (by omega), Int.toNat_natCast]; rfl
 rw [hib] at HI;obtain ⟨q, hq⟩ : ∃ q, (s.data.toList[i]? == some 91) = q := ⟨_, rfl⟩;rw [hq] at HI;have HW := hdn hW; have HBW := hdn hbW
 cases q with
 | false =>
  have hn : labelN s.data.toList i = none := by unfold labelN; rw [hq]; rfl
  have h1 : labelS s i = ⟨#[]⟩ := by unfold labelS; rw [hn]
  have h2 : labelE s.data.toList i = 0 := by unfold labelE; rw [hn]
  rw [h1, h2];clear h1 h2 hn hq hib hW hbW hcW hnc hl;go_enter Tryz.func103, Tryz.ntmps103;go_wp2_with fail;rw [HW.out];go_wp2_with fail;refine cMq HI.out ?_;rintro e w1 ⟨rfl, rfl⟩;go_wp2
  go_ret2
  exact ⟨rfl, HBW.out⟩
 | true =>
  have his : i + 1 ≤ s.size := by
   have h2 : s.data.toList[i]? = some 91 := by simpa using hq
   have := (List.getElem?_eq_some_iff.1 h2).1;omega
  have hU := upTo_label s (i + 1) w.heap.size 93 noBr W hs his hcW (fun b w' _ => label1_any b w');obtain ⟨hin1, hin2⟩ := upF_in s.data.toList 93 noBr s.size (i + 1) (by omega);have hn : labelN s.data.toList i = if (upF s.data.toList 93 noBr s.size (i + 1)).2 && !(((s.data.toList.drop (i + 1)).take ((upF s.data.toList 93 noBr s.size (i + 1)).1 - (i + 1))).all ws3) && decide ((upF s.data.toList 93 noBr s.size (i + 1)).1 - (i + 1) ≤ 999) then some (upF s.data.toList 93 noBr s.size (i + 1)).1 else none := by unfold labelN; rw [hq, if_pos rfl, hl]
  obtain ⟨⟨j, f⟩, hx⟩ : ∃ x, upF s.data.toList 93 noBr s.size (i + 1) = x := ⟨_, rfl⟩;rw [hx] at hU hin1 hin2 hn;simp only at hin1 hin2 hn;have HU := hdn hU;have hj1 : (i : Int) + 1 ≤ (j : Int) := by omega
  have hj2 : (j : Int) ≤ (s.size : Int) := by omega
  have hj3 : j ≤ s.size := by omega
  have hj4 : i + 1 ≤ j := hin1
  cases f with
  | false =>
   have hn2 : labelN s.data.toList i = none := by rw [hn]; rfl
   have h1 : labelS s i = ⟨#[]⟩ := by unfold labelS; rw [hn2]
   have h2 : labelE s.data.toList i = 0 := by unfold labelE; rw [hn2]
   rw [h1, h2];clear h1 h2 hn hn2 hq hib hW hbW hcW hnc hl hU hx hin1 hin2;go_enter Tryz.func103, Tryz.ntmps103;go_wp2_with fail;rw [HW.out];go_wp2_with fail;refine cMq HI.out ?_;rintro e w1 ⟨rfl, rfl⟩;go_wp2_with fail;refine cMq HU.out ?_;rintro e w2 ⟨rfl, hc2, hg2⟩;have HB2 := hdn (below_of_grown (by rw [HW.out]; exact hg2) rfl);clear hc2 hg2;go_wp2
   go_ret2
   exact ⟨rfl, HB2.out⟩
  | true =>
   have hT := trim3_any (s.extract (i + 1) j);have hnil := trim3_nil (s.extract (i + 1) j).data.toList;obtain ⟨x, hxe⟩ : ∃ x : ByteArray, s.extract (i + 1) j = x := ⟨_, rfl⟩;have hxd : x.data.toList = (s.data.toList.drop (i + 1)).take (j - (i + 1)) := by rw [<- hxe, Lib.extract_data]
   have hxs : x.size = j - (i + 1) := by rw [<- hxe, ByteArray.size_extract]; omega
   rw [hxe] at hT hnil;rw [<- hxd, <- hnil, <- hxs] at hn;obtain ⟨T, hTe⟩ : ∃ T : ByteArray, (⟨(Lib.trimS x.data.toList [32, 9, 10]).toArray⟩ : ByteArray) = T := ⟨_, rfl⟩;have hTd : T.toList = Lib.trimS x.data.toList [32, 9, 10] := by rw [<- hTe, Lib.toList_data]
   have HT := hdn fun (w' : World) => hT w' (by omega);rw [hTe] at HT;rw [<- hTd] at hn;have hxi : (x.size : Int) = (j : Int) - (i : Int) - 1 := by omega
   have HXE := hdn hxe
   by_cases hT0 : T.toList = []
   ·have hT1 : T.toList.isEmpty = true := by rw [hT0]; rfl
    have hn2 : labelN s.data.toList i = none := by rw [hn, hT1]; rfl
    have h1 : labelS s i = ⟨#[]⟩ := by unfold labelS; rw [hn2]
    have h2 : labelE s.data.toList i = 0 := by unfold labelE; rw [hn2]
    rw [h1, h2];clear h1 h2 hn hn2 hq hib hW hbW hcW hnc hl hU hx hin1 hin2 hT hTe hTd hxd hnil hxi hxe hxs;go_enter Tryz.func103, Tryz.ntmps103;go_wp2_with fail;rw [HW.out];go_wp2_with fail;refine cMq HI.out ?_;rintro e w1 ⟨rfl, rfl⟩;go_wp2_with fail;refine cMq HU.out ?_;rintro e w2 ⟨rfl, hc2, hg2⟩;have HB2 := hdn (below_of_grown (by rw [HW.out]; exact hg2) rfl);have k1 : w2.cell? ⟨w.heap.size, 1, none⟩ = some (.int .i64 (j : Int)) := cell_of_row w2 w.heap.size 1 _ _ _ hc2;clear hc2 hg2;go_wp2_with fail;rw [HXE.out]
    refine cMq (HT.out _) ?_;rintro e w3 ⟨rfl, b3⟩;have HB3 := hdn b3;clear b3;go_wp2
    go_ret2
    exact ⟨rfl, below_on HB2.out HB3.out⟩
   ·have hT1 : T.toList.isEmpty = false := by cases hc : T.toList with | nil => exact absurd hc hT0 | cons _ _ => rfl
    by_cases h999 : x.size ≤ 999
    ·have hn2 : labelN s.data.toList i = some j := by rw [hn, hT1, decide_eq_true h999]; rfl
     have h1 : labelS s i = x := by unfold labelS; rw [hn2]; exact hxe
     have h2 : labelE s.data.toList i = j + 1 := by unfold labelE; rw [hn2]
     rw [h1, h2];have h9 : ¬ (999 : Int) < (x.size : Int) := by omega
     clear h1 h2 hn hn2 hq hib hW hbW hcW hnc hl hU hx hin1 hin2 hT hTe hTd hxd hnil hxi hxe hxs;go_enter Tryz.func103, Tryz.ntmps103;go_wp2_with fail;rw [HW.out];go_wp2_with fail;refine cMq HI.out ?_;rintro e w1 ⟨rfl, rfl⟩;go_wp2_with fail;refine cMq HU.out ?_;rintro e w2 ⟨rfl, hc2, hg2⟩;have HB2 := hdn (below_of_grown (by rw [HW.out]; exact hg2) rfl);have k1 : w2.cell? ⟨w.heap.size, 1, none⟩ = some (.int .i64 (j : Int)) := cell_of_row w2 w.heap.size 1 _ _ _ hc2
     have hz2 : w.heap.size < w2.heap.size := (gSq.1 (show w2.heap[w.heap.size]? = _ from hc2)).1;have HC2 := hdn hc2;clear hc2 hg2;go_wp2_with fail;rw [HXE.out];refine cMq (HT.out _) ?_;rintro e w3 ⟨rfl, b3⟩;have k3 : w3.cell? ⟨w.heap.size, 1, none⟩ = some (.int .i64 (j : Int)) := cell_of_row w3 w.heap.size 1 _ _ _ ((b3.block _ hz2).trans HC2.out);have HB3 := hdn b3;clear b3;go_wp2_with fail
     go_quiet (fail)
     go_wp2
     go_ret2
     exact ⟨rfl, below_drewN (below_on HB2.out HB3.out) _⟩
    ·have hn2 : labelN s.data.toList i = none := by rw [hn, hT1, decide_eq_false h999]; rfl
     have h1 : labelS s i = ⟨#[]⟩ := by unfold labelS; rw [hn2]
     have h2 : labelE s.data.toList i = 0 := by unfold labelE; rw [hn2]
     rw [h1, h2];have h9 : (999 : Int) < (x.size : Int) := by omega
     clear h1 h2 hn hn2 hq hib hW hbW hcW hnc hl hU hx hin1 hin2 hT hTe hTd hxd hnil hxi hxe hxs;go_enter Tryz.func103, Tryz.ntmps103;go_wp2_with fail;rw [HW.out];go_wp2_with fail;refine cMq HI.out ?_;rintro e w1 ⟨rfl, rfl⟩;go_wp2_with fail;refine cMq HU.out ?_;rintro e w2 ⟨rfl, hc2, hg2⟩;have HB2 := hdn (below_of_grown (by rw [HW.out]; exact hg2) rfl);have k1 : w2.cell? ⟨w.heap.size, 1, none⟩ = some (.int .i64 (j : Int)) := cell_of_row w2 w.heap.size 1 _ _ _ hc2;clear hc2 hg2;go_wp2_with fail;rw [HXE.out];refine cMq (HT.out _) ?_
     rintro e w3 ⟨rfl, b3⟩;have HB3 := hdn b3;clear b3;go_wp2
     go_ret2
     exact ⟨rfl, below_on HB2.out HB3.out⟩
end
