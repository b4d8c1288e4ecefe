/- The reference's Text, in little. -/
import Derived.Test.YtebfjlfkofibpaaGreatDoorBase
import Derived.Deep.QuietTactic
import Derived.BigQuiet
namespace Go.Proofs.YtebfjlfkofibpaaGreatDoor
set_option maxHeartbeats 4000000
set_option maxRecDepth 100000
section
open Go.RowKit
def manyN (n : Nat) : Nat := if n < 128 then 1 else if n < 194 then 0 else if n < 224 then 2 else if n < 240 then 3 else if n < 245 then 4 else 0
theorem manyN_le (n : Nat) : manyN n ≤ 4 := by unfold manyN; repeat (split <;> try omega)
def IntW (w : World) (n : Int) (e : Ending) (w' : World) : Prop := e = .returned (.int .i64 n) ∧ w = w'
theorem many_any (b : UInt8) (w : World) : Calls Tryz.prog 42 #[.int .u8 (b.toNat : Int)] w (IntW w (manyN b.toNat : Nat)) := by
 obtain ⟨n, hn⟩ : ∃ n, b.toNat = n := ⟨_, rfl⟩;rw [hn];clear hn;obtain ⟨m, hm⟩ : ∃ m, manyN n = m := ⟨_, rfl⟩;rw [hm];have HM := hdn hm;clear hm;have hcase : n < 128 ∨ (128 ≤ n ∧ n < 194) ∨ (194 ≤ n ∧ n ≤ 223) ∨ (223 < n ∧ n < 224) ∨ (224 ≤ n ∧ n ≤ 239) ∨ (240 ≤ n ∧ n ≤ 244) ∨ (244 < n) := by omega
 rcases hcase with h1 | ⟨h1, h2⟩ | ⟨h1, h2⟩ | ⟨h1, h2⟩ | ⟨h1, h2⟩ | ⟨h1, h2⟩ | h1
 ·have z1 : (n : Int) < 128 := by omega
  have e : m = 1 := by rw [<- HM.out]; unfold manyN; rw [if_pos h1]
  subst e;go_enter Tryz.func42, Tryz.ntmps42;go_wp2;go_ret;exact ⟨rfl, rfl⟩
 ·have z1 : ¬ (n : Int) < 128 := by omega
  have z2 : ¬ (194 : Int) ≤ n := by omega
  have z3 : ¬ (224 : Int) ≤ n := by omega
  have z4 : ¬ (240 : Int) ≤ n := by omega
  have e : m = 0 := by rw [<- HM.out]; unfold manyN; rw [if_neg (by omega), if_pos h2]
  subst e;go_enter Tryz.func42, Tryz.ntmps42;go_wp2;go_ret;exact ⟨rfl, rfl⟩
 ·have z1 : ¬ (n : Int) < 128 := by omega
  have z2 : (194 : Int) ≤ n := by omega
  have z3 : (n : Int) ≤ 223 := by omega
  have e : m = 2 := by rw [<- HM.out]; unfold manyN; rw [if_neg (by omega), if_neg (by omega), if_pos (by omega)]
  subst e;go_enter Tryz.func42, Tryz.ntmps42;go_wp2;go_ret;exact ⟨rfl, rfl⟩
 ·omega
 ·have z1 : ¬ (n : Int) < 128 := by omega
  have z2 : (194 : Int) ≤ n := by omega
  have z3 : ¬ (n : Int) ≤ 223 := by omega
  have z4 : (224 : Int) ≤ n := by omega
  have z5 : (n : Int) ≤ 239 := by omega
  have e : m = 3 := by rw [<- HM.out]; unfold manyN; rw [if_neg (by omega), if_neg (by omega), if_neg (by omega), if_pos (by omega)]
  subst e;go_enter Tryz.func42, Tryz.ntmps42;go_wp2;go_ret;exact ⟨rfl, rfl⟩
 ·have z1 : ¬ (n : Int) < 128 := by omega
  have z2 : (194 : Int) ≤ n := by omega
  have z3 : ¬ (n : Int) ≤ 223 := by omega
  have z4 : (224 : Int) ≤ n := by omega
  have z5 : ¬ (n : Int) ≤ 239 := by omega
  have z6 : (240 : Int) ≤ n := by omega
  have z7 : (n : Int) ≤ 244 := by omega
  have e : m = 4 := by rw [<- HM.out]; unfold manyN; rw [if_neg (by omega), if_neg (by omega), if_neg (by omega), if_neg (by omega), if_pos (by omega)]
  subst e;go_enter Tryz.func42, Tryz.ntmps42;go_wp2;go_ret;exact ⟨rfl, rfl⟩
 ·have z1 : ¬ (n : Int) < 128 := by omega
  have z2 : (194 : Int) ≤ n := by omega
  have z3 : ¬ (n : Int) ≤ 223 := by omega
  have z4 : (224 : Int) ≤ n := by omega
  have z5 : ¬ (n : Int) ≤ 239 := by omega
  have z6 : (240 : Int) ≤ n := by omega
  have z7 : ¬ (n : Int) ≤ 244 := by omega
  have e : m = 0 := by rw [<- HM.out]; unfold manyN; rw [if_neg (by omega), if_neg (by omega), if_neg (by omega), if_neg (by omega), if_neg (by omega)]
  subst e;go_enter Tryz.func42, Tryz.ntmps42;go_wp2;go_ret;exact ⟨rfl, rfl⟩
def secR (a : Nat) : Nat × Nat := if a = 224 then (160, 191) else if a = 237 then (128, 159) else if a = 240 then (144, 191) else if a = 244 then (128, 143) else (128, 191)
def secB (a b : Nat) : Bool := decide ((secR a).1 ≤ b) && decide (b ≤ (secR a).2)
def BoolW (w : World) (v : Bool) (e : Ending) (w' : World) : Prop := e = .returned (.bool v) ∧ w = w'
theorem second_any (a b : UInt8) (w : World) : Calls Tryz.prog 43 #[.int .u8 (a.toNat : Int), .int .u8 (b.toNat : Int)] w (BoolW w (secB a.toNat b.toNat)) := by
 obtain ⟨n, hn⟩ : ∃ n, a.toNat = n := ⟨_, rfl⟩;obtain ⟨m, hm⟩ : ∃ m, b.toNat = m := ⟨_, rfl⟩;rw [hn, hm];clear hn hm;have key : ∀ lo hi : Nat, secR n = (lo, hi) -> secB n m = if (lo : Int) ≤ (m : Int) then decide ((m : Int) ≤ (hi : Int)) else false := fun lo hi e => by
  unfold secB;rw [e]
  by_cases h : lo ≤ m
  ·rw [if_pos (by omega), decide_eq_true h, Bool.true_and];exact decide_eq_decide.2 (by omega)
  ·rw [if_neg (by omega), decide_eq_false h, Bool.false_and]
 have hcase : n = 224 ∨ n = 237 ∨ n = 240 ∨ n = 244 ∨ (¬ n = 224 ∧ ¬ n = 237 ∧ ¬ n = 240 ∧ ¬ n = 244) := by omega
 rcases hcase with rfl | rfl | rfl | rfl | ⟨h1, h2, h3, h4⟩
 ·rw [key 160 191 rfl];clear key
  by_cases h : (160 : Int) ≤ (m : Int)
  ·rw [if_pos (by omega)];go_enter Tryz.func43, Tryz.ntmps43;go_wp2;go_ret;exact ⟨rfl, rfl⟩
  ·rw [if_neg (by omega)];go_enter Tryz.func43, Tryz.ntmps43;go_wp2;go_ret;exact ⟨rfl, rfl⟩
 ·rw [key 128 159 rfl];clear key
  by_cases h : (128 : Int) ≤ (m : Int)
  ·rw [if_pos (by omega)];go_enter Tryz.func43, Tryz.ntmps43;go_wp2;go_ret;exact ⟨rfl, rfl⟩
  ·rw [if_neg (by omega)];go_enter Tryz.func43, Tryz.ntmps43;go_wp2;go_ret;exact ⟨rfl, rfl⟩
 ·rw [key 144 191 rfl];clear key
  by_cases h : (144 : Int) ≤ (m : Int)
  ·rw [if_pos (by omega)];go_enter Tryz.func43, Tryz.ntmps43;go_wp2;go_ret;exact ⟨rfl, rfl⟩
  ·rw [if_neg (by omega)];go_enter Tryz.func43, Tryz.ntmps43;go_wp2;go_ret;exact ⟨rfl, rfl⟩
 ·rw [key 128 143 rfl];clear key
  by_cases h : (128 : Int) ≤ (m : Int)
  ·rw [if_pos (by omega)];go_enter Tryz.func43, Tryz.ntmps43;go_wp2;go_ret;exact ⟨rfl, rfl⟩
  ·rw [if_neg (by omega)];go_enter Tryz.func43, Tryz.ntmps43;go_wp2;go_ret;exact ⟨rfl, rfl⟩
 ·rw [key 128 191 (by unfold secR; rw [if_neg h1, if_neg h2, if_neg h3, if_neg h4])];have y1 : ((n : Int) == 224) = false := by rw [beq_eq_false_iff_ne]; omega
  have y2 : ((n : Int) == 237) = false := by rw [beq_eq_false_iff_ne]; omega
  have y3 : ((n : Int) == 240) = false := by rw [beq_eq_false_iff_ne]; omega
  have y4 : ((n : Int) == 244) = false := by rw [beq_eq_false_iff_ne]; omega
  clear key h1 h2 h3 h4
  by_cases h : (128 : Int) ≤ (m : Int)
  ·rw [if_pos (by omega)];go_enter Tryz.func43, Tryz.ntmps43;go_wp2;go_ret;exact ⟨rfl, rfl⟩
  ·rw [if_neg (by omega)];go_enter Tryz.func43, Tryz.ntmps43;go_wp2;go_ret;exact ⟨rfl, rfl⟩
end
section
open Go.RowKit
def contN (b : Nat) : Bool := decide (128 ≤ b) && decide (b ≤ 191)
def okAt (l : List UInt8) (i : Nat) : Bool := if i = 1 then secB (l.getD 0 0).toNat (l.getD 1 0).toNat else contN (l.getD i 0).toNat
def frontF (l : List UInt8) (n : Nat) : Nat -> Nat -> Nat × Bool
 | 0, i => (i, i == n)
 | f + 1, i => if i < n ∧ i < l.length then (if okAt l i = true then frontF l n f (i + 1) else (i, false)) else (i, i == n)
def txFrontN (l : List UInt8) : Nat × Bool := if manyN (l.getD 0 0).toNat = 0 then (1, false) else frontF l (manyN (l.getD 0 0).toNat) 4 1
theorem frontF_in (l : List UInt8) (n : Nat) : ∀ f i, i ≤ l.length -> i ≤ (frontF l n f i).1 ∧ (frontF l n f i).1 ≤ l.length
 | 0, _, h => ⟨Nat.le_refl _, h⟩
 | f + 1, i, h => by
  unfold frontF;split
  ·rename_i hh;split
   ·have := frontF_in l n f (i + 1) (by omega);exact ⟨by omega, this.2⟩
   ·exact ⟨Nat.le_refl _, h⟩
  ·exact ⟨Nat.le_refl _, h⟩
theorem txFrontN_in (l : List UInt8) (h : 1 ≤ l.length) : 1 ≤ (txFrontN l).1 ∧ (txFrontN l).1 ≤ l.length := by
 unfold txFrontN;split
 ·exact ⟨Nat.le_refl _, h⟩
 ·exact frontF_in l _ 4 1 h
theorem frontF_end {l : List UInt8} {n f i : Nat} (h : ¬ (i < n ∧ i < l.length)) : frontF l n f i = (i, i == n) := by
 cases f with
 | zero => rfl
 | succ f => rw [frontF, if_neg h]
theorem frontF_yes {l : List UInt8} {n f i : Nat} (h : i < n) (h2 : i < l.length) (ho : okAt l i = true) : frontF l n (f + 1) i = frontF l n f (i + 1) := by rw [frontF, if_pos ⟨h, h2⟩, if_pos ho]
theorem frontF_no {l : List UInt8} {n f i : Nat} (h : i < n) (h2 : i < l.length) (ho : okAt l i = false) : frontF l n (f + 1) i = (i, false) := by rw [frontF, if_pos ⟨h, h2⟩, if_neg (by rw [ho]; simp)]
def BytesOf (w : World) (b off : Nat) (l : List UInt8) : Prop := ∀ (j : Nat) (h : j < l.length), w.cell? ⟨b, off + j, none⟩ = some (.int .u8 (l[j].toNat : Int))
def FrontR (w : World) (x : Nat × Bool) (e : Ending) (w' : World) : Prop := e = .returned (.tuple #[.int .i64 (x.1 : Int), .bool x.2]) ∧ ∃ d, w' = w.drewN d
def FrontW (w : World) (l : List UInt8) (n : Nat) (E : Nat × Bool) (v : Value) (wr : World) : Prop := ∃ (k f : Nat), v = .int .i64 (k : Int) ∧ 1 ≤ k ∧ k ≤ l.length ∧ n ≤ k + f ∧ frontF l n f k = E ∧ ∃ d, wr = w.drewN d
theorem txFront_any (b off m c : Nat) (l : List UInt8) (w : World) (hm : m = l.length) (h1 : 1 ≤ l.length) (hl : l.length ≤ 1099511627776) (hb : BytesOf w b off l) :
  Calls Tryz.prog 24 #[.slice (some ⟨b, off, none⟩) m c] w (FrontR w (txFrontN l)) := by
 have c0 := hb 0 h1;obtain ⟨a, ha⟩ : ∃ a, l[0] = a := ⟨_, rfl⟩;rw [ha] at c0;have hg0 : l.getD 0 0 = a := by rw [List.getD_eq_getElem?_getD, List.getElem?_eq_getElem h1, ha]; rfl
 have hE : txFrontN l = if manyN a.toNat = 0 then (1, false) else frontF l (manyN a.toNat) 4 1 := by unfold txFrontN; rw [hg0]
 rw [hE];have hn4 := manyN_le a.toNat;obtain ⟨n, hn⟩ : ∃ n, manyN a.toNat = n := ⟨_, rfl⟩;have HM := hdn fun w' => many_any a w';rw [hn] at HM hn4 ⊢;have c0' : w.cell? ⟨b, off, none⟩ = some (.int .u8 (a.toNat : Int)) := c0;have hL0 : (0 : Int) < (m : Int) := by omega
 have hm1 : 0 < m := by omega
 have hmx : m ≤ 1099511627776 := by omega
 have HML := hdn hm;have HB := hdn hb;have HG0 := hdn hg0;clear hE hb ha hg0 hn hm hl;have H1 := hdn h1;clear h1
 by_cases hz : n = 0
 ·subst hz;rw [if_pos rfl];go_enter Tryz.func24, Tryz.ntmps24;go_wp2_with fail;refine cMq (HM.out _) ?_;rintro e w1 ⟨rfl, rfl⟩;go_wp2
  go_ret2
  exact ⟨rfl, 0, rfl⟩
 ·rw [if_neg hz];have hz' : ((n : Int) == 0) = false := by rw [beq_eq_false_iff_ne]; omega
  obtain ⟨E, hE⟩ : ∃ E, frontF l n 4 1 = E := ⟨_, rfl⟩;rw [hE];have HE := hdn hE;clear hE;go_enter Tryz.func24, Tryz.ntmps24;go_wp2_with fail;refine cMq (HM.out _) ?_;rintro e w1 ⟨rfl, rfl⟩;go_wp2_with fail
  go_loopw [5] (fun v wr => FrontW w l n E v wr) (fun v _ => n - (intOf v).toNat)
  case atStart => exact ⟨1, 4, rfl, by omega, H1.out, by omega, HE.out, 0, rfl⟩
  case round =>
   obtain ⟨k, f, rfl, hk1, hkl, hnf, hE, d, rfl⟩ := hrel
   by_cases hkn : k < n
   ·by_cases hk2 : k < m
    ·have hk2l : k < l.length := by rw [<- HML.out]; exact hk2
     have zk : (k : Int) < (n : Int) := by omega
     have zk2 : (k : Int) < (m : Int) := by omega
     have ck := HB.out k hk2l;obtain ⟨x, hx⟩ : ∃ x, l[k] = x := ⟨_, rfl⟩;rw [hx] at ck;have hgk : l.getD k 0 = x := by rw [List.getD_eq_getElem?_getD, List.getElem?_eq_getElem hk2l, hx]; rfl
     obtain ⟨f', rfl⟩ : ∃ f', f = f' + 1 := ⟨f - 1, by omega⟩
     by_cases h11 : k = 1
     ·subst h11;have zk1 : (1 : Int) < (n : Int) := by omega
      have zk3 : (1 : Int) < (m : Int) := by omega
      have hok : okAt l 1 = secB a.toNat x.toNat := by unfold okAt; rw [if_pos rfl, HG0.out, hgk]
      have HS := hdn fun w' => second_any a x w'
      cases hs : secB a.toNat x.toNat with
      | true =>
       rw [frontF_yes hkn hk2l (hok.trans hs)] at hE;rw [hs] at HS;have HE2 := hdn hE;clear hE hok hs hgk hx HE zk zk2 c0 hk2l hkl;go_wp2
       go_quiet ((go_at_call 43; exact (HS.out _).mono fun _ _ h => ⟨h.1, _, h.2.symm⟩))
       go_wp2
       go_roundw
       case rel => exact ⟨1 + 1, f', by go_num, by omega, by rw [<- HML.out]; omega, by omega, HE2.out, d + nq, by first | rfl | exact World.drewN_drewN _ _ _⟩
       case measure => simp [intOf]; omega
      | false =>
       rw [frontF_no hkn hk2l (hok.trans hs)] at hE;rw [hs] at HS;subst hE;clear hok hs hgk hx HE zk zk2 c0 hk2l hkl;go_wp2
       go_quiet ((go_at_call 43; exact (HS.out _).mono fun _ _ h => ⟨h.1, _, h.2.symm⟩))
       go_wp2
       go_ret2
       exact ⟨rfl, d + nq, World.drewN_drewN _ _ _⟩
     ·have hok : okAt l k = contN x.toNat := by unfold okAt; rw [if_neg h11, hgk]
      have z1 : ((k : Int) == 1) = false := by rw [beq_eq_false_iff_ne]; omega
      have z2 : (1 : Int) < (k : Int) := by omega
      have z2d : decide (1 < k) = true := decide_eq_true (by omega);obtain ⟨y, hy⟩ : ∃ y, x.toNat = y := ⟨_, rfl⟩;rw [hy] at ck hok;have hcase : y < 128 ∨ 191 < y ∨ (128 ≤ y ∧ y ≤ 191) := by omega
      rcases hcase with h | h | ⟨h, h'⟩
      ·have hof : contN y = false := by unfold contN; rw [decide_eq_false (by omega)]; rfl
       rw [frontF_no hkn hk2l (hok.trans hof)] at hE;subst hE;have z3 : decide ((y : Int) < 128) = true := by simp; omega
       have z3i : (y : Int) < 128 := by omega
       clear hok hof hgk hx HE c0 hk2l hkl hy;go_wp2
       go_quiet (fail)
       go_wp2
       go_ret2
       exact ⟨rfl, d + nq, World.drewN_drewN _ _ _⟩
      ·have hof : contN y = false := by unfold contN; rw [decide_eq_false (p := y ≤ 191) (by omega), Bool.and_false]
       rw [frontF_no hkn hk2l (hok.trans hof)] at hE;subst hE;have z3 : decide ((y : Int) < 128) = false := by simp; omega
       have z4 : decide ((191 : Int) < (y : Int)) = true := by simp; omega
       have z4i : (191 : Int) < (y : Int) := by omega
       clear hok hof hgk hx HE c0 hk2l hkl hy;go_wp2
       go_quiet (fail)
       go_wp2
       go_ret2
       exact ⟨rfl, d + nq, World.drewN_drewN _ _ _⟩
      ·have hof : contN y = true := by unfold contN; rw [decide_eq_true h, decide_eq_true h']; rfl
       rw [frontF_yes hkn hk2l (hok.trans hof)] at hE;have HE2 := hdn hE;have z3 : decide ((y : Int) < 128) = false := by simp; omega
       have z4 : decide ((191 : Int) < (y : Int)) = false := by simp; omega
       clear hE hok hof hgk hx HE c0 hk2l hkl hy;go_wp2
       go_quiet (fail)
       go_wp2
       go_roundw
       case rel => exact ⟨k + 1, f', by go_num, by omega, by rw [<- HML.out]; omega, by omega, HE2.out, d + nq, by first | rfl | exact World.drewN_drewN _ _ _⟩
       case measure => simp [intOf]; omega
    ·rw [frontF_end (by rw [<- HML.out]; omega)] at hE;subst hE;have zk : (k : Int) < (n : Int) := by omega
     have zk2 : decide ((k : Int) < (m : Int)) = false := by simp; omega
     have hq : (k == n) = false := by rw [beq_eq_false_iff_ne]; omega
     have hqi : ((k : Int) == (n : Int)) = false := by rw [beq_eq_false_iff_ne]; omega
     clear c0 HE hkl;go_wp2
     go_ret2
     rw [hq];exact ⟨rfl, d, rfl⟩
   ·rw [frontF_end (by omega)] at hE;subst hE;have zk : decide ((k : Int) < (n : Int)) = false := by simp; omega
    have hq : ((k : Int) == (n : Int)) = (k == n) := by rw [Bool.eq_iff_iff, beq_iff_eq, beq_iff_eq]; omega
    clear c0 HE hkl;go_wp2
    go_ret2
    exact ⟨by first | rfl | rw [hq], d, rfl⟩
end
section
open Go.RowKit
def plainF : Nat -> List UInt8 -> List UInt8
 | 0, _ => []
 | f + 1, l => if l.length = 0 then [] else (if ((txFrontN l).2 && (l.getD 0 0 != 0)) = true then l.take (txFrontN l).1 else [239, 191, 189]) ++ plainF f (l.drop (txFrontN l).1)
def plainL (l : List UInt8) : List UInt8 := plainF l.length l
def textL (l : List UInt8) : List UInt8 := plainL (if l.take 3 = [239, 187, 191] then l.drop 3 else l)
theorem plainF_len : ∀ (f : Nat) (l : List UInt8), (plainF f l).length ≤ 3 * l.length
 | 0, _ => by simp [plainF]
 | f + 1, l => by
  unfold plainF;split
  ·simp
  ·rename_i h;have h1 := txFrontN_in l (by omega);have h2 := plainF_len f (l.drop (txFrontN l).1);rw [List.length_drop] at h2;rw [List.length_append];split
   ·rw [List.length_take]; omega
   ·simp; omega
theorem plainL_len (l : List UInt8) : (plainL l).length ≤ 3 * l.length := plainF_len _ _
theorem textL_len (l : List UInt8) : (textL l).length ≤ 3 * l.length := by
 unfold textL;have := plainL_len (if l.take 3 = [239, 187, 191] then l.drop 3 else l);refine Nat.le_trans this ?_;split
 ·rw [List.length_drop]; omega
 ·omega
def SlU8 (w : World) (v : Value) (l : List UInt8) : Prop := ∃ (A : Option Addr) (m c : Nat), v = .slice A m c ∧ m = l.length ∧ m ≤ c ∧ (0 < m -> ∃ b off, A = some ⟨b, off, none⟩ ∧ b < w.heap.size ∧ BytesOf w b off l)
def SlU8W (w : World) (E : List UInt8) (N : Nat) (v0 v3 : Value) (wr : World) : Prop := ∃ (rest acc : List UInt8) (f : Nat), SlU8 w v0 rest ∧ Acc w v3 acc wr ∧ rest.length ≤ f ∧ acc ++ plainF f rest = E ∧ acc.length + 3 * rest.length ≤ N
theorem cell_three (w : World) (t : TypeId) : ∀ j u, (([239, 191, 189] : List UInt8).map u8c)[j]? = some u -> (w.alloc (.cells #[.int .u8 239, .int .u8 191, .int .u8 189] t)).cell? ((⟨w.heap.size, 0, none⟩ : Addr).add j) = some u := by
 intro j u hj
 match j, hj with
 | 0, hj => simp [u8c] at hj; subst hj; simp [Addr.add]
 | 1, hj => simp [u8c] at hj; subst hj; simp [Addr.add]
 | 2, hj => simp [u8c] at hj; subst hj; simp [Addr.add]
theorem bytes_drop {w : World} {b off : Nat} {l : List UInt8} (h : BytesOf w b off l) (n : Nat) : BytesOf w b (off + n) (l.drop n) := by
 intro j hj;rw [List.length_drop] at hj;have := h (n + j) (by omega);rw [List.getElem_drop]
 rwa [show off + (n + j) = off + n + j by omega] at this
theorem bytes_take {w wr : World} {b off : Nat} {l : List UInt8} (h : BytesOf w b off l) (hw : Below w.heap.size w wr) (hb : b < w.heap.size) (n : Nat) : ∀ j u, ((l.take n).map u8c)[j]? = some u -> wr.cell? ((⟨b, off, none⟩ : Addr).add j) = some u := by
 intro j u hj;rw [List.getElem?_map] at hj
 cases hj2 : (l.take n)[j]? with
 | none => rw [hj2] at hj; cases hj
 | some x =>
  rw [hj2] at hj;have hu : u8c x = u := Option.some.inj hj;obtain ⟨hjl, hx⟩ := List.getElem?_eq_some_iff.1 hj2;rw [List.length_take] at hjl;rw [List.getElem_take] at hx;have h2 := h j (by omega);rw [hx] at h2;rw [<- hu, show (⟨b, off, none⟩ : Addr).add j = ⟨b, off + j, none⟩ by simp [Addr.add]];exact (hw.cell (p := ⟨b, off + j, none⟩) hb).trans h2
theorem plainF_nil {f : Nat} {l : List UInt8} (h : l.length = 0) : plainF f l = [] := by
 cases f with
 | zero => rfl
 | succ f => rw [plainF, if_pos h]
theorem plainF_yes {f : Nat} {l : List UInt8} (h : 0 < l.length) (hh : ((txFrontN l).2 && (l.getD 0 0 != 0)) = true) : plainF (f + 1) l = l.take (txFrontN l).1 ++ plainF f (l.drop (txFrontN l).1) := by rw [plainF, if_neg (by omega), if_pos hh]
theorem plainF_no {f : Nat} {l : List UInt8} (h : 0 < l.length) (hh : ((txFrontN l).2 && (l.getD 0 0 != 0)) = false) : plainF (f + 1) l = [239, 191, 189] ++ plainF f (l.drop (txFrontN l).1) := by rw [plainF, if_neg (by omega), if_neg (by rw [hh]; simp)]
theorem sl_after {w : World} {b off n m c : Nat} {rest : List UInt8} (hm : m = rest.length) (hnm : n ≤ m) (hmc : m ≤ c) (hb : b < w.heap.size) (h : BytesOf w b off rest) :
  SlU8 w (.slice (if c = n then some ⟨b, off, none⟩ else some ⟨b, off + n, none⟩) (m - n) (c - n)) (rest.drop n) := by
 refine ⟨_, _, _, rfl, by rw [List.length_drop, hm], by omega, fun h0 => ⟨b, off + n, by rw [if_neg (by omega)], hb, bytes_drop h n⟩⟩
theorem plain_any (v : Value) (l : List UInt8) (w : World) (hl : l.length ≤ 1099511627776) (hv : SlU8 w v l) : Calls Tryz.prog 17 #[v] w (StrR w (plainL l)) := by
 obtain ⟨A0, m0, c0, rfl, hm0, hc0, hb0⟩ := hv;obtain ⟨E, hE⟩ : ∃ E, plainL l = E := ⟨_, rfl⟩;rw [hE];have H0 := hdn (show SlU8W w E (3 * l.length) (.slice A0 m0 c0) (.slice none 0 0) w from ⟨l, [], l.length, ⟨A0, m0, c0, rfl, hm0, hc0, hb0⟩, Acc.start w, Nat.le_refl _, hE, by simp⟩);obtain ⟨N, hN⟩ : ∃ N, 3 * l.length = N := ⟨_, rfl⟩;rw [hN] at H0;have hNb : N ≤ 3298534883328 := by omega
 clear hE hb0 hm0 hN hc0;go_enter Tryz.func17, Tryz.ntmps17;go_wp2_with fail
 go_loopw [0, 3, 4, 5] (fun v0 v3 _ _ wr => SlU8W w E N v0 v3 wr) (fun v0 _ _ _ _ => match v0 with | .slice _ m _ => m | _ => 0)
 case atStart => exact H0.out
 case round =>
  obtain ⟨rest, acc, f, ⟨A, m, c, rfl, hm, hc, hb⟩, hacc, hf, hE, hN⟩ := hrel;obtain ⟨Aa, ma, ca, rfl⟩ := hacc.slice;have HA := hdn hacc;have hwb := hacc.below;clear hacc H0
  by_cases h0 : 0 < m
  ·obtain ⟨b, off, rfl, hbw, hbo⟩ := hb h0;have hml : 1 ≤ rest.length := by omega
   have hfr := txFrontN_in rest hml;have hz0 := hbo 0 (by omega);obtain ⟨a, ha⟩ : ∃ a, rest[0]'(by omega) = a := ⟨_, rfl⟩;have hz1 := (hwb.cell (p := ⟨b, off, none⟩) hbw).trans hz0;rw [ha] at hz1;have hg0 : rest.getD 0 0 = a := by rw [List.getD_eq_getElem?_getD, List.getElem?_eq_getElem (by omega), ha]; rfl
   obtain ⟨f', rfl⟩ : ∃ f', f = f' + 1 := ⟨f - 1, by omega⟩;have hbr : BytesOf wr b off rest := fun j hj => (hwb.cell (p := ⟨b, off + j, none⟩) hbw).trans (hbo j hj);have hF := fun c' => txFront_any b off m c' rest wr hm hml (by omega) hbr;have hxs := bytes_take (wr := wr) hbo hwb hbw (txFrontN rest).1;have hyes := plainF_yes (f := f') (l := rest) (by omega);have hno := plainF_no (f := f') (l := rest) (by omega);rw [hg0] at hyes hno;obtain ⟨n, wh, hnw⟩ : ∃ n wh, txFrontN rest = (n, wh) := ⟨_, _, rfl⟩;rw [hnw] at hfr hF hxs hyes hno;simp only at hfr hF hxs hyes hno
   have hn1 : (0 : Int) ≤ (n : Int) := by omega
   have hnm : n ≤ m := by omega
   have hnc : n ≤ c := by omega
   have hnmI : (n : Int) ≤ (m : Int) := by omega
   have hncI : (n : Int) ≤ (c : Int) := by omega
   have h0I : (0 : Int) < (m : Int) := by omega
   have hlt : (rest.take n).length = n := by rw [List.length_take]; omega
   have HF := hdn hF;have HBR := hdn hbr;have HXS := hdn hxs;have HLT := hdn hlt;have HN := hdn hN;have HM := hdn hm;have HMR := hdn hfr;have HFL := hdn hf;clear hF hbr hxs hlt hb hz0 ha hg0 hnw hm hfr hf hml hN;go_wp2_with fail;refine cMq (HF.out _) ?_;rintro e w1 ⟨rfl, d, rfl⟩
   cases wh with
   | true =>
    by_cases h00 : a = 0
    ·have zne : ((a.toNat : Int) != 0) = false := by rw [h00]; rfl
     have hE2 := hno (by simp [h00]);rw [hE2, <- List.append_assoc] at hE;have HE := hdn hE;clear hE hE2 hyes hno h00;go_wp2_with (at_builtin; refine wpList_acc rfl (.tmp 26) (.tmp 27) rfl _ _ rfl ((HA.out.drewN d).alloc (.cells #[.int .u8 239, .int .u8 191, .int .u8 189] 5)) ⟨wr.heap.size, 0, none⟩ 3 3 [239, 191, 189] rfl rfl (cell_three _ _) (by have := HN.out; have := HM.out; show acc.length + 3 ≤ _; omega) ?_);intro v' W1 hst;have HST := hdn hst;clear hst;go_wp2
     exact ⟨⟨rest.drop n, acc ++ [239, 191, 189], f', sl_after HM.out hnm hc hbw hbo, HST.out, by have := HFL.out; have := HMR.out; rw [List.length_drop]; omega, HE.out, by have := HN.out; have := HM.out; have := HMR.out; rw [List.length_append, List.length_drop]; show acc.length + 3 + 3 * (rest.length - n) ≤ N; omega⟩, by have := HMR.out; show m - n < m; omega⟩
    ·have zne : ((a.toNat : Int) != 0) = true := by simp; intro e; exact h00 (UInt8.toNat_inj.1 (by show a.toNat = 0; omega))
     have hE2 := hyes (by simp [h00]);rw [hE2, <- List.append_assoc] at hE;have HE := hdn hE;clear hE hE2 hyes hno h00;go_wp2_with (at_builtin; refine wpList_acc rfl (.tmp 21) (.tmp 24) rfl _ _ rfl (HA.out.drewN d) ⟨b, off, none⟩ n c (rest.take n) rfl HLT.out.symm (fun j u h => HXS.out j u h) (by have := HN.out; have := HM.out; rw [HLT.out]; omega) ?_);intro v' W1 hst;have HST := hdn hst;clear hst;go_wp2
     exact ⟨⟨rest.drop n, acc ++ rest.take n, f', sl_after HM.out hnm hc hbw hbo, HST.out, by have := HFL.out; have := HMR.out; rw [List.length_drop]; omega, HE.out, by have := HN.out; have := HM.out; have := HMR.out; rw [List.length_append, List.length_drop, HLT.out]; omega⟩, by have := HMR.out; show m - n < m; omega⟩
   | false =>
    have hE2 := hno (by simp);rw [hE2, <- List.append_assoc] at hE;have HE := hdn hE;clear hE hE2 hyes hno;go_wp2_with (at_builtin; refine wpList_acc rfl (.tmp 26) (.tmp 27) rfl _ _ rfl ((HA.out.drewN d).alloc (.cells #[.int .u8 239, .int .u8 191, .int .u8 189] 5)) ⟨wr.heap.size, 0, none⟩ 3 3 [239, 191, 189] rfl rfl (cell_three _ _) (by have := HN.out; have := HM.out; show acc.length + 3 ≤ _; omega) ?_);intro v' W1 hst;have HST := hdn hst;clear hst;go_wp2
    exact ⟨⟨rest.drop n, acc ++ [239, 191, 189], f', sl_after HM.out hnm hc hbw hbo, HST.out, by have := HFL.out; have := HMR.out; rw [List.length_drop]; omega, HE.out, by have := HN.out; have := HM.out; have := HMR.out; rw [List.length_append, List.length_drop]; show acc.length + 3 + 3 * (rest.length - n) ≤ N; omega⟩, by have := HMR.out; show m - n < m; omega⟩
  ·have hm0 : m = 0 := by omega
   have hr0 : rest.length = 0 := by omega
   rw [plainF_nil hr0, List.append_nil] at hE;subst hE;have hcv := HA.out.string;have HB0 := hdn hwb;clear hb hm hr0 hwb hN hf hc;subst hm0;go_wp2;go_ret;exact ⟨rfl, HB0.out⟩
theorem reftext_any (v : Value) (l : List UInt8) (w : World) (hl : l.length ≤ 1099511627776) (hv : SlU8 w v l) : Calls Tryz.prog 9 #[v] w (StrR w (textL l)) := by
 obtain ⟨A, m, c, rfl, hm, hc, hb⟩ := hv
 by_cases h3 : m < 3
 ·have ht : textL l = plainL l := by
   unfold textL;rw [if_neg];intro e;have := congrArg List.length e;rw [List.length_take] at this;simp at this;omega
  rw [ht];have HP := hdn fun w' (h : SlU8 w' (.slice A m c) l) => plain_any (.slice A m c) l w' hl h;have HV := hdn (show SlU8 w (.slice A m c) l from ⟨A, m, c, rfl, hm, hc, hb⟩);have z1 : decide ((3 : Int) ≤ (m : Int)) = false := by simp; omega
  clear hb hm hl ht;go_enter Tryz.func9, Tryz.ntmps9;go_wp2_with fail;refine cMq (HP.out _ HV.out) ?_;rintro e w1 ⟨rfl, b1⟩;go_wp2;go_ret;exact ⟨rfl, b1⟩
 ·obtain ⟨b, off, rfl, hbw, hbo⟩ := hb (by omega);obtain ⟨a0, a1, a2, r, rfl⟩ : ∃ a0 a1 a2 r, l = a0 :: a1 :: a2 :: r := by
   match l, hm with
   | a0 :: a1 :: a2 :: r, _ => exact ⟨a0, a1, a2, r, rfl⟩
   | [], hm => simp at hm; omega
   | [_], hm => simp at hm; omega
   | [_, _], hm => simp at hm; omega
  have hml : m = r.length + 3 := hm;have c0 : w.cell? ⟨b, off, none⟩ = some (.int .u8 (a0.toNat : Int)) := hbo 0 (by simp);have c1 : w.cell? ⟨b, off + 1, none⟩ = some (.int .u8 (a1.toNat : Int)) := hbo 1 (by simp);have c2 : w.cell? ⟨b, off + 2, none⟩ = some (.int .u8 (a2.toNat : Int)) := hbo 2 (by simp);have n3 : (3 : Int) ≤ (m : Int) := by omega
  have n3c : (3 : Int) ≤ (c : Int) := by omega
  have n0 : (0 : Int) < (m : Int) := by omega
  have n1 : (1 : Int) < (m : Int) := by omega
  have n2 : (2 : Int) < (m : Int) := by omega
  have m0 : 0 < m := by omega
  have m1 : 1 < m := by omega
  have m2 : 2 < m := by omega
  have HV := hdn (show SlU8 w (.slice (some ⟨b, off, none⟩) m c) (a0 :: a1 :: a2 :: r) from ⟨_, m, c, rfl, hm, hc, fun _ => ⟨b, off, rfl, hbw, hbo⟩⟩);have HP := hdn (plain_any (.slice (some ⟨b, off, none⟩) m c) (a0 :: a1 :: a2 :: r) w hl HV.out);have hne : ¬ (a0 = 239 ∧ a1 = 187 ∧ a2 = 191) -> textL (a0 :: a1 :: a2 :: r) = plainL (a0 :: a1 :: a2 :: r) := fun h => by
   unfold textL;rw [if_neg];intro e;simp at e;exact h e
  by_cases e0 : a0 = 239
  ·by_cases e1 : a1 = 187
   ·by_cases e2 : a2 = 191
    ·have ht : textL (a0 :: a1 :: a2 :: r) = plainL r := by unfold textL; rw [if_pos (by rw [e0, e1, e2]; rfl)]; rfl
     rw [ht];have hP3 := plain_any _ r w (by simp at hl; omega) (sl_after (n := 3) hm (by omega) hc hbw hbo);have z0 : ((a0.toNat : Int) == 239) = true := by rw [e0]; rfl
     have z1 : ((a1.toNat : Int) == 187) = true := by rw [e1]; rfl
     have z2 : ((a2.toNat : Int) == 191) = true := by rw [e2]; rfl
     by_cases hc3 : c = 3
     ·subst hc3;rw [if_pos rfl, show m - 3 = 0 by omega] at hP3;have hP3 : Calls Tryz.prog 17 #[.slice (some ⟨b, off, none⟩) 0 0] w (StrR w (plainL r)) := hP3;have HP3 := hdn hP3;clear hb hm hl ht hne HP hbo e0 e1 e2 h3 hml hP3;go_enter Tryz.func9, Tryz.ntmps9;go_wp2_with fail;refine cMq HP3.out ?_;rintro e w1 ⟨rfl, b1⟩;go_wp2;go_ret;exact ⟨rfl, b1⟩
     ·rw [if_neg hc3] at hP3;have HP3 := hdn hP3;clear hb hm hl ht hne HP hbo e0 e1 e2 h3 hml hP3;go_enter Tryz.func9, Tryz.ntmps9;go_wp2_with fail;refine cMq HP3.out ?_;rintro e w1 ⟨rfl, b1⟩;go_wp2;go_ret;exact ⟨rfl, b1⟩
    ·have z0 : ((a0.toNat : Int) == 239) = true := by rw [e0]; rfl
     have z1 : ((a1.toNat : Int) == 187) = true := by rw [e1]; rfl
     have z2 : ((a2.toNat : Int) == 191) = false := by rw [beq_eq_false_iff_ne]; intro e; exact e2 (UInt8.toNat_inj.1 (by show a2.toNat = 191; omega))
     rw [hne (fun h => e2 h.2.2)];clear e0 e1 e2;clear hb hm hl hne hbo h3 hml;go_enter Tryz.func9, Tryz.ntmps9;go_wp2_with fail;refine cMq HP.out ?_;rintro e w1 ⟨rfl, b1⟩;go_wp2;go_ret;exact ⟨rfl, b1⟩
   ·have z0 : ((a0.toNat : Int) == 239) = true := by rw [e0]; rfl
    have z1 : ((a1.toNat : Int) == 187) = false := by rw [beq_eq_false_iff_ne]; intro e; exact e1 (UInt8.toNat_inj.1 (by show a1.toNat = 187; omega))
    rw [hne (fun h => e1 h.2.1)];clear e0 e1;clear hb hm hl hne hbo h3 hml;go_enter Tryz.func9, Tryz.ntmps9;go_wp2_with fail;refine cMq HP.out ?_;rintro e w1 ⟨rfl, b1⟩;go_wp2;go_ret;exact ⟨rfl, b1⟩
  ·have z0 : ((a0.toNat : Int) == 239) = false := by rw [beq_eq_false_iff_ne]; intro e; exact e0 (UInt8.toNat_inj.1 (by show a0.toNat = 239; omega))
   rw [hne (fun h => e0 h.1)];clear hb hm hl hne hbo h3 hml;go_enter Tryz.func9, Tryz.ntmps9;go_wp2_with fail;refine cMq HP.out ?_;rintro e w1 ⟨rfl, b1⟩;go_wp2;go_ret;exact ⟨rfl, b1⟩
end
section
open Go.RowKit
theorem SlU8.later {w w' : World} {v : Value} {l : List UInt8} (h : SlU8 w v l) (hb : Below w.heap.size w w') : SlU8 w' v l := by
 obtain ⟨A, m, c, rfl, hm, hc, h⟩ := h;refine ⟨A, m, c, rfl, hm, hc, fun h0 => ?_⟩;obtain ⟨b, off, e, hlt, hbo⟩ := h h0;exact ⟨b, off, e, Nat.lt_of_lt_of_le hlt hb.size, fun j hj => (hb.cell (p := ⟨b, off + j, none⟩) hlt).trans (hbo j hj)⟩
end
