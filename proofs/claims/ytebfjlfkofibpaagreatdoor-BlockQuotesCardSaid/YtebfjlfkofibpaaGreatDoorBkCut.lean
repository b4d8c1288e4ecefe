/- cols.Width. -/
import Derived.Test.YtebfjlfkofibpaaGreatDoorAtLeaf
import Derived.Test.YtebfjlfkofibpaaGreatDoorShelfC
namespace Go.Proofs.YtebfjlfkofibpaaGreatDoor
set_option maxHeartbeats 4000000
set_option maxRecDepth 100000
section
open Go.RowKit
def colS (c : Nat) (b : UInt8) : Option Nat := if b = 32 then some (c + 1) else if b = 9 then some (c + (4 - c % 4)) else none
def colF : List UInt8 -> Nat -> Nat
 | [], c => c
 | b :: l, c => match colS c b with
  | some d => colF l d
  | none => c
def widthN (l : List UInt8) (col : Nat) : Nat := colF l col - col
def colKF : List UInt8 -> Nat -> Nat -> Nat × Nat
 | [], c, k => (k, c)
 | b :: l, c, k => match colS c b with
  | some d => colKF l d (k + 1)
  | none => (k, c)
theorem colS_le (c : Nat) (b : UInt8) (d : Nat) (h : colS c b = some d) : c ≤ d ∧ d ≤ c + 4 := by
 unfold colS at h;split at h
 ·cases h; omega
 ·split at h
  ·cases h; omega
  ·cases h
theorem colF_le : ∀ (l : List UInt8) (c : Nat), c ≤ colF l c ∧ colF l c ≤ c + 4 * l.length
 | [], c => by simp [colF]
 | b :: l, c => by
  rw [colF]
  cases h : colS c b with
  | none => simp
  | some d =>
   have h1 := colS_le c b d h;have h2 := colF_le l d;simp only [List.length_cons];omega
theorem colKF_col : ∀ (l : List UInt8) (c k : Nat), (colKF l c k).2 = colF l c
 | [], c, k => rfl
 | b :: l, c, k => by
  rw [colKF, colF]
  cases colS c b with
  | none => rfl
  | some d => exact colKF_col l d (k + 1)
def CntAt (w : World) (p c : Nat) : Prop := w.heap[p]? = some (.cells #[.int .i64 (c : Int)] 147 (0, 0))
def PassR (w : World) (p : Nat) (o : Option Nat) (c : Nat) (e : Ending) (w' : World) : Prop := e = .returned (.bool o.isSome) ∧ CntAt w' p (o.getD c) ∧ w.grownBy w' (some p)
theorem cnt_set {w : World} {p c : Nat} (h : CntAt w p c) (d : Nat) : CntAt (w.setCell ⟨p, 0, none⟩ (.int .i64 (d : Int))) p d := by
 have h1 := Joins.block_setCell (show w.heap[p]? = _ from h) (i := 0) (.int .i64 (d : Int));simpa [CntAt] using h1
theorem pass_any (b : UInt8) (p c : Nat) (w : World) (hc : c ≤ 1099511627776) (h : CntAt w p c) : Calls Tryz.prog 126 #[.pointer (some ⟨p, 0, none⟩), .int .u8 (b.toNat : Int)] w (PassR w p (colS c b) c) := by
 have q := fun i => cell_of_row w p i _ _ _ (show w.heap[p]? = _ from h);have f : ∀ i, w.frozen? ⟨p, i, none⟩ = false := fun i => by simp [World.frozen?, show w.heap[p]? = _ from h]
 by_cases h32 : b = 32
 ·have i32 : ((b.toNat : Int) == 32) = true := by rw [h32]; rfl
  have hs : colS c b = some (c + 1) := by unfold colS; rw [if_pos h32]
  rw [hs];have HC := hdn (cnt_set h (c + 1));clear h32 hs;go_enter Tryz.func126, Tryz.ntmps126;go_wp2;go_ret;exact ⟨rfl, HC.out, grown_put (grown_refl w _) 0 _⟩
 ·have i32 : ((b.toNat : Int) == 32) = false := by rw [show ((b.toNat : Int) == 32) = (b == 32) from beqc b 32]; exact beq_no h32
  by_cases h9 : b = 9
  ·have i9 : ((b.toNat : Int) == 9) = true := by rw [h9]; rfl
   have hs : colS c b = some (c + (4 - c % 4)) := by unfold colS; rw [if_neg h32, if_pos h9]
   rw [hs];have HC := hdn (cnt_set h (c + (4 - c % 4)));have hcv : ((c + (4 - c % 4) : Nat) : Int) = (c : Int) + (4 - (c : Int) % 4) := by omega
   rw [hcv] at HC;clear h32 hs h9;go_enter Tryz.func126, Tryz.ntmps126;go_wp2_with fail
   go_region
   go_wp2;go_ret;exact ⟨rfl, HC.out, grown_drewN (grown_put (grown_refl w _) 0 _) 1⟩
  ·have i9 : ((b.toNat : Int) == 9) = false := by rw [show ((b.toNat : Int) == 9) = (b == 9) from beqc b 9]; exact beq_no h9
   have hs : colS c b = none := by unfold colS; rw [if_neg h32, if_neg h9]
   rw [hs];clear h32 hs h9;go_enter Tryz.func126, Tryz.ntmps126;go_wp2;go_ret;exact ⟨rfl, h, grown_refl w _⟩
theorem grown_more {a b c : World} {o : Option Nat} (h : a.grownBy b o) (k : b.grownBy c o) : a.grownBy c o :=
 ⟨k.os.trans h.os, k.tape.trans h.tape, k.output.trans h.output, Nat.le_trans h.size k.size, fun i hi ho => (k.block i (Nat.lt_of_lt_of_le hi h.size) ho).trans (h.block i hi ho)⟩
theorem colKF_at (s : ByteArray) (k c : Nat) (h : k < s.size) : colKF (s.data.toList.drop k) c k = match colS c s[k] with
  | some d => colKF (s.data.toList.drop (k + 1)) d (k + 1)
  | none => (k, c) := by
 have hl : s.data.toList.length = s.size := lTq;have := List.drop_eq_getElem_cons (l := s.data.toList) (i := k) (by omega);rw [this, colKF];rfl
theorem colKF_end (s : ByteArray) (k c : Nat) (h : ¬ k < s.size) : colKF (s.data.toList.drop k) c k = (k, c) := by
 rw [List.drop_eq_nil_of_le (by have : s.data.toList.length = s.size := lTq; omega)];rfl
def TkW (s : ByteArray) (p c0 : Nat) (E : Nat × Nat) (w : World) (v : Value) (wr : World) : Prop := ∃ k c : Nat, v = .int .i64 (k : Int) ∧ k ≤ s.size ∧ CntAt wr p c ∧ w.grownBy wr (some p) ∧ colKF (s.data.toList.drop k) c k = E ∧ c ≤ c0 + 4 * k
def TakeR (w : World) (p : Nat) (E : Nat × Nat) (e : Ending) (w' : World) : Prop := e = .returned (.int .i64 (E.1 : Int)) ∧ CntAt w' p E.2 ∧ w.grownBy w' (some p)
theorem take_pass (s : ByteArray) (p c0 : Nat) (w : World) (hs : s.size ≤ 1099511627) (hc0 : c0 ≤ 1099511627) (h : CntAt w p c0) : Calls Tryz.prog 125 #[.string s, .func (.func 126) #[.pointer (some ⟨p, 0, none⟩)] #[]] w (TakeR w p (colKF s.data.toList c0 0)) := by
 obtain ⟨E, hE⟩ : ∃ E, colKF s.data.toList c0 0 = E := ⟨_, rfl⟩;rw [hE];have H0 := hdn (show TkW s p c0 E w (.int .i64 0) w from ⟨0, c0, rfl, Nat.zero_le _, h, grown_refl _ _, by rw [List.drop_zero]; exact hE, by omega⟩);clear hE h;go_enter Tryz.func125, Tryz.ntmps125;go_wp2_with fail
 go_loopw [5, 8] (fun _ v8 wr => TkW s p c0 E w v8 wr) (fun _ v8 _ => s.size - (intOf v8).toNat)
 case atStart => exact H0.out
 case round =>
  obtain ⟨k, c, rfl, hk, hc, hg, he, hcc⟩ := hrel;clear H0
  by_cases hlt : k < s.size
  ·have hki : (k : Int) < (s.size : Int) := by omega
   rw [colKF_at s k c hlt] at he;obtain ⟨b, hb⟩ : ∃ b, s[k] = b := ⟨_, rfl⟩;rw [hb] at he;have HP := hdn (pass_any b p c wr (by omega) hc);have HG := hdn hg;have HC := hdn hc
   cases hcs : colS c b with
   | none =>
    rw [hcs] at HP he;have HE := hdn he;clear hc hg he hcs;go_wp2_with fail
    (try rw [hb])
    refine cMq HP.out ?_;rintro e w' ⟨rfl, hc', hg'⟩;have HG' := hdn (grown_more HG.out hg');have HC' := hdn hc';clear hc' hg';go_wp2;go_ret;rw [<- HE.out];exact ⟨rfl, HC'.out, HG'.out⟩
   | some d =>
    rw [hcs] at HP he;have hd := (colS_le c b d hcs).2;have HE := hdn he;clear hc hg he hcs;go_wp2_with fail
    (try rw [hb])
    refine cMq HP.out ?_;rintro e w' ⟨rfl, hc', hg'⟩;have HG' := hdn (grown_more HG.out hg');have HC' := hdn hc';clear hc' hg';go_wp2
    go_roundw
    case rel => exact ⟨k + 1, d, rfl, by omega, HC'.out, HG'.out, HE.out, by omega⟩
    case measure => simp [intOf]; omega
  ·have hki : ¬ (k : Int) < (s.size : Int) := by omega
   have hks : k = s.size := by omega
   rw [colKF_end s k c hlt] at he;have HG := hdn hg;have HC := hdn hc;have HE := hdn he;clear hc hg he;go_wp2;go_ret;rw [<- HE.out];exact ⟨by show _ = Ending.returned (Value.int .i64 (k : Int)); rw [hks]; rfl, HC.out, HG.out⟩
theorem width_any (s : ByteArray) (col : Nat) (w : World) (hs : s.size ≤ 1099511627) (hc : col ≤ 1099511627) : Calls Tryz.prog 82 #[.string s, .int .i64 (col : Int)] w (IntB w (widthN s.data.toList col : Nat)) := by
 have hmx : max (col : Int) 0 = (col : Int) := by omega
 have hle := colF_le s.data.toList col;have hl : s.data.toList.length = s.size := lTq;have hcnt : CntAt (w.alloc (.cells #[.int .i64 (col : Int)] 147)) w.heap.size col := heap_alloc_new w _;have HT := hdn (take_pass s w.heap.size col _ hs hc hcnt);have hb0 : Below w.heap.size w (w.alloc (.cells #[.int .i64 (col : Int)] 147)) := (Below.refl _ w).alloc (Nat.le_refl _) _;have HB0 := hdn hb0;have hcol := colKF_col s.data.toList col 0;have HCol := hdn hcol;clear hcnt hb0 hcol;go_enter Tryz.func82, Tryz.ntmps82
 go_wp2_with fail;refine cMq HT.out ?_;rintro e w' ⟨rfl, hc', hg'⟩;rw [HCol.out] at hc';have q := fun i => cell_of_row w' w.heap.size i _ _ _ (show w'.heap[w.heap.size]? = _ from hc');have HB := hdn (below_of_grown hg' rfl);clear hc' hg';go_wp2;go_ret;exact ⟨ret_int (by unfold widthN; omega), HB.out⟩
end
section
open Go.RowKit
def blanksN (n : Nat) : ByteArray := ⟨(List.replicate n (32 : UInt8)).toArray⟩
theorem rep_two (w : World) : Calls Tryz.prog 128 #[.string ⟨#[32]⟩, .int .i64 2] w fun e w' => e = .returned (.string (blanksN 2)) ∧ w' = w := by
 have HM := hdn (Tryz.bits_Mul 1 2 (by decide) (by decide) w);have HP := hdn fun p => Tryz.strings_HasPrefix p ⟨#[32]⟩ w;go_enter Tryz.func128, Tryz.ntmps128;go_wp2_with fail;refine cMq HM.out ?_;rintro e w1 ⟨rfl, rfl⟩;go_wp2_with fail;refine cMq (HP.out _) ?_;rintro e w2 ⟨rfl, rfl⟩;go_wp2;go_ret;exact ⟨rfl, rfl⟩
theorem rep_three (w : World) : Calls Tryz.prog 128 #[.string ⟨#[32]⟩, .int .i64 3] w fun e w' => e = .returned (.string (blanksN 3)) ∧ w' = w := by
 have HM := hdn (Tryz.bits_Mul 1 3 (by decide) (by decide) w);have HP := hdn fun p => Tryz.strings_HasPrefix p ⟨#[32]⟩ w;go_enter Tryz.func128, Tryz.ntmps128;go_wp2_with fail;refine cMq HM.out ?_;rintro e w1 ⟨rfl, rfl⟩;go_wp2_with fail;refine cMq (HP.out _) ?_;rintro e w2 ⟨rfl, rfl⟩;go_wp2;go_ret;exact ⟨rfl, rfl⟩
theorem rep_few (n : Nat) (h1 : 1 ≤ n) (h3 : n ≤ 3) (w : World) : Calls Tryz.prog 128 #[.string ⟨#[32]⟩, .int .i64 (n : Int)] w fun e w' => e = .returned (.string (blanksN n)) ∧ w' = w := by
 obtain rfl | rfl | rfl : n = 1 ∨ n = 2 ∨ n = 3 := by omega
 ·exact Tryz.strings_Repeat_one ⟨#[32]⟩ w
 ·exact rep_two w
 ·exact rep_three w
end
section
open Go.RowKit
def colE (e c : Nat) (b : UInt8) : Option Nat := if c < e then colS c b else none
def cutKF (e : Nat) : List UInt8 -> Nat -> Nat -> Nat × Nat
 | [], c, k => (k, c)
 | b :: l, c, k => match colE e c b with
  | some d => cutKF e l d (k + 1)
  | none => (k, c)
def cutN (l : List UInt8) (col n : Nat) : List UInt8 × Nat :=
 if (cutKF (col + n) l col 0).2 ≤ col + n then (l.drop (cutKF (col + n) l col 0).1, (cutKF (col + n) l col 0).2)
 else (List.replicate ((cutKF (col + n) l col 0).2 - (col + n)) 32 ++ l.drop (cutKF (col + n) l col 0).1, col + n)
theorem cutKF_in (e : Nat) : ∀ (l : List UInt8) (c k : Nat), c ≤ e + 3 -> k ≤ (cutKF e l c k).1 ∧ (cutKF e l c k).1 ≤ k + l.length ∧ (cutKF e l c k).2 ≤ e + 3 ∧ c ≤ (cutKF e l c k).2
 | [], c, k, h => by simp [cutKF]; exact h
 | b :: l, c, k, h => by
  rw [cutKF]
  cases hd : colE e c b with
  | none => simp; exact h
  | some d =>
   unfold colE at hd;split at hd
   ·have h1 := colS_le c b d hd;have h2 := cutKF_in e l d (k + 1) (by omega);simp only [List.length_cons];omega
   ·cases hd
def EndAt (w : World) (p c a d e : Nat) : Prop := CntAt w p c ∧ w.heap[a]? = some (.cells #[.pointer (some ⟨p, 0, none⟩)] 145 (0, 0)) ∧ w.heap[d]? = some (.cells #[.int .i64 (e : Int)] 3 (0, 0)) ∧ a ≠ p ∧ d ≠ p
theorem EndAt.turn {w w' : World} {p c a d e c' : Nat} (h : EndAt w p c a d e) (hg : w.grownBy w' (some p)) (hc : CntAt w' p c') : EndAt w' p c' a d e := by
 obtain ⟨h1, h2, h3, h4, h5⟩ := h;refine ⟨hc, ?_, ?_, h4, h5⟩
 ·exact (hg.block a (gSq.1 h2).1 (fun e => h4 (Option.some.inj e))).trans h2
 ·exact (hg.block d (gSq.1 h3).1 (fun e => h5 (Option.some.inj e))).trans h3
theorem cut1_any (b : UInt8) (p c a d e : Nat) (w : World) (hc : c ≤ 1099511627776) (_ : e ≤ 1099511627776) (h : EndAt w p c a d e) : Calls Tryz.prog 127 #[.int .u8 (b.toNat : Int), .pointer (some ⟨a, 0, none⟩), .pointer (some ⟨d, 0, none⟩)] w (PassR w p (colE e c b) c) := by
 obtain ⟨h1, h2, h3, h4, h5⟩ := h;have q1 := fun i => cell_of_row w p i _ _ _ (show w.heap[p]? = _ from h1);have q2 := fun i => cell_of_row w a i _ _ _ h2;have q3 := fun i => cell_of_row w d i _ _ _ h3;have HP := hdn fun n => pass_any b p c (w.drewN n) hc h1
 by_cases hlt : c < e
 ·have hd : (c : Int) < (e : Int) := by omega
  have hd2 : decide (c < e) = true := decide_eq_true hlt;have hv : colE e c b = colS c b := by unfold colE; rw [if_pos hlt]
  rw [hv];clear hv h1 h2 h3;go_enter Tryz.func127, Tryz.ntmps127;go_wp2_with fail
  go_region_with (first
   | (go_at_call 126; refine cMq (HP.out _) ?_; rintro e w' ⟨rfl, hc', hg'⟩))
  all_goals
   have HG := hdn hg';have HC := hdn hc';clear hc' hg';go_wp2;go_ret;exact ⟨rfl, HC.out, ⟨HG.out.os, HG.out.tape, HG.out.output, HG.out.size, HG.out.block⟩⟩
 ·have hd : ¬ (c : Int) < (e : Int) := by omega
  have hd2 : decide (c < e) = false := decide_eq_false hlt;have hv : colE e c b = none := by unfold colE; rw [if_neg hlt]
  rw [hv];have H1 := hdn h1;clear hv h1 h2 h3;go_enter Tryz.func127, Tryz.ntmps127;go_wp2_with fail
  go_quiet (fail)
  go_wp2;go_ret;exact ⟨rfl, H1.out, grown_drewN (grown_refl w _) _⟩
theorem cutKF_at (e : Nat) (s : ByteArray) (k c : Nat) (h : k < s.size) : cutKF e (s.data.toList.drop k) c k = match colE e c s[k] with
  | some d => cutKF e (s.data.toList.drop (k + 1)) d (k + 1)
  | none => (k, c) := by
 have hl : s.data.toList.length = s.size := lTq;have := List.drop_eq_getElem_cons (l := s.data.toList) (i := k) (by omega);rw [this, cutKF];rfl
theorem cutKF_end (e : Nat) (s : ByteArray) (k c : Nat) (h : ¬ k < s.size) : cutKF e (s.data.toList.drop k) c k = (k, c) := by
 rw [List.drop_eq_nil_of_le (by have : s.data.toList.length = s.size := lTq; omega)];rfl
def TcW (s : ByteArray) (p a d e : Nat) (E : Nat × Nat) (w : World) (v : Value) (wr : World) : Prop := ∃ k c : Nat, v = .int .i64 (k : Int) ∧ k ≤ s.size ∧ EndAt wr p c a d e ∧ w.grownBy wr (some p) ∧ cutKF e (s.data.toList.drop k) c k = E ∧ c ≤ e + 3
def TakeE (w : World) (p a d e : Nat) (E : Nat × Nat) (x : Ending) (w' : World) : Prop := x = .returned (.int .i64 (E.1 : Int)) ∧ EndAt w' p E.2 a d e ∧ w.grownBy w' (some p)
theorem take_cut (s : ByteArray) (p c0 a d e : Nat) (w : World) (hs : s.size ≤ 1099511627) (he : e ≤ 1099511627) (hc0 : c0 ≤ e + 3) (h : EndAt w p c0 a d e) : Calls Tryz.prog 125 #[.string s, .func (.func 127) #[] #[.pointer (some ⟨a, 0, none⟩), .pointer (some ⟨d, 0, none⟩)]] w (TakeE w p a d e (cutKF e s.data.toList c0 0)) := by
 obtain ⟨E, hE⟩ : ∃ E, cutKF e s.data.toList c0 0 = E := ⟨_, rfl⟩;rw [hE];have H0 := hdn (show TcW s p a d e E w (.int .i64 0) w from ⟨0, c0, rfl, Nat.zero_le _, h, grown_refl _ _, by rw [List.drop_zero]; exact hE, hc0⟩);clear hE h;go_enter Tryz.func125, Tryz.ntmps125;go_wp2_with fail
 go_loopw [5, 8] (fun _ v8 wr => TcW s p a d e E w v8 wr) (fun _ v8 _ => s.size - (intOf v8).toNat)
 case atStart => exact H0.out
 case round =>
  obtain ⟨k, c, rfl, hk, hc, hg, hE, hcc⟩ := hrel;clear H0
  by_cases hlt : k < s.size
  ·have hki : (k : Int) < (s.size : Int) := by omega
   rw [cutKF_at e s k c hlt] at hE;obtain ⟨b, hb⟩ : ∃ b, s[k] = b := ⟨_, rfl⟩;rw [hb] at hE;have HP := hdn (cut1_any b p c a d e wr (by omega) (by omega) hc);have HG := hdn hg;have HC := hdn hc
   cases hcs : colE e c b with
   | none =>
    rw [hcs] at HP hE;have HE := hdn hE;clear hc hg hE hcs;go_wp2_with fail
    (try rw [hb])
    refine cMq HP.out ?_;rintro x w' ⟨rfl, hc', hg'⟩;have HG' := hdn (grown_more HG.out hg');have HC' := hdn (HC.out.turn hg' hc');clear hc' hg';go_wp2;go_ret;rw [<- HE.out];exact ⟨rfl, HC'.out, HG'.out⟩
   | some z =>
    rw [hcs] at HP hE;have hz : z ≤ e + 3 := by
     unfold colE at hcs;split at hcs
     ·have := (colS_le c b z hcs).2; omega
     ·cases hcs
    have HE := hdn hE;clear hc hg hE hcs;go_wp2_with fail
    (try rw [hb])
    refine cMq HP.out ?_;rintro x w' ⟨rfl, hc', hg'⟩;have HG' := hdn (grown_more HG.out hg');have HC' := hdn (HC.out.turn hg' hc');clear hc' hg';go_wp2
    go_roundw
    case rel => exact ⟨k + 1, z, rfl, by omega, HC'.out, HG'.out, HE.out, hz⟩
    case measure => simp [intOf]; omega
  ·have hki : ¬ (k : Int) < (s.size : Int) := by omega
   have hks : k = s.size := by omega
   rw [cutKF_end e s k c hlt] at hE;have HG := hdn hg;have HC := hdn hc;have HE := hdn hE;clear hc hg hE;go_wp2;go_ret;rw [<- HE.out];exact ⟨by show _ = Ending.returned (Value.int .i64 (k : Int)); rw [hks]; rfl, HC.out, HG.out⟩
def CutS (w : World) (x : List UInt8 × Nat) (e : Ending) (w' : World) : Prop := e = .returned (.tuple #[.string ⟨x.1.toArray⟩, .int .i64 (x.2 : Int)]) ∧ Below w.heap.size w w'
theorem colsCut_any (s : ByteArray) (col n : Nat) (w : World) (hs : s.size ≤ 1099511627) (hc : col ≤ 500000000) (hn : n ≤ 500000000) : Calls Tryz.prog 85 #[.string s, .int .i64 (col : Int), .int .i64 (n : Int)] w (CutS w (cutN s.data.toList col n)) := by
 have hl : s.data.toList.length = s.size := lTq;have hmx : max (col : Int) 0 = (col : Int) := by omega
 have hmx2 : max (n : Int) 0 = (n : Int) := by omega
 have hin := cutKF_in (col + n) s.data.toList col 0 (by omega);obtain ⟨V, hV⟩ : ∃ V, cutN s.data.toList col n = V := ⟨_, rfl⟩;rw [hV];unfold cutN at hV;have hend : EndAt (((w.alloc (.cells #[.int .i64 (col : Int)] 147)).alloc (.cells #[.pointer (some ⟨w.heap.size, 0, none⟩)] 145)).alloc (.cells #[.int .i64 ((col + n : Nat) : Int)] 3)) w.heap.size col (w.heap.size + 1) (w.heap.size + 2) (col + n) := by
  refine ⟨?_, ?_, ?_, by omega, by omega⟩
  ·show ((((w.heap.push _).push _).push _))[w.heap.size]? = _;rw [Array.getElem?_push, if_neg (by simp; omega), Array.getElem?_push, if_neg (by simp), Array.getElem?_push, if_pos rfl]
  ·show ((((w.heap.push _).push _).push _))[w.heap.size + 1]? = _;rw [Array.getElem?_push, if_neg (by simp), Array.getElem?_push, if_pos (by simp)]
  ·show ((((w.heap.push _).push _).push _))[w.heap.size + 2]? = _;rw [Array.getElem?_push, if_pos (by simp)]
 have hbel : Below w.heap.size w (((w.alloc (.cells #[.int .i64 (col : Int)] 147)).alloc (.cells #[.pointer (some ⟨w.heap.size, 0, none⟩)] 145)).alloc (.cells #[.int .i64 ((col + n : Nat) : Int)] 3)) := ((((Below.refl _ w).alloc (Nat.le_refl _) _).alloc (by simp) _).alloc (by simp; omega) _);rw [show ((col + n : Nat) : Int) = (col : Int) + (n : Int) by omega] at hend hbel
 obtain ⟨W, hW⟩ : ∃ W, ((w.alloc (.cells #[.int .i64 (col : Int)] 147)).alloc (.cells #[.pointer (some ⟨w.heap.size, 0, none⟩)] 145)).alloc (.cells #[.int .i64 ((col : Int) + (n : Int))] 3) = W := ⟨_, rfl⟩;rw [hW] at hend hbel;have HT := hdn (take_cut s w.heap.size col (w.heap.size + 1) (w.heap.size + 2) (col + n) W hs (by omega) (by omega) hend);have HB := hdn hbel;have HW := hdn hW;have hWp : w.heap.size < W.heap.size := by rw [<- hW]; simp; omega
 obtain ⟨⟨k, c⟩, hkc⟩ : ∃ x, cutKF (col + n) s.data.toList col 0 = x := ⟨_, rfl⟩;rw [hkc] at HT hin hV;simp only at hin hV;clear hkc hend hbel hW;go_enter Tryz.func85, Tryz.ntmps85;go_wp2_with fail
 (try rw [HW.out])
 refine cMq HT.out ?_;rintro x w' ⟨rfl, hE', hg'⟩;have HB' := hdn (HB.out.grown hg' (by omega) (fun k e => by cases e; exact Nat.le_refl _));have q1 := fun i => cell_of_row w' w.heap.size i _ _ _ (show w'.heap[w.heap.size]? = _ from hE'.1);have q2 := fun i => cell_of_row w' (w.heap.size + 1) i _ _ _ hE'.2.1;have q3 := fun i => cell_of_row w' (w.heap.size + 1 + 1) i _ _ _ hE'.2.2.1;rw [show ((col + n : Nat) : Int) = (col : Int) + (n : Int) by omega] at q3;have hkl : k ≤ s.size := by omega
 have hki : (k : Int) ≤ (s.size : Int) := by omega
 have hxl : (s.extract k s.size).data.toList = s.data.toList.drop k := by rw [Lib.extract_data, List.take_of_length_le (by rw [List.length_drop]; omega)]
 clear hE' hg'
 by_cases hce : c ≤ col + n
 ·have hci : (c : Int) ≤ (col : Int) + (n : Int) := by omega
  rw [if_pos hce] at hV;have HV := hdn (show (⟨V.1.toArray⟩ : ByteArray) = s.extract k s.size ∧ V.2 = c by rw [<- hV]; exact ⟨(str_mk _ _ hxl).symm, rfl⟩);clear hV hxl;go_wp2_with fail
  go_quiet (fail)
  go_wp2_with fail
  go_quiet (fail)
  go_wp2
  go_ret2
  unfold CutS;rw [HV.out.1, HV.out.2];exact ⟨rfl, below_drewN (below_drewN HB'.out _) _⟩
 ·have hci : ¬ (c : Int) ≤ (col : Int) + (n : Int) := by omega
  have hcb : c ≤ 1000000003 := by omega
  rw [if_neg hce] at hV;have HR := hdn fun w9 => rep_few (c - (col + n)) (by omega) (by omega) w9;rw [show ((c - (col + n) : Nat) : Int) = (c : Int) - ((col : Int) + (n : Int)) by omega] at HR;have hwr : IntKind.i64.wrap ((c : Int) - ((col : Int) + (n : Int))) = (c : Int) - ((col : Int) + (n : Int)) := by rw [IntKind.wrap_i64]; omega
  have HR2 := hdn (show ∀ w9, Calls Tryz.prog 128 #[.string ⟨#[32]⟩, .int .i64 (IntKind.i64.wrap ((c : Int) - ((col : Int) + (n : Int))))] w9 (fun e w' => e = .returned (.string (blanksN (c - (col + n)))) ∧ w' = w9) by rw [hwr]; exact HR.out);clear hwr;have HV := hdn (show (⟨V.1.toArray⟩ : ByteArray) = blanksN (c - (col + n)) ++ s.extract k s.size ∧ (V.2 : Int) = (col : Int) + (n : Int) by
   rw [<- hV];refine ⟨(str_mk _ _ ?_).symm, by simp⟩;rw [ByteArray.data_append, Array.toList_append, hxl];rfl)
  have hbz : (blanksN (c - (col + n))).size = c - (col + n) := by show (List.replicate _ _).toArray.size = _; simp
  have hov1 : ¬ 9223372036854775807 < (blanksN (c - (col + n))).size + (s.extract k s.size).size := by rw [hbz, ByteArray.size_extract]; omega
  have hov2 : ¬ 9223372036854775807 < (blanksN (c - (col + n))).size + (s.size - k) := by rw [hbz]; omega
  clear hV hxl hbz;go_wp2_with fail
  go_quiet (fail)
  go_wp2_with fail
  go_quiet ((go_at_call 128; first | (with_reducible exact quiet_more (HR2.out _)) | (with_reducible exact quiet_more (HR.out _))))
  go_wp2
  go_ret2
  unfold CutS;rw [HV.out.1, HV.out.2];exact ⟨rfl, below_drewN (below_drewN HB'.out _) _⟩
end
section
open Go.RowKit
def LnAt (w : World) (rp : Nat) (s : ByteArray) (c : Nat) (x2 x3 x4 x5 x6 x7 : Value) : Prop := w.heap[rp]? = some (.cells #[.string s, .int .i64 (c : Int), x2, x3, x4, x5, x6, x7] 55 (0, 0))
def lbareN (s : ByteArray) : ByteArray := ⟨(Lib.trimLeftS s.data.toList [32, 9]).toArray⟩
theorem lbareN_len (s : ByteArray) : (lbareN s).size ≤ s.size := by
 show (Lib.trimLeftS s.data.toList [32, 9]).toArray.size ≤ _;have h : (Lib.trimLeftS s.data.toList [32, 9]).length ≤ s.data.toList.length := by
  unfold Lib.trimLeftS;exact (List.dropWhile_sublist _).length_le
 have hl : s.data.toList.length = s.size := lTq;simp;omega
theorem LnAt.later {w w' : World} {rp : Nat} {s : ByteArray} {c : Nat} {x2 x3 x4 x5 x6 x7 : Value} (h : LnAt w rp s c x2 x3 x4 x5 x6 x7) (hb : Below w.heap.size w w') : LnAt w' rp s c x2 x3 x4 x5 x6 x7 :=
 (hb.block rp (gSq.1 h).1).trans h
theorem bare_any (s : ByteArray) (c rp : Nat) (x2 x3 x4 x5 x6 x7 : Value) (w : World) (hs : s.size ≤ 500000000) (hc : c ≤ 500000000) (h : LnAt w rp s c x2 x3 x4 x5 x6 x7) :
  Calls Tryz.prog 46 #[.pointer (some ⟨rp, 0, none⟩)] w fun e w' => e = .returned (.tuple #[.string (lbareN s), .int .i64 (widthN s.data.toList c : Nat)]) ∧ Below w.heap.size w w' := by
 have q := fun i => cell_of_row w rp i _ _ _ (show w.heap[rp]? = _ from h);have HW := hdn fun w' => width_any s c w' (by omega) (by omega);have HT := hdn fun w' => trimL_any s w';obtain ⟨B, hB⟩ : ∃ B, lbareN s = B := ⟨_, rfl⟩;unfold lbareN at hB;rw [hB] at HT;have HL := hdn fun w' (hb : Below w.heap.size w w') => h.later hb;have HB := hdn (show lbareN s = B from hB);rw [HB.out];clear hB h;go_enter Tryz.func46, Tryz.ntmps46;go_wp2_with fail
 go_region_with (first
  | (go_at_call 82; refine cMq (HW.out _) ?_; rintro e w' ⟨rfl, hb'⟩))
 all_goals
  have hbw : Below w.heap.size w w' := hb'.mono (Nat.le_refl _) |> fun h => ⟨h.os, h.tape, h.output, h.size, h.block⟩;have HBW := hdn hbw;have q2 := fun i => cell_of_row w' rp i _ _ _ (show w'.heap[rp]? = _ from HL.out _ hbw);clear hb' hbw;go_wp2_with fail;refine cMq (HT.out _) ?_;rintro e w2 ⟨rfl, b2⟩;have HB2 := hdn (below_on HBW.out b2);clear b2;go_wp2
  go_ret2
  exact ⟨rfl, HB2.out⟩
def LnR (w : World) (rp : Nat) (s : ByteArray) (c : Nat) (x2 x3 x4 x5 x6 x7 : Value) (e : Ending) (w' : World) : Prop := (∃ v, e = .returned v) ∧ LnAt w' rp s c x2 x3 x4 x5 x6 x7 ∧ w.grownBy w' (some rp)
theorem ln_set {w : World} {rp : Nat} {s : ByteArray} {c : Nat} {x2 x3 x4 x5 x6 x7 : Value} (h : LnAt w rp s c x2 x3 x4 x5 x6 x7) (s' : ByteArray) (z : Int) (c' : Nat) (hz : z = (c' : Int)) : LnAt ((w.setCell ⟨rp, 0, none⟩ (.string s')).setCell ⟨rp, 1, none⟩ (.int .i64 z)) rp s' c' x2 x3 x4 x5 x6 x7 := by
 have h1 := Joins.block_setCell (show w.heap[rp]? = _ from h) (i := 0) (.string s');have h2 := Joins.block_setCell h1 (i := 1) (.int .i64 z);subst hz;simpa [LnAt] using h2
theorem below_grown2 {w w' : World} (h : Below w.heap.size w w') (o : Option Nat) : w.grownBy w' o := ⟨h.os, h.tape, h.output, h.size, fun i hi _ => h.block i hi⟩
theorem lcut_any (s : ByteArray) (c n rp : Nat) (x2 x3 x4 x5 x6 x7 : Value) (w : World) (hs : s.size ≤ 500000000) (hc : c ≤ 500000000) (hn : n ≤ 500000000) (h : LnAt w rp s c x2 x3 x4 x5 x6 x7) :
  Calls Tryz.prog 49 #[.pointer (some ⟨rp, 0, none⟩), .int .i64 (n : Int)] w (LnR w rp ⟨(cutN s.data.toList c n).1.toArray⟩ (cutN s.data.toList c n).2 x2 x3 x4 x5 x6 x7) := by
 have q := fun i => cell_of_row w rp i _ _ _ (show w.heap[rp]? = _ from h);have HC := hdn fun w' => colsCut_any s c n w' (by omega) (by omega) (by omega);have HL := hdn fun w' (hb : Below w.heap.size w w') => h.later hb;obtain ⟨⟨l, d⟩, hx⟩ : ∃ x, cutN s.data.toList c n = x := ⟨_, rfl⟩;rw [hx] at HC ⊢;unfold CutS at HC;simp only at HC ⊢;obtain ⟨L, hL⟩ : ∃ L : ByteArray, (⟨l.toArray⟩ : ByteArray) = L := ⟨_, rfl⟩;rw [hL] at HC ⊢;clear hx hL h;go_enter Tryz.func49, Tryz.ntmps49;go_wp2_with fail
 go_region_with (first
  | (go_at_call 85; refine cMq (HC.out _) ?_; rintro e w' ⟨rfl, hb'⟩; have HBW := hdn (show Below w.heap.size w w' from ⟨hb'.os, hb'.tape, hb'.output, hb'.size, hb'.block⟩); have hl2 := HL.out _ HBW.out; have q2 := (fun i => cell_of_row w' rp i _ _ _ (show w'.heap[rp]? = _ from hl2)); have f2 : ∀ i, w'.frozen? ⟨rp, i, none⟩ = false := (fun i => by simp [World.frozen?, show w'.heap[rp]? = _ from hl2]); clear hb'))
 all_goals
  clear q2 f2;have HL2 := hdn hl2;clear hl2;go_wp2
  go_end0
  exact ⟨⟨_, rfl⟩, ln_set HL2.out L _ d rfl, grown_put (grown_put (below_grown2 HBW.out _) 0 _) 1 _⟩
theorem lpass_any (s : ByteArray) (c n rp : Nat) (x2 x3 x4 x5 x6 x7 : Value) (w : World) (hs : s.size ≤ 500000000) (hc : c ≤ 500000000) (hn : n ≤ (lbareN s).size) (h : LnAt w rp s c x2 x3 x4 x5 x6 x7) :
  Calls Tryz.prog 48 #[.pointer (some ⟨rp, 0, none⟩), .int .i64 (n : Int)] w (LnR w rp ((lbareN s).extract n (lbareN s).size) (c + widthN s.data.toList c + n) x2 x3 x4 x5 x6 x7) := by
 have HB := hdn (bare_any s c rp x2 x3 x4 x5 x6 x7 w hs hc h);have hbl := lbareN_len s;have hwl : widthN s.data.toList c ≤ 4 * s.size := by
  have := colF_le s.data.toList c;have hl : s.data.toList.length = s.size := lTq;unfold widthN;omega
 have HL := hdn fun w' (hb : Below w.heap.size w w') => h.later hb;obtain ⟨T, hT⟩ : ∃ T, lbareN s = T := ⟨_, rfl⟩;obtain ⟨W, hW⟩ : ∃ W, widthN s.data.toList c = W := ⟨_, rfl⟩;rw [hT, hW] at HB;rw [hT] at hbl hn;rw [hW] at hwl;rw [hT, hW];have hni : (n : Int) ≤ (T.size : Int) := by omega
 have hz : ((c + W + n : Nat) : Int) = (c : Int) + (W : Int) + (n : Int) := by omega
 clear hT hW h;go_enter Tryz.func48, Tryz.ntmps48;go_wp2_with fail;refine cMq HB.out ?_;rintro e w' ⟨rfl, hb'⟩;have hl2 := HL.out _ hb';have q2 := fun i => cell_of_row w' rp i _ _ _ (show w'.heap[rp]? = _ from hl2);have f2 : ∀ i, w'.frozen? ⟨rp, i, none⟩ = false := fun i => by simp [World.frozen?, show w'.heap[rp]? = _ from hl2]
 have HBW := hdn hb';have HL2 := hdn hl2;clear hb' hl2;go_wp2_with fail
 go_region
 all_goals
  go_wp2
  go_end0
  exact ⟨⟨_, rfl⟩, ln_set HL2.out _ _ _ hz.symm, grown_drewN (grown_put (grown_put (below_grown2 HBW.out _) 0 _) 1 _) 1⟩
end
