/- strings.IndexRune at a rune above ASCII, in two bytes of ASCII. -/
import Derived.Test.YtebfjlfkofibpaaGreatDoorRsMk
import Derived.Laws.RangeAny
import Derived.Deep.LoopGhost
import Derived.IntWalk
import Derived.WalkMore
import Derived.Deep.Cut
import Derived.Deep.QuietTactic
namespace Go.Proofs.YtebfjlfkofibpaaGreatDoor
set_option maxHeartbeats 8000000
set_option maxRecDepth 100000
section
open Go.RowKit
def lastOf (e : ByteArray) (m : Nat) (b : UInt8) : Prop := e.size = m + 1 ∧ 1 ≤ m ∧ m ≤ 3 ∧ (∃ h : m < e.size, e[m]'h = b) ∧ 128 ≤ b.toNat
theorem enc_last (r : Int) (h : 128 ≤ r) : ∃ (m : Nat) (b : UInt8), lastOf (Utf8.encode r) m b := by
 have hk : ∀ k : Nat, 128 ≤ (UInt8.ofNat (128 + k % 64)).toNat := fun k => by
  rw [UInt8.toNat_ofNat'];omega
 unfold Utf8.encode;simp only [];generalize hc : (if Utf8.valid r = true then r.toNat else Utf8.runeError) = c;have hc' : 128 ≤ c := by
  rw [<- hc];split
  ·omega
  ·decide
 rw [if_neg (by omega)];split
 ·exact ⟨1, _, rfl, by omega, by omega, ⟨(by show _ < _; exact Nat.lt_succ_self _), rfl⟩, hk _⟩
 ·split
  ·exact ⟨2, _, rfl, by omega, by omega, ⟨(by show _ < _; exact Nat.lt_succ_self _), rfl⟩, hk _⟩
  ·exact ⟨3, _, rfl, by omega, by omega, ⟨(by show _ < _; exact Nat.lt_succ_self _), rfl⟩, hk _⟩
def validB (r : Int) : Bool := (decide (0 ≤ r) && decide (r < 55296)) || (decide (57343 < r) && decide (r ≤ 1114111))
theorem valid_any (r : Int) (w : World) : Calls Tryz.prog 181 #[.int .i32 r] w fun e w' => e = .returned (.bool (validB r)) ∧ w' = w := by
 obtain ⟨x, hx⟩ : ∃ x, validB r = x := ⟨_, rfl⟩;rw [hx];unfold validB at hx
 by_cases h1 : (0 : Int) ≤ r
 ·by_cases h2 : r < 55296
  ·rw [decide_eq_true h1, decide_eq_true h2] at hx;have HX := hdn hx;clear hx;go_enter Tryz.func181, Tryz.ntmps181;go_wp2_with fail;go_ret;exact ⟨by rw [<- HX.out]; rfl, rfl⟩
  ·by_cases h3 : (57343 : Int) < r
   ·by_cases h4 : r ≤ 1114111
    ·rw [decide_eq_true h1, decide_eq_false h2, decide_eq_true h3, decide_eq_true h4] at hx;have HX := hdn hx;clear hx;go_enter Tryz.func181, Tryz.ntmps181;go_wp2_with fail;go_ret;exact ⟨by rw [<- HX.out]; rfl, rfl⟩
    ·rw [decide_eq_true h1, decide_eq_false h2, decide_eq_true h3, decide_eq_false h4] at hx;have HX := hdn hx;clear hx;go_enter Tryz.func181, Tryz.ntmps181;go_wp2_with fail;go_ret;exact ⟨by rw [<- HX.out]; rfl, rfl⟩
   ·rw [decide_eq_true h1, decide_eq_false h2, decide_eq_false h3] at hx;have HX := hdn hx;clear hx;go_enter Tryz.func181, Tryz.ntmps181;go_wp2_with fail;go_ret;exact ⟨by rw [<- HX.out]; rfl, rfl⟩
 ·have h3 : ¬ (57343 : Int) < r := by omega
  rw [decide_eq_false h1, decide_eq_false h3] at hx;have HX := hdn hx;clear hx;go_enter Tryz.func181, Tryz.ntmps181;go_wp2_with fail;go_ret;exact ⟨by rw [<- HX.out]; rfl, rfl⟩
def InR (w : World) (e : Ending) (w' : World) : Prop := e = .returned (.int .i64 (-1)) ∧ Below w.heap.size w w'
theorem rune_bad (s : ByteArray) (r : Int) (w : World) (h : 128 ≤ r) (hr : r ≠ 65533) (hv : validB r = false) : Calls Tryz.prog 146 #[.string s, .int .i32 r] w (InR w) := by
 have h1 : ¬ r < 128 := by omega
 have h2 : (0 : Int) ≤ r := by omega
 have h3 : (r == 65533) = false := beq_eq_false_iff_ne.2 hr;have HV := valid_any r w;rw [hv] at HV;have HVH := hdn HV;clear HV hv hr h;go_enter Tryz.func146, Tryz.ntmps146;go_wp2_with fail;refine cMq HVH.out ?_;rintro e w1 ⟨rfl, hw⟩;rw [hw];clear hw;go_wp2_with fail;go_ret;exact ⟨rfl, Below.refl _ _⟩
theorem rune_fffd (s : ByteArray) (w : World) (hs : s.size = 2) (x y : UInt8) (h0 : s[0]'(by omega) = x) (h1 : s[1]'(by omega) = y) (hx : x.toNat < 128) (hy : y.toNat < 128) : Calls Tryz.prog 146 #[.string s, .int .i32 65533] w (InR w) := by
 have n0 := fun ty => run_next_ascii (P := Tryz.prog) w s 0 ty (by omega) (by rw [h0]; exact hx);have n1 := fun ty => run_next_ascii (P := Tryz.prog) w s 1 ty (by omega) (by rw [h1]; exact hy);have n2 := fun ty => run_next_end (P := Tryz.prog) w s 2 ty (by omega);rw [h0] at n0;rw [h1] at n1;have e0 : ((x.toNat : Int) == 65533) = false := beq_eq_false_iff_ne.2 (by omega);have e1 : ((y.toNat : Int) == 65533) = false := beq_eq_false_iff_ne.2 (by omega);clear h0 h1 hx hy hs;go_enter Tryz.func146, Tryz.ntmps146;go_wp2;refine wp_loop_rounds 3 ?_;rw [rounds_succ]
 go_wp2;rw [rounds_succ];go_wp2;rw [rounds_succ];go_wp2;go_ret;refine ⟨rfl, ?_⟩
 first | exact (Below.refl _ _).alloc (Nat.le_refl _) _ | trace_state
theorem iB0 (s : ByteArray) (c : Int) (w : World) : Calls Tryz.prog 131 #[.string s, .int .u8 c] w fun e w' => e = .returned (.int .i64 (Lib.indexByte s.data.toList c.toNat.toUInt8)) ∧ w' = w := Any.strings_IndexByte { Tryz.lays153 with } s c w
theorem iB_any (s : ByteArray) (c : UInt8) (w : World) : Calls Tryz.prog 131 #[.string s, .int .u8 (c.toNat : Int)] w fun e w' => e = .returned (.int .i64 (Lib.indexByte s.data.toList c)) ∧ w' = w := by
 have h := iB0 s (c.toNat : Int) w;rw [show ((c.toNat : Int)).toNat.toUInt8 = c from by simp] at h;exact h
theorem rune_val (s : ByteArray) (r : Int) (w : World) (hs : s.size = 2) (y : UInt8) (h1 : s[1]'(by omega) = y) (hy : y.toNat < 128) (h : 128 ≤ r) (hr : r ≠ 65533) (hv : validB r = true) : Calls Tryz.prog 146 #[.string s, .int .i32 r] w (InR w) := by
 have p1 : ¬ r < 128 := by omega
 have p2 : (0 : Int) ≤ r := by omega
 have p3 : (r == 65533) = false := beq_eq_false_iff_ne.2 hr;have HV := valid_any r w;rw [hv] at HV;have HVH := hdn HV;obtain ⟨m, b, hz, hm1, hm3, ⟨hmz, hb⟩, hb128⟩ := enc_last r h;clear HV hv hr h
 by_cases hm : m = 1
 ·subst hm;have q1 : IntKind.i64.wrap (((Utf8.encode r).size : Int) - 1) = 1 := by rw [hz]; rfl
  have q2 : (1 : Int) < (s.size : Int) := by omega
  have q3 : 1 < s.size := by omega
  have q4 : ((y.toNat : Int) == (b.toNat : Int)) = false := beq_eq_false_iff_ne.2 (by omega);have q5 : (2 : Int) ≤ (s.size : Int) := by omega
  have q6 : (1 : Int) < ((Utf8.encode r).size : Int) := by omega
  have q7 : Lib.indexByte (s.extract 2 s.size).data.toList b = -1 := by
   have : (s.extract 2 s.size).data.toList = [] := by
    apply List.eq_nil_of_length_eq_zero;rw [lTq];show (s.extract 2 s.size).size = 0;rw [ByteArray.size_extract];omega
   rw [this];rfl
  have q8 : IntKind.i64.wrap 2 = 2 := by decide
  have HI := fun w2 : World => iB_any (s.extract 2 s.size) b w2;rw [q7] at HI;have HIH := hdn HI;have h1' : s[1]'q3 = y := h1;clear HI q7 hz hm1 hm3 hb128 hy h1 hs;go_enter Tryz.func146, Tryz.ntmps146;go_wp2_with fail;refine cMq HVH.out ?_;rintro e w1 ⟨rfl, hw⟩;rw [hw];clear hw;go_wp2_with fail
  go_step3
  go_wp2_with fail;refine wp_loop_rounds 1 ?_;rw [rounds_succ];go_wp2_with fail
  go_step3
  go_wp2_with fail
  go_quiet (fail)
  go_wp2_with fail
  go_quiet ((exact quiet_more (HIH.out _)))
  go_wp2_with fail;show bodyPost Tryz.prog Tryz.f146 (InR w) .ret _ _;go_ret;exact ⟨rfl, below_drewN (Below.refl _ _) _⟩
 ·have q1 : IntKind.i64.wrap (((Utf8.encode r).size : Int) - 1) = (m : Int) := by rw [hz, IntWalk.i64_in _ (by omega)]; omega
  have q2 : ¬ (m : Int) < (s.size : Int) := by omega
  clear hz hm1 hm3 hb128 hy h1 hs hb hmz hm;go_enter Tryz.func146, Tryz.ntmps146;go_wp2_with fail;refine cMq HVH.out ?_;rintro e w1 ⟨rfl, hw⟩;rw [hw];clear hw;go_wp2_with fail
  go_step3
  go_wp2_with fail;refine wp_loop_rounds 1 ?_;rw [rounds_succ];go_wp2_with fail;go_ret;exact ⟨rfl, Below.refl _ _⟩
theorem rune_any (s : ByteArray) (r : Int) (w : World) (hs : s.size = 2) (x y : UInt8) (h0 : s[0]'(by omega) = x) (h1 : s[1]'(by omega) = y) (hx : x.toNat < 128) (hy : y.toNat < 128) (h : 128 ≤ r) : Calls Tryz.prog 146 #[.string s, .int .i32 r] w (InR w) := by
 by_cases hr : r = 65533
 ·subst hr;exact rune_fffd s w hs x y h0 h1 hx hy
 ·by_cases hv : validB r = true
  ·exact rune_val s r w hs y h1 hy h hr hv
  ·exact rune_bad s r w h hr (by simpa using hv)
#print axioms valid_any
end
section
open Go.RowKit
theorem decode_tail (s : ByteArray) (pos : Nat) (h : pos < s.size) (ha : 128 ≤ (s[pos]'h).toNat) : ∀ k : Nat, k < (Utf8.decode s pos).2 -> ∃ hk : pos + k < s.size, 128 ≤ (s[pos + k]'hk).toNat := by
 have hn : ¬ (s.get! (pos + 0)).toNat < 128 := by rw [get_at s pos h]; omega
 have h0 : ∃ hk : pos + 0 < s.size, 128 ≤ (s[pos + 0]'hk).toNat := ⟨h, ha⟩;have hg : ∀ k : Nat, (pos + k < s.size ∧ (s.get! (pos + k)).toNat / 64 = 2) -> ∃ hk : pos + k < s.size, 128 ≤ (s[pos + k]'hk).toNat := fun k ⟨h1, h2⟩ => ⟨h1, by
  have := get_at s (pos + k) h1;rw [Nat.add_zero] at this;rw [<- this];omega⟩
 have g1 := hg 1; have g2 := hg 2; have g3 := hg 3;intro k hk;simp only [Utf8.decode] at hk;rw [if_neg hn] at hk;rcases k with _ | _ | _ | _ | k
 ·exact h0
 all_goals
  first
  | (apply g1)
  | (apply g2)
  | (apply g3)
  | skip
 all_goals
  revert hk
  repeat' split
  all_goals
   intro hk
   first
   | (simp only [Nat.zero_add, Nat.reduceAdd, Bool.and_eq_true, decide_eq_true_eq, beq_iff_eq, Nat.lt_irrefl] at *; done)
   | (simp only [Nat.zero_add, Nat.reduceAdd, Bool.and_eq_true, decide_eq_true_eq, beq_iff_eq] at *; omega)
   | (simp_all; done)
   | (simp_all; omega)
theorem noAny_by {s : ByteArray} {cs : List UInt8} {pos n : Nat} (h : Lib.NoAny s.data.toList cs pos) (hc : ∀ b : UInt8, 128 ≤ b.toNat -> cs.contains b = false) (ht : ∀ k : Nat, k < n -> ∃ hk : pos + k < s.size, 128 ≤ (s[pos + k]'hk).toNat) : Lib.NoAny s.data.toList cs (pos + n) := by
 intro j b hj hb
 by_cases hp : j < pos
 ·exact h j b hp hb
 ·obtain ⟨k, rfl⟩ : ∃ k, j = pos + k := ⟨j - pos, by omega⟩;obtain ⟨hk, h2⟩ := ht k (by omega);rw [Lib.data_getElem? s (pos + k) hk] at hb
  cases hb
  exact hc _ h2
theorem use_any (n : Int) (w : World) : Calls Tryz.prog 166 #[.int .i64 n] w fun e w' => e = .returned (.bool (decide (8 < n))) ∧ w' = w := Any.strings_shouldUseASCIISet { Tryz.lays153 with } n w
theorem runeA (s : ByteArray) (r : Int) (w : World) (h0 : 0 ≤ r) (h1 : r < 128) : Calls Tryz.prog 146 #[.string s, .int .i32 r] w fun e w' => e = .returned (.int .i64 (Lib.indexByte s.data.toList r.toNat.toUInt8)) ∧ w' = w := Any.strings_IndexRune_ascii { Tryz.lays153 with } s r w h0 h1
theorem runeB (s : ByteArray) (x : UInt8) (w : World) (h1 : x.toNat < 128) : Calls Tryz.prog 146 #[.string s, .int .i32 (x.toNat : Int)] w fun e w' => e = .returned (.int .i64 (Lib.indexByte s.data.toList x)) ∧ w' = w := by
 have h := runeA s (x.toNat : Int) w (by omega) (by omega);rw [show ((x.toNat : Int)).toNat.toUInt8 = x from by simp] at h;exact h
def AnyW (s : ByteArray) (cs : List UInt8) (w : World) (g : Nat) (wr : World) : Prop :=
 ∃ i : Nat, i + g = s.size ∧ wr.heap[w.heap.size]? = some (.stringIter s i) ∧ Below w.heap.size w wr ∧ Lib.NoAny s.data.toList cs i
def AnyR (s : ByteArray) (cs : List UInt8) (w : World) (e : Ending) (w' : World) : Prop := e = .returned (.int .i64 (Lib.indexAny s.data.toList cs)) ∧ Below w.heap.size w w'
theorem any_short (s c : ByteArray) (w : World) (hc : c.size = 2) (x y : UInt8) (h0 : c[0]'(by omega) = x) (h1 : c[1]'(by omega) = y) (hx : x.toNat < 128) (hy : y.toNat < 128) (hcl : ∀ b : UInt8, 128 ≤ b.toNat -> c.data.toList.contains b = false) (h8 : s.size ≤ 8) :
  Calls Tryz.prog 132 #[.string s, .string c] w (AnyR s c.data.toList w) := by
 have hemp : c.toList.isEmpty = false := by
  rw [Lib.toList_data]
  cases h : c.data.toList with
  | nil => have := Lib.size_eq c; rw [h, List.length_nil] at this; omega
  | cons _ _ => rfl
 have hn1 : ((c.size : Int) == 1) = false := beq_eq_false_iff_ne.2 (by omega);have h8z : decide ((8 : Int) < (s.size : Int)) = false := decide_eq_false (by omega);have HC := hdn hcl;have HR := hdn fun (r : Int) (w2 : World) (h : 128 ≤ r) => rune_any c r w2 hc x y h0 h1 hx hy h;have HU := use_any (s.size : Int) w;rw [h8z] at HU;have HUH := hdn HU;clear hcl hx hy h0 h1 hc h8z HU h8;go_enter Tryz.func132, Tryz.ntmps132;go_wp2_with fail;refine cMq HUH.out ?_;rintro e w1 ⟨rfl, hw⟩;rw [hw];clear hw;go_wp2_with fail
 go_loopg [9, 10] s.size (fun g _ _ wx => AnyW s c.data.toList w g wx)
 case atStart =>
  refine ⟨0, by omega, ?_, (Below.refl _ _).alloc (Nat.le_refl _) _, Lib.NoAny.zero _ _⟩;have := World.iter_heap w s 0;simpa using this
 case round =>
  obtain ⟨i, hig, hit, hbw, hno⟩ := hrel;have HN := hdn hno;have hlt := (gSq.1 hit).1;clear hno
  cases gk with
  | zero =>
   obtain rfl : i = s.size := by omega
   have hnx : ∀ ty, (Instr.next (.pointer (some ⟨w.heap.size, 0, none⟩)) true ty).run Tryz.prog wr = _ := fun ty => Lib.run_next_end_at wr w.heap.size s s.size ty hit (by omega)
   go_wp2;go_ret;exact ⟨by rw [Lib.indexAny_none (by rw [<- Lib.size_eq]; exact HN.out)]; rfl, hbw⟩
  | succ g =>
   have hi : i < s.size := by omega
   have hnx : ∀ ty, (Instr.next (.pointer (some ⟨w.heap.size, 0, none⟩)) true ty).run Tryz.prog wr = _ := fun ty => Lib.run_next_any_at wr w.heap.size s i ty hit hi
   obtain ⟨z, hz⟩ : ∃ z : UInt8, s[i]'hi = z := ⟨_, rfl⟩;have hzl : s.data.toList[i]? = some z := by rw [<- hz]; exact Lib.data_getElem? s i hi
   have HZ := hdn hzl;clear hzl
   by_cases hz1 : z.toNat < 128
   ·have hd := decode_ascii s i hi (by rw [hz]; exact hz1);rw [hz] at hd;rw [hd] at hnx;have hit2 := Lib.iterAt_heap wr w.heap.size s i (i + 1) hit;have hbw2 := Lib.below_iterAt hbw (k := w.heap.size) (by omega) s (i + 1);have HB := hdn fun w2 : World => runeB c z w2 hz1;have hcon := Lib.contains_iff_indexByte c.data.toList z;generalize hW : wr.iterAt w.heap.size s (i + 1) = W at *;have HIT2 := hdn hit2;clear hW hit2 hit hd hz
    cases hin : c.data.toList.contains z
    ·rw [hin] at hcon;have hlt0 : ¬ ((0 : Int) ≤ Lib.indexByte c.data.toList z) := of_decide_eq_false hcon.symm;have HI := hdn hin;clear hcon hin;go_wp2_with fail;refine cMq (HB.out _) ?_;rintro e w2 ⟨rfl, hw⟩;rw [hw];clear hw;go_wp2_with fail
     go_roundg g
     case measure => omega
     case rel => exact ⟨i + 1, by omega, HIT2.out, hbw2, HN.out.succ HZ.out HI.out⟩
    ·rw [hin] at hcon;have hge : (0 : Int) ≤ Lib.indexByte c.data.toList z := of_decide_eq_true hcon.symm;have HI := hdn hin;clear hcon hin;go_wp2_with fail;refine cMq (HB.out _) ?_;rintro e w2 ⟨rfl, hw⟩;rw [hw];clear hw;go_wp2_with fail;go_ret;exact ⟨by rw [Lib.indexAny_hit HN.out HZ.out HI.out]; rfl, hbw2⟩
   ·obtain ⟨hd1, hd2⟩ := decode_high s i hi (by rw [hz]; omega);have HT := hdn (decode_tail s i hi (by rw [hz]; omega));clear hz;generalize Utf8.decode s i = D at *;obtain ⟨r, n⟩ := D;simp only at hd1 hd2 HT hnx;have hit2 := Lib.iterAt_heap wr w.heap.size s i (i + n) hit;have hbw2 := Lib.below_iterAt hbw (k := w.heap.size) (by omega) s (i + n);have hlt2 : w.heap.size < (wr.iterAt w.heap.size s (i + n)).heap.size := (gSq.1 hit2).1;generalize hW : wr.iterAt w.heap.size s (i + n) = W at *;have HR2 := hdn (HR.out (r : Int) W (by omega));have HIT2 := hdn hit2
    have hin : i + n ≤ s.size := by
     obtain ⟨hk, _⟩ := HT.out (n - 1) (by omega);omega
    clear hW hit2 hit;go_wp2_with fail;refine cMq HR2.out ?_;rintro e w2 ⟨rfl, hw⟩;have HW2 := hdn hw;clear hw;go_wp2_with fail
    go_roundg (s.size - (i + n))
    case measure => omega
    case rel =>
     refine ⟨i + n, by omega, ?_, hbw2.trans (HW2.out.mono (by omega)), noAny_by HN.out HC.out HT.out⟩;rw [HW2.out.block _ hlt2];exact HIT2.out
end
section
open Go.RowKit
def unescF : Nat -> ByteArray -> List UInt8
 | 0, _ => []
 | f + 1, s =>
  if Lib.indexAny s.data.toList [92, 38] < 0 then s.data.toList
  else s.data.toList.take (Lib.indexAny s.data.toList [92, 38]).toNat ++ unescS f (unescF f) (s.extract (Lib.indexAny s.data.toList [92, 38]).toNat s.size)
where
 unescS (_f : Nat) (r : ByteArray -> List UInt8) (t : ByteArray) : List UInt8 :=
  if (t.data.toList[0]? == some 92 && (t.data.toList[1]?).any signB) = true then t.data.toList[1]?.toList ++ r (t.extract 2 t.size)
  else if (markN t).2 = 0 then t.data.toList.take 1 ++ r (t.extract 1 t.size)
  else (markN t).1.data.toList ++ r (t.extract (markN t).2 t.size)
theorem findF_all (Q : ByteArray × Bool -> Prop) (k : List UInt8) : ∀ (l : List (ByteArray × ByteArray × Bool)) (o : Option (ByteArray × Bool)), (∀ e ∈ l, Q e.2) -> (∀ x, o = some x -> Q x) -> ∀ x, findF l k o = some x -> Q x
 | [], _, _, ho => ho
 | e :: r, o, hl, ho => findF_all Q k r _ (fun y hy => hl y (List.mem_cons_of_mem _ hy)) fun x hx => by
  split at hx
  ·cases hx
   exact hl e List.mem_cons_self
  ·exact ho x hx
theorem tab_le : ∀ e ∈ tabL, e.2.1.size ≤ 8 := by decide +kernel
theorem find_le (l : List UInt8) (x : ByteArray × Bool) (h : findN l = some x) : x.1.size ≤ 8 :=
 findF_all (fun x => x.1.size ≤ 8) l tabL none (fun e he => tab_le e he) (fun _ h => by cases h) x h
theorem enc_le (r : Int) : (Utf8.encode r).size ≤ 8 := by
 unfold Utf8.encode;simp only []
 repeat' split
 all_goals simp [ByteArray.size]
theorem mark_le (s : ByteArray) : (markN s).1.size ≤ 8 ∧ (markN s).2 ≤ s.size := by
 have hl : s.data.toList.length = s.size := lTq;have hz : ((⟨#[]⟩ : ByteArray), 0).1.size ≤ 8 ∧ ((⟨#[]⟩ : ByteArray), 0).2 ≤ s.size := ⟨by decide, Nat.zero_le _⟩;unfold markN;generalize (if x2 s.data.toList = true then 6 else 7) = mx;split
 ·split
  ·exact hz
  ·rename_i h;refine ⟨enc_le _, ?_⟩;have h2 : (s.data.toList[(numericN s.data.toList).2.2]? == some 59) = true := by
    cases e : (s.data.toList[(numericN s.data.toList).2.2]? == some 59)
    ·exact absurd (Or.inr e) h
    ·rfl
   have h3 := (List.getElem?_eq_some_iff.1 (beq_iff_eq.1 h2)).1;show (numericN s.data.toList).2.2 + 1 ≤ s.size;omega
 ·split
  ·exact hz
  ·rename_i h;have hc : (cutS s 59).2.2 = true := by
    cases e : (cutS s 59).2.2
    ·exact absurd (Or.inl e) h
    ·rfl
   split
   ·exact hz
   ·rename_i x hx;refine ⟨find_le _ _ hx, ?_⟩;show (cutS s 59).1.size + 1 ≤ s.size;unfold cutS at hc ⊢;rcases rsIndexByte_spec s.data.toList 59 with ⟨h1, _⟩ | ⟨a, h1, h2, _⟩
    ·rw [h1, if_pos (by decide)] at hc
     cases hc
    ·have ha := (List.getElem?_eq_some_iff.1 h2).1;rw [h1, if_neg (by omega), Int.toNat_natCast];show (s.extract 0 a).size + 1 ≤ s.size;rw [ByteArray.size_extract];omega
theorem iany_any (s : ByteArray) (w : World) (hs : s.size < 4294967281) : Calls Tryz.prog 132 #[.string s, .string ⟨#[92, 38]⟩] w (AnyR s [92, 38] w) := by
 by_cases h8 : s.size ≤ 8
 ·have hcl : ∀ b : UInt8, 128 ≤ b.toNat -> ([92, 38] : List UInt8).contains b = false := fun b hb => by
   have h1 : b ≠ 92 := fun e => by subst e; revert hb; decide
   have h2 : b ≠ 38 := fun e => by subst e; revert hb; decide
   simp [h1, h2]
  exact any_short s ⟨#[92, 38]⟩ w rfl 92 38 rfl rfl (by decide) (by decide) hcl h8
 ·have h116 : (Tryz.prog.info? 93).map (fun i => (i.zero, i.size)) = some (some (.agg (Array.replicate 256 (.bool false))), 256) := by kernel_rfl
  have ha : ∀ (j : Nat) b, ([92, 38] : List UInt8)[j]? = some b -> b.toNat < 128 := fun j b hb => by
   rcases j with _ | _ | j
   ·cases hb; decide
   ·cases hb; decide
   ·simp at hb
  refine cMq (Tryz.strings_IndexAny_long (zero_of_info h116).1 s ⟨#[92, 38]⟩ w (by decide) (by omega) hs (by decide) ha) ?_;rintro e w' ⟨he, hw⟩;refine ⟨he, ?_⟩;rw [hw];exact ((Below.refl _ _).alloc (Nat.le_refl _) _).alloc (by simp) _
end
section
open Go.RowKit
theorem unb : BldT 104 := ⟨by kernel_rfl, by decide⟩
theorem iany_spec : ∀ l : List UInt8, Lib.indexAny l [92, 38] = -1 ∨ ∃ (a : Nat) (b : UInt8), Lib.indexAny l [92, 38] = (a : Int) ∧ l[a]? = some b
 | [] => .inl rfl
 | b :: l => by
  unfold Lib.indexAny;split
  ·exact .inr ⟨0, b, rfl, rfl⟩
  ·rcases iany_spec l with h | ⟨a, c, h1, h2⟩
   ·left; rw [h]; rfl
   ·right;refine ⟨a + 1, c, ?_, by simpa using h2⟩;have hne : (Lib.indexAny l [92, 38] == (-1 : Int)) = false := by rw [h1, beq_eq_false_iff_ne]; omega
    rw [hne, h1];simp
theorem Bld.below {T B b : Nat} {l : List UInt8} {w w' : World} (h : Bld T B b l w) (hb : Below w.heap.size w w') : Bld T B b l w' := by
 have key : ∀ p : Value, Lib.BuilderAtF T 5 B b p (Lib.byteCells l) w -> Lib.BuilderAtF T 5 B b p (Lib.byteCells l) w' := by
  rintro p ⟨hB, v, hbk, hown, hne⟩;have hlt := (gSq.1 hbk).1;refine ⟨hB, v, (hb.block b hlt).trans hbk, ⟨hown.1, ?_⟩, hne⟩;rcases hown.2 with h | ⟨g, cap, cur, fz, hv, hbg, hg, r⟩
  ·exact .inl h
  ·exact .inr ⟨g, cap, cur, fz, hv, hbg, (hb.block g (gSq.1 hg).1).trans hg, r⟩
 exact h.elim (fun x => .inl (key _ x)) (fun x => .inr (key _ x))
def UnW (s : ByteArray) (w : World) (L : List UInt8) (g : Nat) (v : Value) (wr : World) : Prop :=
 ∃ (t : ByteArray) (acc : List UInt8) (f : Nat), v = .string t ∧ t.size = g ∧ t.size < f ∧ acc ++ unescF f t = L ∧ Bld 104 w.heap.size w.heap.size acc wr ∧ Below w.heap.size w wr ∧ acc.length + 8 * t.size ≤ 8 * s.size
def UnR (w : World) (L : List UInt8) (e : Ending) (w' : World) : Prop := e = .returned (.string ⟨L.toArray⟩) ∧ Below w.heap.size w w'
theorem unescape_any (s : ByteArray) (w : World) (hs : s.size < 4294967281) : Calls Tryz.prog 89 #[.string s] w (UnR w (unescF (s.size + 1) s)) := by
 obtain ⟨L, hL⟩ : ∃ L, unescF (s.size + 1) s = L := ⟨_, rfl⟩;rw [hL];have HL := hdn hL;clear hL;go_enter Tryz.func89, Tryz.ntmps89;go_wp2
 go_loopg [0] s.size (fun g v wr => UnW s w L g v wr)
 case atStart => exact ⟨s, [], s.size + 1, rfl, rfl, by omega, HL.out, Bld.fresh _ w, (Below.refl _ _).alloc (Nat.le_refl _) _, by simp⟩
 case round =>
  obtain ⟨t, acc, f, rfl, hg, hf, hLL, hB, hbw, hlen⟩ := hrel;subst hg;have HLL := hdn hLL;have HB := hdn hB;have hlt := hB.lt;have HI0 := iany_any t wr (by omega);unfold AnyR at HI0;have hl : t.data.toList.length = t.size := lTq;clear hLL hB;obtain ⟨f, rfl⟩ : ∃ f', f = f' + 1 := ⟨f - 1, by omega⟩;rcases iany_spec t.data.toList with h1 | ⟨a, b, h1, h2⟩
  ·rw [h1] at HI0;have HI := hdn HI0;have HE := hdn (show unescF (f + 1) t = t.data.toList by unfold unescF; rw [h1, if_pos (by decide)]);clear HI0 h1 hl;go_wp2_with fail;refine cMq HI.out ?_;rintro e w1 ⟨rfl, hw1⟩;have HB1 := hdn (HB.out.below hw1);have hlt1 := hw1.size;go_wp2_with fail;refine cMq (bld_WriteString unb w.heap.size w.heap.size acc t w1 HB1.out (by omega) (by omega)) ?_;rintro e w2 ⟨rfl, hB2, hw2, _⟩;have HB2 := hdn hB2;have hlt2 := hw2.size;clear hB2;go_wp2_with fail
   refine cMq (bld_String 104 w.heap.size w.heap.size _ w2 HB2.out (by omega)) ?_;rintro e w3 ⟨rfl, _, hw3, _⟩;go_wp2_with fail;go_ret;refine ⟨?_, ((hbw.trans (hw1.mono (by omega))).trans hw2).trans hw3⟩;rw [<- HLL.out, HE.out];rfl
  ·rw [h1] at HI0;have HI := hdn HI0;have ha := (List.getElem?_eq_some_iff.1 h2).1;obtain ⟨t1, hT1⟩ : ∃ t1, t.extract a t.size = t1 := ⟨_, rfl⟩;have hz1 : t1.size = t.size - a := by rw [<- hT1, ByteArray.size_extract]; omega
   have HE := hdn (show unescF (f + 1) t = t.data.toList.take a ++ unescF.unescS f (unescF f) t1 by rw [<- hT1]; unfold unescF; rw [h1, if_neg (by omega), Int.toNat_natCast]);have hA0 : ¬ (a : Int) < 0 := by omega
   have hA1 : (a : Int) ≤ (t.size : Int) := by omega
   have hA2 : (0 : Int) ≤ (a : Int) := by omega
   have hA3 : a ≤ t.size := by omega
   have hx : (t.extract 0 a).data.toList = t.data.toList.take a := by simp [ByteArray.data_extract]
   have hxz : (t.extract 0 a).size = a := by rw [ByteArray.size_extract]; omega
   have HX := hdn hx;have h0z : 0 < t1.size := by omega
   have h0i : (0 : Int) < (t1.size : Int) := by omega
   have h0j : (1 : Int) ≤ (t1.size : Int) := by omega
   have hs1 : t1.size ≤ t.size := by omega
   obtain ⟨c, hc⟩ : ∃ c, t1[0]'h0z = c := ⟨_, rfl⟩;have hcl : t1.data.toList[0]? = some c := by rw [<- hc]; exact Lib.data_getElem? t1 0 h0z
   have HCL := hdn hcl;obtain ⟨q, hq⟩ : ∃ q, (c == 92) = q := ⟨_, rfl⟩;have hq2 : ((c.toNat : Int) == 92) = q := by rw [<- hq]; exact beqc c 92
   have HQ := hdn hq;clear HI0 h1 h2 hl ha hx hcl hq
   cases q with
   | false =>
    have HCO := hdn (show (t1.data.toList[0]? == some 92 && (t1.data.toList[1]?).any signB) = false by rw [HCL.out, show ((some c : Option UInt8) == some 92) = (c == 92) from rfl, HQ.out]; rfl);go_wp2_with fail;refine cMq HI.out ?_;rintro e w1 ⟨rfl, hw1⟩;have HB1 := hdn (HB.out.below hw1);have hlt1 := hw1.size;go_wp2_with fail;refine cMq (bld_WriteString unb w.heap.size w.heap.size acc (t.extract 0 a) w1 HB1.out (by omega) (by omega)) ?_;rintro e w2 ⟨rfl, hB2, hw2, _⟩;rw [HX.out] at hB2;have HB2 := hdn hB2;have hlt2 := hw2.size;clear hB2;go_wp2_with fail
    refine cMq (mark_any t1 w2 (by omega)) ?_;rintro e w3 ⟨rfl, hw3⟩;have HB3 := hdn (HB2.out.below hw3);have hlt3 := hw3.size;obtain ⟨hml, hmn⟩ := mark_le t1
    by_cases hn : (markN t1).2 = 0
    ·have hn0 : (((markN t1).2 : Nat) : Int) = 0 := by omega
     have HN := hdn hn;have hyz : (t1.extract 0 1).size = 1 := by rw [ByteArray.size_extract]; omega
     have hyz2 : (t1.extract 1 t1.size).size = t1.size - 1 := by rw [ByteArray.size_extract]; omega
     have hyl : (t1.extract 0 1).data.toList = t1.data.toList.take 1 := by simp [ByteArray.data_extract]
     have HYL := hdn hyl;clear hn hyl;go_wp2_with fail;refine cMq (bld_WriteString unb w.heap.size w.heap.size (acc ++ t.data.toList.take a) (t1.extract 0 1) w3 HB3.out (by simp; omega) (by omega)) ?_;rintro e w4 ⟨rfl, hB4, hw4, _⟩;have HB4 := hdn hB4;clear hB4;go_wp2_with fail
     go_roundg (t1.size - 1)
     case measure => omega
     case rel =>
      refine ⟨t1.extract 1 t1.size, _, f, by rw [hz1], by omega, by omega, ?_, HB4.out, ((((hbw.trans (hw1.mono (by omega))).trans hw2).trans (hw3.mono (by omega))).trans hw4), ?_⟩
      ·rw [<- HLL.out, HE.out];unfold unescF.unescS;rw [HCO.out, if_neg Bool.false_ne_true, if_pos HN.out, HYL.out];simp only [List.append_assoc]
      ·have h5 : (t1.extract 0 1).data.toList.length = 1 := by rw [<- Lib.size_eq]; exact hyz
       simp only [List.length_append, List.length_take, h5];omega
    ·have hn0 : ¬ (((markN t1).2 : Nat) : Int) = 0 := by omega
     have hn1 : ((((markN t1).2 : Nat) : Int) == 0) = false := beq_eq_false_iff_ne.2 hn0;have hn2 : (((markN t1).2 : Nat) : Int) ≤ (t1.size : Int) := by omega
     have hn3 : (0 : Int) ≤ (((markN t1).2 : Nat) : Int) := by omega
     have HN := hdn hn;have hyz2 : (t1.extract (markN t1).2 t1.size).size = t1.size - (markN t1).2 := by rw [ByteArray.size_extract]; omega
     have hn4 : 0 < (markN t1).2 := by omega
     go_wp2_with fail;refine cMq (bld_WriteString unb w.heap.size w.heap.size (acc ++ t.data.toList.take a) (markN t1).1 w3 HB3.out (by simp; omega) (by omega)) ?_;rintro e w4 ⟨rfl, hB4, hw4, _⟩;have HB4 := hdn hB4;clear hB4;go_wp2_with fail
     go_roundg (t1.size - (markN t1).2)
     case measure => omega
     case rel =>
      refine ⟨t1.extract (markN t1).2 t1.size, _, f, by rw [hz1], by omega, by omega, ?_, HB4.out, ((((hbw.trans (hw1.mono (by omega))).trans hw2).trans (hw3.mono (by omega))).trans hw4), ?_⟩
      ·rw [<- HLL.out, HE.out];unfold unescF.unescS;rw [HCO.out, if_neg Bool.false_ne_true, if_neg HN.out];simp only [List.append_assoc]
      ·have h5 : (markN t1).1.data.toList.length = (markN t1).1.size := (Lib.size_eq _).symm;simp only [List.length_append, List.length_take, h5];omega
   | true =>
    by_cases h2z : 1 < t1.size
    ·have h2i : (1 : Int) < (t1.size : Int) := by omega
     have h2j : (2 : Int) ≤ (t1.size : Int) := by omega
     obtain ⟨d, hd⟩ : ∃ d, t1[1]'h2z = d := ⟨_, rfl⟩;have HDL := hdn (show t1.data.toList[1]? = some d by rw [<- hd]; exact Lib.data_getElem? t1 1 h2z);have HS := hdn fun w9 : World => sign_any d w9;obtain ⟨sg, hsg⟩ : ∃ sg, signB d = sg := ⟨_, rfl⟩;rw [hsg] at HS;have HSG := hdn hsg;clear hsg;have hzz : (t1.extract 2 t1.size).size = t1.size - 2 := by rw [ByteArray.size_extract]; omega
     cases sg with
     | false =>
      have HCO := hdn (show (t1.data.toList[0]? == some 92 && (t1.data.toList[1]?).any signB) = false by rw [HCL.out, show ((some c : Option UInt8) == some 92) = (c == 92) from rfl, HQ.out]; rw [HDL.out]; exact HSG.out);go_wp2_with fail;refine cMq HI.out ?_;rintro e w1 ⟨rfl, hw1⟩;have HB1 := hdn (HB.out.below hw1);have hlt1 := hw1.size;go_wp2_with fail;refine cMq (bld_WriteString unb w.heap.size w.heap.size acc (t.extract 0 a) w1 HB1.out (by omega) (by omega)) ?_;rintro e w2 ⟨rfl, hB2, hw2, _⟩;rw [HX.out] at hB2;have HB2 := hdn hB2;have hlt2 := hw2.size;clear hB2;go_wp2_with fail
      refine cMq (HS.out _) ?_;rintro e w9 ⟨rfl, hw⟩;rw [<- hw];clear hw;go_wp2_with fail;refine cMq (mark_any t1 w2 (by omega)) ?_;rintro e w3 ⟨rfl, hw3⟩;have HB3 := hdn (HB2.out.below hw3);have hlt3 := hw3.size;obtain ⟨hml, hmn⟩ := mark_le t1
      by_cases hn : (markN t1).2 = 0
      ·have hn0 : (((markN t1).2 : Nat) : Int) = 0 := by omega
       have HN := hdn hn;have hyz : (t1.extract 0 1).size = 1 := by rw [ByteArray.size_extract]; omega
       have hyz2 : (t1.extract 1 t1.size).size = t1.size - 1 := by rw [ByteArray.size_extract]; omega
       have hyl : (t1.extract 0 1).data.toList = t1.data.toList.take 1 := by simp [ByteArray.data_extract]
       have HYL := hdn hyl;clear hn hyl;go_wp2_with fail;refine cMq (bld_WriteString unb w.heap.size w.heap.size (acc ++ t.data.toList.take a) (t1.extract 0 1) w3 HB3.out (by simp; omega) (by omega)) ?_;rintro e w4 ⟨rfl, hB4, hw4, _⟩;have HB4 := hdn hB4;clear hB4;go_wp2_with fail
       go_roundg (t1.size - 1)
       case measure => omega
       case rel =>
        refine ⟨t1.extract 1 t1.size, _, f, by rw [hz1], by omega, by omega, ?_, HB4.out, ((((hbw.trans (hw1.mono (by omega))).trans hw2).trans (hw3.mono (by omega))).trans hw4), ?_⟩
        ·rw [<- HLL.out, HE.out];unfold unescF.unescS;rw [HCO.out, if_neg Bool.false_ne_true, if_pos HN.out, HYL.out];simp only [List.append_assoc]
        ·have h5 : (t1.extract 0 1).data.toList.length = 1 := by rw [<- Lib.size_eq]; exact hyz
         simp only [List.length_append, List.length_take, h5];omega
      ·have hn0 : ¬ (((markN t1).2 : Nat) : Int) = 0 := by omega
       have hn1 : ((((markN t1).2 : Nat) : Int) == 0) = false := beq_eq_false_iff_ne.2 hn0;have hn2 : (((markN t1).2 : Nat) : Int) ≤ (t1.size : Int) := by omega
       have hn3 : (0 : Int) ≤ (((markN t1).2 : Nat) : Int) := by omega
       have HN := hdn hn;have hyz2 : (t1.extract (markN t1).2 t1.size).size = t1.size - (markN t1).2 := by rw [ByteArray.size_extract]; omega
       have hn4 : 0 < (markN t1).2 := by omega
       go_wp2_with fail;refine cMq (bld_WriteString unb w.heap.size w.heap.size (acc ++ t.data.toList.take a) (markN t1).1 w3 HB3.out (by simp; omega) (by omega)) ?_;rintro e w4 ⟨rfl, hB4, hw4, _⟩;have HB4 := hdn hB4;clear hB4;go_wp2_with fail
       go_roundg (t1.size - (markN t1).2)
       case measure => omega
       case rel =>
        refine ⟨t1.extract (markN t1).2 t1.size, _, f, by rw [hz1], by omega, by omega, ?_, HB4.out, ((((hbw.trans (hw1.mono (by omega))).trans hw2).trans (hw3.mono (by omega))).trans hw4), ?_⟩
        ·rw [<- HLL.out, HE.out];unfold unescF.unescS;rw [HCO.out, if_neg Bool.false_ne_true, if_neg HN.out];simp only [List.append_assoc]
        ·have h5 : (markN t1).1.data.toList.length = (markN t1).1.size := (Lib.size_eq _).symm;simp only [List.length_append, List.length_take, h5];omega
     | true =>
      have HCO := hdn (show (t1.data.toList[0]? == some 92 && (t1.data.toList[1]?).any signB) = true by rw [HCL.out, show ((some c : Option UInt8) == some 92) = (c == 92) from rfl, HQ.out]; rw [HDL.out]; exact HSG.out);go_wp2_with fail;refine cMq HI.out ?_;rintro e w1 ⟨rfl, hw1⟩;have HB1 := hdn (HB.out.below hw1);have hlt1 := hw1.size;go_wp2_with fail;refine cMq (bld_WriteString unb w.heap.size w.heap.size acc (t.extract 0 a) w1 HB1.out (by omega) (by omega)) ?_;rintro e w2 ⟨rfl, hB2, hw2, _⟩;rw [HX.out] at hB2;have HB2 := hdn hB2;have hlt2 := hw2.size;clear hB2;go_wp2_with fail
      refine cMq (HS.out _) ?_;rintro e w9 ⟨rfl, hw⟩;rw [<- hw];clear hw;go_wp2_with fail;refine cMq (bld_WriteByte unb w.heap.size w.heap.size (acc ++ t.data.toList.take a) d w2 HB2.out (by simp; omega) (by omega)) ?_;rintro e w4 ⟨rfl, hB4, hw4, _⟩;have HB4 := hdn hB4;clear hB4;go_wp2_with fail
      go_roundg (t1.size - 2)
      case measure => omega
      case rel =>
       refine ⟨t1.extract 2 t1.size, _, f, by rw [hz1], by omega, by omega, ?_, HB4.out, (((hbw.trans (hw1.mono (by omega))).trans hw2).trans hw4), ?_⟩
       ·rw [<- HLL.out, HE.out];unfold unescF.unescS;rw [HCO.out, if_pos rfl, HDL.out];simp
       ·simp only [List.length_append, List.length_take, List.length_cons, List.length_nil];omega
    ·have h2i : ¬ (1 : Int) < (t1.size : Int) := by omega
     have HDN := hdn (show t1.data.toList[1]? = none from List.getElem?_eq_none (by rw [<- Lib.size_eq]; omega));have HCO := hdn (show (t1.data.toList[0]? == some 92 && (t1.data.toList[1]?).any signB) = false by rw [HCL.out, show ((some c : Option UInt8) == some 92) = (c == 92) from rfl, HQ.out]; rw [HDN.out]; rfl);go_wp2_with fail;refine cMq HI.out ?_;rintro e w1 ⟨rfl, hw1⟩;have HB1 := hdn (HB.out.below hw1);have hlt1 := hw1.size;go_wp2_with fail;refine cMq (bld_WriteString unb w.heap.size w.heap.size acc (t.extract 0 a) w1 HB1.out (by omega) (by omega)) ?_
     rintro e w2 ⟨rfl, hB2, hw2, _⟩;rw [HX.out] at hB2;have HB2 := hdn hB2;have hlt2 := hw2.size;clear hB2;go_wp2_with fail;refine cMq (mark_any t1 w2 (by omega)) ?_;rintro e w3 ⟨rfl, hw3⟩;have HB3 := hdn (HB2.out.below hw3);have hlt3 := hw3.size;obtain ⟨hml, hmn⟩ := mark_le t1
     by_cases hn : (markN t1).2 = 0
     ·have hn0 : (((markN t1).2 : Nat) : Int) = 0 := by omega
      have HN := hdn hn;have hyz : (t1.extract 0 1).size = 1 := by rw [ByteArray.size_extract]; omega
      have hyz2 : (t1.extract 1 t1.size).size = t1.size - 1 := by rw [ByteArray.size_extract]; omega
      have hyl : (t1.extract 0 1).data.toList = t1.data.toList.take 1 := by simp [ByteArray.data_extract]
      have HYL := hdn hyl;clear hn hyl;go_wp2_with fail;refine cMq (bld_WriteString unb w.heap.size w.heap.size (acc ++ t.data.toList.take a) (t1.extract 0 1) w3 HB3.out (by simp; omega) (by omega)) ?_;rintro e w4 ⟨rfl, hB4, hw4, _⟩;have HB4 := hdn hB4;clear hB4;go_wp2_with fail
      go_roundg (t1.size - 1)
      case measure => omega
      case rel =>
       refine ⟨t1.extract 1 t1.size, _, f, by rw [hz1], by omega, by omega, ?_, HB4.out, ((((hbw.trans (hw1.mono (by omega))).trans hw2).trans (hw3.mono (by omega))).trans hw4), ?_⟩
       ·rw [<- HLL.out, HE.out];unfold unescF.unescS;rw [HCO.out, if_neg Bool.false_ne_true, if_pos HN.out, HYL.out];simp only [List.append_assoc]
       ·have h5 : (t1.extract 0 1).data.toList.length = 1 := by rw [<- Lib.size_eq]; exact hyz
        simp only [List.length_append, List.length_take, h5];omega
     ·have hn0 : ¬ (((markN t1).2 : Nat) : Int) = 0 := by omega
      have hn1 : ((((markN t1).2 : Nat) : Int) == 0) = false := beq_eq_false_iff_ne.2 hn0;have hn2 : (((markN t1).2 : Nat) : Int) ≤ (t1.size : Int) := by omega
      have hn3 : (0 : Int) ≤ (((markN t1).2 : Nat) : Int) := by omega
      have HN := hdn hn;have hyz2 : (t1.extract (markN t1).2 t1.size).size = t1.size - (markN t1).2 := by rw [ByteArray.size_extract]; omega
      have hn4 : 0 < (markN t1).2 := by omega
      go_wp2_with fail;refine cMq (bld_WriteString unb w.heap.size w.heap.size (acc ++ t.data.toList.take a) (markN t1).1 w3 HB3.out (by simp; omega) (by omega)) ?_;rintro e w4 ⟨rfl, hB4, hw4, _⟩;have HB4 := hdn hB4;clear hB4;go_wp2_with fail
      go_roundg (t1.size - (markN t1).2)
      case measure => omega
      case rel =>
       refine ⟨t1.extract (markN t1).2 t1.size, _, f, by rw [hz1], by omega, by omega, ?_, HB4.out, ((((hbw.trans (hw1.mono (by omega))).trans hw2).trans (hw3.mono (by omega))).trans hw4), ?_⟩
       ·rw [<- HLL.out, HE.out];unfold unescF.unescS;rw [HCO.out, if_neg Bool.false_ne_true, if_neg HN.out];simp only [List.append_assoc]
       ·have h5 : (markN t1).1.data.toList.length = (markN t1).1.size := (Lib.size_eq _).symm;simp only [List.length_append, List.length_take, h5];omega
end
section
open Go.RowKit
def noNlLt (b : UInt8) : Bool := (b != 10) && (b != 60)
theorem dest1_any (b : UInt8) (w : World) : Calls Tryz.prog 150 #[.int .u8 (b.toNat : Int)] w (RB w (noNlLt b)) := by
 obtain ⟨q, hq⟩ : ∃ q, (b != 10) = q := ⟨_, rfl⟩;obtain ⟨r, hr⟩ : ∃ r, (b != 60) = r := ⟨_, rfl⟩;have hv : noNlLt b = (q && r) := by unfold noNlLt; rw [hq, hr]
 rw [hv];have hq2 : ((b.toNat : Int) != 10) = q := by rw [show ((b.toNat : Int) != 10) = (b != 10) from bnec b 10]; exact hq
 have hr2 : ((b.toNat : Int) != 60) = r := by rw [show ((b.toNat : Int) != 60) = (b != 60) from bnec b 60]; exact hr
 clear hq hr hv
 cases q
 ·go_enter Tryz.func150, Tryz.ntmps150;go_wp2;go_ret;exact ⟨rfl, rfl⟩
 ·go_enter Tryz.func150, Tryz.ntmps150;go_wp2;go_ret;exact ⟨rfl, rfl⟩
def bareF (l : List UInt8) : Nat -> Nat -> Nat -> Option (Nat × Nat)
 | 0, i, o => some (i, o)
 | f + 1, i, o => match l[i]? with
  | none => some (i, o)
  | some b =>
   if stepL l i = 2 then bareF l f (i + 2) o
   else if b == 40 && o == 32 then none
   else if b == 40 then bareF l f (i + 1) (o + 1)
   else if b == 41 && decide (0 < o) then bareF l f (i + 1) (o - 1)
   else if decide (b.toNat ≤ 32) || b == 127 || b == 41 then some (i, o)
   else bareF l f (i + 1) o
end
section
open Go.RowKit
def runeL (r : Int) : List UInt8 := Lib.encodeRune r
theorem bld_WriteRune {T : TypeId} (X : BldT T) (B b : Nat) (l : List UInt8) (r : Int) (hr0 : -2147483648 ≤ r) (hr1 : r ≤ 2147483647) (w : World) (h : Bld T B b l w) (hlen : l.length + 4 ≤ 140737488355328) (hBw : B ≤ w.heap.size) :
  Calls Tryz.prog 182 #[.pointer (some ⟨b, 0, none⟩), .int .i32 r] w fun e w' => (∃ z, e = .returned (.tuple #[.int .i64 z, .nilIface])) ∧ (Bld T B b (l ++ runeL r) w' ∧ Below B w w' ∧ Kept b w w') := by
 have hk4 := Lib.runeCells_le r;go_enter Tryz.func182, Tryz.ntmps182;go_wp2_with (go_at_call 111; refine (bld_check X B b _ _ h).mono ?_);rintro e w1 ⟨rfl, h1, hb1, hk1⟩;obtain ⟨hB, v, hbk, hown, hne⟩ := h1;obtain ⟨ao, cap, rfl⟩ : ∃ ao cap, v = .slice ao (Lib.byteCells l).length cap := by
  rcases hown.2 with ⟨hv, h0⟩ | ⟨g, cap, cur, fz, hv, _⟩
  ·exact ⟨none, 0, by rw [hv, h0]⟩
  ·exact ⟨_, _, hv⟩
 have c0 : w1.cell? ⟨b, 0, none⟩ = some (.pointer (some ⟨b, 0, none⟩)) := by rw [Lib.cell_of_heap hbk]; rfl
 have c1 : w1.cell? ⟨b, 1, none⟩ = some (.slice ao (Lib.byteCells l).length cap) := by rw [Lib.cell_of_heap hbk]; rfl
 go_wp2_with (go_at_call 200; refine (Tryz.utf8_AppendRune_row B _ (Lib.byteCells l).length (Lib.byteCells l) r hr0 hr1 _ hown (by rw [Lib.byteCells_length]; omega) (by have := hb1.size; omega)).mono ?_);rintro e w2 ⟨v', rfl, hown', o, hgrow⟩;have hlt : b < w1.heap.size := by
  rcases Nat.lt_or_ge b w1.heap.size with h' | h'
  ·exact h'
  ·simp [Array.getElem?_eq_none h'] at hbk
 have hb2 : w2.heap[b]? = some (.cells #[.pointer (some ⟨b, 0, none⟩), .slice ao (Lib.byteCells l).length cap] T (0, 0)) := by
  rw [hgrow.block b (by simp; omega) (fun e => hne e.symm), Lib.alloc_old w1 _ b hlt];exact hbk
 have d0 : w2.cell? ⟨b, 0, none⟩ = some (.pointer (some ⟨b, 0, none⟩)) := by rw [Lib.cell_of_heap hb2]; rfl
 have d1 : w2.cell? ⟨b, 1, none⟩ = some (.slice ao (Lib.byteCells l).length cap) := by rw [Lib.cell_of_heap hb2]; rfl
 have f1 : w2.frozen? ⟨b, 1, none⟩ = false := Lib.frozen_of_heap hb2 1;obtain ⟨g, cap', rfl⟩ : ∃ g cap', v' = .slice (some ⟨g, 0, none⟩) ((Lib.byteCells l).length + (Lib.runeCells r).length) cap' := by
  rcases hown'.2 with ⟨_, h0⟩ | ⟨g, cap, cur, fz, hv, _⟩
  ·have := hk4; omega
  ·exact ⟨g, cap, hv⟩
 go_wp2
 go_ret2
 refine ⟨⟨_, rfl⟩, ?_, ?_, ((hk1.alloc _).grown hgrow (Lib.ownsRowF_kind (hown.alloc _))).setCell ⟨b, 1, none⟩ rfl _⟩
 ·refine .inr (Lib.BuilderAtF.put (T := T) (e := 5) hB hb2 (bs' := Lib.byteCells (l ++ runeL r)) ?_ X.ne);rw [Lib.byteCells_append, show Lib.byteCells (runeL r) = Lib.runeCells r from Lib.byteCells_encodeRune r];simpa using hown'
 ·exact ((hb1.alloc (by have := hb1.size; omega) _).grown hgrow (by have := hb1.size; simp; omega) (fun k hk => (hown.lt k hk).1)).setCell (p := ⟨b, 1, none⟩) hB _
end
