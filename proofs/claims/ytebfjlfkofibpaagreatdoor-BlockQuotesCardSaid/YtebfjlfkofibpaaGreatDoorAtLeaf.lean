/- leaf. -/
import Derived.Test.YtebfjlfkofibpaaGreatDoorRsJoin
import Derived.Shelf.Strings.SlTrimAscii
import Derived.Lib.IndexMore
namespace Go.Proofs.YtebfjlfkofibpaaGreatDoor
set_option maxHeartbeats 4000000
set_option maxRecDepth 100000
section
open Go.RowKit
def oneB (x : ByteArray) (b : UInt8) : Bool := letter b || decide (0 ≤ Lib.indexByte x.data.toList b)
theorem one_any (b : UInt8) (x : ByteArray) (w : World) : Calls Tryz.prog 187 #[.int .u8 (b.toNat : Int), .string x] w (RB w (oneB x b)) := by
 cases hw : letter b with
 | true =>
  have hs : oneB x b = true := by unfold oneB; rw [hw]; rfl
  rw [hs];have HW := hdn hw;clear hs hw;go_enter Tryz.func187, Tryz.ntmps187;go_wp2_with fail;refine cMq (letter_any b _) ?_;rintro e w' ⟨rfl, rfl⟩;rw [HW.out];go_wp2;go_ret;exact ⟨rfl, rfl⟩
 | false =>
  obtain ⟨q, hq⟩ : ∃ q, Lib.indexByte x.data.toList b = q := ⟨_, rfl⟩;have hs : oneB x b = decide (0 ≤ q) := by unfold oneB; rw [hw, hq]; rfl
  rw [hs];have HW := hdn hw;have HQ := hdn hq;clear hs hw hq;go_enter Tryz.func187, Tryz.ntmps187;go_wp2_with fail;refine cMq (letter_any b _) ?_;rintro e w' ⟨rfl, rfl⟩;rw [HW.out];go_wp2_with fail;refine cMq (indexByte_any x b _) ?_;rintro e w' ⟨rfl, rfl⟩;rw [HQ.out];go_wp2;go_ret;exact ⟨rfl, rfl⟩
def run (p : UInt8 -> Bool) (l : List UInt8) (j : Nat) : Nat := j + ((l.drop j).takeWhile p).length
theorem run_yes {p : UInt8 -> Bool} {l : List UInt8} {j : Nat} (hj : j < l.length) (h : p l[j] = true) : run p l j = run p l (j + 1) := by
 unfold run;rw [List.drop_eq_getElem_cons hj, List.takeWhile_cons_of_pos h, List.length_cons];omega
theorem run_not {p : UInt8 -> Bool} {l : List UInt8} {j : Nat} (hj : j < l.length) (h : p l[j] = false) : run p l j = j := by
 unfold run;rw [List.drop_eq_getElem_cons hj, List.takeWhile_cons_of_neg (by rw [h]; simp)];rfl
theorem run_end {p : UInt8 -> Bool} {l : List UInt8} {j : Nat} (hj : l.length ≤ j) : run p l j = j := by
 unfold run;rw [List.drop_eq_nil_of_le hj];rfl
theorem run_le (p : UInt8 -> Bool) (l : List UInt8) (j : Nat) (hj : j ≤ l.length) : run p l j ≤ l.length := by
 unfold run;have := (List.takeWhile_sublist (l := l.drop j) p).length_le;rw [List.length_drop] at this;omega
theorem run_drop (p : UInt8 -> Bool) (l : List UInt8) (j : Nat) (hj : j ≤ l.length) : l.length - ((l.drop j).dropWhile p).length = run p l j := by
 unfold run;have h : ((l.drop j).takeWhile p).length + ((l.drop j).dropWhile p).length = (l.drop j).length := by rw [<- List.length_append, List.takeWhile_append_dropWhile]
 rw [List.length_drop] at h;omega
def RIb (w : World) (v : Int) (e : Ending) (w' : World) : Prop := e = .returned (.int .i64 v) ∧ Below w.heap.size w w'
def lgapN (l : List UInt8) (i : Nat) : Nat := run (fun b => ([32, 9, 10] : List UInt8).contains b) l i
theorem lgap_any (s : ByteArray) (i : Nat) (w : World) (hs : s.size ≤ 1099511627) (hi : i ≤ s.size) : Calls Tryz.prog 173 #[.string s, .int .i64 (i : Int)] w (RIb w (lgapN s.data.toList i : Nat)) := by
 have hsl : s.data.toList.length = s.size := lTq;have hii : (i : Int) ≤ (s.size : Int) := by omega
 obtain ⟨X, hX⟩ : ∃ X : ByteArray, s.extract i s.size = X := ⟨_, rfl⟩;have hXl : X.data.toList = s.data.toList.drop i := by
  rw [<- hX, Lib.extract_data, <- hsl];exact List.take_of_length_le (by rw [List.length_drop]; omega)
 have hT := Any.strings_TrimLeft_laid Tryz.lays161 (by kernel_rfl) X ⟨#[32, 9, 10]⟩ w (by decide) (by
  intro j b h;have h2 : b ∈ ([32, 9, 10] : List UInt8) := List.mem_of_getElem? h;have h3 : ∀ c ∈ ([32, 9, 10] : List UInt8), c.toNat < 128 := by decide
  exact h3 b h2)
 rw [hXl, show (⟨#[32, 9, 10]⟩ : ByteArray).data.toList = [32, 9, 10] from rfl] at hT;have hr := run_drop (fun b => ([32, 9, 10] : List UInt8).contains b) s.data.toList i (by omega);obtain ⟨Y, hY⟩ : ∃ Y : ByteArray, (⟨(Lib.trimLeftS (s.data.toList.drop i) [32, 9, 10]).toArray⟩ : ByteArray) = Y := ⟨_, rfl⟩;have hYs : Y.size = ((s.data.toList.drop i).dropWhile (fun b => ([32, 9, 10] : List UInt8).contains b)).length := by rw [<- hY]; rfl
 rw [<- hYs, hsl] at hr;have hle := run_le (fun b => ([32, 9, 10] : List UInt8).contains b) s.data.toList i (by omega);have hYle : Y.size ≤ s.size := by
  have := (List.dropWhile_sublist (l := s.data.toList.drop i) (fun b => ([32, 9, 10] : List UInt8).contains b)).length_le;rw [List.length_drop] at this;omega
 have hv : ((lgapN s.data.toList i : Nat) : Int) = (s.size : Int) - (Y.size : Int) := by unfold lgapN; omega
 rw [hY] at hT;rw [hv];have HT := hdn hT;have HX := hdn hX;clear hT hX hXl hr hY hYs hle hv hsl;go_enter Tryz.func173, Tryz.ntmps173;go_wp2_with fail;rw [HX.out];refine cMq HT.out ?_;rintro e w1 ⟨rfl, b1⟩;go_wp2;go_ret;exact ⟨rfl, b1⟩
def wordP (r : ByteArray) (b : UInt8) : Bool := oneB r b || digit b
def optI : Option Nat -> Int
 | none => -1
 | some n => n
def wordN (l : List UInt8) (f r : ByteArray) (i : Nat) : Option Nat := if h : i < l.length then (if oneB f l[i] = true then some (run (wordP r) l (i + 1)) else none) else none
def RunW (w : World) (p : UInt8 -> Bool) (l : List UInt8) (i : Nat) (v : Value) (wr : World) : Prop := ∃ k : Nat, v = .int .i64 k ∧ k ≤ l.length ∧ run p l i = run p l k ∧ wr = w
def RI (w : World) (v : Int) (e : Ending) (w' : World) : Prop := e = .returned (.int .i64 v) ∧ w = w'
theorem name_any (s : ByteArray) (i : Nat) (f r : ByteArray) (w : World) (hs : s.size ≤ 1099511627) (hi : i ≤ s.size) : Calls Tryz.prog 171 #[.string s, .int .i64 (i : Int), .string f, .string r] w (RI w (optI (wordN s.data.toList f r i))) := by
 have hsl : s.data.toList.length = s.size := lTq
 by_cases hlt : i < s.size
 ·have z1 : decide (s.size ≤ i) = false := by simp; omega
  have hki : (i : Int) < (s.size : Int) := by omega
  have hb : (i : Int) + 1 ≤ (s.size : Int) := by omega
  cases ho : oneB f s[i] with
  | false =>
   have hv : wordN s.data.toList f r i = none := by unfold wordN; rw [dif_pos (by rw [hsl]; exact hlt), if_neg (by rw [show s.data.toList[i]'(by rw [hsl]; exact hlt) = s[i] from rfl, ho]; simp)]
   rw [hv];have HO := hdn ho;clear hv ho hsl;go_enter Tryz.func171, Tryz.ntmps171;go_wp2_with fail;refine cMq (one_any s[i] f _) ?_;rintro e w' ⟨rfl, rfl⟩;rw [HO.out];go_wp2;go_ret;exact ⟨rfl, rfl⟩
  | true =>
   have hv : wordN s.data.toList f r i = some (run (wordP r) s.data.toList (i + 1)) := by unfold wordN; rw [dif_pos (by rw [hsl]; exact hlt), if_pos (by rw [show s.data.toList[i]'(by rw [hsl]; exact hlt) = s[i] from rfl, ho])]
   rw [hv];have HO := hdn ho;have HSL := hdn hsl;clear hv ho hsl;go_enter Tryz.func171, Tryz.ntmps171;go_wp2_with fail;refine cMq (one_any s[i] f _) ?_;rintro e w' ⟨rfl, rfl⟩;rw [HO.out];go_wp2_with fail
   go_loopw [1] (fun v wr => RunW w (wordP r) s.data.toList (i + 1) v wr) (fun v _ => s.size - (intOf v).toNat)
   case atStart => exact ⟨i + 1, by go_num, by rw [HSL.out]; exact hlt, rfl, rfl⟩
   case round =>
    obtain ⟨k, rfl, hk, hrr, rfl⟩ := hrel;rw [HSL.out] at hk;have HR := hdn hrr;clear hrr
    by_cases hlt2 : k < s.size
    ·have hki2 : (k : Int) < (s.size : Int) := by omega
     have hki3 : decide ((k : Int) < (s.size : Int)) = true := by simp; omega
     have hge : s.data.toList[k]'(by rw [HSL.out]; exact hlt2) = s[k] := rfl
     cases ho : oneB r s[k] with
     | true =>
      have hp : wordP r (s.data.toList[k]'(by rw [HSL.out]; exact hlt2)) = true := by unfold wordP; rw [hge, ho]; rfl
      have hr2 := run_yes (by rw [HSL.out]; exact hlt2) hp;have HR2 := hdn hr2;have HO2 := hdn ho;clear hge hp hr2 ho;go_wp2_with fail;refine cMq (one_any s[k] r _) ?_;rintro e w' ⟨rfl, rfl⟩;rw [HO2.out];go_wp2
      go_roundw
      case rel => exact ⟨k + 1, by go_num, by rw [HSL.out]; exact hlt2, by rw [HR.out, HR2.out], rfl⟩
      case measure => simp [intOf]; omega
     | false =>
      cases hd : digit s[k] with
      | true =>
       have hp : wordP r (s.data.toList[k]'(by rw [HSL.out]; exact hlt2)) = true := by unfold wordP; rw [hge, ho, hd]; rfl
       have hr2 := run_yes (by rw [HSL.out]; exact hlt2) hp;have HR2 := hdn hr2;have HO2 := hdn ho;have HD := hdn hd;clear hge hp hr2 ho hd;go_wp2_with fail;refine cMq (one_any s[k] r _) ?_;rintro e w' ⟨rfl, rfl⟩;rw [HO2.out];go_wp2_with fail;refine cMq (digit_any s[k] _) ?_;rintro e w' ⟨rfl, rfl⟩;rw [HD.out];go_wp2
       go_roundw
       case rel => exact ⟨k + 1, by go_num, by rw [HSL.out]; exact hlt2, by rw [HR.out, HR2.out], rfl⟩
       case measure => simp [intOf]; omega
      | false =>
       have hp : wordP r (s.data.toList[k]'(by rw [HSL.out]; exact hlt2)) = false := by unfold wordP; rw [hge, ho, hd]; rfl
       have hr2 := run_not (by rw [HSL.out]; exact hlt2) hp;have hv : optI (some (run (wordP r) s.data.toList (i + 1))) = (k : Int) := by rw [HR.out, hr2]; rfl
       have HV := hdn hv;have HO2 := hdn ho;have HD := hdn hd;clear hge hp hr2 ho hd hv;go_wp2_with fail;refine cMq (one_any s[k] r _) ?_;rintro e w' ⟨rfl, rfl⟩;rw [HO2.out];go_wp2_with fail;refine cMq (digit_any s[k] _) ?_;rintro e w' ⟨rfl, rfl⟩;rw [HD.out];go_wp2;go_ret;rw [HV.out];exact ⟨rfl, rfl⟩
    ·obtain rfl : k = s.size := by omega
     have he : run (wordP r) s.data.toList s.size = s.size := run_end (by rw [HSL.out]; exact Nat.le_refl _);have hv : optI (some (run (wordP r) s.data.toList (i + 1))) = (s.size : Int) := by rw [HR.out, he]; rfl
     have HV := hdn hv;clear he hv HR;go_wp2;go_ret;rw [HV.out];exact ⟨rfl, rfl⟩
 ·obtain rfl : i = s.size := by omega
  have z1 : decide ((s.size : Int) ≤ (s.size : Int)) = true := by simp
  have hv : wordN s.data.toList f r s.size = none := by unfold wordN; rw [dif_neg (by rw [hsl]; omega)]
  rw [hv];clear hv hsl;go_enter Tryz.func171, Tryz.ntmps171;go_wp2;go_ret;exact ⟨rfl, rfl⟩
end
section
open Go.RowKit
theorem enc_fin : ∀ x : Fin 128, Utf8.encode ((x.val : Nat) : Int) = ⟨#[UInt8.ofNat x.val]⟩ := by decide +kernel
theorem enc_byte (c : UInt8) (h : c.toNat < 128) : Utf8.encode ((c.toNat : Nat) : Int) = ⟨#[c]⟩ := by
 have := enc_fin ⟨c.toNat, h⟩;rw [show UInt8.ofNat c.toNat = c by simp] at this;exact this
def frontN (l : List UInt8) (c : UInt8) : Nat := (l.takeWhile (· == c)).length
theorem frontN_le (l : List UInt8) (c : UInt8) : frontN l c ≤ l.length := (List.takeWhile_sublist _).length_le
theorem frontN_trim (l : List UInt8) (c : UInt8) : (Lib.trimLeftB l c).length + frontN l c = l.length := by
 unfold frontN Lib.trimLeftB;have := congrArg List.length (List.takeWhile_append_dropWhile (p := (· == c)) (l := l));rw [List.length_append] at this;omega
theorem wrap_i32 (c : UInt8) (h : c.toNat < 128) : IntKind.i32.wrap ((c.toNat : Nat) : Int) = ((c.toNat : Nat) : Int) := by
 rw [IntKind.wrap_i32];omega
theorem front_any (s : ByteArray) (c : UInt8) (w : World) (hs : s.size ≤ 1099511627) (hc : c.toNat < 128) : Calls Tryz.prog 86 #[.string s, .int .u8 (c.toNat : Int)] w (RI w (frontN s.data.toList c : Nat)) := by
 have hsl : s.data.toList.length = s.size := lTq;have hf := frontN_trim s.data.toList c;have hT := Tryz.strings_TrimLeft_one s c hc w;obtain ⟨Y, hY⟩ : ∃ Y : ByteArray, (⟨(Lib.trimLeftB s.data.toList c).toArray⟩ : ByteArray) = Y := ⟨_, rfl⟩;have hYs : Y.size = (Lib.trimLeftB s.data.toList c).length := by rw [<- hY]; rfl
 have hv : ((frontN s.data.toList c : Nat) : Int) = (s.size : Int) - (Y.size : Int) := by omega
 have hYle : Y.size ≤ s.size := by omega
 rw [hY] at hT;rw [hv];have HT := hdn hT;have HE := hdn (enc_byte c hc);have hwr := wrap_i32 c hc;clear hT hY hYs hv hsl hf;go_enter Tryz.func86, Tryz.ntmps86;go_wp2_with fail;rw [HE.out];refine cMq HT.out ?_;rintro e w1 ⟨rfl, rfl⟩;go_wp2;go_ret;exact ⟨rfl, rfl⟩
def apartB : List UInt8 -> Bool
 | [] => true
 | b :: _ => b == 32 || b == 9
theorem apart_any (s : ByteArray) (w : World) : Calls Tryz.prog 129 #[.string s] w (RB w (apartB s.data.toList)) := by
 by_cases h0 : s.size = 0
 ·obtain rfl : s = ⟨#[]⟩ := by
   have : s.data = #[] := Array.eq_empty_of_size_eq_zero h0;rw [<- Lib.mk_data s, this]
  go_enter Tryz.func129, Tryz.ntmps129;go_wp2;go_ret;exact ⟨rfl, rfl⟩
 ·have hpos : 0 < s.size := by omega
  obtain ⟨b, r, hl⟩ : ∃ b r, s.data.toList = b :: r := by
   cases hl : s.data.toList with
   | nil => have := congrArg List.length hl; rw [lTq] at this; exact absurd this h0
   | cons b r => exact ⟨b, r, rfl⟩
  have hb : s[0] = b := by
   have h1 : s.data.toList[0]? = some b := by rw [hl]; rfl
   have h2 : s.data.toList[0]? = some s[0] := by rw [List.getElem?_eq_getElem (by rw [lTq]; exact hpos)]; rfl
   rw [h1] at h2;exact (Option.some.inj h2).symm
  have ht : ¬ s.toList = [] := by rw [Lib.toList_data, hl]; simp
  have ht2 : s.toList.isEmpty = false := by rw [Lib.toList_data, hl]; rfl
  have hI := indexByte_any ⟨#[32, 9]⟩ b w;have hv : decide (0 ≤ Lib.indexByte [32, 9] b) = (b == 32 || b == 9) := by
   unfold Lib.indexByte Lib.indexByte Lib.indexByte
   by_cases e1 : b = 32
   ·subst e1; rfl
   ·by_cases e2 : b = 9
    ·subst e2; rfl
    ·have f1 : ((32 : UInt8) == b) = false := by simpa using fun h => e1 h.symm
     have f2 : ((9 : UInt8) == b) = false := by simpa using fun h => e2 h.symm
     simp [e1, e2, f1, f2]
  obtain ⟨q, hq⟩ : ∃ q, Lib.indexByte (⟨#[32, 9]⟩ : ByteArray).data.toList b = q := ⟨_, rfl⟩;have hs : apartB s.data.toList = decide (0 ≤ q) := by rw [hl, <- hq]; exact hv.symm
  rw [hq] at hI;rw [hs];have HI := hdn hI;have HB := hdn hb;clear hI hb hs hq hv hl;go_enter Tryz.func129, Tryz.ntmps129;go_wp2_with fail;rw [HB.out];refine cMq HI.out ?_;rintro e w1 ⟨rfl, rfl⟩;go_wp2;go_ret;exact ⟨rfl, rfl⟩
def blankT (l : List UInt8) : List UInt8 := Lib.trimS l [32, 9]
def StrB (w : World) (l : List UInt8) (e : Ending) (w' : World) : Prop := e = .returned (.string ⟨l.toArray⟩) ∧ Below w.heap.size w w'
theorem trim_set (s : ByteArray) (w : World) (hs : s.size ≤ 1099511627) : Calls Tryz.prog 33 #[.string s, .string ⟨#[32, 9]⟩] w (StrB w (blankT s.data.toList)) :=
 Any.strings_Trim_laid Tryz.lays160 (by kernel_rfl) s ⟨#[32, 9]⟩ w (by omega) (by decide) (ascii_of_all (by decide))
theorem trimS_len (l cs : List UInt8) : (Lib.trimS l cs).length ≤ l.length := by
 unfold Lib.trimS Lib.trimLeftS Lib.trimRightS;have h1 := (List.dropWhile_sublist (l := l.reverse) (cs.contains ·)).length_le;have h2 := (List.dropWhile_sublist (l := (l.reverse.dropWhile (cs.contains ·)).reverse) (cs.contains ·)).length_le;rw [List.length_reverse] at h1 h2;omega
theorem colsTrim_any (s : ByteArray) (w : World) (hs : s.size ≤ 1099511627) : Calls Tryz.prog 113 #[.string s] w (StrB w (blankT s.data.toList)) := by
 have HT := hdn (trim_set s w hs);go_enter Tryz.func113, Tryz.ntmps113;go_wp2_with fail;refine cMq HT.out ?_;rintro e w1 ⟨rfl, b1⟩;go_wp2;go_ret;exact ⟨rfl, b1⟩
def RBw (w : World) (v : Bool) (e : Ending) (w' : World) : Prop := e = .returned (.bool v) ∧ Below w.heap.size w w'
theorem colsBlank_any (s : ByteArray) (w : World) (hs : s.size ≤ 1099511627) : Calls Tryz.prog 76 #[.string s] w (RBw w (blankT s.data.toList).isEmpty) := by
 have hT := colsTrim_any s w hs;obtain ⟨l, hl⟩ : ∃ l, blankT s.data.toList = l := ⟨_, rfl⟩;rw [hl] at hT ⊢;obtain ⟨Y, hY⟩ : ∃ Y : ByteArray, (⟨l.toArray⟩ : ByteArray) = Y := ⟨_, rfl⟩;have hYl : Y.toList = l := by rw [<- hY, Lib.toList_data]
 unfold StrB at hT;rw [hY] at hT;have HT := hdn hT;have HY := hdn hYl;clear hT hl hY
 cases he : l.isEmpty with
 | true =>
  have t1 : Y.toList = [] := by rw [HY.out]; simpa using he
  have t2 : Y.toList.isEmpty = true := by rw [HY.out]; exact he
  clear hYl he;go_enter Tryz.func76, Tryz.ntmps76;go_wp2_with fail;refine cMq HT.out ?_;rintro e w1 ⟨rfl, b1⟩;go_wp2;go_ret;exact ⟨rfl, b1⟩
 | false =>
  have t1 : ¬ Y.toList = [] := by rw [HY.out]; simpa using he
  have t2 : Y.toList.isEmpty = false := by rw [HY.out]; exact he
  clear hYl he;go_enter Tryz.func76, Tryz.ntmps76;go_wp2_with fail;refine cMq HT.out ?_;rintro e w1 ⟨rfl, b1⟩;go_wp2;go_ret;exact ⟨rfl, b1⟩
end
section
open Go.RowKit
theorem indexByte_spec (l : List UInt8) (c : UInt8) : (Lib.indexByte l c = -1 ∧ ∀ j : Nat, l[j]? ≠ some c) ∨ ∃ a : Nat, Lib.indexByte l c = (a : Int) ∧ l[a]? = some c ∧ ∀ j : Nat, j < a -> l[j]? ≠ some c := by
 induction l with
 | nil => exact .inl ⟨rfl, fun j => by simp⟩
 | cons b l ih =>
  unfold Lib.indexByte
  by_cases hb : b = c
  ·subst hb;refine .inr ⟨0, by simp, rfl, fun j hj => by omega⟩
  ·have hb' : (b == c) = false := by simpa using hb
   rw [hb'];rcases ih with ⟨h1, h2⟩ | ⟨a, h1, h2, h3⟩
   ·refine .inl ⟨by simp [h1], fun j => ?_⟩
    cases j with
    | zero => simpa using hb
    | succ j => simpa using h2 j
   ·refine .inr ⟨a + 1, ?_, by simpa using h2, fun j hj => ?_⟩
    ·have hne : ((Lib.indexByte l c) == (-1 : Int)) = false := by rw [h1, beq_eq_false_iff_ne]; omega
     rw [hne, h1];simp
    ·cases j with
     | zero => simpa using hb
     | succ j => simpa using h3 j (by omega)
structure CodeO where
 text : List UInt8
 stop : Nat
 is : Bool
end
section
open Go.RowKit
def valP (b : UInt8) : Bool := decide (32 < b.toNat) && decide (Lib.indexByte [34, 39, 61, 60, 62, 96] b < 0)
def quoteN (l : List UInt8) (b : UInt8) (i : Nat) : Option Nat := if Lib.indexByte (l.drop (i + 1)) b < 0 then none else some (i + (Lib.indexByte (l.drop (i + 1)) b).toNat + 2)
def bareN (l : List UInt8) (i : Nat) : Option Nat := if run valP l i = i then none else some (run valP l i)
def valN (l : List UInt8) (i : Nat) : Option Nat := if h : i < l.length then (if l[i] = 34 ∨ l[i] = 39 then quoteN l l[i] i else bareN l i) else none
theorem val_q34 (s : ByteArray) (i : Nat) (w : World) (hs : s.size ≤ 1099511627) (hi : i < s.size) (h : s[i] = 34) : Calls Tryz.prog 188 #[.string s, .int .i64 (i : Int)] w (RI w (optI (quoteN s.data.toList 34 i))) := by
 have z1 : decide (s.size ≤ i) = false := by simp; omega
 have hki : (i : Int) < (s.size : Int) := by omega
 have hki1 : (i : Int) + 1 ≤ (s.size : Int) := by omega
 obtain ⟨X, hX⟩ : ∃ X, s.extract (i + 1) s.size = X := ⟨_, rfl⟩;have hex := ext_drop s (i + 1);rw [hX] at hex;have hXl : X.data.toList.length = X.size := lTq;have hXs : X.size ≤ s.size := by rw [<- hX, ByteArray.size_extract]; omega
 have zc : (s[i].toNat : Int) = 34 := by rw [h]; rfl
 rcases indexByte_spec X.data.toList 34 with ⟨hq, _⟩ | ⟨a, hq, h2, _⟩
 ·have hv : quoteN s.data.toList 34 i = none := by unfold quoteN; rw [<- hex, hq]; rfl
  rw [hv];have HQ := hdn hq;have HX := hdn hX;clear hq hv hX hex hXl h;go_enter Tryz.func188, Tryz.ntmps188;go_wp2_with fail;rw [HX.out];refine cMq (indexByte_any X 34 _) ?_;rintro e w' ⟨rfl, rfl⟩;rw [HQ.out];go_wp2;go_ret;exact ⟨rfl, rfl⟩
 ·have ha : a < X.size := by rw [<- hXl]; exact (List.getElem?_eq_some_iff.1 h2).1
  have hv : quoteN s.data.toList 34 i = some (i + a + 2) := by unfold quoteN; rw [<- hex, hq, if_neg (by omega)]; rfl
  have hb1 : (i : Int) + (a : Int) ≤ 2199023254 := by omega
  have hv2 : optI (some (i + a + 2)) = (i : Int) + (a : Int) + 2 := by show ((i + a + 2 : Nat) : Int) = _; omega
  rw [hv];have HV := hdn hv2;have HQ := hdn hq;have HX := hdn hX;clear hq hv hX hex hXl h h2 hv2;go_enter Tryz.func188, Tryz.ntmps188;go_wp2_with fail;rw [HX.out];refine cMq (indexByte_any X 34 _) ?_;rintro e w' ⟨rfl, rfl⟩;rw [HQ.out];go_wp2;go_ret;rw [HV.out];exact ⟨rfl, rfl⟩
theorem val_q39 (s : ByteArray) (i : Nat) (w : World) (hs : s.size ≤ 1099511627) (hi : i < s.size) (h : s[i] = 39) : Calls Tryz.prog 188 #[.string s, .int .i64 (i : Int)] w (RI w (optI (quoteN s.data.toList 39 i))) := by
 have z1 : decide (s.size ≤ i) = false := by simp; omega
 have hki : (i : Int) < (s.size : Int) := by omega
 have hki1 : (i : Int) + 1 ≤ (s.size : Int) := by omega
 obtain ⟨X, hX⟩ : ∃ X, s.extract (i + 1) s.size = X := ⟨_, rfl⟩;have hex := ext_drop s (i + 1);rw [hX] at hex;have hXl : X.data.toList.length = X.size := lTq;have hXs : X.size ≤ s.size := by rw [<- hX, ByteArray.size_extract]; omega
 have zc : (s[i].toNat : Int) = 39 := by rw [h]; rfl
 rcases indexByte_spec X.data.toList 39 with ⟨hq, _⟩ | ⟨a, hq, h2, _⟩
 ·have hv : quoteN s.data.toList 39 i = none := by unfold quoteN; rw [<- hex, hq]; rfl
  rw [hv];have HQ := hdn hq;have HX := hdn hX;clear hq hv hX hex hXl h;go_enter Tryz.func188, Tryz.ntmps188;go_wp2_with fail;rw [HX.out];refine cMq (indexByte_any X 39 _) ?_;rintro e w' ⟨rfl, rfl⟩;rw [HQ.out];go_wp2;go_ret;exact ⟨rfl, rfl⟩
 ·have ha : a < X.size := by rw [<- hXl]; exact (List.getElem?_eq_some_iff.1 h2).1
  have hv : quoteN s.data.toList 39 i = some (i + a + 2) := by unfold quoteN; rw [<- hex, hq, if_neg (by omega)]; rfl
  have hb1 : (i : Int) + (a : Int) ≤ 2199023254 := by omega
  have hv2 : optI (some (i + a + 2)) = (i : Int) + (a : Int) + 2 := by show ((i + a + 2 : Nat) : Int) = _; omega
  rw [hv];have HV := hdn hv2;have HQ := hdn hq;have HX := hdn hX;clear hq hv hX hex hXl h h2 hv2;go_enter Tryz.func188, Tryz.ntmps188;go_wp2_with fail;rw [HX.out];refine cMq (indexByte_any X 39 _) ?_;rintro e w' ⟨rfl, rfl⟩;rw [HQ.out];go_wp2;go_ret;rw [HV.out];exact ⟨rfl, rfl⟩
theorem val_bare (s : ByteArray) (i : Nat) (w : World) (hs : s.size ≤ 1099511627) (hi : i < s.size) (h1 : s[i] ≠ 34) (h2 : s[i] ≠ 39) : Calls Tryz.prog 188 #[.string s, .int .i64 (i : Int)] w (RI w (optI (bareN s.data.toList i))) := by
 have hsl : s.data.toList.length = s.size := lTq;have z1 : decide (s.size ≤ i) = false := by simp; omega
 have hki : (i : Int) < (s.size : Int) := by omega
 have y1 : ((s[i].toNat : Int) == 34) = false := by simp; intro e; exact h1 (UInt8.toNat_inj.1 (by show s[i].toNat = 34; omega))
 have y2 : ((s[i].toNat : Int) == 39) = false := by simp; intro e; exact h2 (UInt8.toNat_inj.1 (by show s[i].toNat = 39; omega))
 have HSL := hdn hsl;clear h1 h2 hsl;go_enter Tryz.func188, Tryz.ntmps188;go_wp2_with fail
 go_loopw [7] (fun v wr => RunW w valP s.data.toList i v wr) (fun v _ => s.size - (intOf v).toNat)
 case atStart => exact ⟨i, rfl, by rw [HSL.out]; omega, rfl, rfl⟩
 case round =>
  obtain ⟨k, rfl, hk, hrr, rfl⟩ := hrel;rw [HSL.out] at hk;have HR := hdn hrr;clear hrr
  by_cases hlt2 : k < s.size
  ·have hki2 : (k : Int) < (s.size : Int) := by omega
   have hge : s.data.toList[k]'(by rw [HSL.out]; exact hlt2) = s[k] := rfl
   by_cases h32 : 32 < s[k].toNat
   ·have z32 : decide ((32 : Int) < (s[k].toNat : Int)) = true := by simp; omega
    obtain ⟨q, hq⟩ : ∃ q, Lib.indexByte [34, 39, 61, 60, 62, 96] s[k] = q := ⟨_, rfl⟩;have HQ := hdn hq
    by_cases hq0 : q < 0
    ·have zq : decide (q < 0) = true := by simpa using hq0
     have hp : valP (s.data.toList[k]'(by rw [HSL.out]; exact hlt2)) = true := by unfold valP; rw [hge, hq, zq, decide_eq_true h32]; rfl
     have HR2 := hdn (run_yes (by rw [HSL.out]; exact hlt2) hp);clear hge hp hq hq0 h32;go_wp2_with fail;refine cMq (indexByte_any ⟨#[34, 39, 61, 60, 62, 96]⟩ s[k] _) ?_;rintro e w' ⟨rfl, rfl⟩;rw [show (⟨#[34, 39, 61, 60, 62, 96]⟩ : ByteArray).data.toList = [34, 39, 61, 60, 62, 96] from rfl, HQ.out];go_wp2
     go_roundw
     case rel => exact ⟨k + 1, by go_num, by rw [HSL.out]; exact hlt2, by rw [HR.out, HR2.out], rfl⟩
     case measure => simp [intOf]; omega
    ·have zq : decide (q < 0) = false := by simpa using hq0
     have hp : valP (s.data.toList[k]'(by rw [HSL.out]; exact hlt2)) = false := by unfold valP; rw [hge, hq, zq, Bool.and_false]
     have hst := run_not (by rw [HSL.out]; exact hlt2) hp;have hv : optI (bareN s.data.toList i) = if k = i then -1 else (k : Int) := by
      unfold bareN;rw [HR.out, hst]
      by_cases hij : k = i
      ·rw [if_pos hij, if_pos hij]; rfl
      ·rw [if_neg hij, if_neg hij]; rfl
     have HV := hdn hv;clear hge hp hq hq0 h32 hst hv HR
     by_cases hij : k = i
     ·subst hij;go_wp2_with fail;refine cMq (indexByte_any ⟨#[34, 39, 61, 60, 62, 96]⟩ s[k] _) ?_;rintro e w' ⟨rfl, rfl⟩;rw [show (⟨#[34, 39, 61, 60, 62, 96]⟩ : ByteArray).data.toList = [34, 39, 61, 60, 62, 96] from rfl, HQ.out];go_wp2;go_ret;rw [HV.out, if_pos trivial];exact ⟨rfl, rfl⟩
     ·have zki : ((k : Int) == (i : Int)) = false := by simp; omega
      go_wp2_with fail;refine cMq (indexByte_any ⟨#[34, 39, 61, 60, 62, 96]⟩ s[k] _) ?_;rintro e w' ⟨rfl, rfl⟩;rw [show (⟨#[34, 39, 61, 60, 62, 96]⟩ : ByteArray).data.toList = [34, 39, 61, 60, 62, 96] from rfl, HQ.out];go_wp2;go_ret;rw [HV.out, if_neg hij];exact ⟨rfl, rfl⟩
   ·have z32 : decide ((32 : Int) < (s[k].toNat : Int)) = false := by simp; omega
    have hp : valP (s.data.toList[k]'(by rw [HSL.out]; exact hlt2)) = false := by unfold valP; rw [decide_eq_false (by rw [hge]; exact h32)]; rfl
    have hst := run_not (by rw [HSL.out]; exact hlt2) hp;have hv : optI (bareN s.data.toList i) = if k = i then -1 else (k : Int) := by
     unfold bareN;rw [HR.out, hst]
     by_cases hij : k = i
     ·rw [if_pos hij, if_pos hij]; rfl
     ·rw [if_neg hij, if_neg hij]; rfl
    have HV := hdn hv;clear hge hp h32 hst hv HR
    by_cases hij : k = i
    ·subst hij;go_wp2;go_ret;rw [HV.out, if_pos trivial];exact ⟨rfl, rfl⟩
    ·have zki : ((k : Int) == (i : Int)) = false := by simp; omega
     go_wp2;go_ret;rw [HV.out, if_neg hij];exact ⟨rfl, rfl⟩
  ·obtain rfl : k = s.size := by omega
   have hst : run valP s.data.toList s.size = s.size := run_end (by rw [HSL.out]; exact Nat.le_refl _);have hv : optI (bareN s.data.toList i) = (s.size : Int) := by
    unfold bareN;rw [HR.out, hst, if_neg (by omega)];rfl
   have HV := hdn hv;have zsi : ((s.size : Int) == (i : Int)) = false := by simp; omega
   clear hv hst HR;go_wp2;go_ret;rw [HV.out];exact ⟨rfl, rfl⟩
theorem value_any (s : ByteArray) (i : Nat) (w : World) (hs : s.size ≤ 1099511627) (hi : i ≤ s.size) : Calls Tryz.prog 188 #[.string s, .int .i64 (i : Int)] w (RI w (optI (valN s.data.toList i))) := by
 have hsl : s.data.toList.length = s.size := lTq
 by_cases hlt : i < s.size
 ·have hv : valN s.data.toList i = if s[i] = 34 ∨ s[i] = 39 then quoteN s.data.toList s[i] i else bareN s.data.toList i := by unfold valN; rw [dif_pos (by rw [hsl]; exact hlt)]; rfl
  rw [hv]
  by_cases h1 : s[i] = 34
  ·rw [if_pos (.inl h1), h1];exact val_q34 s i w hs hlt h1
  ·by_cases h2 : s[i] = 39
   ·rw [if_pos (.inr h2), h2];exact val_q39 s i w hs hlt h2
   ·rw [if_neg (by rintro (h | h); exact h1 h; exact h2 h)];exact val_bare s i w hs hlt h1 h2
 ·obtain rfl : i = s.size := by omega
  have hv : valN s.data.toList s.size = none := by unfold valN; rw [dif_neg (by rw [hsl]; omega)]
  rw [hv];clear hv hsl;go_enter Tryz.func188, Tryz.ntmps188;go_wp2;go_ret;exact ⟨rfl, rfl⟩
end
section
open Go.RowKit
def attr2 (l : List UInt8) (j : Nat) : Option Nat := if Lib.hasPrefix (l.drop (lgapN l j)) [61] = true then valN l (lgapN l (lgapN l j + 1)) else some j
def attrN (l : List UInt8) (i : Nat) : Option Nat := if lgapN l i = i then none else (wordN l ⟨#[95, 58]⟩ ⟨#[95, 46, 58, 45]⟩ (lgapN l i)).bind (attr2 l)
theorem gapN_le (l : List UInt8) (i : Nat) (h : i ≤ l.length) : lgapN l i ≤ l.length := run_le _ l i h
theorem wordN_le (l : List UInt8) (f r : ByteArray) (i j : Nat) (h : wordN l f r i = some j) : j ≤ l.length := by
 unfold wordN at h;split at h
 ·split at h
  ·cases h
   exact run_le _ l _ (by omega)
  ·cases h
 ·cases h
theorem prefix_lt {l : List UInt8} {k : Nat} (h : Lib.hasPrefix (l.drop k) [61] = true) : k < l.length := by
 rcases Nat.lt_or_ge k l.length with h2 | h2
 ·exact h2
 ·rw [List.drop_eq_nil_of_le h2] at h
  cases h
theorem attr_any (s : ByteArray) (i : Nat) (w : World) (hs : s.size ≤ 1099511627) (hi : i ≤ s.size) : Calls Tryz.prog 174 #[.string s, .int .i64 (i : Int)] w (RIb w (optI (attrN s.data.toList i))) := by
 have hsl : s.data.toList.length = s.size := lTq;have hG1 := lgap_any s i w hs hi;have hgl := gapN_le s.data.toList i (by omega);unfold attrN;obtain ⟨j, hj⟩ : ∃ j, lgapN s.data.toList i = j := ⟨_, rfl⟩;rw [hj] at hG1 hgl ⊢;rw [hsl] at hgl;have HG1 := hdn hG1;clear hG1 hj
 by_cases hij : j = i
 ·subst hij;rw [if_pos rfl];have hr : optI none = -1 := rfl;rw [hr];clear hr;go_enter Tryz.func174, Tryz.ntmps174;go_wp2_with fail;refine cMq HG1.out ?_;rintro e w1 ⟨rfl, b1⟩;go_wp2;go_ret;exact ⟨rfl, b1⟩
 ·have zij : ((j : Int) == (i : Int)) = false := by simp; omega
  rw [if_neg hij];have hN := fun w' => name_any s j ⟨#[95, 58]⟩ ⟨#[95, 46, 58, 45]⟩ w' hs hgl
  cases hw : wordN s.data.toList ⟨#[95, 58]⟩ ⟨#[95, 46, 58, 45]⟩ j with
  | none =>
   rw [hw] at hN;have HN := hdn hN;have hr : optI ((none : Option Nat).bind (attr2 s.data.toList)) = -1 := rfl;rw [hr];clear hN hw hr hij;go_enter Tryz.func174, Tryz.ntmps174;go_wp2_with fail;refine cMq HG1.out ?_;rintro e w1 ⟨rfl, b1⟩;go_wp2_with fail;refine cMq (HN.out _) ?_;rintro e w2 ⟨rfl, rfl⟩;rw [show optI none = -1 from rfl];go_wp2;go_ret;exact ⟨rfl, b1⟩
  | some j2 =>
   rw [hw] at hN;have hj2 := wordN_le _ _ _ _ _ hw;have hG2 := fun w' => lgap_any s j2 w' hs (by omega);have hgl2 := gapN_le s.data.toList j2 hj2;have hr : (some j2).bind (attr2 s.data.toList) = attr2 s.data.toList j2 := rfl;rw [hr];unfold attr2;obtain ⟨k, hk⟩ : ∃ k, lgapN s.data.toList j2 = k := ⟨_, rfl⟩;rw [hk] at hG2 hgl2 ⊢;rw [hsl] at hgl2 hj2;have hki : (k : Int) ≤ (s.size : Int) := by omega
   obtain ⟨X, hX⟩ : ∃ X, s.extract k s.size = X := ⟨_, rfl⟩;have hex := ext_drop s k;rw [hX] at hex;rw [<- hex];have HX := hdn hX;have HN := hdn hN;have HG2 := hdn hG2
   cases hp : Lib.hasPrefix X.data.toList [61] with
   | false =>
    rw [if_neg (by simp)];have HP := hdn hp;have hop : optI (some j2) = (j2 : Int) := rfl;rw [hop] at hN ⊢;have HN2 := hdn hN;clear hN hw hr hij hp hX hex hG2 hk hop HN;go_enter Tryz.func174, Tryz.ntmps174;go_wp2_with fail;refine cMq HG1.out ?_;rintro e w1 ⟨rfl, b1⟩;go_wp2_with fail;refine cMq (HN2.out _) ?_;rintro e w2 ⟨rfl, rfl⟩;go_wp2_with fail;refine cMq (HG2.out _) ?_;rintro e w3 ⟨rfl, b3⟩;go_wp2_with fail;rw [HX.out];refine cMq (Tryz.strings_HasPrefix X ⟨#[61]⟩ _) ?_;rintro e w4 ⟨rfl, rfl⟩
    rw [show (⟨#[61]⟩ : ByteArray).data.toList = [61] from rfl, HP.out];go_wp2;go_ret;exact ⟨rfl, b1.trans (b3.mono b1.size)⟩
   | true =>
    rw [if_pos rfl];have HP := hdn hp;have hop : optI (some j2) = (j2 : Int) := rfl;rw [hop] at hN;have HN2 := hdn hN;have hlt : k < s.size := by rw [hex] at hp; have := prefix_lt hp; omega
    have hG3 := fun w' => lgap_any s (k + 1) w' hs hlt;have hgl3 := gapN_le s.data.toList (k + 1) (by omega);obtain ⟨m, hm⟩ : ∃ m, lgapN s.data.toList (k + 1) = m := ⟨_, rfl⟩;rw [hm] at hG3 hgl3 ⊢;rw [hsl] at hgl3;have hV := fun w' => value_any s m w' hs hgl3;have HG3 := hdn hG3;have HV := hdn hV;clear hN hw hr hij hp hX hex hG2 hk hop HN hG3 hm hV;go_enter Tryz.func174, Tryz.ntmps174;go_wp2_with fail;refine cMq HG1.out ?_;rintro e w1 ⟨rfl, b1⟩;go_wp2_with fail;refine cMq (HN2.out _) ?_;rintro e w2 ⟨rfl, rfl⟩;go_wp2_with fail
    refine cMq (HG2.out _) ?_;rintro e w3 ⟨rfl, b3⟩;go_wp2_with fail;rw [HX.out];refine cMq (Tryz.strings_HasPrefix X ⟨#[61]⟩ _) ?_;rintro e w4 ⟨rfl, rfl⟩;rw [show (⟨#[61]⟩ : ByteArray).data.toList = [61] from rfl, HP.out];go_wp2_with fail;refine cMq (HG3.out _) ?_;rintro e w5 ⟨rfl, b5⟩;go_wp2_with fail;refine cMq (HV.out _) ?_;rintro e w6 ⟨rfl, rfl⟩;go_wp2;go_ret;exact ⟨rfl, (b1.trans (b3.mono b1.size)).trans (b5.mono (b1.trans (b3.mono b1.size)).size)⟩
end
section
open Go.RowKit
def closedN (l : List UInt8) (i : Nat) : List ByteArray -> Nat
 | [] => 0
 | x :: xs => if Lib.hasPrefix (l.drop i) x.data.toList = true then i + x.size else closedN l i xs
def ClosedW (w : World) (l : List UInt8) (i : Nat) (xs : List ByteArray) (v : Value) (wr : World) : Prop := ∃ k : Nat, v = .int .i64 k ∧ k ≤ xs.length ∧ closedN l i xs = closedN l i (xs.drop k) ∧ wr = w
theorem closed_any (s : ByteArray) (i : Nat) (g : Nat) (xs : List ByteArray) (w : World) (hs : s.size ≤ 1099511627) (hi : i ≤ s.size) (hb : Box w g 9 (xs.map Value.string).toArray) (hx : ∀ x ∈ xs, x.size ≤ 100) (hn : xs.length ≤ 100) :
  Calls Tryz.prog 172 #[.string s, .int .i64 (i : Int), .slice (some ⟨g, 0, none⟩) xs.length xs.length] w (RI w (closedN s.data.toList i xs : Nat)) := by
 have hki : (i : Int) ≤ (s.size : Int) := by omega
 obtain ⟨X, hX⟩ : ∃ X, s.extract i s.size = X := ⟨_, rfl⟩;have hex := ext_drop s i;rw [hX] at hex;have HEX := hdn hex;have HX := hdn hX;have HB := hdn hb;have HXS := hdn hx;clear hX hex hb hx;go_enter Tryz.func172, Tryz.ntmps172;go_wp2_with fail
 go_loopw [11] (fun v wr => ClosedW w s.data.toList i xs v wr) (fun v _ => xs.length - (intOf v).toNat)
 case atStart => exact ⟨0, rfl, Nat.zero_le _, rfl, rfl⟩
 case round =>
  obtain ⟨k, rfl, hk, hrr, rfl⟩ := hrel;have HR := hdn hrr;clear hrr
  by_cases hlt : k < xs.length
  ·have hkn : (k : Int) < (xs.length : Int) := by omega
   have x1 := box_lie HB.out k (.string xs[k]) (by simp);have x2 := HB.out.cell k;rw [show (xs.map Value.string).toArray[k]? = some (.string xs[k]) by simp] at x2;have hd : xs.drop k = xs[k] :: xs.drop (k + 1) := List.drop_eq_getElem_cons hlt;have hsz := HXS.out _ (List.getElem_mem hlt);obtain ⟨p, hp⟩ : ∃ p, xs[k] = p := ⟨_, rfl⟩;rw [hp] at x1 x2 hd hsz;clear hp
   cases ho : Lib.hasPrefix X.data.toList p.data.toList with
   | true =>
    have hv : ((closedN s.data.toList i xs : Nat) : Int) = (i : Int) + (p.size : Int) := by
     rw [HR.out, hd];unfold closedN;rw [if_pos (by rw [<- HEX.out]; exact ho)];omega
    have HV := hdn hv;have HO := hdn ho;clear hv ho hd;go_wp2_with fail;rw [HX.out];refine cMq (Tryz.strings_HasPrefix X p _) ?_;rintro e w4 ⟨rfl, rfl⟩;rw [HO.out];go_wp2;go_ret;rw [HV.out];exact ⟨rfl, rfl⟩
   | false =>
    have hv : closedN s.data.toList i (xs.drop k) = closedN s.data.toList i (xs.drop (k + 1)) := by
     rw [hd];show (if _ then _ else _) = _;rw [if_neg (by rw [<- HEX.out, ho]; simp)]
    have HV := hdn hv;have HO := hdn ho;clear hv ho hd;go_wp2_with fail;rw [HX.out];refine cMq (Tryz.strings_HasPrefix X p _) ?_;rintro e w4 ⟨rfl, rfl⟩;rw [HO.out];go_wp2
    go_roundw
    case rel => exact ⟨k + 1, by go_num, hlt, by rw [HR.out, HV.out], rfl⟩
    case measure => simp [intOf]; omega
  ·obtain rfl : k = xs.length := by omega
   have hv : closedN s.data.toList i xs = 0 := by rw [HR.out, List.drop_length]; rfl
   have HV := hdn hv;clear hv HR;go_wp2;go_ret;rw [HV.out];exact ⟨rfl, rfl⟩
end
section
open Go.RowKit
theorem run_ge (p : UInt8 -> Bool) (l : List UInt8) (j : Nat) : j ≤ run p l j := by unfold run; omega
theorem wordN_lt (l : List UInt8) (f r : ByteArray) (i j : Nat) (h : wordN l f r i = some j) : i < j := by
 unfold wordN at h;split at h
 ·split at h
  ·cases h
   exact run_ge _ l (i + 1)
  ·cases h
 ·cases h
theorem valN_in (l : List UInt8) (i j : Nat) (h : valN l i = some j) : i ≤ j ∧ j ≤ l.length := by
 unfold valN at h;split at h
 ·split at h
  ·unfold quoteN at h;rcases indexByte_spec (l.drop (i + 1)) l[i] with ⟨h1, _⟩ | ⟨a, h1, h2, _⟩
   ·rw [h1, if_pos (by decide)] at h
    cases h
   ·rw [h1, if_neg (by omega)] at h;have h3 := (List.getElem?_eq_some_iff.1 h2).1;rw [List.length_drop] at h3;have h4 : i + (a : Int).toNat + 2 = j := Option.some.inj h;omega
  ·unfold bareN at h;split at h
   ·cases h
   ·cases h
    exact ⟨run_ge _ l i, run_le _ l i (by omega)⟩
 ·cases h
theorem attrN_lt (l : List UInt8) (i k : Nat) (_ : i ≤ l.length) (h : attrN l i = some k) : i < k ∧ k ≤ l.length := by
 unfold attrN at h;split at h
 ·cases h
 ·have hge : i ≤ lgapN l i := run_ge _ l i
  cases hw : wordN l ⟨#[95, 58]⟩ ⟨#[95, 46, 58, 45]⟩ (lgapN l i) with
  | none => rw [hw] at h; cases h
  | some j2 =>
   rw [hw] at h;have h2 : attr2 l j2 = some k := h;have hl := wordN_lt _ _ _ _ _ hw;have hle := wordN_le _ _ _ _ _ hw;unfold attr2 at h2;split at h2
   ·have hv := valN_in _ _ _ h2;have g1 : j2 ≤ lgapN l j2 := run_ge _ l j2;have g2 : lgapN l j2 + 1 ≤ lgapN l (lgapN l j2 + 1) := run_ge _ l _;exact ⟨by omega, hv.2⟩
   ·cases h2
    exact ⟨by omega, hle⟩
def attrsF (l : List UInt8) : Nat -> Nat -> Nat
 | 0, i => i
 | n + 1, i => match attrN l i with
  | none => i
  | some k => attrsF l n k
def attrsN (l : List UInt8) (i : Nat) : Nat := attrsF l (l.length + 1) i
theorem attrsF_le (l : List UInt8) : ∀ (n i : Nat), i ≤ l.length -> attrsF l n i ≤ l.length
 | 0, _, h => h
 | n + 1, i, h => by
  unfold attrsF;split
  ·exact h
  ·rename_i k hk;exact attrsF_le l n k (attrN_lt l i k h hk).2
def tagEnd (l : List UInt8) (shut : Bool) (j : Nat) : Nat := if shut = true then closedN l (lgapN l j) [⟨#[62]⟩] else closedN l (lgapN l (attrsN l j)) [⟨#[47, 62]⟩, ⟨#[62]⟩]
def tagN (l : List UInt8) : Nat :=
 if Lib.hasPrefix l [60] = true then
  match wordN l ⟨#[]⟩ ⟨#[45]⟩ (if Lib.hasPrefix l [60, 47] = true then 2 else 1) with
  | none => 0
  | some j => tagEnd l (Lib.hasPrefix l [60, 47]) j
 else 0
def TagW (w : World) (l : List UInt8) (E : Nat) (v4 v5 : Value) (wr : World) : Prop := ∃ (i n : Nat), v4 = .int .i64 (i : Int) ∧ v5 = .int .i64 (optI (attrN l i)) ∧ i ≤ l.length ∧ l.length - i < n ∧ attrsF l n i = E ∧ Below w.heap.size w wr
theorem attrsF_none {l : List UInt8} {n i : Nat} (h : attrN l i = none) : attrsF l n i = i := by
 cases n with
 | zero => rfl
 | succ n => unfold attrsF; rw [h]
theorem attrsF_some {l : List UInt8} {n i k : Nat} (h : attrN l i = some k) : attrsF l (n + 1) i = attrsF l n k := by
 rw [attrsF, h]
theorem tag_none (s : ByteArray) (w : World) (h : Lib.hasPrefix s.data.toList [60] = false) : Calls Tryz.prog 136 #[.string s] w (RIb w (tagN s.data.toList : Nat)) := by
 have hv : tagN s.data.toList = 0 := by unfold tagN; rw [h]; rfl
 rw [hv];have H := hdn h;clear h hv;go_enter Tryz.func136, Tryz.ntmps136;go_wp2_with fail;refine cMq (Tryz.strings_HasPrefix s ⟨#[60]⟩ _) ?_;rintro e w4 ⟨rfl, rfl⟩;rw [show (⟨#[60]⟩ : ByteArray).data.toList = [60] from rfl, H.out];go_wp2;go_ret;exact ⟨rfl, Below.refl _ _⟩
theorem tag_shut (s : ByteArray) (w : World) (hs : s.size ≤ 1099511627) (h : Lib.hasPrefix s.data.toList [60] = true) (h2 : Lib.hasPrefix s.data.toList [60, 47] = true) : Calls Tryz.prog 136 #[.string s] w (RIb w (tagN s.data.toList : Nat)) := by
 have hsl : s.data.toList.length = s.size := lTq;have h2l : 2 ≤ s.size := by
  rw [<- hsl]
  cases hl : s.data.toList with
  | nil => rw [hl] at h; cases h
  | cons a r =>
   cases r with
   | nil => rw [hl] at h2; revert h2; unfold Lib.hasPrefix; simp
   | cons b r => simp
 have hv : tagN s.data.toList = match wordN s.data.toList ⟨#[]⟩ ⟨#[45]⟩ 2 with | none => 0 | some j => closedN s.data.toList (lgapN s.data.toList j) [⟨#[62]⟩] := by unfold tagN tagEnd; rw [h, h2]; rfl
 rw [hv];have hN := fun w' => name_any s 2 ⟨#[]⟩ ⟨#[45]⟩ w' hs h2l;have H := hdn h;have H2 := hdn h2
 cases hw : wordN s.data.toList ⟨#[]⟩ ⟨#[45]⟩ 2 with
 | none =>
  rw [hw] at hN;have HN := hdn hN;clear hN hw hv h h2;go_enter Tryz.func136, Tryz.ntmps136;go_wp2_with fail;refine cMq (Tryz.strings_HasPrefix s ⟨#[60]⟩ _) ?_;rintro e w4 ⟨rfl, rfl⟩;rw [show (⟨#[60]⟩ : ByteArray).data.toList = [60] from rfl, H.out];go_wp2_with fail;refine cMq (Tryz.strings_HasPrefix s ⟨#[60, 47]⟩ _) ?_;rintro e w4 ⟨rfl, rfl⟩;rw [show (⟨#[60, 47]⟩ : ByteArray).data.toList = [60, 47] from rfl, H2.out];go_wp2_with fail;refine cMq (HN.out _) ?_;rintro e w2 ⟨rfl, rfl⟩;rw [show optI none = -1 from rfl];go_wp2;go_ret
  exact ⟨rfl, Below.refl _ _⟩
 | some j =>
  rw [hw] at hN;have hj := wordN_le _ _ _ _ _ hw;have hgl := gapN_le _ _ hj;rw [hsl] at hj hgl;have hop : optI (some j) = (j : Int) := rfl;rw [hop] at hN;have HG := hdn fun w' => lgap_any s j w' hs hj;obtain ⟨k, hk⟩ : ∃ k, lgapN s.data.toList j = k := ⟨_, rfl⟩;rw [hk] at HG hgl;have HC := hdn fun g w' (hb : Box w' g 9 ([⟨#[62]⟩].map Value.string).toArray) => closed_any s k g [⟨#[62]⟩] w' hs hgl hb (by decide) (by decide);have HN := hdn hN;show Calls _ _ _ _ (RIb w (closedN s.data.toList (lgapN s.data.toList j) [⟨#[62]⟩] : Nat));rw [hk];clear hN hw hv h h2 hop hk
  go_enter Tryz.func136, Tryz.ntmps136;go_wp2_with fail;refine cMq (Tryz.strings_HasPrefix s ⟨#[60]⟩ _) ?_;rintro e w4 ⟨rfl, rfl⟩;rw [show (⟨#[60]⟩ : ByteArray).data.toList = [60] from rfl, H.out];go_wp2_with fail;refine cMq (Tryz.strings_HasPrefix s ⟨#[60, 47]⟩ _) ?_;rintro e w4 ⟨rfl, rfl⟩;rw [show (⟨#[60, 47]⟩ : ByteArray).data.toList = [60, 47] from rfl, H2.out];go_wp2_with fail;refine cMq (HN.out _) ?_;rintro e w2 ⟨rfl, rfl⟩;go_wp2_with fail;refine cMq (HG.out _) ?_;rintro e w3 ⟨rfl, b3⟩;have hz := b3.size;go_wp2_with fail
  refine cMq (HC.out _ _ (Box.new _ _ _)) ?_;rintro e w5 ⟨rfl, rfl⟩;go_wp2;go_ret;exact ⟨rfl, b3.alloc hz _⟩
theorem tag_open (s : ByteArray) (w : World) (hs : s.size ≤ 1099511627) (h : Lib.hasPrefix s.data.toList [60] = true) (h2 : Lib.hasPrefix s.data.toList [60, 47] = false) : Calls Tryz.prog 136 #[.string s] w (RIb w (tagN s.data.toList : Nat)) := by
 have hsl : s.data.toList.length = s.size := lTq;have h1l : 1 ≤ s.size := by
  rw [<- hsl]
  cases hl : s.data.toList with
  | nil => rw [hl] at h; cases h
  | cons a r => simp
 have hv : tagN s.data.toList = match wordN s.data.toList ⟨#[]⟩ ⟨#[45]⟩ 1 with | none => 0 | some j => closedN s.data.toList (lgapN s.data.toList (attrsN s.data.toList j)) [⟨#[47, 62]⟩, ⟨#[62]⟩] := by unfold tagN tagEnd; rw [h, h2]; rfl
 rw [hv];have hN := fun w' => name_any s 1 ⟨#[]⟩ ⟨#[45]⟩ w' hs h1l;have H := hdn h;have H2 := hdn h2
 cases hw : wordN s.data.toList ⟨#[]⟩ ⟨#[45]⟩ 1 with
 | none =>
  rw [hw] at hN;have HN := hdn hN;clear hN hw hv h h2;go_enter Tryz.func136, Tryz.ntmps136;go_wp2_with fail;refine cMq (Tryz.strings_HasPrefix s ⟨#[60]⟩ _) ?_;rintro e w4 ⟨rfl, rfl⟩;rw [show (⟨#[60]⟩ : ByteArray).data.toList = [60] from rfl, H.out];go_wp2_with fail;refine cMq (Tryz.strings_HasPrefix s ⟨#[60, 47]⟩ _) ?_;rintro e w4 ⟨rfl, rfl⟩;rw [show (⟨#[60, 47]⟩ : ByteArray).data.toList = [60, 47] from rfl, H2.out];go_wp2_with fail;refine cMq (HN.out _) ?_;rintro e w2 ⟨rfl, rfl⟩;rw [show optI none = -1 from rfl];go_wp2;go_ret
  exact ⟨rfl, Below.refl _ _⟩
 | some j =>
  rw [hw] at hN;have hj := wordN_le _ _ _ _ _ hw;have hop : optI (some j) = (j : Int) := rfl;rw [hop] at hN;obtain ⟨E, hE⟩ : ∃ E, attrsN s.data.toList j = E := ⟨_, rfl⟩;have hEl : E ≤ s.data.toList.length := by rw [<- hE]; exact attrsF_le _ _ _ hj
  have hgl := gapN_le _ _ hEl;show Calls _ _ _ _ (RIb w (closedN s.data.toList (lgapN s.data.toList (attrsN s.data.toList j)) [⟨#[47, 62]⟩, ⟨#[62]⟩] : Nat));rw [hE];have hat : Hid (attrsF s.data.toList (s.data.toList.length + 1) j = E) := hE;have hA := hdn fun (i : Nat) w' (hi : i ≤ s.data.toList.length) => attr_any s i w' hs (by rw [<- hsl]; exact hi);obtain ⟨l, hl⟩ : ∃ l, s.data.toList = l := ⟨_, rfl⟩;rw [hl] at hA hEl hgl hat hj hsl ⊢;obtain ⟨k, hk⟩ : ∃ k, lgapN l E = k := ⟨_, rfl⟩;rw [hk] at hgl ⊢
  have HG := hdn (show ∀ w', Calls Tryz.prog 173 #[.string s, .int .i64 (E : Int)] w' (RIb w' (k : Nat)) from fun w' => by
   have := lgap_any s E w' hs (by rw [<- hsl]; exact hEl);rw [hl, hk] at this;exact this)
  have HC := hdn (show ∀ g w', Box w' g 9 ([⟨#[47, 62]⟩, ⟨#[62]⟩].map Value.string).toArray -> Calls Tryz.prog 172 #[.string s, .int .i64 (k : Int), .slice (some ⟨g, 0, none⟩) 2 2] w' (RI w' (closedN l k [⟨#[47, 62]⟩, ⟨#[62]⟩] : Nat)) from fun g w' hb => by
   have := closed_any s k g [⟨#[47, 62]⟩, ⟨#[62]⟩] w' hs (by rw [<- hsl]; exact hgl) hb (by decide) (by decide);rw [hl] at this;exact this)
  have HN := hdn hN;have HSL := hdn hsl;have HL := hdn hl;have HJ := hdn hj;clear hN hw hv h h2 hop hk hE hl hsl hj hEl hgl;go_enter Tryz.func136, Tryz.ntmps136;go_wp2_with fail;refine cMq (Tryz.strings_HasPrefix s ⟨#[60]⟩ _) ?_;rintro e w4 ⟨rfl, rfl⟩;rw [show (⟨#[60]⟩ : ByteArray).data.toList = [60] from rfl, HL.out, <- HL.out, H.out];go_wp2_with fail;refine cMq (Tryz.strings_HasPrefix s ⟨#[60, 47]⟩ _) ?_;rintro e w4 ⟨rfl, rfl⟩;rw [show (⟨#[60, 47]⟩ : ByteArray).data.toList = [60, 47] from rfl, H2.out];go_wp2_with fail
  refine cMq (HN.out _) ?_;rintro e w2 ⟨rfl, rfl⟩;go_wp2_with fail;refine cMq (hA.out j _ HJ.out) ?_;rintro e w3 ⟨rfl, b3⟩;have HB3 := hdn b3;clear b3;go_wp2_with fail
  go_loopw [4, 5] (fun v4 v5 wr => TagW w4 l E v4 v5 wr) (fun v4 _ _ => s.size - (intOf v4).toNat)
  case atStart => exact ⟨j, l.length + 1, rfl, rfl, HJ.out, by omega, hat.out, HB3.out⟩
  case round =>
   obtain ⟨i, n, rfl, rfl, hi, hn, hE, hb⟩ := hrel;have HB := hdn hb;have hz := hb.size;clear hb
   cases ha : attrN l i with
   | none =>
    rw [attrsF_none ha] at hE;subst hE;rw [show optI none = -1 from rfl];clear ha hat;go_wp2_with fail;refine cMq (HG.out _) ?_;rintro e w5 ⟨rfl, b5⟩;have hz5 := b5.size;go_wp2_with fail;refine cMq (HC.out _ _ (Box.new _ _ _)) ?_;rintro e w6 ⟨rfl, rfl⟩;go_wp2;go_ret;exact ⟨rfl, (HB.out.trans (b5.mono hz)).alloc (by omega) _⟩
   | some m =>
    have hm := attrN_lt l i m hi ha;rw [show optI (some m) = (m : Int) from rfl];have hs2 : i < s.size := by rw [<- HSL.out]; omega
    obtain ⟨n', rfl⟩ : ∃ n', n = n' + 1 := ⟨n - 1, by omega⟩;rw [attrsF_some ha] at hE;have HE := hdn hE;clear hE ha;go_wp2_with fail;refine cMq (hA.out m _ hm.2) ?_;rintro e w5 ⟨rfl, b5⟩;go_wp2
    go_roundw
    case rel => exact ⟨m, n', rfl, rfl, hm.2, by omega, HE.out, HB.out.trans (b5.mono hz)⟩
    case measure => simp [intOf]; omega
theorem tag_any (s : ByteArray) (w : World) (hs : s.size ≤ 1099511627) : Calls Tryz.prog 136 #[.string s] w (RIb w (tagN s.data.toList : Nat)) := by
 cases h : Lib.hasPrefix s.data.toList [60] with
 | false => exact tag_none s w h
 | true =>
  cases h2 : Lib.hasPrefix s.data.toList [60, 47] with
  | true => exact tag_shut s w hs h h2
  | false => exact tag_open s w hs h h2
end
section
open Go.RowKit
theorem prefix_last {l x : List UInt8} {k : Nat} {c : UInt8} (h : Lib.hasPrefix (l.drop k) x = true) (hx : x.getLast? = some c) : 1 ≤ x.length ∧ k + x.length ≤ l.length ∧ l[k + x.length - 1]? = some c := by
 unfold Lib.hasPrefix at h;rw [List.isPrefixOf_iff_prefix] at h;obtain ⟨t, ht⟩ := h;have hne : x ≠ [] := by rintro rfl; cases hx
 have h1 : 1 ≤ x.length := List.length_pos_iff.2 hne;have hl : (l.drop k).length = x.length + t.length := by rw [<- ht, List.length_append]
 rw [List.length_drop] at hl;refine ⟨h1, by omega, ?_⟩;have e : l[k + x.length - 1]? = (l.drop k)[x.length - 1]? := by rw [List.getElem?_drop]; congr 1; omega
 rw [e, <- ht, List.getElem?_append_left (by omega), <- List.getLast?_eq_getElem?, hx]
theorem closedN_spec (l : List UInt8) (i : Nat) : ∀ xs : List ByteArray, closedN l i xs = 0 ∨ ∃ x ∈ xs, Lib.hasPrefix (l.drop i) x.data.toList = true ∧ closedN l i xs = i + x.data.toList.length
 | [] => .inl rfl
 | x :: xs => by
  unfold closedN
  by_cases h : Lib.hasPrefix (l.drop i) x.data.toList = true
  ·rw [if_pos h];exact .inr ⟨x, by simp, h, by rw [lTq]; rfl⟩
  ·rw [if_neg h];rcases closedN_spec l i xs with h | ⟨y, hy, h1, h2⟩
   ·exact .inl h
   ·exact .inr ⟨y, by simp [hy], h1, h2⟩
theorem closedN_ends (l : List UInt8) (i : Nat) (xs : List ByteArray) (hx : ∀ x ∈ xs, x.data.toList.getLast? = some 62) (h : 0 < closedN l i xs) : i < closedN l i xs ∧ closedN l i xs ≤ l.length ∧ l[closedN l i xs - 1]? = some 62 := by
 rcases closedN_spec l i xs with h0 | ⟨x, hm, h1, h2⟩
 ·omega
 ·obtain ⟨a, b, c⟩ := prefix_last h1 (hx x hm);rw [h2];exact ⟨by omega, b, c⟩
theorem gapN_ge (l : List UInt8) (i : Nat) : i ≤ lgapN l i := run_ge _ l i
theorem attrsF_ge (l : List UInt8) : ∀ (n i : Nat), i ≤ l.length -> i ≤ attrsF l n i
 | 0, _, _ => Nat.le_refl _
 | n + 1, i, h => by
  unfold attrsF;split
  ·exact Nat.le_refl _
  ·rename_i k hk;have h1 := attrN_lt l i k h hk;have h2 := attrsF_ge l n k h1.2;omega
theorem tagN_ends (l : List UInt8) (h : 0 < tagN l) : 2 < tagN l ∧ tagN l ≤ l.length ∧ l[tagN l - 1]? = some 62 := by
 revert h
 unfold tagN;split
 ·cases hw : wordN l ⟨#[]⟩ ⟨#[45]⟩ (if Lib.hasPrefix l [60, 47] = true then 2 else 1) with
  | none => intro h; cases h
  | some j =>
   have h1 := wordN_lt _ _ _ _ _ hw;have h2 := wordN_le _ _ _ _ _ hw;have h3 : 1 < j := by split at h1 <;> omega
   show 0 < tagEnd l (Lib.hasPrefix l [60, 47]) j -> 2 < tagEnd l (Lib.hasPrefix l [60, 47]) j ∧ _;unfold tagEnd;split
   ·intro h;have h4 := gapN_ge l j;have h5 := closedN_ends l _ _ (by decide) h;exact ⟨by omega, h5.2⟩
   ·intro h;have h4 := gapN_ge l (attrsN l j);have h6 := attrsF_ge l (l.length + 1) j h2;have h5 := closedN_ends l _ _ (by decide) h;unfold attrsN at h4 h5 ⊢;exact ⟨by omega, h5.2⟩
 ·intro h; cases h
theorem tagN_le (l : List UInt8) : tagN l ≤ l.length := by
 by_cases h : 0 < tagN l
 ·exact (tagN_ends l h).2.1
 ·omega
end
