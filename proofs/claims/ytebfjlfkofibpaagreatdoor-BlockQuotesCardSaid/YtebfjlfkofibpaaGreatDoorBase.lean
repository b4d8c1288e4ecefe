/- class.Letter, Digit, small and the reference's Letter, Digit. -/
import Derived.Test.YtebfjlfkofibpaaGreatDoorRows
import Derived.WalkKit
import Derived.Lib.Bytealg
import Derived.Lib.Hide
import Derived.BigQuiet
import Derived.WalkSpells
import Derived.Shelf.GgClosure.Gives
import Derived.WalkLawsBesides
import Derived.Shelf.Strings.BuilderK
import Derived.Deep.QuietTactic
import Derived.Deep.Draws
import Derived.Maps.AppendAt
import Derived.OwnWalk
import Derived.Laws.IdiomStrings
import Derived.Deep.AppendLies
import Derived.RegionTactic
import Derived.Deep.RegionLaw
namespace Go.Proofs.YtebfjlfkofibpaaGreatDoor
theorem hdn {p : Prop} (h : p) : RowKit.Hid p := h
theorem lTq {a : Type} {x : Array a} : x.toList.length = x.size := Array.length_toList
theorem cMq {P : Program} {f : FuncId} {a : Array Value} {w : World} {R S : Ending → World → Prop} (h : Calls P f a w R) (k : ∀ e v, R e v → S e v) : Calls P f a w S := h.mono k
theorem gSq {a : Type} {i : Nat} {b : a} {x : Array a} : x[i]? = some b ↔ ∃ h, x[i] = b := Array.getElem?_eq_some_iff
set_option maxHeartbeats 2000000
set_option maxRecDepth 100000
section
open Go.RowKit
def letterN (n : Nat) : Bool := (decide (65 ≤ n) && decide (n ≤ 90)) || (decide (97 ≤ n) && decide (n ≤ 122))
def digitN (n : Nat) : Bool := decide (48 ≤ n) && decide (n ≤ 57)
def smallN (n : Nat) : Nat := if 65 ≤ n ∧ n ≤ 90 then n + 32 else n
def letter (b : UInt8) : Bool := letterN b.toNat
def digit (b : UInt8) : Bool := digitN b.toNat
def small (b : UInt8) : UInt8 := UInt8.ofNat (smallN b.toNat)
theorem small_toNat (b : UInt8) : (small b).toNat = smallN b.toNat := by
 have := UInt8.toNat_lt b;unfold small smallN;split <;> simp <;> omega
theorem or32 : ∀ x : Fin 256, bits .or .u8 ((x.val : Nat) : Int) 32 = (((x.val ||| 32) : Nat) : Int) := by decide
theorem or_letter : ∀ x : Fin 256, letterN x.val = (decide (97 ≤ x.val ||| 32) && decide (x.val ||| 32 ≤ 122)) := by decide
theorem or_small : ∀ x : Fin 256, 65 ≤ x.val -> x.val ≤ 90 -> x.val ||| 32 = x.val + 32 := by decide
theorem orb (b : UInt8) : bits .or .u8 ((b.toNat : Nat) : Int) 32 = (((b.toNat ||| 32) : Nat) : Int) := or32 ⟨b.toNat, UInt8.toNat_lt b⟩
def RB (w : World) (v : Bool) (e : Ending) (w' : World) : Prop := e = .returned (.bool v) ∧ w = w'
theorem letter_any (b : UInt8) (w : World) : Calls Tryz.prog 138 #[.int .u8 (b.toNat : Int)] w (RB w (letter b)) := by
 have ho := orb b;have hl : letter b = _ := or_letter ⟨b.toNat, UInt8.toNat_lt b⟩;simp only at hl;obtain ⟨y, hy⟩ : ∃ y, b.toNat ||| 32 = y := ⟨_, rfl⟩;rw [hy] at ho hl;have HL := hdn hl;clear hl hy
 by_cases h1 : 97 ≤ y
 ·have z1 : (97 : Int) ≤ (y : Int) := by omega
  by_cases h2 : y ≤ 122
  ·have z2 : (y : Int) ≤ 122 := by omega
   go_enter Tryz.func138, Tryz.ntmps138;go_wp2;go_ret;exact ⟨by rw [HL.out]; simp [h1, h2], rfl⟩
  ·have z2 : ¬ (y : Int) ≤ 122 := by omega
   go_enter Tryz.func138, Tryz.ntmps138;go_wp2;go_ret;exact ⟨by rw [HL.out]; simp [h1, h2], rfl⟩
 ·have z1 : ¬ (97 : Int) ≤ (y : Int) := by omega
  go_enter Tryz.func138, Tryz.ntmps138;go_wp2;go_ret;exact ⟨by rw [HL.out]; simp [h1], rfl⟩
theorem u8_sub (n k : Nat) (hn : n < 256) (hk : k < 256) : IntKind.u8.wrap ((n : Int) - (k : Int)) = if k ≤ n then (n : Int) - k else (n : Int) - k + 256 := by
 rw [IntKind.wrap_u8];split <;> omega
theorem digit_any (b : UInt8) (w : World) : Calls Tryz.prog 167 #[.int .u8 (b.toNat : Int)] w (RB w (digit b)) := by
 have hb := UInt8.toNat_lt b;have hs := u8_sub b.toNat 48 (by omega) (by omega);obtain ⟨n, hn⟩ : ∃ n, b.toNat = n := ⟨_, rfl⟩;have hd : digit b = (decide (48 ≤ n) && decide (n ≤ 57)) := by unfold digit digitN; rw [hn]
 have HD := hdn hd;rw [hn] at hb hs ⊢;clear hd hn
 by_cases h1 : 48 ≤ n
 ·rw [if_pos h1] at hs;obtain ⟨y, hy⟩ : ∃ y, n - 48 = y := ⟨_, rfl⟩;have hs' : IntKind.u8.wrap ((n : Int) - 48) = (y : Int) := by
   show IntKind.u8.wrap ((n : Int) - ((48 : Nat) : Int)) = _;rw [hs];omega
  by_cases h2 : n ≤ 57
  ·have z2 : (y : Int) < 10 := by omega
   clear hs hy;go_enter Tryz.func167, Tryz.ntmps167;go_wp2;go_ret;exact ⟨by rw [HD.out]; simp [h1, h2], rfl⟩
  ·have z2 : ¬ (y : Int) < 10 := by omega
   clear hs hy;go_enter Tryz.func167, Tryz.ntmps167;go_wp2;go_ret;exact ⟨by rw [HD.out]; simp [h1, h2], rfl⟩
 ·rw [if_neg h1] at hs;obtain ⟨y, hy⟩ : ∃ y, n + 208 = y := ⟨_, rfl⟩;have hs' : IntKind.u8.wrap ((n : Int) - 48) = (y : Int) := by
   show IntKind.u8.wrap ((n : Int) - ((48 : Nat) : Int)) = _;rw [hs];omega
  have z2 : ¬ (y : Int) < 10 := by omega
  clear hs hy;go_enter Tryz.func167, Tryz.ntmps167;go_wp2;go_ret;exact ⟨by rw [HD.out]; simp [h1], rfl⟩
theorem small_any (b : UInt8) (w : World) : Calls Tryz.prog 144 #[.int .u8 (b.toNat : Int)] w fun e w' => e = .returned (.int .u8 ((small b).toNat : Int)) ∧ w = w' := by
 have ho := orb b;have hb := UInt8.toNat_lt b;have hs := small_toNat b;have hos := or_small ⟨b.toNat, hb⟩;simp only at hos;obtain ⟨n, hn⟩ : ∃ n, b.toNat = n := ⟨_, rfl⟩;rw [hn] at ho hs hos hb ⊢;have HS := hdn hs;clear hs hn
 by_cases h1 : 65 ≤ n
 ·have z1 : (65 : Int) ≤ (n : Int) := by omega
  by_cases h2 : n ≤ 90
  ·have z2 : (n : Int) ≤ 90 := by omega
   rw [hos h1 h2] at ho;clear hos;go_enter Tryz.func144, Tryz.ntmps144;go_wp2;go_ret;exact ⟨by rw [HS.out]; simp [smallN, h1, h2], rfl⟩
  ·have z2 : ¬ (n : Int) ≤ 90 := by omega
   clear hos ho;go_enter Tryz.func144, Tryz.ntmps144;go_wp2;go_ret;exact ⟨by rw [HS.out]; simp [smallN, h2], rfl⟩
 ·have z1 : ¬ (65 : Int) ≤ (n : Int) := by omega
  clear hos ho;go_enter Tryz.func144, Tryz.ntmps144;go_wp2;go_ret;exact ⟨by rw [HS.out]; simp [smallN, h1], rfl⟩
theorem sl_indexByte (s : ByteArray) (c : UInt8) (w : World) : Calls Tryz.prog 121 #[.string s, .int .u8 (c.toNat : Int)] w fun e w' => e = .returned (.int .i64 (Lib.indexByte s.data.toList c)) ∧ w = w' := by
 go_enter Tryz.func121, Tryz.ntmps121;go_wp2;rw [run_callFunc_extern Tryz.func162 (by kernel_rfl) (by kernel_rfl) (by kernel_rfl) (e := Extern.BytealgIndexByte.indexByte) (by kernel_rfl), Lib.run_indexByteString];simp only [Result.andThen];rw [Oper.upon_value];go_wp2;go_ret;refine ⟨?_, rfl⟩;simp
theorem indexByte_any (s : ByteArray) (c : UInt8) (w : World) : Calls Tryz.prog 131 #[.string s, .int .u8 (c.toNat : Int)] w fun e w' => e = .returned (.int .i64 (Lib.indexByte s.data.toList c)) ∧ w = w' := by
 go_enter Tryz.func131, Tryz.ntmps131;go_wp2_with fail;refine cMq (sl_indexByte s c _) ?_;rintro e w' ⟨rfl, rfl⟩;go_wp2;go_ret;exact ⟨rfl, rfl⟩
end
section
open Go.RowKit
def signB (b : UInt8) : Bool := decide (32 < b.toNat) && decide (b.toNat < 127) && !letter b && !digit b
theorem str_mk (X : ByteArray) (l : List UInt8) (h : X.data.toList = l) : X = ⟨l.toArray⟩ := by
 subst h;rfl
theorem get_list (s : ByteArray) (k : Nat) (h : k < s.size) : s.data.toList[k]? = some s[k] := by
 rw [List.getElem?_eq_getElem (by simpa using h)]; rfl
theorem get_none (s : ByteArray) (k : Nat) (h : ¬ k < s.size) : s.data.toList[k]? = none := List.getElem?_eq_none (by simpa using h)
end
section
open Go.RowKit
theorem sign_any (b : UInt8) (w : World) : Calls Tryz.prog 133 #[.int .u8 (b.toNat : Int)] w (RB w (signB b)) := by
 have hb := UInt8.toNat_lt b
 by_cases h1 : 32 < b.toNat
 ·have z1 : decide ((32 : Int) < (b.toNat : Int)) = true := by simp; omega
  by_cases h2 : b.toNat < 127
  ·have z2 : decide ((b.toNat : Int) < 127) = true := by simp; omega
   cases hl : letter b with
   | true =>
    have hs : signB b = false := by unfold signB; rw [hl]; simp
    rw [hs];have HL := hdn hl;clear hs hl h1 h2;go_enter Tryz.func133, Tryz.ntmps133;go_wp2_with fail;refine cMq (letter_any b _) ?_;rintro e w' ⟨rfl, rfl⟩;rw [HL.out];go_wp2;go_ret;exact ⟨rfl, rfl⟩
   | false =>
    cases hd : digit b with
    | true =>
     have hs : signB b = false := by unfold signB; rw [hl, hd]; simp
     rw [hs];have HL := hdn hl;have HD := hdn hd;clear hs hl hd h1 h2;go_enter Tryz.func133, Tryz.ntmps133;go_wp2_with fail;refine cMq (letter_any b _) ?_;rintro e w' ⟨rfl, rfl⟩;rw [HL.out];go_wp2_with fail;refine cMq (digit_any b _) ?_;rintro e w' ⟨rfl, rfl⟩;rw [HD.out];go_wp2;go_ret;exact ⟨rfl, rfl⟩
    | false =>
     have hs : signB b = true := by unfold signB; rw [hl, hd]; simp; omega
     rw [hs];have HL := hdn hl;have HD := hdn hd;clear hs hl hd h1 h2;go_enter Tryz.func133, Tryz.ntmps133;go_wp2_with fail;refine cMq (letter_any b _) ?_;rintro e w' ⟨rfl, rfl⟩;rw [HL.out];go_wp2_with fail;refine cMq (digit_any b _) ?_;rintro e w' ⟨rfl, rfl⟩;rw [HD.out];go_wp2;go_ret;exact ⟨rfl, rfl⟩
  ·have z2 : decide ((b.toNat : Int) < 127) = false := by simp; omega
   have hs : signB b = false := by unfold signB; simp [h2]
   rw [hs];clear hs h1 h2;go_enter Tryz.func133, Tryz.ntmps133;go_wp2;go_ret;exact ⟨rfl, rfl⟩
 ·have z1 : decide ((32 : Int) < (b.toNat : Int)) = false := by simp; omega
  have hs : signB b = false := by unfold signB; simp [h1]
  rw [hs];clear hs h1;go_enter Tryz.func133, Tryz.ntmps133;go_wp2;go_ret;exact ⟨rfl, rfl⟩
theorem beqc (x c : UInt8) : ((x.toNat : Int) == (c.toNat : Int)) = (x == c) := by
 rw [Bool.eq_iff_iff, beq_iff_eq, beq_iff_eq];exact ⟨fun e => UInt8.toNat_inj.1 (by omega), fun e => by rw [e]⟩
theorem bnec (x c : UInt8) : ((x.toNat : Int) != (c.toNat : Int)) = (x != c) := by
 unfold bne;rw [beqc]
theorem beq_no {x c : UInt8} (h : ¬ x = c) : (x == c) = false := by simpa using h
end
section
open Go.RowKit
structure BldT (T : TypeId) : Prop where
 lies : liesAt Tryz.prog Tryz.prog.depth T (2 / Tryz.prog.cellsOf T) 0 104 1 = true
 ne : T ≠ 5
def Bld (T B b : Nat) (l : List UInt8) (w : World) : Prop := Lib.IsBuilderF T 5 B b (Lib.byteCells l) w
def Kept (b : Nat) (w w' : World) : Prop := Lib.OthersKept 5 (some b) w w'
theorem Bld.fresh (T : TypeId) (w : World) : Bld T w.heap.size w.heap.size [] (w.alloc (.cells #[.pointer none, .slice none 0 0] T)) := Lib.IsBuilderF.of (Lib.fresh_isBuilder T 5 w)
theorem Bld.alloc {T B b : Nat} {l : List UInt8} {w : World} (h : Bld T B b l w) (o : Obj) : Bld T B b l (w.alloc o) := Lib.IsBuilderF.alloc h o
theorem Bld.drewN {T B b : Nat} {l : List UInt8} {w : World} (h : Bld T B b l w) (n : Nat) : Bld T B b l (w.drewN n) := h
theorem Bld.lt {T B b : Nat} {l : List UInt8} {w : World} (h : Bld T B b l w) : b < w.heap.size := by
 rcases h with h | h <;> obtain ⟨_, v, hb, _⟩ := h <;> exact (gSq.1 hb).1
theorem Kept.refl (b : Nat) (w : World) : Kept b w w := Lib.OthersKept.refl _ _ w
theorem Kept.trans {b : Nat} {u v w : World} (h : Kept b u v) (k : Kept b v w) : Kept b u w := Lib.OthersKept.trans h k
theorem Kept.alloc {b : Nat} {u w : World} (h : Kept b u w) (o : Obj) : Kept b u (w.alloc o) := Lib.OthersKept.alloc h o
theorem bld_sizeB : (Tryz.prog.info? 104).map (·.size) = some 2 := by kernel_rfl
theorem bld_byte : (Tryz.prog.info? 5).map (fun i => (i.zero, i.size, i.bytes)) = some (some (.int .u8 0), 1, 1) := by kernel_rfl
theorem bld_cellsByte : Tryz.prog.cellsOf 5 = 1 := by kernel_rfl
theorem bld_check_fresh {T : TypeId} (X : BldT T) (b : Nat) (w : World) (h0 : w.cell? ⟨b, 0, none⟩ = some (.pointer none)) (hsh : w.shape? b = some (T, 2)) (hfz : w.frozen? ⟨b, 0, none⟩ = false) :
  Calls Tryz.prog 111 #[.pointer (some ⟨b, 0, none⟩)] w fun e w' => e = .returned (.tuple #[]) ∧ w' = w.setCell ⟨b, 0, none⟩ (.pointer (some ⟨b, 0, none⟩)) := by
 obtain ⟨j, hj, hjs⟩ := Option.map_eq_some_iff.1 bld_sizeB;go_enter Tryz.func111, Tryz.ntmps111;go_wp2;rw [Lib.run_to_unsafe w ⟨b, 0, none⟩ Tryz.underlying102 Tryz.underlying165 hj (by rw [hjs]; decide) hsh (Nat.zero_lt_succ 1)];simp only [Result.andThen];rw [Oper.upon_value];go_wp2;rw [run_callFunc_extern Tryz.func156 (by kernel_rfl) (by kernel_rfl) (by kernel_rfl) (e := Extern.AbiNoEscape.same) (by kernel_rfl)];rw [Lib.run_noEscape];simp only [Result.andThen];rw [Oper.upon_value]
 go_wp2;rw [Lib.run_from_unsafe w ⟨b, 0, none⟩ Tryz.underlying165 Tryz.underlying102 hj hsh X.lies];simp only [Result.andThen];rw [Oper.upon_value];go_wp2
 go_end0
 exact ⟨rfl, rfl⟩
theorem bld_check_used (b : Nat) (w : World) (h0 : w.cell? ⟨b, 0, none⟩ = some (.pointer (some ⟨b, 0, none⟩))) :
  Calls Tryz.prog 111 #[.pointer (some ⟨b, 0, none⟩)] w fun e w' => e = .returned (.tuple #[]) ∧ w' = w := by
 obtain ⟨j, hj, _⟩ := Option.map_eq_some_iff.1 bld_sizeB;go_enter Tryz.func111, Tryz.ntmps111;go_wp2;rw [Lib.run_neq_ptr_same w _ Tryz.underlying102 hj];go_wp2
 go_end0
 exact ⟨rfl, rfl⟩
theorem bld_check {T : TypeId} (X : BldT T) (B b : Nat) (bs : List Value) (w : World) (h : Lib.IsBuilderF T 5 B b bs w) :
  Calls Tryz.prog 111 #[.pointer (some ⟨b, 0, none⟩)] w fun e w' => e = .returned (.tuple #[]) ∧ (Lib.BuilderAtF T 5 B b (.pointer (some ⟨b, 0, none⟩)) bs w' ∧ Below B w w' ∧ Lib.OthersKept 5 (some b) w w') := by
 rcases h with h | h
 ·refine (bld_check_fresh X b w h.cell0 h.shape h.frozen0).mono ?_;rintro e w' ⟨rfl, rfl⟩;exact ⟨rfl, h.used _, (Below.refl B w).setCell (p := ⟨b, 0, none⟩) h.1 _, (Lib.OthersKept.refl _ _ w).setCell ⟨b, 0, none⟩ rfl _⟩
 ·refine (bld_check_used b w h.cell0).mono ?_;rintro e w' ⟨rfl, rfl⟩;exact ⟨rfl, h, Below.refl B _, Lib.OthersKept.refl _ _ _⟩
theorem bld_WriteString {T : TypeId} (X : BldT T) (B b : Nat) (l : List UInt8) (s : ByteArray) (w : World) (h : Bld T B b l w) (hlen : l.length + s.size ≤ 140737488355328) (hBw : B ≤ w.heap.size) :
  Calls Tryz.prog 74 #[.pointer (some ⟨b, 0, none⟩), .string s] w fun e w' => e = .returned (.tuple #[.int .i64 s.size, .nilIface]) ∧ (Bld T B b (l ++ s.data.toList) w' ∧ Below B w w' ∧ Kept b w w') := by
 obtain ⟨i0, hi, hz0, hz1, hz2⟩ := info_parts bld_byte;go_enter Tryz.func74, Tryz.ntmps74;go_wp2_with (go_at_call 111; refine (bld_check X B b _ _ h).mono ?_);rintro e w1 ⟨rfl, h1, hb1, hk1⟩;obtain ⟨hB, v, hbk, hown, hne⟩ := h1;have c0 : w1.cell? ⟨b, 0, none⟩ = some (.pointer (some ⟨b, 0, none⟩)) := by rw [Lib.cell_of_heap hbk]; rfl
 have c1 : w1.cell? ⟨b, 1, none⟩ = some v := by rw [Lib.cell_of_heap hbk]; rfl
 go_wp2_with (at_builtin; refine Lib.wpList_append_own_stringF _ rfl _ _ 22 9 rfl B 5 i0 Tryz.underlying22 Tryz.underlying9 hi hz0 hz1 hz2 _ _ _ rfl hown s rfl ?c3 ?c4 ?c5 ?_)
 case c3 => rw [Lib.byteCells_length]; unfold maxLen; omega
 case c4 => rw [Lib.byteCells_length]; omega
 case c5 => have := hb1.size; omega
 intro v' w2 hown' hgrow _;have hlt : b < w1.heap.size := by
  rcases Nat.lt_or_ge b w1.heap.size with h' | h'
  ·exact h'
  ·simp [Array.getElem?_eq_none h'] at hbk
 have hb2 : w2.heap[b]? = some (.cells #[.pointer (some ⟨b, 0, none⟩), v] T (0, 0)) := by
  rw [hgrow.block b hlt (fun e => hne e.symm)];exact hbk
 have d0 : w2.cell? ⟨b, 0, none⟩ = some (.pointer (some ⟨b, 0, none⟩)) := by rw [Lib.cell_of_heap hb2]; rfl
 have d1 : w2.cell? ⟨b, 1, none⟩ = some v := by rw [Lib.cell_of_heap hb2]; rfl
 have f1 : w2.frozen? ⟨b, 1, none⟩ = false := Lib.frozen_of_heap hb2 1;obtain ⟨ao, n', cap, rfl⟩ : ∃ ao n' cap, v' = .slice ao n' cap := by
  rcases hown'.2 with ⟨hv, _⟩ | ⟨g, cap, cur, fz, hv, _⟩
  ·exact ⟨_, _, _, hv⟩
  ·exact ⟨_, _, _, hv⟩
 go_wp2
 go_ret2
 refine ⟨rfl, ?_, ?_, (hk1.grown hgrow (Lib.ownsRowF_kind hown)).setCell ⟨b, 1, none⟩ rfl _⟩
 ·refine .inr (Lib.BuilderAtF.put (T := T) (e := 5) hB hb2 (bs' := Lib.byteCells (l ++ s.data.toList)) ?_ X.ne);rw [Lib.byteCells_append, <- Lib.strCells_eq];simpa [Lib.strCells_length] using hown'
 ·exact (hb1.grown hgrow (by have := hb1.size; omega) (fun k hk => (hown.lt k hk).1)).setCell (p := ⟨b, 1, none⟩) hB _
set_option maxHeartbeats 2000000 in
set_option maxRecDepth 100000 in
theorem bld_WriteByte {T : TypeId} (X : BldT T) (B b : Nat) (l : List UInt8) (c : UInt8) (w : World) (h : Bld T B b l w) (hlen : l.length + 1 ≤ 140737488355328) (hBw : B ≤ w.heap.size) :
    Calls Tryz.prog 134 #[.pointer (some ⟨b, 0, none⟩), .int .u8 c.toNat] w fun e w' => e = .returned .nilIface ∧ (Bld T B b (l ++ [c]) w' ∧ Below B w w' ∧ Kept b w w') := by
  obtain ⟨i0, hi, hz0, hz1, hz2⟩ := info_parts bld_byte
  go_enter Tryz.func134, Tryz.ntmps134
  go_wp2_with (go_at_call 111; refine (bld_check X B b _ _ h).mono ?_)
  rintro e w1 ⟨rfl, h1, hb1, hk1⟩
  obtain ⟨hB, v, hbk, hown, hne⟩ := h1
  have c0 : w1.cell? ⟨b, 0, none⟩ = some (.pointer (some ⟨b, 0, none⟩)) := by rw [Lib.cell_of_heap hbk]; rfl
  have c1 : w1.cell? ⟨b, 1, none⟩ = some v := by rw [Lib.cell_of_heap hbk]; rfl
  go_wp2_with (at_builtin; refine wpList_append_ownF _ rfl _ _ 22 rfl B 5 i0 (.int .u8 0) 1 1 Tryz.underlying22 hi hz0 hz1 hz2 rfl (by decide) _ _ _ rfl (hown.alloc _) ⟨w1.heap.size, 0, none⟩ 1 1 [.int .u8 c.toNat] rfl rfl ?c1 ?c2 ?c3 ?c4 ?c5 ?_)
  case c1 =>
    intro j u hj
    match j, hj with
    | 0, hj => simp at hj; subst hj; simp [Addr.add]
  case c2 => intro u hu; simp at hu; subst hu; rfl
  case c3 => rw [Lib.byteCells_length]; unfold maxLen; omega
  case c4 => rw [Lib.byteCells_length]; omega
  case c5 => have := hb1.size; simp; omega
  intro v' w2 hown' hgrow _
  have hlt : b < w1.heap.size := by
    rcases Nat.lt_or_ge b w1.heap.size with h' | h'
    · exact h'
    · simp [Array.getElem?_eq_none h'] at hbk
  have hb2 : w2.heap[b]? = some (.cells #[.pointer (some ⟨b, 0, none⟩), v] T (0, 0)) := by
    rw [hgrow.block b (by simp; omega) (fun e => hne e.symm), Lib.alloc_old w1 _ b hlt]
    exact hbk
  have d0 : w2.cell? ⟨b, 0, none⟩ = some (.pointer (some ⟨b, 0, none⟩)) := by rw [Lib.cell_of_heap hb2]; rfl
  have d1 : w2.cell? ⟨b, 1, none⟩ = some v := by rw [Lib.cell_of_heap hb2]; rfl
  have f1 : w2.frozen? ⟨b, 1, none⟩ = false := Lib.frozen_of_heap hb2 1
  obtain ⟨g, cap, rfl⟩ : ∃ g cap, v' = .slice (some ⟨g, 0, none⟩) ((Lib.byteCells l).length + 1) cap := by
    rcases hown'.2 with ⟨_, h0⟩ | ⟨g, cap, cur, fz, hv, _⟩
    · omega
    · exact ⟨g, cap, hv⟩
  go_wp2
  go_ret
  refine ⟨rfl, ?_, ?_, ((hk1.alloc _).grown hgrow (Lib.ownsRowF_kind (hown.alloc _))).setCell ⟨b, 1, none⟩ rfl _⟩
  · refine .inr (Lib.BuilderAtF.put (T := T) (e := 5) hB hb2 (bs' := Lib.byteCells (l ++ [c])) ?_ X.ne)
    rw [Lib.byteCells_append]
    simpa [Lib.byteCells] using hown'
  · exact ((hb1.alloc (by have := hb1.size; omega) _).grown hgrow (by have := hb1.size; simp; omega) (fun k hk => (hown.lt k hk).1)).setCell (p := ⟨b, 1, none⟩) hB _
theorem bld_String_some (T B b : Nat) (l : List UInt8) (w : World) (h : Bld T B b l w) (h0 : l ≠ []) :
  Calls Tryz.prog 75 #[.pointer (some ⟨b, 0, none⟩)] w fun e w' => e = .returned (.string ⟨l.toArray⟩) ∧ (Bld T B b l w' ∧ Below B w w' ∧ Kept b w w') := by
 obtain ⟨p, hp, hAt⟩ : ∃ p, (p = .pointer none ∨ p = .pointer (some ⟨b, 0, none⟩)) ∧ Lib.BuilderAtF T 5 B b p (Lib.byteCells l) w := by
  rcases h with h | h
  ·exact ⟨_, .inl rfl, h⟩
  ·exact ⟨_, .inr rfl, h⟩
 obtain ⟨hB, v, hbk, hown, hne⟩ := hAt;have hl0 : l.length ≠ 0 := by simpa using h0
 rw [Lib.byteCells_length] at hown;obtain ⟨g, cap, cur, fz, rfl, hbg, hg, hfz, hnc, hcm, hcs, htake⟩ : ∃ g cap cur fz, v = .slice (some ⟨g, 0, none⟩) l.length cap ∧ B ≤ g ∧ w.heap[g]? = some (.cells cur 5 fz) ∧ fz.2 ≤ l.length * 1 ∧ l.length ≤ cap ∧ cap ≤ maxLen ∧ cur.size = cap * 1 ∧ cur.toList.take (l.length * 1) = Lib.byteCells l := by
  rcases hown.2 with ⟨_, hz⟩ | ⟨g, cap, cur, fz, hv, r⟩
  ·exact absurd hz hl0
  ·exact ⟨g, cap, cur, fz, hv, r⟩
 have c1 : w.drew.cell? ⟨b, 1, none⟩ = some (.slice (some ⟨g, 0, none⟩) l.length cap) := by
  have : w.drew.heap[b]? = some (.cells #[p, .slice (some ⟨g, 0, none⟩) l.length cap] T (0, 0)) := hbk;rw [Lib.cell_of_heap this]; rfl
 have hSD : (Builtin.unsafeSliceData_ #[22] 141 #[.slice (some ⟨g, 0, none⟩) l.length cap]).run Tryz.prog w.drew = .ok (.pointer (some ⟨g, 0, none⟩)) w.drew :=
  Lib.run_unsafeSliceData_row _ _ _ _ _ _ (by omega);have hUS : (Builtin.unsafeString_ #[141, 3] 9 #[.pointer (some ⟨g, 0, none⟩), .int .i64 l.length]).run Tryz.prog w.drew = .ok (.string ⟨l.toArray⟩) (w.drew.freeze ⟨g, 0, none⟩ l.length) := by
  refine Lib.run_unsafeString_row w.drew 141 3 9 5 Tryz.underlying141 bld_cellsByte g cur.size (by have hg' : w.drew.heap[g]? = some (.cells cur 5 fz) := hg; simp [World.shape?, hg']) l h0 (by omega) (by unfold maxLen at hcm; omega) ?_;intro j x hx;have := hown.cells (g := g) rfl j (.int .u8 x.toNat) (by simp [Lib.byteCells, hx]);exact this
 have hkeep : Lib.IsBuilderF T 5 B b (Lib.byteCells l) (w.drew.freeze ⟨g, 0, none⟩ l.length) := by
  have hA : Lib.BuilderAtF T 5 B b p (Lib.byteCells l) w.drew := ⟨hB, _, hbk, by rw [Lib.byteCells_length]; exact hown, hne⟩;have hF := hA.froze (g := g) (cap := cap) (by rw [Lib.byteCells_length]; exact c1);rw [Lib.byteCells_length] at hF;rcases hp with rfl | rfl
  ·exact .inl hF
  ·exact .inr hF
 go_enter Tryz.func75, Tryz.ntmps75;go_wp2
 go_region
 all_goals (go_wp2; go_ret; exact ⟨rfl, hkeep, Lib.below_freeze (Below.drew (Below.refl B w)) (p := ⟨g, 0, none⟩) hbg _, ((Lib.OthersKept.refl _ _ w).drew).freeze ⟨g, 0, none⟩ _ ⟨cur, fz, hg⟩⟩)
theorem bld_unsafe_none (W : World) (q : Option Addr) : (Builtin.unsafeString_ #[141, 3] 9 #[.pointer q, .int .i64 0]).run Tryz.prog W = .ok (.string .empty) W :=
 Lib.run_unsafeString_none W _ _ _ q
theorem bld_String_nil (T B b : Nat) (p : Value) (w : World) (hbk : w.heap[b]? = some (.cells #[p, .slice none 0 0] T (0, 0))) (hA : Lib.BuilderAtF T 5 B b p [] w) :
  Calls Tryz.prog 75 #[.pointer (some ⟨b, 0, none⟩)] w fun e w' => e = .returned (.string ⟨#[]⟩) ∧ (Lib.BuilderAtF T 5 B b p [] w' ∧ Below B w w' ∧ Kept b w w') := by
 have hUS := bld_unsafe_none;have c1 : w.drew.cell? ⟨b, 1, none⟩ = some (.slice none 0 0) := by
  have : w.drew.heap[b]? = some (.cells #[p, .slice none 0 0] T (0, 0)) := hbk;rw [Lib.cell_of_heap this]; rfl
 have hSD : (Builtin.unsafeSliceData_ #[22] 141 #[.slice none 0 0]).run Tryz.prog w.drew = .ok (.pointer none) w.drew := rfl;go_enter Tryz.func75, Tryz.ntmps75;go_wp2
 go_region
 all_goals (go_wp2; go_ret; exact ⟨rfl, hA.drew, Below.drew (Below.refl B w), (Lib.OthersKept.refl _ _ w).drew⟩)
theorem bld_String_noroom (T B b g : Nat) (p : Value) (cur : Array Value) (w : World) (hBw : B ≤ w.heap.size) (hbk : w.heap[b]? = some (.cells #[p, .slice (some ⟨g, 0, none⟩) 0 0] T (0, 0))) (fz : Nat × Nat) (hg : w.heap[g]? = some (.cells cur 5 fz)) (hA : Lib.BuilderAtF T 5 B b p [] w) :
  Calls Tryz.prog 75 #[.pointer (some ⟨b, 0, none⟩)] w fun e w' => e = .returned (.string ⟨#[]⟩) ∧ (Lib.BuilderAtF T 5 B b p [] w' ∧ Below B w w' ∧ Kept b w w') := by
 have hUS := bld_unsafe_none;have hlt : b < w.heap.size := by
  rcases Nat.lt_or_ge b w.heap.size with h' | h'
  ·exact h'
  ·simp [Array.getElem?_eq_none h'] at hbk
 have c1 : w.drew.cell? ⟨b, 1, none⟩ = some (.slice (some ⟨g, 0, none⟩) 0 0) := by
  have : w.drew.heap[b]? = some (.cells #[p, .slice (some ⟨g, 0, none⟩) 0 0] T (0, 0)) := hbk;rw [Lib.cell_of_heap this]; rfl
 have hSD : (Builtin.unsafeSliceData_ #[22] 141 #[.slice (some ⟨g, 0, none⟩) 0 0]).run Tryz.prog w.drew = .ok (.pointer (some ⟨w.drew.heap.size, 0, none⟩)) (w.drew.alloc (.view ⟨g, 0, none⟩ 5)) :=
  Lib.run_unsafeSliceData_zero w.drew _ _ 5 Tryz.underlying141 ⟨g, 0, none⟩ 0 (5, cur.size) (by have hg' : w.drew.heap[g]? = some (.cells cur 5 fz) := hg; simp [World.shape?, hg']);have c2 : (w.drew.alloc (.view ⟨g, 0, none⟩ 5)).cell? ⟨b, 1, none⟩ = some (.slice (some ⟨g, 0, none⟩) 0 0) := by
  have : (w.drew.alloc (.view ⟨g, 0, none⟩ 5)).heap[b]? = _ := (Lib.alloc_old w.drew _ b hlt).trans hbk;rw [Lib.cell_of_heap this]; rfl
 have c3 : (w.alloc (.view ⟨g, 0, none⟩ 5)).drew.cell? ⟨b, 1, none⟩ = some (.slice (some ⟨g, 0, none⟩) 0 0) := c2;have c0 : w.cell? ⟨b, 1, none⟩ = some (.slice (some ⟨g, 0, none⟩) 0 0) := c1;go_enter Tryz.func75, Tryz.ntmps75;go_wp2
 go_region
 all_goals (go_wp2; go_ret; exact ⟨rfl, hA.drew.alloc _, (Below.drew (Below.refl B w)).alloc hBw _, ((Lib.OthersKept.refl _ _ w).drew).alloc _⟩)
theorem bld_String_room (T B b g cap : Nat) (p : Value) (w : World) (hc0 : cap ≠ 0) (hbk : w.heap[b]? = some (.cells #[p, .slice (some ⟨g, 0, none⟩) 0 cap] T (0, 0))) (hA : Lib.BuilderAtF T 5 B b p [] w) :
  Calls Tryz.prog 75 #[.pointer (some ⟨b, 0, none⟩)] w fun e w' => e = .returned (.string ⟨#[]⟩) ∧ (Lib.BuilderAtF T 5 B b p [] w' ∧ Below B w w' ∧ Kept b w w') := by
 have hUS := bld_unsafe_none;have c1 : w.drew.cell? ⟨b, 1, none⟩ = some (.slice (some ⟨g, 0, none⟩) 0 cap) := by
  have : w.drew.heap[b]? = some (.cells #[p, .slice (some ⟨g, 0, none⟩) 0 cap] T (0, 0)) := hbk;rw [Lib.cell_of_heap this]; rfl
 have hSD : (Builtin.unsafeSliceData_ #[22] 141 #[.slice (some ⟨g, 0, none⟩) 0 cap]).run Tryz.prog w.drew = .ok (.pointer (some ⟨g, 0, none⟩)) w.drew :=
  Lib.run_unsafeSliceData_row _ _ _ _ _ _ hc0;clear hc0;go_enter Tryz.func75, Tryz.ntmps75;go_wp2
 go_region
 all_goals (go_wp2; go_ret; exact ⟨rfl, hA.drew, Below.drew (Below.refl B w), (Lib.OthersKept.refl _ _ w).drew⟩)
theorem bld_String (T B b : Nat) (l : List UInt8) (w : World) (h : Bld T B b l w) (hBw : B ≤ w.heap.size) :
  Calls Tryz.prog 75 #[.pointer (some ⟨b, 0, none⟩)] w fun e w' => e = .returned (.string ⟨l.toArray⟩) ∧ (Bld T B b l w' ∧ Below B w w' ∧ Kept b w w') := by
 cases l with
 | cons x r => exact bld_String_some T B b (x :: r) w h (by simp)
 | nil =>
  obtain ⟨p, hp, hA⟩ : ∃ p, (p = .pointer none ∨ p = .pointer (some ⟨b, 0, none⟩)) ∧ Lib.BuilderAtF T 5 B b p [] w := by
   rcases h with h | h
   ·exact ⟨_, .inl rfl, h⟩
   ·exact ⟨_, .inr rfl, h⟩
  have fin : ∀ (e : Ending) (w' : World), (e = .returned (.string ⟨#[]⟩) ∧ (Lib.BuilderAtF T 5 B b p [] w' ∧ Below B w w' ∧ Kept b w w')) -> e = .returned (.string ⟨#[]⟩) ∧ (Bld T B b [] w' ∧ Below B w w' ∧ Kept b w w') := by
   rintro e w' ⟨he, hk, hb, ho⟩;rcases hp with rfl | rfl
   ·exact ⟨he, .inl hk, hb, ho⟩
   ·exact ⟨he, .inr hk, hb, ho⟩
  have hA' := hA;obtain ⟨hB, v, hbk, hown, hne⟩ := hA;rcases hown.2 with ⟨rfl, _⟩ | ⟨g, cap, cur, fz, rfl, hbg, hg, _, _, _, _, _⟩
  ·exact (bld_String_nil T B b p w hbk hA').mono fin
  ·by_cases hc0 : cap = 0
   ·subst hc0;exact (bld_String_noroom T B b g p cur w hBw hbk fz hg hA').mono fin
   ·exact (bld_String_room T B b g cap p w hc0 hbk hA').mono fin
end
section
open Go.RowKit
theorem block_of_add (a : Addr) (n : Nat) : (a.add n).block = a.block := by unfold Addr.add; split <;> rfl
theorem add_of_add (a : Addr) (i j : Nat) : (a.add i).add j = a.add (i + j) := by
 unfold Addr.add
 by_cases hi : i = 0 <;> by_cases hj : j = 0 <;> simp [hi, hj, Nat.add_assoc]
theorem add_succ (a : Addr) (j : Nat) : a.add (j + 1) = ⟨a.block, a.off + (j + 1), none⟩ := by unfold Addr.add; simp
def Lie (w : World) (p : Addr) (vs : List Value) : Prop := ∀ j u, vs[j]? = some u -> w.cell? (p.add j) = some u
theorem Lie.same {w w' : World} {p : Addr} {vs : List Value} (h : Lie w p vs) (e : w'.heap[p.block]? = w.heap[p.block]?) : Lie w' p vs := by
 intro j u hu;rw [<- h j u hu];exact World.cell?_of_block (by rw [block_of_add]; exact e)
theorem Lie.below {B : Nat} {w w' : World} {p : Addr} {vs : List Value} (h : Lie w p vs) (hb : Below B w w') (hp : p.block < B) : Lie w' p vs := h.same (hb.block _ hp)
theorem Lie.fst {w : World} {p : Addr} {v : Value} {vs : List Value} (h : Lie w p (v :: vs)) : w.cell? p = some v := by
 have := h 0 v rfl;simpa [Addr.add] using this
theorem Lie.nth {w : World} {p : Addr} {vs : List Value} (h : Lie w p vs) (j : Nat) (u : Value) (hu : vs[j + 1]? = some u) : w.cell? ⟨p.block, p.off + (j + 1), none⟩ = some u := by
 rw [<- add_succ]; exact h _ _ hu
def Row {α : Type} (size : Nat) (E : World -> (Nat -> Prop) -> List Value -> α -> Prop) (w : World) (S : Nat -> Prop) (v : Value) (l : List α) : Prop :=
 ∃ A c, v = .slice A l.length c ∧ l.length ≤ 9223372036854775807 ∧ (0 < l.length -> ∃ ad, A = some ad ∧ S ad.block) ∧
  ∀ i x, l[i]? = some x -> ∃ ad vs, A = some ad ∧ Lie w (ad.add (i * size)) vs ∧ E w S vs x
theorem Row.keep {α : Type} {size : Nat} {E : World -> (Nat -> Prop) -> List Value -> α -> Prop} {w w' : World} {S : Nat -> Prop} {v : Value} {l : List α} (h : Row size E w S v l) (hb : ∀ k, S k -> w'.heap[k]? = w.heap[k]?) (hE : ∀ vs x, E w S vs x -> E w' S vs x) : Row size E w' S v l := by
 obtain ⟨A, c, hv, hl, h0, h1⟩ := h;refine ⟨A, c, hv, hl, h0, fun i x hx => ?_⟩;obtain ⟨ad, vs, hA, hlie, hE'⟩ := h1 i x hx;obtain ⟨ad', hA', hb'⟩ := h0 (by have := (List.getElem?_eq_some_iff.1 hx).1; omega);rw [hA] at hA'
 cases hA'
 exact ⟨ad, vs, hA, hlie.same (by rw [block_of_add]; exact hb _ hb'), hE _ _ hE'⟩
theorem Row.mono {α : Type} {size : Nat} {E : World -> (Nat -> Prop) -> List Value -> α -> Prop} {w : World} {S S' : Nat -> Prop} {v : Value} {l : List α} (h : Row size E w S v l) (hB : ∀ k, S k -> S' k) (hE : ∀ vs x, E w S vs x -> E w S' vs x) : Row size E w S' v l := by
 obtain ⟨A, c, hv, hl, h0, h1⟩ := h;refine ⟨A, c, hv, hl, fun h => ?_, fun i x hx => ?_⟩
 ·obtain ⟨ad, e, hb⟩ := h0 h;exact ⟨ad, e, hB _ hb⟩
 ·obtain ⟨ad, vs, hA, hlie, hE'⟩ := h1 i x hx;exact ⟨ad, vs, hA, hlie, hE _ _ hE'⟩
theorem flatten_get {α : Type} (size : Nat) : ∀ (css : List (List α)) (i j : Nat) (c : List α), (∀ d ∈ css, List.length d = size) -> css[i]? = some c -> j < size -> css.flatten[i * size + j]? = c[j]?
 | [], i, j, c, _, h, _ => by simp at h
 | d :: r, 0, j, c, hc, h, hj => by
  simp at h; subst h;have := hc d (by simp);rw [List.flatten_cons, List.getElem?_append_left (by omega)]; simp
 | d :: r, i + 1, j, c, hc, h, hj => by
  have hd := hc d (by simp);rw [List.flatten_cons, List.getElem?_append_right (by rw [hd, Nat.add_mul]; omega), hd];rw [show (i + 1) * size + j - size = i * size + j from by rw [Nat.add_mul]; omega];exact flatten_get size r i j c (fun c h => hc c (by simp [h])) (by simpa using h) hj
theorem Row.of_own {α : Type} {size : Nat} {E : World -> (Nat -> Prop) -> List Value -> α -> Prop} {w : World} {S : Nat -> Prop} {base : Nat} {e : TypeId} {v : Value} {l : List α} (css : List (List Value)) (h : w.ownsRow base e size v l.length css.flatten)
  (hS : ∀ k, v.ownBlock = some k -> S k) (hl : l.length ≤ 9223372036854775807) (hc : ∀ c ∈ css, c.length = size) (hcl : css.length = l.length) (hE : ∀ (i : Nat) (c : List Value) (x : α), css[i]? = some c -> l[i]? = some x -> E w S c x) : Row size E w S v l := by
 rcases h.2 with ⟨hv, h0⟩ | ⟨g, cap, cur, hv, _, hh, _⟩
 ·refine ⟨none, 0, by rw [h0]; exact hv, hl, fun h => by omega, fun i x hx => ?_⟩;have := (List.getElem?_eq_some_iff.1 hx).1;omega
 ·subst hv;refine ⟨some ⟨g, 0, none⟩, cap, rfl, hl, fun _ => ⟨_, rfl, hS g rfl⟩, fun i x hx => ?_⟩;have hi := (List.getElem?_eq_some_iff.1 hx).1;have hci : css[i]? = some (css[i]'(by omega)) := List.getElem?_eq_getElem (by omega);refine ⟨_, _, rfl, fun j u hu => ?_, hE i _ x hci hx⟩;have hjs : j < size := by
   have := (List.getElem?_eq_some_iff.1 hu).1
   rwa [hc _ (List.mem_of_getElem? hci)] at this
  rw [add_of_add];exact h.cells (g := g) rfl _ u (by rw [flatten_get size css i j _ hc hci hjs]; exact hu)
def Counted (a most r : Int) (s : Nat) : Prop := a ≤ r ∧ r ≤ 4611686018427387904 ∧ (r ≤ most -> r = a + s) ∧ (most < a -> r = a)
theorem Counted.refl {a most : Int} (h : a ≤ 4611686018427387904) : Counted a most a 0 := ⟨Int.le_refl _, h, fun _ => by omega, fun _ => rfl⟩
theorem Counted.trans {a most r r' : Int} {s s' : Nat} (h : Counted a most r s) (k : Counted r most r' s') : Counted a most r' (s + s') := by
 obtain ⟨h1, h2, h3, h4⟩ := h;obtain ⟨k1, k2, k3, k4⟩ := k;refine ⟨by omega, k2, fun h => ?_, fun h => ?_⟩
 ·have := h3 (by omega); have := k3 h; omega
 ·have e := h4 h; subst e; exact k4 h
theorem Counted.step {a most : Int} (x y : Nat) (ha : a ≤ most) (hm : most ≤ 1000000) (hx : x ≤ 9223372036854775807) (hy : y ≤ 9223372036854775807) : Counted a most (a + (1 + (x : Int) / 8 + (y : Int) / 8)) (1 + x / 8 + y / 8) :=
 ⟨by omega, by omega, fun _ => by omega, fun h => by omega⟩
theorem row_drewN {B : Nat} {a w : World} (h : Below B a w) (n : Nat) : Below B a (w.drewN n) := ⟨h.os, h.tape, h.output, h.size, h.block⟩
def Own (w : World) (v : Value) (wr : World) (k : Nat) : Prop := w.heap.size ≤ k ∧ k < wr.heap.size ∧ v.ownBlock ≠ some k
def Box (w : World) (g : Nat) (t : TypeId) (cs : Array Value) : Prop := w.heap[g]? = some (.cells cs t (0, 0))
theorem Box.cell {w : World} {g : Nat} {t : TypeId} {cs : Array Value} (h : Box w g t cs) (i : Nat) : w.cell? ⟨g, i, none⟩ = cs[i]? := (Lib.cell_of_heap h) i
theorem Box.free {w : World} {g : Nat} {t : TypeId} {cs : Array Value} (h : Box w g t cs) (i : Nat) : w.frozen? ⟨g, i, none⟩ = false := Lib.frozen_of_heap h i
theorem Box.lt {w : World} {g : Nat} {t : TypeId} {cs : Array Value} (h : Box w g t cs) : g < w.heap.size := (gSq.1 h).1
theorem Box.new (w : World) (t : TypeId) (cs : Array Value) : Box (w.alloc (.cells cs t)) w.heap.size t cs := heap_alloc_new w _
theorem Box.set {w : World} {g : Nat} {t : TypeId} {cs : Array Value} (h : Box w g t cs) (i : Nat) (u : Value) : Box (w.setCell ⟨g, i, none⟩ u) g t (cs.setIfInBounds i u) := by
 unfold Box at h ⊢;simp [World.setCell, Array.getElem?_modify, h]
theorem Box.below {B : Nat} {w w' : World} {g : Nat} {t : TypeId} {cs : Array Value} (h : Box w g t cs) (hb : Below B w w') (hg : g < B) : Box w' g t cs := (hb.block g hg).trans h
theorem box_lie {w : World} {g : Nat} {t : TypeId} {cs : Array Value} (h : Box w g t cs) (j : Nat) (u : Value) (hu : cs[j]? = some u) : w.cell? ((⟨g, 0, none⟩ : Addr).add j) = some u := by
 have e : (⟨g, 0, none⟩ : Addr).add j = ⟨g, j, none⟩ := by unfold Addr.add; split <;> simp_all
 rw [e, h.cell j, hu]
theorem size_setCell (w : World) (a : Addr) (v : Value) : (w.setCell a v).heap.size = w.heap.size := by simp [World.setCell]
end
section
open Go.RowKit
def u8c (b : UInt8) : Value := .int .u8 (b.toNat : Int)
theorem acc_byte : (Tryz.prog.info? 5).map (fun i => (i.zero, i.size, i.bytes)) = some (some (.int .u8 0), 1, 1) := by kernel_rfl
def Acc (w : World) (v : Value) (acc : List UInt8) (wr : World) : Prop := wr.ownsRow w.heap.size 5 1 v acc.length (acc.map u8c) ∧ Below w.heap.size w wr
theorem Acc.start (w : World) : Acc w (.slice none 0 0) [] w := ⟨World.ownsRow_nil _ _ _ _, Below.refl _ _⟩
theorem Acc.slice {w wr : World} {v : Value} {acc : List UInt8} (h : Acc w v acc wr) : ∃ A m c, v = .slice A m c := by
 rcases h.1.2 with ⟨rfl, _⟩ | ⟨g, cap, cur, rfl, _⟩
 ·exact ⟨_, _, _, rfl⟩
 ·exact ⟨_, _, _, rfl⟩
theorem Acc.below {w wr : World} {v : Value} {acc : List UInt8} (h : Acc w v acc wr) : Below w.heap.size w wr := h.2
theorem Acc.drewN {w wr : World} {v : Value} {acc : List UInt8} (h : Acc w v acc wr) (n : Nat) : Acc w v acc (wr.drewN n) := ⟨h.1, ⟨h.2.os, h.2.tape, h.2.output, h.2.size, h.2.block⟩⟩
theorem Acc.drew {w wr : World} {v : Value} {acc : List UInt8} (h : Acc w v acc wr) : Acc w v acc wr.drew := ⟨h.1, h.2.drew⟩
theorem Acc.later {w wr w' : World} {v : Value} {acc : List UInt8} (h : Acc w v acc wr) (hb : Below wr.heap.size wr w') : Acc w v acc w' :=
 ⟨h.1.kept (row := none) ⟨hb.os, hb.tape, hb.output, hb.size, fun i hi _ => hb.block i hi⟩ (by
  cases hv : v.ownBlock with
  | none => exact .inl rfl
  | some k => exact .inr (by simp)), h.2.trans (hb.mono h.2.size)⟩
theorem Acc.alloc {w wr : World} {v : Value} {acc : List UInt8} (h : Acc w v acc wr) (o : Obj) : Acc w v acc (wr.alloc o) := ⟨h.1.alloc o, h.2.alloc h.2.size o⟩
theorem Acc.step {w wr W1 : World} {v v' : Value} {acc xs : List UInt8} {n : Nat} {vs : List Value} (h : Acc w v acc wr) (hg : wr.grownBy W1 v.ownBlock) (ho : W1.ownsRow w.heap.size 5 1 v' n vs) (hn : n = (acc ++ xs).length) (hv : vs = (acc ++ xs).map u8c) : Acc w v' (acc ++ xs) W1 := by
 subst hn hv;exact ⟨ho, h.2.grown hg h.2.size (fun k hk => (h.1.lt k hk).1)⟩
theorem Acc.string {w wr : World} {v : Value} {acc : List UInt8} (h : Acc w v acc wr) : (convert 22 9 v).run Tryz.prog wr = .ok (.string ⟨acc.toArray⟩) wr := by
 rcases h.1.2 with ⟨rfl, hx⟩ | ⟨g, cap, cur, rfl, _⟩
 ·have : acc = [] := List.eq_nil_of_length_eq_zero hx;subst this;exact run_convert_bytes_nil wr 22 5 Tryz.underlying22 Tryz.underlying5 0 0 9 Tryz.underlying9
 ·refine run_convert_bytes_back (P := Tryz.prog) wr 22 9 5 ⟨g, 0, none⟩ cap acc Tryz.underlying22 Tryz.underlying5 Tryz.underlying9 ?_;intro j hj;exact h.1.cells (g := g) rfl j _ (by rw [List.getElem?_map, List.getElem?_eq_getElem hj]; rfl)
theorem one_cell_u8 (l : List UInt8) : ∀ u ∈ l.map u8c, u.oneCell' = true := by
 intro u hu;obtain ⟨b, _, rfl⟩ := List.mem_map.1 hu;rfl
def StrR (w : World) (l : List UInt8) (e : Ending) (w' : World) : Prop := e = .returned (.string ⟨l.toArray⟩) ∧ Below w.heap.size w w'
def lowerL (l : List UInt8) : List UInt8 := l.map small
end
section
open Go.RowKit
theorem set_blk {w : World} {B : Nat} {cs : Array Value} {t : TypeId} {fr : Nat × Nat} (h : w.heap[B]? = some (.cells cs t fr)) (i : Nat) (u : Value) : (w.setCell ⟨B, i, none⟩ u).heap[B]? = some (.cells (cs.setIfInBounds i u) t fr) := by
 simp [World.setCell, Array.getElem?_modify, h]
def LowW (w : World) (l : List UInt8) (i : Value) (wr : World) : Prop :=
 ∃ (k : Nat) (C : Array Value), i = .int .i64 k ∧ k ≤ l.length ∧ wr.heap[w.heap.size]? = some (.cells C 5 (C.size, C.size + 1)) ∧ l.length ≤ C.size ∧ (∀ j (hj : j < l.length), C[j]? = some (if j < k then u8c (small l[j]) else u8c l[j])) ∧ Below w.heap.size w wr
theorem lower_any (s : ByteArray) (w : World) (hs : s.size ≤ 1099511627776) : Calls Tryz.prog 97 #[.string s] w (StrR w (lowerL s.data.toList)) := by
 have hsl : s.data.toList.length = s.size := lTq;have HSL := hdn hsl;clear hsl;have hcb := fun W => run_bytes_of_string (P := Tryz.prog) W 9 22 5 s Tryz.underlying9 Tryz.underlying22 Tryz.underlying5;have hsm : ∀ (b : UInt8) (w : World), Calls Tryz.prog 144 #[.int .u8 (b.toNat : Int)] w fun e w' => e = .returned (.int .u8 ((small b).toNat : Int)) ∧ w = w' := small_any;have HSM := hdn hsm;clear hsm;go_enter Tryz.func97, Tryz.ntmps97;go_wp2_with fail
 go_loopw [10] (fun i wr => LowW w s.data.toList i wr) (fun i _ => s.size - (intOf i).toNat)
 case atStart =>
  refine ⟨0, bytesRow s (grownCap w s.size 0 5), rfl, Nat.zero_le _, heap_alloc_new w _, ?_, ?_, (Below.refl _ w).alloc (Nat.le_refl _) _ |>.drew⟩
  ·rw [HSL.out]; unfold bytesRow; rw [Array.size_append, Array.size_map]; exact Nat.le_add_right _ _
  ·intro j hj;rw [if_neg (by omega)];exact bytesRow_at s _ j (by rw [lTq] at hj; exact hj)
 case round =>
  obtain ⟨k, C, rfl, hk, hb, hC, hcs, hbl⟩ := hrel;rw [HSL.out] at hk hC
  by_cases hlt : k < s.size
  ·have hlt' : k < s.data.toList.length := by rw [HSL.out]; exact hlt
   obtain ⟨x, hx⟩ : ∃ x, s.data.toList[k] = x := ⟨_, rfl⟩;have hki : (k : Int) < (s.size : Int) := by omega
   have c1 : wr.cell? ⟨w.heap.size, k, none⟩ = some (.int .u8 (x.toNat : Int)) := by
    rw [cell_of_row wr _ k C _ _ hb, hcs k hlt', if_neg (by omega), hx];rfl
   have c2 : wr.frozen? ⟨w.heap.size, k, none⟩ = false := by
    have h1 : ¬ C.size ≤ k := by omega
    simp [World.frozen?, hb, h1]
   have HB := hdn hb;have HCS := hdn hcs;have HBL := hdn hbl;have HX := hdn hx;clear hb hcs hbl hx;go_wp2_with fail;refine cMq (HSM.out x _) ?_;rintro e w' ⟨rfl, rfl⟩;go_wp2
   go_roundw
   case rel =>
    refine ⟨k + 1, C.setIfInBounds k (.int .u8 ((small x).toNat : Int)), by go_num, by rw [HSL.out]; omega, ?_, by rw [HSL.out]; simp; exact hC, ?_, HBL.out.setCell (Nat.le_refl _) _⟩
    ·have h := set_blk HB.out k (.int .u8 ((small x).toNat : Int));simpa using h
    ·intro j hj;have hjs : j < s.size := by rw [HSL.out] at hj; exact hj
     by_cases hjk : j = k
     ·subst hjk;rw [Array.getElem?_setIfInBounds_self_of_lt (by omega), if_pos (by omega), HX.out];rfl
     ·rw [Array.getElem?_setIfInBounds_ne (by omega), HCS.out j hj]
      by_cases hjl : j < k
      ·rw [if_pos hjl, if_pos (by omega)]
      ·rw [if_neg hjl, if_neg (by omega)]
   case measure => simp [intOf]; omega
  ·obtain rfl : k = s.size := by omega
   have hcv : ∀ c, (convert 22 9 (.slice (some ⟨w.heap.size, 0, none⟩) s.size c)).run Tryz.prog wr = .ok (.string ⟨(lowerL s.data.toList).toArray⟩) wr := by
    intro c;have h := run_convert_bytes_back (P := Tryz.prog) wr 22 9 5 ⟨w.heap.size, 0, none⟩ c (lowerL s.data.toList) Tryz.underlying22 Tryz.underlying5 Tryz.underlying9 (fun j hj => by
     have hj' : j < s.data.toList.length := by unfold lowerL at hj; rw [List.length_map] at hj; exact hj
     have e : (⟨w.heap.size, 0, none⟩ : Addr).add j = ⟨w.heap.size, j, none⟩ := by unfold Addr.add; split <;> simp_all
     rw [e, cell_of_row wr _ j C _ _ hb, hcs j hj', if_pos (by rw [HSL.out] at hj'; exact hj')];simp only [lowerL, List.getElem_map];rfl)
    have e : (lowerL s.data.toList).length = s.size := by unfold lowerL; rw [List.length_map, HSL.out]
    rw [e] at h;exact h
   have HBL := hdn hbl;clear hb hcs hbl;go_wp2;go_ret;exact ⟨rfl, HBL.out⟩
end
section
open Go.RowKit
theorem run_acc {w wr : World} {v : Value} {acc : List UInt8} (h : Acc w v acc wr) (ty : TypeId) (ad : Addr) (m c : Nat) (xs : List UInt8) (hm : m = xs.length) (hc : ∀ j u, (xs.map u8c)[j]? = some u -> wr.cell? (ad.add j) = some u) (hlen : acc.length + xs.length ≤ 70368744177664) :
  ∃ v' w1, (Builtin.append_ #[22, 22] ty #[v, .slice (some ad) m c]).run Tryz.prog wr = .ok v' w1 ∧ Acc w v' (acc ++ xs) w1 := by
 obtain ⟨i0, hi, hz0, hz1, hz2⟩ := info_parts acc_byte;obtain ⟨v', w1, hr, h2, h3, _, _⟩ := run_append_own_at (P := Tryz.prog) wr w.heap.size 22 ty 5 i0 _ 1 1 Tryz.underlying22 hi hz0 hz1 hz2 rfl (by decide) v acc.length (acc.map u8c) h.1 ad m c (xs.map u8c) (by rw [List.length_map]; omega) hc (one_cell_u8 xs) (by unfold maxLen; omega) (by omega) h.2.size;exact ⟨v', w1, hr, h.step h3 h2 (by rw [List.length_append]; omega) (by rw [List.map_append])⟩
theorem wpList_acc {w wr : World} {ops : Array Oper} {rest : List Oper} {o : Oper} {a : Act} {Q : Exit -> Act -> World -> Prop} (hgd : o.guard = none) (s x : Operand)
  (ho : o.op = .call { callee := .builtin .append, args := #[s, x], argTypes := #[22, 22] }) (v : Value) (acc : List UInt8) (hs : a.eval s = v) (hacc : Acc w v acc wr)
  (ad : Addr) (m c : Nat) (xs : List UInt8) (hx : a.eval x = .slice (some ad) m c) (hm : m = xs.length) (hc : ∀ j u, (xs.map u8c)[j]? = some u -> wr.cell? (ad.add j) = some u) (hlen : acc.length + xs.length ≤ 70368744177664)
  (h : ∀ v' w1, Acc w v' (acc ++ xs) w1 -> wpList Tryz.prog ops Q rest (a.put o.dst v') w1) : wpList Tryz.prog ops Q (o :: rest) a wr := by
 refine wpList_plain hgd fun K hK => ?_;obtain ⟨v', w1, hr, h2⟩ := run_acc hacc o.type ad m c xs hm hc hlen;unfold Oper.wp execOp;simp only [ho, resolve, invoke, builtin, Sem.run_bind, Sem.run_pure, Result.andThen_ok, List.map_toArray, List.map_cons, List.map_nil, hs, hx, hr];exact hK _ _ (h v' w1 h2)
theorem one_new (w : World) (x : UInt8) : ∀ j u, ([x].map u8c)[j]? = some u -> (w.alloc (.cells #[.int .u8 (x.toNat : Int)] 5)).cell? ((⟨w.heap.size, 0, none⟩ : Addr).add j) = some u := cell_one_new w (u8c x) 5
end
