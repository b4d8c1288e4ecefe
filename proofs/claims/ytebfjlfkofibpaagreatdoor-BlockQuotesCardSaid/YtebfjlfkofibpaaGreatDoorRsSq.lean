/- A label's words with a blank between each two, plainly. -/
import Derived.Test.YtebfjlfkofibpaaGreatDoorRsTurn
import Derived.Test.YtebfjlfkofibpaaGreatDoorRsJoin
import Derived.Lib.FieldsP
import Derived.Lib.TrimAscii
import Derived.Laws.OwnMore
import Derived.Deep.RegionHeld3
import Derived.WalkMore
import Derived.Maps.OwnOps
import Derived.Maps.OwnSet
namespace Go.Proofs.YtebfjlfkofibpaaGreatDoor
set_option maxHeartbeats 4000000
set_option maxRecDepth 100000
section
open Go.RowKit
def sqF : List UInt8 -> List UInt8 -> Bool -> List UInt8
 | [], acc, _ => acc
 | c :: l, acc, g => if ws3 c then sqF l acc true else sqF l ((if g && !acc.isEmpty then acc ++ [32] else acc) ++ [c]) false
def sqL (l : List UInt8) : List UInt8 := sqF l [] true
def wsN (r : Nat) : Bool := r == 32 || r == 9 || r == 10
theorem sqF_none (u : List UInt8) : ∀ (l acc : List UInt8), (∀ c ∈ u, ws3 c = false) -> acc ≠ [] -> sqF (u ++ l) acc false = sqF l (acc ++ u) false := by
 induction u with
 | nil => intro l acc _ _; simp
 | cons c u ih =>
  intro l acc h ha;rw [List.cons_append, sqF, if_neg (by rw [h c (by simp)]; exact Bool.false_ne_true), Bool.false_and, if_neg Bool.false_ne_true, ih l _ (fun x hx => h x (List.mem_cons_of_mem _ hx)) (by simp)];simp
theorem sqF_word (u : List UInt8) (l acc : List UInt8) (h : ∀ c ∈ u, ws3 c = false) (hu : u ≠ []) : sqF (u ++ l) acc true = sqF l ((if acc = [] then [] else acc ++ [32]) ++ u) false := by
 cases u with
 | nil => exact absurd rfl hu
 | cons c u =>
  rw [List.cons_append, sqF, if_neg (by rw [h c (by simp)]; exact Bool.false_ne_true)];rw [sqF_none u l _ (fun x hx => h x (List.mem_cons_of_mem _ hx)) (by simp)]
  cases acc <;> simp
theorem sqF_len : ∀ (l acc : List UInt8) (g : Bool), (sqF l acc g).length ≤ acc.length + l.length + (if g then 1 else 0)
 | [], acc, g => by simp [sqF]
 | c :: l, acc, g => by
  rw [sqF];split
  ·have := sqF_len l acc true;simp at this ⊢;omega
  ·have := sqF_len l ((if g && !acc.isEmpty then acc ++ [32] else acc) ++ [c]) false;rw [List.length_append, List.length_singleton] at this;rw [List.length_cons];have h2 : (if g && !acc.isEmpty then acc ++ [32] else acc).length ≤ acc.length + (if g then 1 else 0) := by
    cases g
    ·simp
    ·cases acc <;> simp
   rw [if_neg Bool.false_ne_true] at this;omega
theorem joinL_last (xs : List ByteArray) (y z : ByteArray) (u : List UInt8) (h : z.data.toList = y.data.toList ++ u) : joinL (xs ++ [z]) = joinL (xs ++ [y]) ++ u := by
 by_cases hx : xs = []
 ·subst hx; simp [joinL, h]
 ·rw [joinL_snoc _ _ hx, joinL_snoc _ _ hx, h]; simp
theorem joinL_nil (xs : List ByteArray) (h : ∀ x ∈ xs, x.data.toList ≠ []) : joinL xs = [] ↔ xs = [] := by
 cases xs with
 | nil => simp [joinL]
 | cons x r => simp [joinL, h x (by simp)]
theorem joinL_count (xs : List ByteArray) (h : xs ≠ []) : (joinL xs).length + 1 = sumZ xs + xs.length := by
 cases xs with
 | nil => exact absurd rfl h
 | cons x r =>
  have h : ∀ r : List ByteArray, (r.flatMap fun y => (32 : UInt8) :: y.data.toList).length = sumZ r + r.length := by
   intro r
   induction r with
   | nil => rfl
   | cons y r ih =>
    rw [List.flatMap_cons, List.length_append, ih];have : y.data.toList.length = y.size := lTq;simp [sumZ] at this ⊢;omega
  have hx : x.data.toList.length = x.size := lTq;simp only [joinL, List.length_append, h, hx];simp [sumZ];omega
def pieces (s : ByteArray) (SP : List (Nat × Nat)) : List ByteArray := SP.map fun x => s.extract x.1 x.2
theorem ext_toList (s : ByteArray) (a b : Nat) : (s.extract a b).data.toList = (s.data.toList.drop a).take (b - a) := Lib.extract_data s a b
theorem ext_grow (s : ByteArray) (a b k : Nat) (h : a ≤ b) : (s.extract a (b + k)).data.toList = (s.extract a b).data.toList ++ (s.data.toList.drop b).take k := by
 rw [ext_toList, ext_toList, show b + k - a = (b - a) + k by omega, List.take_add, List.drop_drop, show a + (b - a) = b by omega]
theorem rune_white (s : ByteArray) (pos : Nat) (h : pos < s.size) : 1 ≤ (Utf8.decode s pos).2 ∧ pos + (Utf8.decode s pos).2 ≤ s.size ∧ ((wsN (Utf8.decode s pos).1 = true ∧ (Utf8.decode s pos).2 = 1 ∧ ∃ c, s.data.toList[pos]? = some c ∧ ws3 c = true) ∨ (wsN (Utf8.decode s pos).1 = false ∧ ∀ c ∈ (s.data.toList.drop pos).take (Utf8.decode s pos).2, ws3 c = false)) := by
 have hl : s.data.toList.length = s.size := lTq;have hne : s.data.toList.drop pos ≠ [] := by intro e; have := congrArg List.length e; rw [List.length_drop, hl] at this; simp at this; omega
 have hdw := Lib.decodeL_width (s.data.toList.drop pos);have hdz := Lib.decodeL_le _ hne;rw [List.length_drop, hl] at hdz;have hdl : Lib.decodeL (s.data.toList.drop pos) = Utf8.decode s pos := Lib.decodeL_drop s pos;rw [hdl] at hdw hdz;refine ⟨hdw, by omega, ?_⟩;have hdr : s.data.toList.drop pos = s[pos] :: s.data.toList.drop (pos + 1) := by
  rw [List.drop_eq_getElem_cons (by omega)]; rfl
 by_cases ha : (s[pos]'h).toNat < 128
 ·have hd : Utf8.decode s pos = ((s[pos]'h).toNat, 1) := by rw [<- hdl, hdr, Lib.decodeL_ascii _ _ ha]
  rw [hd];have hw : wsN (s[pos]'h).toNat = ws3 s[pos] := by
   unfold wsN ws3;have e : ∀ (c n : UInt8), (c.toNat == n.toNat) = (c == n) := fun c n => by rw [Bool.eq_iff_iff, beq_iff_eq, beq_iff_eq]; exact ⟨fun e => UInt8.toNat_inj.1 e, fun e => by rw [e]⟩
   rw [<- e _ 32, <- e _ 9, <- e _ 10];rfl
  simp only;rw [hw]
  cases hq : ws3 s[pos] with
  | true => exact .inl ⟨by first | rfl | trivial, by first | rfl | trivial, s[pos], get_list s pos h, hq⟩
  | false => exact .inr ⟨by first | rfl | trivial, by rw [hdr]; simpa using hq⟩
 ·have hh := decode_high s pos h (by omega);refine .inr ⟨by unfold wsN; simp; omega, ?_⟩;intro c hc;obtain ⟨j, hj, hjc⟩ := List.mem_iff_getElem.1 hc;rw [List.length_take] at hj;obtain ⟨hk, hk2⟩ := decode_tail s pos h (by omega) j (by omega);have : c = s[pos + j] := by rw [<- hjc, List.getElem_take, List.getElem_drop]; rfl
  rw [this];unfold ws3;simp only [Bool.or_eq_false_iff, beq_eq_false_iff_ne];refine ⟨⟨?_, ?_⟩, ?_⟩ <;> (intro e; rw [e] at hk2; revert hk2; decide)
theorem spans_sq (s : ByteArray) : ∀ (f pos : Nat) (st : Option Nat) (SP : List (Nat × Nat)), s.size ≤ pos + f -> pos ≤ s.size -> (∀ x ∈ SP, x.1 < x.2 ∧ x.2 ≤ s.size) -> (∀ a, st = some a -> a < pos) ->
  (∀ x ∈ Lib.closeSpans s (Lib.spansFromP wsN s f pos st SP), x.1 < x.2 ∧ x.2 ≤ s.size) ∧ joinL (pieces s (Lib.closeSpans s (Lib.spansFromP wsN s f pos st SP))) = (match st with
   | none => sqF (s.data.toList.drop pos) (joinL (pieces s SP)) true
   | some a => sqF (s.data.toList.drop pos) (joinL (pieces s (SP ++ [(a, pos)]))) false) := by
 have hl : s.data.toList.length = s.size := lTq;have hend : ∀ (f pos : Nat) (st : Option Nat) (SP : List (Nat × Nat)), ¬ pos < s.size -> pos ≤ s.size -> (∀ x ∈ SP, x.1 < x.2 ∧ x.2 ≤ s.size) -> (∀ a, st = some a -> a < pos) ->
   (∀ x ∈ Lib.closeSpans s (SP, st), x.1 < x.2 ∧ x.2 ≤ s.size) ∧ joinL (pieces s (Lib.closeSpans s (SP, st))) = (match st with
   | none => sqF (s.data.toList.drop pos) (joinL (pieces s SP)) true
   | some a => sqF (s.data.toList.drop pos) (joinL (pieces s (SP ++ [(a, pos)]))) false) := by
  intro f pos st SP h1 h2 hSP hst;obtain rfl : pos = s.size := by omega
  rw [List.drop_eq_nil_of_le (by omega)]
  cases st with
  | none => exact ⟨hSP, rfl⟩
  | some a =>
   refine ⟨?_, rfl⟩;intro x hx;rcases List.mem_append.1 hx with hx | hx
   ·exact hSP x hx
   ·rw [List.mem_singleton] at hx;subst hx;exact ⟨hst a rfl, Nat.le_refl _⟩
 have hpn : ∀ (SP : List (Nat × Nat)), (∀ x ∈ SP, x.1 < x.2 ∧ x.2 ≤ s.size) -> ∀ x ∈ pieces s SP, x.data.toList ≠ [] := by
  intro SP hSP x hx;obtain ⟨y, hy, rfl⟩ := List.mem_map.1 hx;have := hSP y hy;intro e;have h2 := congrArg List.length e;rw [ext_toList, List.length_take, List.length_drop, hl] at h2;simp at h2;omega
 intro f
 induction f with
 | zero =>
  intro pos st SP h1 h2 hSP hst;exact hend 0 pos st SP (by omega) h2 hSP hst
 | succ f ih =>
  intro pos st SP h1 h2 hSP hst
  by_cases hp : pos < s.size
  ·obtain ⟨hw1, hw2, hc⟩ := rune_white s pos hp;obtain ⟨⟨r, k⟩, hd⟩ : ∃ x, Utf8.decode s pos = x := ⟨_, rfl⟩;rw [hd] at hw1 hw2 hc;simp only at hw1 hw2 hc;rcases hc with ⟨hc, rfl, c, hg, hc3⟩ | ⟨hc, hall⟩
   ·have hdr : s.data.toList.drop pos = c :: s.data.toList.drop (pos + 1) := by
     have hlt : pos < s.data.toList.length := by omega
     rw [List.drop_eq_getElem_cons hlt];rw [List.getElem?_eq_getElem hlt] at hg;rw [Option.some.inj hg]
    cases st with
    | none =>
     rw [show Lib.spansFromP wsN s (f + 1) pos none SP = Lib.spansFromP wsN s f (pos + 1) none SP from (by rw [Lib.spansFromP.eq_def]; simp only; rw [if_pos hp, hd]; simp only; rw [if_pos hc])];have := ih (pos + 1) none SP (by omega) (by omega) hSP (fun _ h => by cases h);refine ⟨this.1, ?_⟩;rw [this.2];simp only;rw [hdr, sqF, if_pos hc3]
    | some a =>
     have hst' := hst a rfl;rw [show Lib.spansFromP wsN s (f + 1) pos (some a) SP = Lib.spansFromP wsN s f (pos + 1) none (SP ++ [(a, pos)]) from (by rw [Lib.spansFromP.eq_def]; simp only; rw [if_pos hp, hd]; simp only; rw [if_pos hc])];have := ih (pos + 1) none (SP ++ [(a, pos)]) (by omega) (by omega) (fun x hx => by
      rcases List.mem_append.1 hx with hx | hx
      ·exact hSP x hx
      ·rw [List.mem_singleton] at hx;subst hx;exact ⟨hst', h2⟩) (fun _ h => by cases h)
     refine ⟨this.1, ?_⟩;rw [this.2];simp only;rw [hdr, sqF, if_pos hc3]
   ·have hdr : s.data.toList.drop pos = (s.data.toList.drop pos).take k ++ s.data.toList.drop (pos + k) := by rw [<- List.drop_drop, List.take_append_drop]
    have hne : (s.data.toList.drop pos).take k ≠ [] := by
     intro e;have := congrArg List.length e;rw [List.length_take, List.length_drop, hl] at this;simp at this;omega
    cases st with
    | some a =>
     have hst' := hst a rfl;rw [show Lib.spansFromP wsN s (f + 1) pos (some a) SP = Lib.spansFromP wsN s f (pos + k) (some a) SP from (by rw [Lib.spansFromP.eq_def]; simp only; rw [if_pos hp, hd]; simp only; rw [if_neg (by rw [hc]; exact Bool.false_ne_true)])];have := ih (pos + k) (some a) SP (by omega) (by omega) hSP (fun b h => by cases h; omega);refine ⟨this.1, ?_⟩;rw [this.2];simp only;have hA : joinL (pieces s (SP ++ [(a, pos)])) ≠ [] := by
      intro e;have h3 := (joinL_nil _ (hpn (SP ++ [(a, pos)]) (fun x hx => by
       rcases List.mem_append.1 hx with hx | hx
       ·exact hSP x hx
       ·rw [List.mem_singleton] at hx;subst hx;exact ⟨hst', h2⟩))).1 e
      simp [pieces] at h3
     have e : sqF (s.data.toList.drop pos) (joinL (pieces s (SP ++ [(a, pos)]))) false = sqF (s.data.toList.drop (pos + k)) (joinL (pieces s (SP ++ [(a, pos)])) ++ (s.data.toList.drop pos).take k) false := by
      conv => lhs; rw [hdr]
      exact sqF_none _ _ _ hall hA
     rw [e]
     congr 1
     unfold pieces;rw [List.map_append, List.map_append];exact joinL_last _ _ _ _ (ext_grow s a pos k (by omega))
    | none =>
     rw [show Lib.spansFromP wsN s (f + 1) pos none SP = Lib.spansFromP wsN s f (pos + k) (some pos) SP from (by rw [Lib.spansFromP.eq_def]; simp only; rw [if_pos hp, hd]; simp only; rw [if_neg (by rw [hc]; exact Bool.false_ne_true)])];have := ih (pos + k) (some pos) SP (by omega) (by omega) hSP (fun b h => by cases h; omega);refine ⟨this.1, ?_⟩;rw [this.2];simp only;have e : sqF (s.data.toList.drop pos) (joinL (pieces s SP)) true = sqF (s.data.toList.drop (pos + k)) ((if joinL (pieces s SP) = [] then [] else joinL (pieces s SP) ++ [32]) ++ (s.data.toList.drop pos).take k) false := by
      conv => lhs; rw [hdr]
      exact sqF_word _ _ _ hall hne
     rw [e]
     congr 1
     have hx : (s.extract pos (pos + k)).data.toList = (s.data.toList.drop pos).take k := by rw [ext_toList, show pos + k - pos = k by omega]
     by_cases hp0 : SP = []
     ·subst hp0;simp [pieces, joinL]
     ·have h4 : pieces s SP ≠ [] := by simp [pieces, hp0]
      have h5 : joinL (pieces s SP) ≠ [] := fun e => h4 ((joinL_nil _ (hpn SP hSP)).1 e);rw [if_neg h5];rw [show pieces s (SP ++ [(pos, pos + k)]) = pieces s SP ++ [s.extract pos (pos + k)] from List.map_append, joinL_snoc _ _ h4, hx];simp
  ·rw [show Lib.spansFromP wsN s (f + 1) pos st SP = (SP, st) from Lib.spansFromP_end wsN s (f + 1) pos st SP hp];exact hend f pos st SP hp h2 hSP hst
theorem fields_sq (s : ByteArray) : joinL (Lib.goFieldsP wsN s) = sqL s.data.toList := by
 have := (spans_sq s s.size 0 none [] (by omega) (Nat.zero_le _) (fun _ h => by cases h) (fun _ h => by cases h)).2;unfold Lib.goFieldsP Lib.spansOfP sqL;rw [List.drop_zero] at this;exact this
theorem fields_le (s : ByteArray) : sumZ (Lib.goFieldsP wsN s) + (Lib.goFieldsP wsN s).length ≤ s.size + 2 := by
 have h1 := fields_sq s;have h2 := sqF_len s.data.toList [] true;have hl : s.data.toList.length = s.size := lTq
 by_cases h : Lib.goFieldsP wsN s = []
 ·rw [h]; simp [sumZ]
 ·have h3 := joinL_count _ h;rw [h1] at h3;unfold sqL at h3;simp at h2;omega
end
section
open Go.RowKit Go.Lib
def normL (l : List UInt8) : List UInt8 := foldL (sqL l)
theorem ws_pred (w : World) : PredAtRunes Tryz.prog 153 #[] wsN w := by
 intro W x hx _;obtain ⟨a, ha⟩ : ∃ a, ((x : Int) == 32) = a := ⟨_, rfl⟩;obtain ⟨b, hb⟩ : ∃ b, ((x : Int) == 9) = b := ⟨_, rfl⟩;obtain ⟨c, hc⟩ : ∃ c, ((x : Int) == 10) = c := ⟨_, rfl⟩;have e : ∀ n : Nat, ((x : Int) == (n : Int)) = (x == n) := fun n => by rw [Bool.eq_iff_iff, beq_iff_eq, beq_iff_eq]; omega
 have hv : wsN x = (a || b || c) := by unfold wsN; rw [<- ha, <- hb, <- hc]; rw [show ((x : Int) == 32) = (x == 32) from e 32, show ((x : Int) == 9) = (x == 9) from e 9, show ((x : Int) == 10) = (x == 10) from e 10]
 have key : Calls Tryz.prog 153 #[.int .i32 (x : Int)] W fun e w' => e = .returned (.bool (wsN x)) ∧ W = w' := by
  rw [hv];clear hv e
  cases a
  ·cases b
   ·go_enter Tryz.func153, Tryz.ntmps153;go_wp2;go_ret;exact ⟨rfl, rfl⟩
   ·go_enter Tryz.func153, Tryz.ntmps153;go_wp2;go_ret;exact ⟨rfl, rfl⟩
  ·go_enter Tryz.func153, Tryz.ntmps153;go_wp2;go_ret;exact ⟨rfl, rfl⟩
 exact key.mono fun e w' ⟨h1, h2⟩ => ⟨h1, 0, h2.symm⟩
theorem norm_any (s : ByteArray) (w : World) (hs : s.size ≤ 900000) : Calls Tryz.prog 107 #[.string s] w (FoldR w (normL s.data.toList)) := by
 have HF := hdn (Tryz.strings_FieldsFunc_runes 153 #[] (enters_of Tryz.func153 (by kernel_rfl) rfl) wsN s w (by omega) (ws_pred w));have hle := fields_le s;have hsq := fields_sq s;obtain ⟨xs, hxs⟩ : ∃ xs, Lib.goFieldsP wsN s = xs := ⟨_, rfl⟩;rw [hxs] at HF hle hsq;obtain ⟨L, hL⟩ : ∃ L, normL s.data.toList = L := ⟨_, rfl⟩;have hjl := joinL_len xs;have HL := hdn (show foldL (joinL xs) = L by rw [hsq]; exact hL);have HJL := hdn hjl;rw [hL];clear hxs hsq hL hjl;go_enter Tryz.func107, Tryz.ntmps107;go_wp2_with fail
 refine cMq HF.out ?_;rintro e w1 ⟨A, rfl, hA, hown, hb1⟩;have hcells : ∀ (j : Nat) x, xs[j]? = some x -> w1.cell? ⟨A, j, none⟩ = some (.string x) := by
  intro j x hx;have hj : j < xs.length := (List.getElem?_eq_some_iff.1 hx).1;rw [hown.cellAt j (by omega), List.getElem?_map, hx];rfl
 have hAl : A < w1.heap.size := by
  rcases hown.2 with ⟨h, _⟩ | ⟨g, cap, cur, h, _, hg, _⟩
  ·cases h
  ·cases h
   exact (gSq.1 hg).1
 have HJ := hdn (join_any xs A xs.length w1 (by omega) (by omega) (Nat.le_refl _) (by omega) hAl hcells);have HB1 := hdn hb1;clear hown hcells hb1;go_wp2_with fail;refine cMq HJ.out ?_;rintro e w2 ⟨rfl, b2⟩;have HB2 := hdn (below_on HB1.out b2);have HFo := hdn (fold_any ⟨(joinL xs).toArray⟩ w2 (by show (joinL xs).toArray.size ≤ _; have := HJL.out; simp; omega));rw [show (⟨(joinL xs).toArray⟩ : ByteArray).data.toList = joinL xs from rfl, HL.out] at HFo;clear b2;go_wp2_with fail;refine cMq HFo.out ?_;rintro e w3 ⟨rfl, b3⟩;have HB3 := hdn (below_on HB2.out b3);clear b3;go_wp2;go_ret
 exact ⟨rfl, HB3.out⟩
end
section
open Go.RowKit
def unescB (s : ByteArray) : ByteArray := ⟨(unescF (s.size + 1) s).toArray⟩
def destN (l : List UInt8) (i : Nat) : Option (Nat × Nat × Nat) :=
 if l[i]? == some 60 then (if (upF l 62 noNlLt l.length (i + 1)).2 then some (i + 1, (upF l 62 noNlLt l.length (i + 1)).1, (upF l 62 noNlLt l.length (i + 1)).1 + 1) else none)
 else match bareF l l.length i 0 with
  | some (j, 0) => if j = i then none else some (i, j, j)
  | _ => none
def destV (s : ByteArray) (i : Nat) : ByteArray × Nat × Bool := match destN s.data.toList i with
 | some (a, b, e) => (unescB (s.extract a b), e, true)
 | none => (⟨#[]⟩, i, false)
def SIB (w : World) (x : ByteArray × Nat × Bool) (e : Ending) (w' : World) : Prop := e = .returned (.tuple #[.string x.1, .int .i64 (x.2.1 : Int), .bool x.2.2]) ∧ Below w.heap.size w w'
theorem below_cur {w a b : World} (h : Below w.heap.size w a) (g : a.grownBy b (some w.heap.size)) : Below w.heap.size w b :=
 ⟨g.os.trans h.os, g.tape.trans h.tape, g.output.trans h.output, Nat.le_trans h.size g.size, fun j hj => (g.block j (Nat.lt_of_lt_of_le hj h.size) (fun e => by have := Option.some.inj e; omega)).trans (h.block j hj)⟩
theorem s3_below {A B C : Prop} (h : A ∧ B ∧ C) : C := h.2.2
theorem unesc_ret (x : ByteArray) (hx : x.size < 4294967281) (X : ByteArray) (hX : unescB x = X) (w : World) : Calls Tryz.prog 89 #[.string x] w fun e w' => e = .returned (.string X) ∧ Below w.heap.size w w' := by
 subst hX;exact unescape_any x w hx
theorem dest_out (s : ByteArray) (i : Nat) (w : World) (_ : s.size < 4294967281) (_ : i ≤ 1099511627776) (h : s.size ≤ i) : Calls Tryz.prog 105 #[.string s, .int .i64 (i : Int)] w (SIB w (⟨#[]⟩, i, false)) := by
 have h1 : (s.size : Int) ≤ (i : Int) := by omega
 go_enter Tryz.func105, Tryz.ntmps105;go_wp2
 go_step3
 go_wp2;rw [Exit.noGoto_ret]
 go_ret3
 exact ⟨rfl, Below.refl _ _⟩
theorem dest_br (s : ByteArray) (i : Nat) (w : World) (hs : s.size < 4294967281) (h60 : s.data.toList[i]? = some 60) : Calls Tryz.prog 105 #[.string s, .int .i64 (i : Int)] w (SIB w (destV s i)) := by
 have hl : s.data.toList.length = s.size := lTq;have hil : i < s.size := by have := (List.getElem?_eq_some_iff.1 h60).1; omega
 have hz1 : ¬ (s.size : Int) ≤ (i : Int) := by omega
 obtain ⟨W, hW⟩ : ∃ W, w.alloc (.cells #[.string s, .int .i64 (i : Int)] 162) = W := ⟨_, rfl⟩;have hbW : Below w.heap.size w W := by rw [<- hW]; exact (Below.refl _ w).alloc (Nat.le_refl _) _
 have hcW : CurAt W w.heap.size s i := by rw [<- hW]; exact heap_alloc_new w _
 have hnc := fun j => cell_of_row W w.heap.size j _ _ _ hcW;have hc0 : W.cell? ⟨w.heap.size, 0, none⟩ = some (.string s) := hnc 0;have hc1 : W.cell? ⟨w.heap.size, 1, none⟩ = some (.int .i64 (i : Int)) := hnc 1;have fz : ∀ j, W.frozen? ⟨w.heap.size, j, none⟩ = false := (fun j => by simp [World.frozen?, show W.heap[w.heap.size]? = _ from hcW]);have HI := hdn (is_any s (i : Int) 60 W (by omega));have hib : isB s.data.toList (i : Int) 60 = true := by unfold isB; rw [decide_eq_true (by omega), Int.toNat_natCast, h60]; rfl
 rw [hib] at HI;obtain ⟨W2, hW2⟩ : ∃ W2, W.setCell ⟨w.heap.size, 1, none⟩ (.int .i64 ((i : Int) + 1)) = W2 := ⟨_, rfl⟩;have hcW2 : CurAt W2 w.heap.size s (i + 1) := by rw [<- hW2]; exact cur_put (j := i + 1) hcW
 have hbW2 : Below w.heap.size w W2 := by rw [<- hW2]; exact hbW.setCell (p := ⟨w.heap.size, 1, none⟩) (Nat.le_refl _) _
 have HW2 := hdn hW2; have HBW2 := hdn hbW2;have HW := hdn hW;have hU := upTo_dest s (i + 1) w.heap.size 62 noNlLt W2 (by omega) (by omega) hcW2 (fun b w' _ => dest1_any b w');obtain ⟨hin1, hin2⟩ := upF_in s.data.toList 62 noNlLt s.size (i + 1) (by omega);have hzW2 : w.heap.size < W2.heap.size := (gSq.1 (show W2.heap[w.heap.size]? = _ from hcW2)).1
 have hn : destN s.data.toList i = if (upF s.data.toList 62 noNlLt s.size (i + 1)).2 then some (i + 1, (upF s.data.toList 62 noNlLt s.size (i + 1)).1, (upF s.data.toList 62 noNlLt s.size (i + 1)).1 + 1) else none := by unfold destN; rw [h60, if_pos (by rfl), hl]
 obtain ⟨⟨j, f⟩, hx⟩ : ∃ x, upF s.data.toList 62 noNlLt s.size (i + 1) = x := ⟨_, rfl⟩;rw [hx] at hU hin1 hin2 hn;simp only at hin1 hin2 hn;have HU := hdn hU;have hj1 : (i : Int) + 1 ≤ (j : Int) := by omega
 have hj2 : (j : Int) ≤ (s.size : Int) := by omega
 cases f with
 | false =>
  have hv : destV s i = (⟨#[]⟩, i, false) := by unfold destV; rw [hn]; rfl
  rw [hv];clear hv hn hib hW hbW hcW hcW2 hbW2 hW2 hl hU hx hin1 hin2;go_enter Tryz.func105, Tryz.ntmps105;go_wp2_with fail
  go_step3
  go_wp2_with fail;rw [HW.out];go_wp2_with fail;refine cMq HI.out ?_;rintro e w1 ⟨rfl, rfl⟩;go_wp2_with fail;rw [HW2.out];refine cMq HU.out ?_;rintro e w2 ⟨rfl, hc2, hg2⟩;have HB2 := hdn (below_cur HBW2.out hg2);clear hc2 hg2;go_wp2;rw [Exit.noGoto_ret]
  go_ret3
  exact ⟨rfl, HB2.out⟩
 | true =>
  have hv : destV s i = (unescB (s.extract (i + 1) j), j + 1, true) := by unfold destV; rw [hn]; rfl
  obtain ⟨x, hxe⟩ : ∃ x : ByteArray, s.extract (i + 1) j = x := ⟨_, rfl⟩;have hxs : x.size = j - (i + 1) := by rw [<- hxe, ByteArray.size_extract]; omega
  rw [hxe] at hv;obtain ⟨X, hX⟩ : ∃ X, unescB x = X := ⟨_, rfl⟩;have HUN := hdn fun w' => unesc_ret x (by omega) X hX w';rw [hX] at hv;rw [hv];have HXE := hdn hxe;clear hv hX hn hib hW hbW hcW hcW2 hbW2 hW2 hl hU hx hin1 hin2 hxs hxe;go_enter Tryz.func105, Tryz.ntmps105;go_wp2_with fail
  go_step3
  go_wp2_with fail;rw [HW.out];go_wp2_with fail;refine cMq HI.out ?_;rintro e w1 ⟨rfl, rfl⟩;go_wp2_with fail;rw [HW2.out];refine cMq HU.out ?_;rintro e w2 ⟨rfl, hc2, hg2⟩;have HB2 := hdn (below_cur HBW2.out hg2)
  have HSI := hdn fun (w' : World) (h : Below w2.heap.size w2 w') => (⟨cell_of_row w' w.heap.size 0 _ _ _ ((h.block _ (Nat.lt_of_lt_of_le hzW2 hg2.size)).trans hc2), cell_of_row w' w.heap.size 1 _ _ _ ((h.block _ (Nat.lt_of_lt_of_le hzW2 hg2.size)).trans hc2), h⟩ : w'.cell? ⟨w.heap.size, 0, none⟩ = some (.string s) ∧ w'.cell? ⟨w.heap.size, 1, none⟩ = some (.int .i64 (j : Int)) ∧ Below w2.heap.size w2 w');clear hc2 hg2;go_wp2_with fail;have HS0 := hdn (HSI.out w2 (Below.refl _ _));have hwi : IntKind.i64.wrap ((i : Int) + 1) = (i : Int) + 1 := IntWalk.i64_in _ (by omega)
  have hwj : IntKind.i64.wrap ((j : Int) + 1) = (j : Int) + 1 := IntWalk.i64_in _ (by omega);have hi0 : (0 : Int) ≤ (i : Int) + 1 := by omega
  go_region_held3 (fun w' => w'.cell? ⟨w.heap.size, 0, none⟩ = some (.string s) ∧ w'.cell? ⟨w.heap.size, 1, none⟩ = some (.int .i64 (j : Int)) ∧ Below w2.heap.size w2 w') (first | (with_reducible assumption) | (with_reducible exact HS0.out) | (with_reducible exact HSI.out _ (Below.refl _ _).drew) | (with_reducible exact HSI.out _ (Below.drew (s3_below (by assumption)))) | (with_reducible exact HSI.out _ (below_on (s3_below (by assumption)) (by assumption)))) (first
   | ((try rw [HXE.out]); (with_reducible refine cMq (HUN.out _) ?_); rintro e w3 ⟨rfl, b3⟩))
  all_goals
   go_wp2_with fail;rw [Exit.noGoto_ret]
   go_ret3
   exact ⟨rfl, below_on HB2.out (s3_below (by assumption))⟩
end
section
open Go.RowKit Go.Maps
def endU (c : UInt8) : UInt8 := if c = 34 then 34 else if c = 39 then 39 else if c = 40 then 41 else 0
def mayT (c b : UInt8) : Bool := (c != 40) || (b != 40)
def titleN (l : List UInt8) (i : Nat) : Option (Nat × Nat × Nat) := match l[i]? with
 | none => none
 | some c => if endU c = 0 then none else if (upF l (endU c) (mayT c) l.length (i + 1)).2 then some (i + 1, (upF l (endU c) (mayT c) l.length (i + 1)).1, (upF l (endU c) (mayT c) l.length (i + 1)).1 + 1) else none
def titleV (s : ByteArray) (i : Nat) : ByteArray × Nat × Bool := match titleN s.data.toList i with
 | some (a, b, e) => (unescB (s.extract a b), e, true)
 | none => (⟨#[]⟩, i, false)
def endsD : DataW Unit := (((DataW.map []).put (.int .u8 34) (.lit (.int .u8 34))).put (.int .u8 39) (.lit (.int .u8 39))).put (.int .u8 40) (.lit (.int .u8 41))
theorem int_ne {a b : Int} (h : ¬ a = b) : Lit.int .u8 a ≠ Lit.int .u8 b := fun e => h (by injection e)
theorem u8_ne {c d : UInt8} (h : ¬ c = d) : ¬ (c.toNat : Int) = (d.toNat : Int) := fun e => h (UInt8.toNat_inj.1 (by omega))
theorem ends_at (c : UInt8) : endsD.atKey (.int .u8 (c.toNat : Int)) (.lit (.int .u8 0)) = .lit (.int .u8 ((endU c).toNat : Int)) := by
 unfold endsD endU;have k0 : IsMap (DataW.map [] : DataW Unit) := isMap_empty
 by_cases h40 : c = 40
 ·subst h40;exact atKey_put_same ((k0.put _ _).put _ _) (show WideAt.IsKeyLit (Lit.int .u8 40) from trivial) _ _
 ·rw [atKey_put_other (int_ne (show ¬ (c.toNat : Int) = 40 from u8_ne (d := 40) h40))]
  by_cases h39 : c = 39
  ·subst h39;exact atKey_put_same (k0.put _ _) (show WideAt.IsKeyLit (Lit.int .u8 39) from trivial) _ _
  ·rw [atKey_put_other (int_ne (show ¬ (c.toNat : Int) = 39 from u8_ne (d := 39) h39))]
   by_cases h34 : c = 34
   ·subst h34;exact atKey_put_same k0 (show WideAt.IsKeyLit (Lit.int .u8 34) from trivial) _ _
   ·rw [atKey_put_other (int_ne (show ¬ (c.toNat : Int) = 34 from u8_ne (d := 34) h34)), if_neg h34, if_neg h39, if_neg h40];rfl
def EndsAt (w : World) (B : Nat) : Prop := w.ownsMap (H := Unit) Tryz.prog 5 (plainElem Tryz.prog 5) B 3 endsD
theorem EndsAt.below {w w' : World} {B : Nat} (h : EndsAt w B) (hb : Below w.heap.size w w') : EndsAt w' B := by
 obtain ⟨es, clock, h1, h2⟩ := h;exact ⟨es, clock, (hb.block B (gSq.1 h1).1).trans h1, h2⟩
theorem u8_wf (c : UInt8) : (Lit.int .u8 (c.toNat : Int)).wf = true := by
 have := UInt8.toNat_lt c
 revert this
 generalize c.toNat = n;intro h;have e1 : IntKind.u8.min = 0 := by decide
 have e2 : IntKind.u8.max = 255 := by decide
 simp [Lit.wf, e1, e2];omega
theorem zeroU (w : World) : (zeroValue 5).run Tryz.prog w = .ok (.int .u8 0) w := by kernel_rfl
theorem EndsAt.look {w : World} {B : Nat} (h : EndsAt w B) (c : UInt8) : (Instr.lookup 164 (.map (some B)) (.int .u8 (c.toNat : Int)) false).run Tryz.prog w = .ok (.int .u8 ((endU c).toNat : Int)) w := by
 obtain ⟨x, hrun, hat, _⟩ := World.ownsMap.lookup_int h (int_keyed Tryz.underlying5) Tryz.underlying164 Tryz.underlying5 (zeroU w) (keyOf_int_mk Tryz.underlying5 (u8_wf c));rw [ends_at] at hat;injection hat with h1;injection h1 with _ h2;rw [hrun, h2]
theorem ends_make (w : World) (B : Nat) (hB : B = w.heap.size) : ∃ w1 w2 w3 : World,
  (Instr.mapUpdate 164 (.map (some B)) (.int .u8 34) (.int .u8 34)).run Tryz.prog (w.alloc (.map #[] 0)) = .ok () w1 ∧
  (Instr.mapUpdate 164 (.map (some B)) (.int .u8 39) (.int .u8 39)).run Tryz.prog w1 = .ok () w2 ∧
  (Instr.mapUpdate 164 (.map (some B)) (.int .u8 40) (.int .u8 41)).run Tryz.prog w2 = .ok () w3 ∧ EndsAt w3 B ∧ Below w.heap.size w w3 ∧ B < w3.heap.size := by
 subst hB;have h0 := World.ownsMap_made w Tryz.prog 5 (plainElem (H := Unit) Tryz.prog 5);have e : ∀ a : UInt8, plainElem (H := Unit) Tryz.prog 5 (.int .u8 (a.toNat : Int)) = some (.lit (.int .u8 (a.toNat : Int)), []) := fun a => plainElem_int Tryz.underlying5 (u8_wf a);have k : ∀ a : UInt8, keyOf Tryz.prog 5 (.int .u8 (a.toNat : Int)) = some (.int .u8 (a.toNat : Int)) := fun a => keyOf_int_mk Tryz.underlying5 (u8_wf a)
 obtain ⟨w1, r1, o1, g1⟩ := h0.update (int_keyed Tryz.underlying5) Tryz.underlying164 (by decide) (k 34) (e 34);obtain ⟨w2, r2, o2, g2⟩ := o1.update (int_keyed Tryz.underlying5) Tryz.underlying164 (by decide) (k 39) (e 39);obtain ⟨w3, r3, o3, g3⟩ := o2.update (int_keyed Tryz.underlying5) Tryz.underlying164 (by decide) (k 40) (e 41);have b0 : Below w.heap.size w (w.alloc (.map #[] 0)) := (Below.refl _ w).alloc (Nat.le_refl _) _;have b1 := b0.grown g1 b0.size (fun j hj => by cases hj; exact Nat.le_refl _)
 have b2 := b1.grown g2 b1.size (fun j hj => by cases hj; exact Nat.le_refl _);have b3 := b2.grown g3 b2.size (fun j hj => by cases hj; exact Nat.le_refl _);exact ⟨w1, w2, w3, r1, r2, r3, o3, b3, o3.lt⟩
theorem s4_below {A B C D : Prop} (h : A ∧ B ∧ C ∧ D) : D := h.2.2.2
theorem grown_cell {w w' : World} {r : Nat} {p : Addr} (h : w.grownBy w' (some r)) (hp : p.block < w.heap.size) (hr : ¬ p.block = r) : w'.cell? p = w.cell? p := by
 unfold World.cell?;rw [h.block p.block hp (fun e => hr (Option.some.inj e))]
theorem title1_any (s : ByteArray) (i p r : Nat) (b : UInt8) (w : World) (hi : i < s.size) (c : UInt8) (hc : s[i] = c) (hp : w.cell? ⟨p, 0, none⟩ = some (.string s)) (hr : w.cell? ⟨r, 0, none⟩ = some (.int .i64 (i : Int))) :
  Calls Tryz.prog 155 #[.int .u8 (b.toNat : Int), .pointer (some ⟨p, 0, none⟩), .pointer (some ⟨r, 0, none⟩)] w (RB w (mayT c b)) := by
 obtain ⟨q, hq⟩ : ∃ q, (c != 40) = q := ⟨_, rfl⟩;obtain ⟨x, hx⟩ : ∃ x, (b != 40) = x := ⟨_, rfl⟩;have hv : mayT c b = (q || x) := by unfold mayT; rw [hq, hx]
 rw [hv];have hq2 : ((c.toNat : Int) != 40) = q := by rw [show ((c.toNat : Int) != 40) = (c != 40) from bnec c 40]; exact hq
 have hx2 : ((b.toNat : Int) != 40) = x := by rw [show ((b.toNat : Int) != 40) = (b != 40) from bnec b 40]; exact hx
 have hki : (i : Int) < (s.size : Int) := by omega
 clear hq hx hv
 cases q
 ·go_enter Tryz.func155, Tryz.ntmps155;go_wp2
  (try rw [hc])
  go_wp2;go_ret;exact ⟨rfl, rfl⟩
 ·go_enter Tryz.func155, Tryz.ntmps155;go_wp2
  (try rw [hc])
  go_wp2;go_ret;exact ⟨rfl, rfl⟩
theorem title_none (s : ByteArray) (i : Nat) (w : World) (_ : s.size < 4294967281) (_ : i ≤ 1099511627776) (h : ∀ c, s.data.toList[i]? = some c -> endU c = 0) : Calls Tryz.prog 108 #[.string s, .int .i64 (i : Int)] w (SIB w (⟨#[]⟩, i, false)) := by
 obtain ⟨W, hW⟩ : ∃ W, (w.alloc (.cells #[.string s] 9)).alloc (.cells #[.int .i64 (i : Int)] 3) = W := ⟨_, rfl⟩;have hbW : Below w.heap.size w W := by rw [<- hW]; exact ((Below.refl _ w).alloc (Nat.le_refl _) _).alloc (by simp) _
 have hWz : w.heap.size + 1 + 1 = W.heap.size := by rw [<- hW]; simp
 obtain ⟨w1, w2, w3, r1, r2, r3, he, hb, hB⟩ := ends_make W (w.heap.size + 1 + 1) hWz;have b3 : Below W.heap.size W w3 := hb;have cp : w3.cell? ⟨w.heap.size, 0, none⟩ = some (.string s) := (b3.cell (p := ⟨w.heap.size, 0, none⟩) (by show w.heap.size < W.heap.size; omega)).trans (by
  rw [<- hW];exact (((Below.refl _ _).alloc (Nat.le_refl _) _).cell (p := ⟨w.heap.size, 0, none⟩) (by simp)).trans (cell_of_row _ w.heap.size 0 _ _ _ (heap_alloc_new w _)))
 have cr : w3.cell? ⟨w.heap.size + 1, 0, none⟩ = some (.int .i64 (i : Int)) := (b3.cell (p := ⟨w.heap.size + 1, 0, none⟩) (by show w.heap.size + 1 < W.heap.size; omega)).trans (by
  rw [<- hW];simp)
 rw [<- hW] at r1;have HB := hdn (hbW.trans (b3.mono (by omega)));have hmm := @run_makeMap Tryz.prog
 by_cases hil : i < s.size
 ·have hki : (i : Int) < (s.size : Int) := by omega
  obtain ⟨c, hc⟩ : ∃ c, s[i] = c := ⟨_, rfl⟩;have hlk := he.look c;have h0 := h c (by rw [get_list s i hil, hc]);rw [h0] at hlk;clear hW hbW hWz he hb hB b3 h h0;go_enter Tryz.func108, Tryz.ntmps108;go_wp2_with fail
  (try rw [hc])
  go_wp2_with fail
  go_quiet (fail)
  go_wp2
  go_ret3
  exact ⟨rfl, below_drewN HB.out _⟩
 ·have hki : (s.size : Int) ≤ (i : Int) := by omega
  clear hW hbW hWz he hb hB b3 h;go_enter Tryz.func108, Tryz.ntmps108;go_wp2_with fail
  go_quiet (fail)
  go_wp2
  go_ret3
  exact ⟨rfl, below_drewN HB.out _⟩
theorem title_some (s : ByteArray) (i : Nat) (w : World) (hs : s.size < 4294967281) (hil : i < s.size) (c : UInt8) (hc : s[i] = c) (hen : ¬ endU c = 0) : Calls Tryz.prog 108 #[.string s, .int .i64 (i : Int)] w (SIB w (titleV s i)) := by
 obtain ⟨W, hW⟩ : ∃ W, (w.alloc (.cells #[.string s] 9)).alloc (.cells #[.int .i64 (i : Int)] 3) = W := ⟨_, rfl⟩;have hbW : Below w.heap.size w W := by rw [<- hW]; exact ((Below.refl _ w).alloc (Nat.le_refl _) _).alloc (by simp) _
 have hWz : w.heap.size + 1 + 1 = W.heap.size := by rw [<- hW]; simp
 obtain ⟨w1, w2, w3, r1, r2, r3, he, hb, hB⟩ := ends_make W (w.heap.size + 1 + 1) hWz;have b3 : Below W.heap.size W w3 := hb;have cp : w3.cell? ⟨w.heap.size, 0, none⟩ = some (.string s) := (b3.cell (p := ⟨w.heap.size, 0, none⟩) (by show w.heap.size < W.heap.size; omega)).trans (by
  rw [<- hW];exact (((Below.refl _ _).alloc (Nat.le_refl _) _).cell (p := ⟨w.heap.size, 0, none⟩) (by simp)).trans (cell_of_row _ w.heap.size 0 _ _ _ (heap_alloc_new w _)))
 have cr : w3.cell? ⟨w.heap.size + 1, 0, none⟩ = some (.int .i64 (i : Int)) := (b3.cell (p := ⟨w.heap.size + 1, 0, none⟩) (by show w.heap.size + 1 < W.heap.size; omega)).trans (by
  rw [<- hW];simp)
 rw [<- hW] at r1;have HB := hdn (hbW.trans (b3.mono (by omega)));have hmm := @run_makeMap Tryz.prog;have hki : (i : Int) < (s.size : Int) := by omega
 have hl : s.data.toList.length = s.size := lTq;have hlk := he.look c;obtain ⟨en, hE⟩ : ∃ en, endU c = en := ⟨_, rfl⟩;have hen0 : ((en.toNat : Int) == 0) = false := by rw [show ((en.toNat : Int) == 0) = (en == 0) from beqc en 0]; rw [<- hE]; exact beq_no hen
 obtain ⟨W4, hW4⟩ : ∃ W4, w3.alloc (.cells #[.string s, .int .i64 ((i : Int) + 1)] 162) = W4 := ⟨_, rfl⟩;have hb4 : Below w3.heap.size w3 W4 := by rw [<- hW4]; exact (Below.refl _ w3).alloc (Nat.le_refl _) _
 have hlk4 := (he.below hb4).look c;have hc4 : CurAt W4 w3.heap.size s (i + 1) := by rw [<- hW4]; exact heap_alloc_new w3 _
 have cp4 : W4.cell? ⟨w.heap.size, 0, none⟩ = some (.string s) := (hb4.cell (p := ⟨w.heap.size, 0, none⟩) (by show w.heap.size < w3.heap.size; omega)).trans cp;have cr4 : W4.cell? ⟨w.heap.size + 1, 0, none⟩ = some (.int .i64 (i : Int)) := (hb4.cell (p := ⟨w.heap.size + 1, 0, none⟩) (by show w.heap.size + 1 < w3.heap.size; omega)).trans cr;rw [hE] at hlk hlk4
 have hU := upTo_title s (i + 1) w3.heap.size en (mayT c) w.heap.size (w.heap.size + 1) W4 (by omega) (by omega) hc4 (fun b w' hg => title1_any s i w.heap.size (w.heap.size + 1) b w' hil c hc ((grown_cell hg (by show w.heap.size < W4.heap.size; have := hb4.size; omega) (by show ¬ w.heap.size = w3.heap.size; omega)).trans cp4) ((grown_cell hg (by show w.heap.size + 1 < W4.heap.size; have := hb4.size; omega) (by show ¬ w.heap.size + 1 = w3.heap.size; omega)).trans cr4));obtain ⟨hin1, hin2⟩ := upF_in s.data.toList en (mayT c) s.size (i + 1) (by omega)
 have hn : titleN s.data.toList i = if (upF s.data.toList en (mayT c) s.size (i + 1)).2 then some (i + 1, (upF s.data.toList en (mayT c) s.size (i + 1)).1, (upF s.data.toList en (mayT c) s.size (i + 1)).1 + 1) else none := by
  unfold titleN;rw [get_list s i hil, hc];simp only;rw [if_neg hen, hE, hl]
 obtain ⟨⟨j, f⟩, hx⟩ : ∃ x, upF s.data.toList en (mayT c) s.size (i + 1) = x := ⟨_, rfl⟩;rw [hx] at hU hin1 hin2 hn;simp only at hin1 hin2 hn;have HU := hdn hU;have HB4 := hdn (HB.out.trans (hb4.mono (by omega)));have hj1 : (i : Int) + 1 ≤ (j : Int) := by omega
 have hj2 : (j : Int) ≤ (s.size : Int) := by omega
 have hz4 : w.heap.size + 1 < W4.heap.size := by have := hb4.size; omega
 have hz4' : w.heap.size < W4.heap.size := by omega
 have hzc : w3.heap.size < W4.heap.size := (gSq.1 (show W4.heap[w3.heap.size]? = _ from hc4)).1;subst hW4
 cases f with
 | false =>
  have hv : titleV s i = (⟨#[]⟩, i, false) := by unfold titleV; rw [hn]; rfl
  rw [hv];clear hv hW hbW hWz he hb b3 hn hU hx hb4 hc4 hl hin1 hin2 hE hen;go_enter Tryz.func108, Tryz.ntmps108;go_wp2_with fail
  (try rw [hc])
  go_wp2_with fail
  (try rw [hc])
  go_wp2_with fail;refine cMq HU.out ?_;rintro e w5 ⟨rfl, hc5, hg5⟩;have hr5 : w5.cell? ⟨w.heap.size + 1, 0, none⟩ = some (.int .i64 (i : Int)) := (grown_cell hg5 hz4 (by show ¬ w.heap.size + 1 = w3.heap.size; omega)).trans cr4;have HB5 := hdn (HB4.out.grown hg5 HB4.out.size (fun q hq => by cases hq; omega));clear hc5 hg5;go_wp2_with fail
  go_quiet (fail)
  go_wp2
  go_ret3
  exact ⟨rfl, below_drewN HB5.out _⟩
 | true =>
  have hv : titleV s i = (unescB (s.extract (i + 1) j), j + 1, true) := by unfold titleV; rw [hn]; rfl
  obtain ⟨x, hxe⟩ : ∃ x : ByteArray, s.extract (i + 1) j = x := ⟨_, rfl⟩;have hxs : x.size = j - (i + 1) := by rw [<- hxe, ByteArray.size_extract]; omega
  rw [hxe] at hv;obtain ⟨X, hX⟩ : ∃ X, unescB x = X := ⟨_, rfl⟩;have HUN := hdn fun w' => unesc_ret x (by omega) X hX w';rw [hX] at hv;rw [hv];have HXE := hdn hxe;clear hv hX hxe hxs hW hbW hWz he hb b3 hn hU hx hb4 hc4 hl hin1 hin2 hE hen;go_enter Tryz.func108, Tryz.ntmps108;go_wp2_with fail
  (try rw [hc])
  go_wp2_with fail
  (try rw [hc])
  go_wp2_with fail;refine cMq HU.out ?_;rintro e w5 ⟨rfl, hc5, hg5⟩;have hp5 : w5.cell? ⟨w.heap.size, 0, none⟩ = some (.string s) := (grown_cell hg5 hz4' (by show ¬ w.heap.size = w3.heap.size; omega)).trans cp4;have hr5 : w5.cell? ⟨w.heap.size + 1, 0, none⟩ = some (.int .i64 (i : Int)) := (grown_cell hg5 hz4 (by show ¬ w.heap.size + 1 = w3.heap.size; omega)).trans cr4;have HB5 := hdn (HB4.out.grown hg5 HB4.out.size (fun q hq => by cases hq; omega))
  have HSI := hdn fun (w' : World) (h : Below w5.heap.size w5 w') => (⟨(h.cell (p := ⟨w.heap.size, 0, none⟩) (by have := hg5.size; show w.heap.size < w5.heap.size; omega)).trans hp5, (h.cell (p := ⟨w.heap.size + 1, 0, none⟩) (by have := hg5.size; show w.heap.size + 1 < w5.heap.size; omega)).trans hr5, cell_of_row w' w3.heap.size 1 _ _ _ ((h.block _ (Nat.lt_of_lt_of_le hzc hg5.size)).trans hc5), h⟩ : w'.cell? ⟨w.heap.size, 0, none⟩ = some (.string s) ∧ w'.cell? ⟨w.heap.size + 1, 0, none⟩ = some (.int .i64 (i : Int)) ∧ w'.cell? ⟨w3.heap.size, 1, none⟩ = some (.int .i64 (j : Int)) ∧ Below w5.heap.size w5 w')
  clear hc5 hg5 hp5 hr5;go_wp2_with fail;have HS0 := hdn (HSI.out w5 (Below.refl _ _));have hwi : IntKind.i64.wrap ((i : Int) + 1) = (i : Int) + 1 := IntWalk.i64_in _ (by omega);have hwj : IntKind.i64.wrap ((j : Int) + 1) = (j : Int) + 1 := IntWalk.i64_in _ (by omega);have hi0 : (0 : Int) ≤ (i : Int) + 1 := by omega
  go_region_held3 (fun w' => w'.cell? ⟨w.heap.size, 0, none⟩ = some (.string s) ∧ w'.cell? ⟨w.heap.size + 1, 0, none⟩ = some (.int .i64 (i : Int)) ∧ w'.cell? ⟨w3.heap.size, 1, none⟩ = some (.int .i64 (j : Int)) ∧ Below w5.heap.size w5 w') (first | (with_reducible assumption) | (with_reducible exact HS0.out) | (with_reducible exact HSI.out _ (Below.refl _ _).drew) | (with_reducible exact HSI.out _ (Below.drew (s4_below (by assumption)))) | (with_reducible exact HSI.out _ (below_on (s4_below (by assumption)) (by assumption)))) (first
   | ((try rw [HXE.out]); (with_reducible refine cMq (HUN.out _) ?_); rintro e w6 ⟨rfl, b6⟩))
  all_goals
   go_wp2_with fail
   go_ret3
   exact ⟨rfl, below_on HB5.out (s4_below (by assumption))⟩
theorem title_any (s : ByteArray) (i : Nat) (w : World) (hs : s.size < 4294967281) (hi : i ≤ 1099511627776) : Calls Tryz.prog 108 #[.string s, .int .i64 (i : Int)] w (SIB w (titleV s i)) := by
 by_cases h : ∀ c, s.data.toList[i]? = some c -> endU c = 0
 ·have hv : titleV s i = (⟨#[]⟩, i, false) := by
   unfold titleV titleN
   cases hg : s.data.toList[i]? with
   | none => rfl
   | some c => simp only; rw [if_pos (h c hg)]
  rw [hv];exact title_none s i w hs hi h
 ·rw [Classical.not_forall] at h;obtain ⟨c, h⟩ := h;rw [Classical.not_imp] at h;have hil : i < s.size := by have := (List.getElem?_eq_some_iff.1 h.1).1; simpa using this
  exact title_some s i w hs hil c (by have := h.1; rw [get_list s i hil] at this; exact Option.some.inj this) h.2
end
