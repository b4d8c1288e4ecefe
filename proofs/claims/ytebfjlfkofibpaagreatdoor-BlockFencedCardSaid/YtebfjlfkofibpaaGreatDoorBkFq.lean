/- Fences, and the lines between two. -/
import Derived.Test.YtebfjlfkofibpaaGreatDoorBkPp
import Derived.Test.YtebfjlfkofibpaaGreatDoorBkLp
import Derived.Test.YtebfjlfkofibpaaGreatDoorBkPq
namespace Go.Proofs.YtebfjlfkofibpaaGreatDoor
open Go.RowKit
def FenC (c : UInt8) : Prop := c = 96 ∨ c = 126
def fenL (c : UInt8) (m : Nat) (t : List UInt8) : List UInt8 := List.replicate m c ++ t
theorem fen_front {c : UInt8} (m : Nat) {t : List UInt8} (h : t.head? ≠ some c) : frontN (fenL c m t) c = m ∧ (fenL c m t).drop m = t := by
 constructor
 ·unfold frontN fenL
  induction m with
  | zero =>
   match t, h with
   | [], _ => rfl
   | b :: t, h =>
    have : (b == c) = false := by rw [beq_eq_false_iff_ne]; intro e; exact h (by simp [e])
    simp [this]
  | succ m ih =>
   rw [List.replicate_succ, List.cons_append, List.takeWhile_cons, if_pos (by simp), List.length_cons, ih]
 ·unfold fenL;rw [List.drop_append_of_le_length (by simp)];simp
theorem fen_head {c : UInt8} {m : Nat} (hm : 3 ≤ m) (t : List UInt8) : (fenL c m t).head? = some c := by
 obtain ⟨k, rfl⟩ : ∃ k, m = k + 1 := ⟨m - 1, by omega⟩;rfl
theorem fen_bare {c : UInt8} (hc : FenC c) {m : Nat} (hm : 3 ≤ m) (t : List UInt8) : Lib.trimLeftS (fenL c m t) [32, 9] = fenL c m t ∧ widthN (fenL c m t) 0 = 0 := by
 obtain ⟨k, rfl⟩ : ∃ k, m = k + 1 := ⟨m - 1, by omega⟩;have hl : fenL c (k + 1) t = c :: fenL c k t := rfl;rw [hl];constructor
 ·unfold Lib.trimLeftS;rw [List.dropWhile_cons, if_neg];rcases hc with rfl | rfl <;> decide
 ·unfold widthN colF;have : colS 0 c = none := by rcases hc with rfl | rfl <;> decide
  rw [this];rfl
theorem fen_open {c : UInt8} (hc : FenC c) {m : Nat} (hm : 3 ≤ m) : openV (fenL c m [32, 120]) = some (c, m, [120]) := by
 have h32 : ([32, 120] : List UInt8).head? ≠ some c := by rcases hc with rfl | rfl <;> decide
 obtain ⟨h1, h2⟩ := fen_front m h32;have hb : blankT ([32, 120] : List UInt8) = [120] := by decide
 unfold openV;rcases hc with rfl | rfl
 ·have : fenceB (fenL 96 m [32, 120]) 96 = true := by
   unfold fenceB;rw [h1, h2, decide_eq_true hm];decide
  rw [if_pos this, h1, h2, hb]
 ·have h0 : fenceB (fenL 126 m [32, 120]) 96 = false := by
   have : frontN (fenL 126 m [32, 120]) 96 = 0 := by
    cases hz : frontN (fenL 126 m [32, 120]) 96 with
    | zero => rfl
    | succ n =>
     have := frontN_pos (show 0 < frontN (fenL 126 m [32, 120]) 96 by omega);rw [fen_head hm] at this;exact absurd this (by decide)
   unfold fenceB;rw [this];rfl
  have h3 : fenceB (fenL 126 m [32, 120]) 126 = true := by
   unfold fenceB;rw [h1, decide_eq_true hm];rfl
  rw [if_neg (by rw [h0]; exact Bool.false_ne_true), if_pos h3, h1, h2, hb]
theorem fen_shut {c : UInt8} (hc : FenC c) {m : Nat} (hm : 3 ≤ m) : shutB (fenL c m []) c.toNat m = true := by
 obtain ⟨h1, h2⟩ := fen_front (c := c) m (t := []) (by simp);have hof : UInt8.ofNat c.toNat = c := by simp
 unfold shutB;rw [hof, h1, h2];have hmax : max (m : Int) 3 ≤ (m : Int) := by omega
 rw [decide_eq_true hmax];rcases hc with rfl | rfl <;> decide
def codN (c : UInt8) (m : Nat) (ls : List ByteArray) (z : Int) : Nd :=
 { Nd.new 7 with parent := some 0, opn := true, first := 1, last := z, fc := c.toNat, fm := m, fi := ⟨#[120]⟩, offset := 0, info := ⟨#[120]⟩, lines := ls }
theorem unesc_x : unescB ⟨#[120]⟩ = ⟨#[120]⟩ := by decide
theorem fence_first {c : UInt8} (hc : FenC c) {m : Nat} (hm : 3 ≤ m) {r : Rd} (hn : r.nds = [docK [] true]) (h1 : r.n = 1) :
  (r.read ⟨(fenL c m [32, 120]).toArray⟩).nds = [docK [1] true, codN c m [] 1] ∧ (r.read ⟨(fenL c m [32, 120]).toArray⟩).refs = r.refs ∧ (r.read ⟨(fenL c m [32, 120]).toArray⟩).n = 1 := by
 obtain ⟨nds, rest, col, n, cur, tip, lzy, refs⟩ := r;simp only at hn h1;subst hn;subst h1;obtain ⟨L, hL⟩ : ∃ L, (⟨(fenL c m [32, 120]).toArray⟩ : ByteArray) = L := ⟨_, rfl⟩;have hLl : L.data.toList = fenL c m [32, 120] := by rw [<- hL]
 rw [hL];obtain ⟨q, hq⟩ : ∃ q, (⟨[docK [] true], L, 0, 1, some 0, some 0, false, refs⟩ : Rd) = q := ⟨_, rfl⟩;have hbare : q.bareT = L := by
  rw [<- hq];unfold Rd.bareT;rw [hLl, (fen_bare hc hm _).1, <- hLl]
 have hw : q.bareW = 0 := by
  rw [<- hq];unfold Rd.bareW;rw [hLl];exact (fen_bare hc hm _).2
 have hread : Rd.read ⟨[docK [] true], rest, col, 1, cur, tip, lzy, refs⟩ L = Rd.lookF (L.size + 1) q := by
  unfold Rd.read;have hwk : Rd.walkF [docK [] true].length ⟨[docK [] true], L, 0, 1, some 0, tip, lzy, refs⟩ = (⟨[docK [] true], L, 0, 1, some 0, tip, lzy, refs⟩, false) := walkF_none _ rfl rfl;simp only [hwk];rw [if_neg Bool.false_ne_true];rw [<- hq];rfl
 have hlook : q.look = ((q.fresh (Nd.new 7)).turn q.nds.length fun x => { x with fc := c.toNat, fm := m, fi := ⟨#[120]⟩, offset := 0, info := unescB ⟨#[120]⟩ }, 2) := by
  unfold Rd.look;simp only;rw [hbare, hw, if_neg (by omega), hLl, fen_head hm, if_neg (by rcases hc with rfl | rfl <;> decide)];have hh : q.head L = none := by
   unfold Rd.head;rw [if_pos]
   cases hz : headLev L.data.toList with
   | zero => rfl
   | succ n =>
    have := headLev_pos (show 0 < headLev L.data.toList by omega);rw [hLl, fen_head hm] at this;rcases hc with rfl | rfl <;> exact absurd this (by decide)
  have hf : q.fenced L 0 = some ((q.fresh (Nd.new 7)).turn q.nds.length fun x => { x with fc := c.toNat, fm := m, fi := ⟨#[120]⟩, offset := 0, info := unescB ⟨#[120]⟩ }) := by
   unfold Rd.fenced;rw [hLl, fen_open hc hm];rfl
  rw [hh, hf]
 have hk7 : ¬ (q.curK = 7 ∨ q.curK = 8) := by rw [<- hq]; show ¬ ((1 : Nat) = 7 ∨ (1 : Nat) = 8); decide
 rw [hread];unfold Rd.lookF;rw [if_neg hk7];simp only;rw [hlook];simp only;rw [if_pos trivial, unesc_x, <- hq];exact ⟨rfl, rfl, rfl⟩
theorem cut_zero (l : ByteArray) : cutN l.data.toList 0 0 = (l.data.toList, 0) := by
 have h : cutKF 0 l.data.toList 0 0 = (0, 0) := by
  cases l.data.toList with
  | nil => rfl
  | cons b t => unfold cutKF; rfl
 unfold cutN;rw [Nat.add_zero, h];rfl
theorem fence_next {c : UInt8} {m : Nat} (hm : 3 ≤ m) {r : Rd} {l : ByteArray} {ls : List ByteArray} {z : Int} (h : shutB (Lib.trimLeftS l.data.toList [32, 9]) c.toNat m = false) (hn : r.nds = [docK [1] true, codN c m ls z]) :
  (r.read l).nds = [docK [1] true, codN c m (ls ++ [l]) r.n] ∧ (r.read l).refs = r.refs ∧ (r.read l).n = r.n := by
 obtain ⟨nds, rest, col, n, cur, tip, lzy, refs⟩ := r;simp only at hn;subst hn;have hg : Rd.goes ⟨[docK [1] true, codN c m ls z], l, 0, n, some 0, tip, lzy, refs⟩ 1 = (⟨[docK [1] true, codN c m ls z], l, 0, n, some 0, tip, lzy, refs⟩, true, false) := by
  have hb : (Rd.bareT ⟨[docK [1] true, codN c m ls z], l, 0, n, some 0, tip, lzy, refs⟩).data.toList = Lib.trimLeftS l.data.toList [32, 9] := rfl;unfold Rd.goes;simp only;rw [if_neg (by show ¬ (7 : Nat) = 2; decide), if_neg (by show ¬ (7 : Nat) = 4; decide), if_neg (by show ¬ ((7 : Nat) = 5 ∨ (7 : Nat) = 10); decide), if_neg (by show ¬ (7 : Nat) = 8; decide), if_pos (by show (7 : Nat) = 7; rfl), if_pos (by show (0 : Int) < m; omega)];rw [if_neg]
  ·show (Rd.cut _ 0, true, false) = _;unfold Rd.cut;simp only;rw [cut_zero]
  ·rintro ⟨_, h2⟩;rw [hb] at h2;have h2 : shutB (Lib.trimLeftS l.data.toList [32, 9]) c.toNat m = true := h2;rw [h] at h2
   cases h2
 have hwk : Rd.walkF 2 ⟨[docK [1] true, codN c m ls z], l, 0, n, some 0, tip, lzy, refs⟩ = (⟨[docK [1] true, codN c m ls z], l, 0, n, some 1, tip, lzy, refs⟩, false) := by
  unfold Rd.walkF;simp only;rw [show Rd.inner ⟨[docK [1] true, codN c m ls z], l, 0, n, some 0, tip, lzy, refs⟩ 0 = some 1 from rfl];simp only [hg];rw [if_neg Bool.false_ne_true, if_pos trivial];exact walkF_none _ rfl rfl
 have hread : Rd.read ⟨[docK [1] true, codN c m ls z], rest, col, n, cur, tip, lzy, refs⟩ l = Rd.left ⟨[docK [1] true, codN c m ls z], l, 0, n, some 1, some 1, false, refs⟩ := by
  unfold Rd.read;have hwk2 : Rd.walkF [docK [1] true, codN c m ls z].length ⟨[docK [1] true, codN c m ls z], l, 0, n, some 0, tip, lzy, refs⟩ = (⟨[docK [1] true, codN c m ls z], l, 0, n, some 1, tip, lzy, refs⟩, false) := hwk;simp only [hwk2];rw [if_neg Bool.false_ne_true];have hd : Rd.deepest ⟨[docK [1] true, codN c m ls z], l, 0, n, some 1, tip, lzy, refs⟩ ((some 1).getD 0) = 1 := deepF_none _ rfl;rw [hd, show decide (some 1 ≠ some 1) = false by simp];unfold Rd.lookF;rw [if_pos (.inl rfl)]
 rw [hread, (left_idle (r := ⟨[docK [1] true, codN c m ls z], l, 0, n, some 1, some 1, false, refs⟩) (a := 1) rfl rfl rfl).1 rfl];rw [if_pos (.inl (by show (0 : Int) < m; omega))];exact ⟨rfl, rfl, rfl⟩
theorem fence_lines {c : UInt8} {m : Nat} (hm : 3 ≤ m) : ∀ (bs ls : List ByteArray) (z : Int) (r : Rd), (∀ l ∈ bs, shutB (Lib.trimLeftS l.data.toList [32, 9]) c.toNat m = false) -> r.nds = [docK [1] true, codN c m ls z] -> ∃ z2, (Rd.linesF bs r).nds = [docK [1] true, codN c m (ls ++ bs) z2] ∧ (Rd.linesF bs r).refs = r.refs
 | [], ls, z, r, _, hn => ⟨z, by rw [List.append_nil]; exact hn, rfl⟩
 | l :: bs, ls, z, r, h, hn => by
  unfold Rd.linesF;obtain ⟨k1, k2, k3⟩ := fence_next (r := { r with n := r.n + 1 }) hm (h l (by simp)) hn;obtain ⟨z2, m1, m2⟩ := fence_lines hm bs (ls ++ [l]) _ _ (fun x hx => h x (by simp [hx])) k1;exact ⟨z2, by rw [m1]; simp, m2.trans k2⟩
theorem fence_last {c : UInt8} (hc : FenC c) {m : Nat} (hm : 3 ≤ m) {r : Rd} {ls : List ByteArray} {z : Int} (hn : r.nds = [docK [1] true, codN c m ls z]) :
  (r.read ⟨(fenL c m []).toArray⟩).nds = [docK [1] true, { codN c m ls r.n with opn := false, text := linesN ⟨#[]⟩ ls }] ∧ (r.read ⟨(fenL c m []).toArray⟩).refs = r.refs := by
 obtain ⟨nds, rest, col, n, cur, tip, lzy, refs⟩ := r;simp only at hn;subst hn;obtain ⟨L, hL⟩ : ∃ L, (⟨(fenL c m []).toArray⟩ : ByteArray) = L := ⟨_, rfl⟩;have hLl : L.data.toList = fenL c m [] := by rw [<- hL]
 rw [hL];have hg : Rd.goes ⟨[docK [1] true, codN c m ls z], L, 0, n, some 0, tip, lzy, refs⟩ 1 = (⟨[docK [1] true, { codN c m ls n with opn := false, text := linesN ⟨#[]⟩ ls }], L, 0, n, some 0, tip, lzy, refs⟩, true, true) := by
  have hb : (Rd.bareT ⟨[docK [1] true, codN c m ls z], L, 0, n, some 0, tip, lzy, refs⟩).data.toList = fenL c m [] := by
   show Lib.trimLeftS L.data.toList [32, 9] = _;rw [hLl];exact (fen_bare hc hm _).1
  have hw : Rd.bareW ⟨[docK [1] true, codN c m ls z], L, 0, n, some 0, tip, lzy, refs⟩ = 0 := by
   show widthN L.data.toList 0 = 0;rw [hLl];exact (fen_bare hc hm _).2
  unfold Rd.goes;simp only;rw [if_neg (by show ¬ (7 : Nat) = 2; decide), if_neg (by show ¬ (7 : Nat) = 4; decide), if_neg (by show ¬ ((7 : Nat) = 5 ∨ (7 : Nat) = 10); decide), if_neg (by show ¬ (7 : Nat) = 8; decide), if_pos (by show (7 : Nat) = 7; rfl), if_pos (by show (0 : Int) < m; omega)];rw [if_pos ⟨by rw [hw]; decide, by rw [hb]; exact fen_shut hc hm⟩];have hcl : Rd.close ⟨[docK [1] true, codN c m ls n], L, 0, n, some 0, tip, lzy, refs⟩ 1 = ⟨[docK [1] true, { codN c m ls n with opn := false, text := linesN ⟨#[]⟩ ls }], L, 0, n, some 0, tip, lzy, refs⟩ := by
   show Rd.closeF 2 _ _ = _;unfold Rd.closeF;rw [show Rd.inner ⟨[docK [1] true, codN c m ls n], L, 0, n, some 0, tip, lzy, refs⟩ 1 = none from rfl];simp only;unfold Rd.shut;simp only;rw [if_neg (by show ¬ (7 : Nat) = 5; decide), if_pos (by show (7 : Nat) = 7; rfl), if_pos (by show (0 : Int) < m; omega)];rfl
  rw [<- hcl];rfl
 have hread : Rd.read ⟨[docK [1] true, codN c m ls z], rest, col, n, cur, tip, lzy, refs⟩ L = ⟨[docK [1] true, { codN c m ls n with opn := false, text := linesN ⟨#[]⟩ ls }], L, 0, n, some 0, tip, lzy, refs⟩ := by
  unfold Rd.read;have hwk2 : Rd.walkF [docK [1] true, codN c m ls z].length ⟨[docK [1] true, codN c m ls z], L, 0, n, some 0, tip, lzy, refs⟩ = (⟨[docK [1] true, { codN c m ls n with opn := false, text := linesN ⟨#[]⟩ ls }], L, 0, n, some 0, tip, lzy, refs⟩, true) := by
   show Rd.walkF 2 _ = _;unfold Rd.walkF;simp only;rw [show Rd.inner ⟨[docK [1] true, codN c m ls z], L, 0, n, some 0, tip, lzy, refs⟩ 0 = some 1 from rfl];simp only [hg];rw [if_pos trivial]
  simp only [hwk2];rw [if_pos trivial]
 rw [hread];exact ⟨rfl, rfl⟩
theorem final_fence {c : UInt8} (hc : FenC c) {m : Nat} (hm : 3 ≤ m) {bs : List ByteArray} (h : ∀ l ∈ bs, shutB (Lib.trimLeftS l.data.toList [32, 9]) c.toNat m = false) :
  ∃ z, (Rd.final (⟨(fenL c m [32, 120]).toArray⟩ :: (bs ++ [⟨(fenL c m []).toArray⟩]))).nds = [docK [1] false, { codN c m bs z with opn := false, text := linesN ⟨#[]⟩ bs }] ∧ (Rd.final (⟨(fenL c m [32, 120]).toArray⟩ :: (bs ++ [⟨(fenL c m []).toArray⟩]))).refs = [] := by
 obtain ⟨q, hq⟩ : ∃ q, Rd.linesF (⟨(fenL c m [32, 120]).toArray⟩ :: (bs ++ [⟨(fenL c m []).toArray⟩])) Rd.start = q := ⟨_, rfl⟩;have hqn : ∃ z, q.nds = [docK [1] true, { codN c m bs z with opn := false, text := linesN ⟨#[]⟩ bs }] ∧ q.refs = [] := by
  rw [<- hq, <- List.cons_append, linesF_snoc];unfold Rd.linesF;obtain ⟨k1, k2, k3⟩ := fence_first (r := { Rd.start with n := Rd.start.n + 1 }) hc hm rfl rfl;obtain ⟨z2, m1, m2⟩ := fence_lines hm bs [] 1 _ h k1;rw [List.nil_append] at m1;obtain ⟨e1, e2⟩ := fence_last (r := { Rd.linesF bs (Rd.read { Rd.start with n := Rd.start.n + 1 } ⟨(fenL c m [32, 120]).toArray⟩) with n := (Rd.linesF bs (Rd.read { Rd.start with n := Rd.start.n + 1 } ⟨(fenL c m [32, 120]).toArray⟩)).n + 1 }) hc hm m1;exact ⟨_, e1, e2.trans (m2.trans k2)⟩
 obtain ⟨z, h1, h2⟩ := hqn;refine ⟨z, ?_⟩;unfold Rd.final;rw [hq];obtain ⟨nds, rest, col, n, cur, tip, lzy, refs⟩ := q;simp only at h1 h2;subst h1;subst h2;unfold Rd.close;show (Rd.closeF 2 _ _).nds = _ ∧ (Rd.closeF 2 _ _).refs = _;unfold Rd.closeF;rw [show Rd.inner ⟨[docK [1] true, { codN c m bs z with opn := false, text := linesN ⟨#[]⟩ bs }], rest, col, n, some 0, tip, lzy, []⟩ 0 = none from rfl];exact ⟨rfl, rfl⟩
theorem linesN_flat : ∀ (bs : List ByteArray) (t : ByteArray), (linesN t bs).data.toList = t.data.toList ++ flatN bs
 | [], t => by unfold linesN flatN; simp
 | b :: bs, t => by
  have h := linesN_flat bs (t ++ (b ++ ⟨#[10]⟩));unfold linesN at h ⊢;rw [List.foldl_cons, h];simp [ByteArray.data_append, flatN]
def fenS (c : UInt8) (x : Nat × Nat) (b : UInt8) : Nat × Nat := let n := if b = c then x.1 + 1 else 0; if x.2 ≤ n then (n, x.2 + 1) else (n, x.2)
def fenF (c : UInt8) (l : List UInt8) : Nat × Nat := l.foldl (fenS c) (0, 3)
theorem fenS_lt {c : UInt8} {x : Nat × Nat} (h : x.1 < x.2) (b : UInt8) : (fenS c x b).1 < (fenS c x b).2 ∧ x.2 ≤ (fenS c x b).2 ∧ (fenS c x b).2 ≤ x.2 + 1 ∧ (b = c -> (fenS c x b).1 = x.1 + 1) := by
 unfold fenS;simp only
 by_cases hb : b = c
 ·rw [if_pos hb];split
  ·exact ⟨by simp only; omega, by simp only; omega, Nat.le_refl _, fun _ => rfl⟩
  ·exact ⟨by simp only; omega, Nat.le_refl _, Nat.le_succ _, fun _ => rfl⟩
 ·rw [if_neg hb];split
  ·exact ⟨by simp only; omega, by simp only; omega, Nat.le_refl _, fun e => absurd e hb⟩
  ·exact ⟨by simp only; omega, Nat.le_refl _, Nat.le_succ _, fun e => absurd e hb⟩
theorem fold_lt {c : UInt8} : ∀ (l : List UInt8) (x : Nat × Nat), x.1 < x.2 -> (l.foldl (fenS c) x).1 < (l.foldl (fenS c) x).2 ∧ x.2 ≤ (l.foldl (fenS c) x).2 ∧ (l.foldl (fenS c) x).2 ≤ x.2 + l.length
 | [], x, h => ⟨h, Nat.le_refl _, Nat.le_refl _⟩
 | b :: l, x, h => by
  obtain ⟨h1, h2, h3, _⟩ := fenS_lt (c := c) h b;obtain ⟨k1, k2, k3⟩ := fold_lt l (fenS c x b) h1;rw [List.foldl_cons, List.length_cons];exact ⟨k1, by omega, by omega⟩
theorem fold_rep {c : UInt8} : ∀ (k : Nat) (x : Nat × Nat), x.1 < x.2 -> ((List.replicate k c).foldl (fenS c) x).1 = x.1 + k ∧ ((List.replicate k c).foldl (fenS c) x).1 < ((List.replicate k c).foldl (fenS c) x).2
 | 0, x, h => ⟨rfl, h⟩
 | k + 1, x, h => by
  obtain ⟨h1, _, _, h4⟩ := fenS_lt (c := c) h c;obtain ⟨k1, k2⟩ := fold_rep k (fenS c x c) h1;rw [List.replicate_succ, List.foldl_cons];exact ⟨by rw [k1, h4 rfl]; omega, k2⟩
theorem fen_row {c : UInt8} (p q : List UInt8) (k : Nat) : k < (fenF c (p ++ (List.replicate k c ++ q))).2 := by
 unfold fenF;rw [List.foldl_append, List.foldl_append];obtain ⟨h1, _⟩ := fold_lt (c := c) p (0, 3) (by decide);obtain ⟨k1, k2⟩ := fold_rep (c := c) k (p.foldl (fenS c) (0, 3)) h1;obtain ⟨m1, m2, _⟩ := fold_lt (c := c) q _ k2;omega
theorem fenF_at (c : UInt8) (l : List UInt8) : (fenF c l).1 < (fenF c l).2 ∧ 3 ≤ (fenF c l).2 ∧ (fenF c l).2 ≤ l.length + 3 := by
 obtain ⟨h1, h2, h3⟩ := fold_lt (c := c) l (0, 3) (by decide);exact ⟨h1, h2, by unfold fenF; have : (0, 3).2 + l.length = l.length + 3 := (by show 3 + l.length = _; omega); omega⟩
theorem front_split (l : List UInt8) (c : UInt8) : ∃ q, l = List.replicate (frontN l c) c ++ q := by
 unfold frontN;refine ⟨l.dropWhile (· == c), ?_⟩
 conv => lhs; rw [<- List.takeWhile_append_dropWhile (p := (· == c)) (l := l)]
 congr 1
 refine List.eq_replicate_iff.2 ⟨rfl, fun b hb => ?_⟩;have : (b == c) = true := by
  have h := List.all_takeWhile (p := (· == c)) (l := l);exact List.all_eq_true.1 h b hb
 simpa using this
theorem trim_split (l cs : List UInt8) : ∃ p, l = p ++ Lib.trimLeftS l cs := ⟨l.takeWhile (cs.contains ·), by unfold Lib.trimLeftS; exact (List.takeWhile_append_dropWhile).symm⟩
theorem flat_split {l : ByteArray} : ∀ {bs : List ByteArray}, l ∈ bs -> ∃ p q, flatN bs = p ++ (l.data.toList ++ q)
 | x :: bs, h => by
  rcases List.mem_cons.1 h with rfl | h
  ·exact ⟨[], 10 :: flatN bs, rfl⟩
  ·obtain ⟨p, q, e⟩ := flat_split h;exact ⟨x.data.toList ++ 10 :: p, q, by rw [flatN, e]; simp⟩
theorem fen_noshut {c : UInt8} (_ : FenC c) {bs : List ByteArray} {m : Nat} (hm : m = (fenF c (flatN bs)).2) : ∀ l ∈ bs, shutB (Lib.trimLeftS l.data.toList [32, 9]) c.toNat m = false := by
 intro l hl;obtain ⟨p, q, e⟩ := flat_split hl;obtain ⟨p2, e2⟩ := trim_split l.data.toList [32, 9];obtain ⟨q2, e3⟩ := front_split (Lib.trimLeftS l.data.toList [32, 9]) c;have hof : UInt8.ofNat c.toNat = c := by simp
 obtain ⟨k, hk⟩ : ∃ k, frontN (Lib.trimLeftS l.data.toList [32, 9]) c = k := ⟨_, rfl⟩;rw [hk] at e3;have hlt : k < m := by
  rw [hm, e, e2, e3];have := fen_row (c := c) (p ++ p2) (q2 ++ q) k;rw [show p ++ (p2 ++ (List.replicate k c ++ q2) ++ q) = p ++ p2 ++ (List.replicate k c ++ (q2 ++ q)) by simp];exact this
 unfold shutB;rw [hof, hk];have h0 : decide (max (m : Int) 3 ≤ (k : Int)) = false := by rw [decide_eq_false_iff_not]; omega
 rw [h0, Bool.and_false, Bool.false_and]
theorem fen_flat {c : UInt8} (hc : FenC c) (m : Nat) {t : List UInt8} (ht : ∀ b ∈ t, b ≠ 10 ∧ b ≠ 13) : Flat1 ⟨(fenL c m t).toArray⟩ := by
 intro b hb;rcases List.mem_append.1 (show b ∈ List.replicate m c ++ t from hb) with hb | hb
 ·rw [(List.mem_replicate.1 hb).2];rcases hc with rfl | rfl <;> decide
 ·exact ht b hb
theorem fen_fin {c : UInt8} (hc : FenC c) {bs : List ByteArray} (hb : ∀ x ∈ bs, Flat1 x) {m : Nat} (hm : m = (fenF c (flatN bs)).2) {t s : ByteArray} (hs : s.data.toList = flatN bs) (ht : t.data.toList = List.replicate m c ++ [32, 120, 10] ++ s.data.toList ++ List.replicate m c) :
  (finT t).refs = [] ∧ (∃ y : BD (List (TR (fueT t + 1))), BD.kids (K := List (TR (fueT t + 2))) (treT t) = [y] ∧ y.kind = 7 ∧ y.text = s ∧ y.info = ⟨#[120]⟩) ∧ deepT (fueT t) (finT t) 0 = 0 := by
 have hm3 : 3 ≤ m := by rw [hm]; exact (fenF_at c _).2.1
 have hl := lines_flat (s := t) (ls := ⟨(fenL c m [32, 120]).toArray⟩ :: bs) (cur := ⟨(fenL c m []).toArray⟩) (by
  rw [ht, hs];show _ = (fenL c m [32, 120] ++ 10 :: flatN bs) ++ fenL c m [];unfold fenL;simp) (fun x hx => by
   rcases List.mem_cons.1 hx with rfl | hx
   ·exact fen_flat hc m (by decide)
   ·exact hb x hx) (fen_flat hc m (by decide))
 have hsz : ¬ (⟨(fenL c m []).toArray⟩ : ByteArray).size = 0 := by
  show ¬ (fenL c m []).toArray.size = 0;unfold fenL;simp;omega
 rw [if_neg hsz, List.cons_append] at hl;obtain ⟨z, k1, k2⟩ := final_fence hc hm3 (fen_noshut hc hm);have hf : finT t = Rd.final (⟨(fenL c m [32, 120]).toArray⟩ :: (bs ++ [⟨(fenL c m []).toArray⟩])) := by unfold finT; rw [hl]
 have htx : linesN ⟨#[]⟩ bs = s := by
  refine (ba_list ?_).trans (ba_list hs).symm;rw [linesN_flat];rfl
 unfold treT fueT;rw [hf];have hlen : 0 < (Rd.final (⟨(fenL c m [32, 120]).toArray⟩ :: (bs ++ [⟨(fenL c m []).toArray⟩]))).nds.length := by rw [k1]; exact Nat.zero_lt_succ _
 obtain ⟨⟨y, m1, m2, m3, m4⟩, m5⟩ := told_one k1 rfl rfl rfl (by show 5 ≤ 7 ∧ 7 ≤ 9; decide) _ hlen;exact ⟨k2, ⟨y, m1, m2, m3.trans htx, m4⟩, m5⟩
