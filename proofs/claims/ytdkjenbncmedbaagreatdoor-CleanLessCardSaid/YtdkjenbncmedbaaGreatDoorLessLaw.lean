/- tympanlaw05.RuleLess answers true for every input. -/
import Derived.Test.YtdkjenbncmedbaaGreatDoorRuleP
import Derived.Deep.RegionLaw
import Derived.Deep.DeepCutAuto
namespace Go.Proofs.YtdkjenbncmedbaaGreatDoor
open Go.RowKit

/-- A slice outside the block N. -/
def SlN (N size : Nat) (w : World) (v : Value) (n : Nat) (vs : List Value) : Prop :=
  ∃ A c, v = .slice A n c ∧ ∀ w2 : World, w.heap.size ≤ w2.heap.size → (∀ j, j < w.heap.size → j ≠ N → w2.heap[j]? = w.heap[j]?) → SlV size w2 v n vs
theorem SlN.sl {N size : Nat} {w : World} {v : Value} {n : Nat} {vs : List Value} (h : SlN N size w v n vs) (x : Value) (i : Nat) : SlV size (w.setCell ⟨N, i, none⟩ x) v n vs := by
  obtain ⟨_, _, _, h⟩ := h
  exact h _ (by simp [World.setCell]) (fun j _ hj => Below.heap_setCell _ _ _ _ hj)
theorem SlN.of {size N : Nat} {w : World} {b off n c : Nat} {vs : List Value} (hc : n ≤ c) (hl : vs.length = n * size) (hbN : b ≠ N) (hbl : b < w.heap.size) (hx : ∀ j u, vs[j]? = some u → w.cell? ⟨b, off + j, none⟩ = some u) : SlN N size w (.slice (some ⟨b, off, none⟩) n c) n vs :=
  ⟨_, _, rfl, fun w2 hs h => ⟨_, _, rfl, hc, hl, fun _ => ⟨b, off, rfl, Nat.lt_of_lt_of_le hbl hs, fun j u hu => by
    rw [show w2.cell? ⟨b, off + j, none⟩ = w.cell? ⟨b, off + j, none⟩ by simp only [World.cell?, h b hbl hbN]]
    exact hx j u hu⟩⟩⟩
theorem SlN.here {size N : Nat} {w : World} {v : Value} {n : Nat} {vs : List Value} (h : SlN N size w v n vs) : SlV size w v n vs := by
  obtain ⟨_, _, _, h⟩ := h
  exact h _ (Nat.le_refl _) (fun _ _ _ => rfl)
theorem SlN.old {size : Nat} {w w1 : World} {v : Value} {n : Nat} {vs : List Value} (h : SlV size w v n vs) (hb : Below w.heap.size w w1) : SlN w.heap.size size w1 v n vs := by
  obtain ⟨A, c, e, hc, hl, hp⟩ := h
  refine ⟨A, c, e, fun w2 hs hw => ⟨A, c, e, hc, hl, fun h0 => ?_⟩⟩
  obtain ⟨b, off, hA, hbl, hj⟩ := hp h0
  refine ⟨b, off, hA, Nat.lt_of_lt_of_le hbl (Nat.le_trans hb.size hs), fun j u hu => ?_⟩
  rw [show w2.cell? ⟨b, off + j, none⟩ = w.cell? ⟨b, off + j, none⟩ by simp only [World.cell?, hw b (Nat.lt_of_lt_of_le hbl hb.size) (Nat.ne_of_lt hbl), hb.block b hbl]]
  exact hj j u hu
/-- append(s[:i:i], news...): a new row, or nothing new. -/
theorem run_app_cut {P : Program} (w : World) (t ty e : TypeId) (i : TypeInfo) (z : Value) (size bytes : Nat) (ht : P.underlying t = some (.slice e)) (hi : P.info? e = some i) (hz : i.zero = some z)
    (hsize : i.size = size) (hby : i.bytes = bytes) (b off k : Nat) (xs : List Value) (hxl : xs.length = k * size) (hxs : ∀ j u, xs[j]? = some u → w.cell? ⟨b, off + j, none⟩ = some u) (hbl : b < w.heap.size)
    (ad : Addr) (m c : Nat) (news : List Value) (hl : news.length = m * size) (hnews : ∀ j u, news[j]? = some u → w.cell? (ad.add j) = some u)
    (hk : k + m ≤ 3000) (hb100 : bytes ≤ 100) (N : Nat) (hbN : b ≠ N) (hN : N < w.heap.size) : ∃ v' w', (Builtin.append_ #[t, t] ty #[.slice (some ⟨b, off, none⟩) k k, .slice (some ad) m c]).run P w = .ok v' w' ∧ SlN N size w' v' (k + m) (xs ++ news) ∧ Below w.heap.size w w' := by
  subst hsize
  subst hby
  rcases Nat.eq_zero_or_pos m with h0 | h0
  · subst h0
    have hn : news = [] := List.eq_nil_of_length_eq_zero (by rw [hl]; omega)
    subst hn
    refine ⟨.slice (some ⟨b, off, none⟩) k k, w, ?_, ?_, Below.refl _ _⟩
    · simp [Builtin.append_, run_underlying ht, sizeOf, typeInfo, hi, Builtin.lenOf, Builtin.firstCells, loadCells, loadCellsFrom, storeCells]
    · rw [List.append_nil]
      exact SlN.of (Nat.le_refl _) hxl hbN hbl hxs
  · have hr := run_append_grow (P := P) w t ty e i z ht hi hz ⟨b, off, none⟩ k k xs hxl (fun j u hu => by rw [add_off]; exact hxs j u hu) ad m c news hl hnews (by omega) (by omega) (growslice_fits (by omega) (by have : (k + m) * i.bytes ≤ 3000 * 100 := Nat.mul_le_mul hk hb100; omega))
    refine ⟨_, _, hr, ?_, ((Below.refl w.heap.size w).drew.alloc (Nat.le_refl _) _)⟩
    have hlen : (xs ++ news).length = (k + m) * i.size := by rw [List.length_append, hxl, hl, Nat.add_mul]
    have hh := heap_alloc_new w.drew (.cells (xs.toArray ++ news.toArray ++ Builtin.zeroCells z.cells (grownCap w (k + m) k e - (k + m))) e)
    refine ⟨_, _, rfl, fun w2 _ hw2 => sl_own ((hw2 _ (by simp) (by have : N < w.drew.heap.size := hN; omega)).trans hh) (grownCap_ge _ _ _ _) hlen ?_⟩
    simp only [Array.toList_append, List.append_assoc]
    rw [← List.append_assoc, ← hlen]
    exact List.take_left
theorem step_cut {P : Program} {w : World} {ops : Array Oper} {o : Oper} {a : Act} {K : Act → World → Prop} {Q : Exit → Act → World → Prop} {F : Prop} (hgd : o.guard = none) (s x : Operand) (t : TypeId)
    (ho : o.op = .call { callee := .builtin .append, args := #[s, x], argTypes := #[t, t] })
    (e : TypeId) (i : TypeInfo) (z : Value) (size bytes : Nat) (ht : P.underlying t = some (.slice e)) (hi : P.info? e = some i) (hz : i.zero = some z)
    (hsize : i.size = size) (hby : i.bytes = bytes) (b off k : Nat) (xs : List Value) (hs : a.eval s = .slice (some ⟨b, off, none⟩) k k) (hxl : xs.length = k * size) (hxs : ∀ j u, xs[j]? = some u → w.cell? ⟨b, off + j, none⟩ = some u) (hbl : b < w.heap.size)
    (ad : Addr) (m c : Nat) (news : List Value) (hx : a.eval x = .slice (some ad) m c) (hl : news.length = m * size) (hnews : ∀ j u, news[j]? = some u → w.cell? (ad.add j) = some u)
    (hk : k + m ≤ 3000) (hb100 : bytes ≤ 100) (N : Nat) (hbN : b ≠ N) (hN : N < w.heap.size)
    (h : ∀ v' w1, SlN N size w1 v' (k + m) (xs ++ news) → Below w.heap.size w w1 → K (a.put o.dst v') w1) : if Region.wanted o (yielded ops a.tmps) = true then Oper.wp P o a w K Q else F := by
  have hw : Region.wanted o (yielded ops a.tmps) = true := by simp [Region.wanted, hgd]
  rw [if_pos hw]
  obtain ⟨v', w1, hr, h2, h3⟩ := run_app_cut (P := P) w t o.type e i z size bytes ht hi hz hsize hby b off k xs hxl hxs hbl ad m c news hl hnews hk hb100 N hbN hN
  unfold Oper.wp execOp
  simp only [ho, resolve, invoke, builtin, Sem.run_bind, Sem.run_pure, Result.andThen_ok, List.map_toArray, List.map_cons, List.map_nil, hs, hx, hr]
  exact h v' w1 h2 h3
theorem wrap_small_i64 (n : Int) (h0 : -9223372036854775808 ≤ n) (h1 : n ≤ 9223372036854775807) : IntKind.i64.wrap n = n := by
  rw [IntKind.wrap_i64]
  omega
theorem slv_cells {size : Nat} {w : World} {b off n c : Nat} {vs : List Value} (h : SlV size w (.slice (some ⟨b, off, none⟩) n c) n vs) (h0 : 0 < n) : ∀ j u, vs[j]? = some u → w.cell? ⟨b, off + j, none⟩ = some u := by
  obtain ⟨A, c', e, _, _, hp⟩ := h
  cases e
  obtain ⟨b', off', hA, _, hj⟩ := hp h0
  cases hA
  exact hj
theorem take_cells {w : World} {b off i : Nat} {vs : List Value} (h : ∀ j u, vs[j]? = some u → w.cell? ⟨b, off + j, none⟩ = some u) : ∀ j u, (vs.take i)[j]? = some u → w.drew.cell? ⟨b, off + j, none⟩ = some u := fun j u hu => by
  rw [List.getElem?_take] at hu
  split at hu
  · exact h j u hu
  · cases hu
theorem drop_cells {size : Nat} {w : World} {b off n c : Nat} {vs : List Value} (i : Nat) (hl : vs.length = n * size) (hi : i ≤ n) (hc : n ≤ c) (_ : 0 < n) (h : ∀ j u, vs[j]? = some u → w.cell? ⟨b, off + j, none⟩ = some u) :
    ∃ ad : Addr, (if c = i then some (⟨b, off, none⟩ : Addr) else some ⟨b, off + i * size, none⟩) = some ad ∧ ∀ j u, (vs.drop (i * size))[j]? = some u → w.drew.cell? (ad.add j) = some u := by
  by_cases hci : c = i
  · refine ⟨_, if_pos hci, fun j u hu => ?_⟩
    have : i = n := by omega
    rw [this, ← hl, List.drop_length] at hu
    cases hu
  · refine ⟨_, if_neg hci, fun j u hu => ?_⟩
    rw [List.getElem?_drop] at hu
    rw [add_off, Nat.add_assoc]
    exact h _ _ hu
/-- The copy, one pair less or none. -/
def QOne (w4 : World) (qE qS : Value) (A : Prs) (wx : World) : Prop :=
  ∃ (vA : Value) (A' : Prs), wx.heap[w4.heap.size]? = some (.cells #[qE, vA, qS] 25 (0, 0)) ∧ SlN w4.heap.size 2 wx vA A'.length (A'.map pairCs).flatten ∧ A'.Sublist A ∧ Below w4.heap.size w4 wx
/-- The copy, a scheme less too, or none. -/
def QTwo (w4 : World) (qE : Value) (A : Prs) (S : List ByteArray) (wx : World) : Prop :=
  ∃ (vA vS : Value) (A' : Prs) (S' : List ByteArray), wx.heap[w4.heap.size]? = some (.cells #[qE, vA, vS] 25 (0, 0)) ∧ SlA wx vA A' ∧ SlS wx vS S' ∧ A'.Sublist A ∧ S'.Sublist S ∧ Below w4.heap.size w4 wx
theorem pairCs_drop (l : Prs) (k : Nat) : ((l.drop k).map pairCs).flatten = (l.map pairCs).flatten.drop (k * 2) := by
  induction l generalizing k with
  | nil => simp
  | cons x l ih =>
    cases k with
    | zero => simp
    | succ k =>
      rw [List.drop_succ_cons, ih, List.map_cons, List.flatten_cons, show (k + 1) * 2 = k * 2 + 2 by omega]
      simp [pairCs]
theorem cut_len {α : Type} (l : List α) (i : Nat) (hi : i < l.length) : i + (l.length - (i + 1)) = (l.take i ++ l.drop (i + 1)).length := by
  rw [List.length_append, List.length_take, List.length_drop]
  omega
theorem slA_cut {w : World} {A : Prs} {v : Value} {i i1 : Nat} (hi1 : i1 = i + 1) (hi : i < A.length) (h : SlV 2 w v (i + (A.length - i1)) ((A.map pairCs).flatten.take (i * 2) ++ (A.map pairCs).flatten.drop (i1 * 2))) : SlA w v (A.take i ++ A.drop (i + 1)) := by
  subst hi1
  rw [← pairCs_take, ← pairCs_drop, ← List.flatten_append, ← List.map_append, cut_len A i hi] at h
  exact h
theorem slS_cut {w : World} {A : List ByteArray} {v : Value} {i i1 : Nat} (hi1 : i1 = i + 1) (hi : i < A.length) (h : SlV 1 w v (i + (A.length - i1)) ((A.map Value.string).take (i * 1) ++ (A.map Value.string).drop (i1 * 1))) : SlS w v (A.take i ++ A.drop (i + 1)) := by
  subst hi1
  rw [Nat.mul_one, Nat.mul_one, ← List.map_take, ← List.map_drop, ← List.map_append, cut_len A i hi] at h
  exact h
theorem q_one {w4 w7 : World} {qE qS x : Value} {A : Prs} {v : Value} {i i1 : Nat} (r7 : w7.heap[w4.heap.size]? = some (.cells #[qE, x, qS] 25 (0, 0))) (B7 : Below w4.heap.size w4 w7) (hi1 : i1 = i + 1) (hi : i < A.length)
    (h : SlN w4.heap.size 2 w7 v (i + (A.length - i1)) ((A.map pairCs).flatten.take (i * 2) ++ (A.map pairCs).flatten.drop (i1 * 2))) : QOne w4 qE qS A (w7.setCell ⟨w4.heap.size, 1, none⟩ v) := by
  refine ⟨v, A.take i ++ A.drop (i + 1), by simpa using Joins.block_setCell r7 (i := 1) v, ?_, cut_sub _ _, B7.setCell (Nat.le_refl _) _⟩
  have hl := (slA_cut hi1 hi h.here).open
  obtain ⟨_, _, e, _⟩ := hl
  obtain ⟨A1, c, e1, h⟩ := h
  refine ⟨_, _, e, fun w2 hs hw => slA_cut hi1 hi (h w2 (by simpa [World.setCell] using hs) fun k hk hk' => ?_)⟩
  rw [hw k (by simpa [World.setCell] using hk) hk', Below.heap_setCell _ _ _ _ hk']
theorem q_two {w4 wx w7 : World} {qE vA x : Value} {A A' : Prs} {S : List ByteArray} {v : Value} {i i1 : Nat} (r7 : w7.heap[w4.heap.size]? = some (.cells #[qE, vA, x] 25 (0, 0))) (B7 : Below w4.heap.size w4 w7) (hA : SlN w4.heap.size 2 wx vA A'.length (A'.map pairCs).flatten) (hb : Below wx.heap.size wx w7) (hs : A'.Sublist A) (hi1 : i1 = i + 1) (hi : i < S.length)
    (h : SlN w4.heap.size 1 w7 v (i + (S.length - i1)) ((S.map Value.string).take (i * 1) ++ (S.map Value.string).drop (i1 * 1))) : QTwo w4 qE A S (w7.setCell ⟨w4.heap.size, 2, none⟩ v) := by
  refine ⟨vA, v, A', S.take i ++ S.drop (i + 1), by simpa using Joins.block_setCell r7 (i := 2) v, ?_, slS_cut hi1 hi (h.sl _ _), hs, cut_sub _ _, B7.setCell (Nat.le_refl _) _⟩
  obtain ⟨_, _, _, hA⟩ := hA
  refine hA _ (by simpa [World.setCell] using hb.size) fun k hk hk' => ?_
  rw [Below.heap_setCell _ _ _ _ hk', hb.block k hk]
end Go.Proofs.YtdkjenbncmedbaaGreatDoor
