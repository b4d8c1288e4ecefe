/- tympanlaw05.RuleLess answers true for every input. -/
import Derived.Test.YtjificnbeaemoaaGreatDoorRuleP
import Derived.Deep.RegionLaw
import Derived.Deep.DeepCutAuto
namespace Go.Proofs.YtjificnbeaemoaaGreatDoor
open Go.RowKit

/-- A slice outside the block N. -/
def SlN (N size : Nat) (w : World) (v : Value) (n : Nat) (vs : List Value) : Prop :=
  ∃ A c, v = .slice A n c ∧ ∀ w2 : World, w.heap.size ≤ w2.heap.size → (∀ j, j < w.heap.size → j ≠ N → w2.heap[j]? = w.heap[j]?) → SlV size w2 v n vs
theorem SlN.sl {N size : Nat} {w : World} {v : Value} {n : Nat} {vs : List Value} (h : SlN N size w v n vs) (x : Value) (i : Nat) : SlV size (w.setCell ⟨N, i, none⟩ x) v n vs := by
  obtain ⟨_, _, _, h⟩ := h
  exact h _ (by simp [World.setCell]) (fun j _ hj => Below.heap_setCell _ _ _ _ hj)
theorem SlN.of {size N : Nat} {w : World} {b off n c : Nat} {vs : List Value} (hc : n ≤ c) (hl : vs.length = n * size) (hbN : b ≠ N) (hbl : b < w.heap.size) (hx : ∀ j u, vs[j]? = some u → w.cell? ⟨b, off + j, none⟩ = some u) : SlN N size w (.slice (some ⟨b, off, none⟩) n c) n vs :=
  ⟨_, _, rfl, fun w2 hs h => ⟨_, _, rfl, hc, hl, fun _ => ⟨b, off, rfl, Nat.lt_of_lt_of_le hbl hs, fun j u hu => by
    rw [show w2.cell? ⟨b, off + j, none⟩ = w.cell? ⟨b, off + j, none⟩ by simp only [World.cell?, h b hbl hbN]]
    exact hx j u hu⟩⟩⟩
theorem SlN.here {size N : Nat} {w : World} {v : Value} {n : Nat} {vs : List Value} (h : SlN N size w v n vs) : SlV size w v n vs := by
  obtain ⟨_, _, _, h⟩ := h
  exact h _ (Nat.le_refl _) (fun _ _ _ => rfl)
theorem SlN.old {size : Nat} {w w1 : World} {v : Value} {n : Nat} {vs : List Value} (h : SlV size w v n vs) (hb : Below w.heap.size w w1) : SlN w.heap.size size w1 v n vs := by
  obtain ⟨A, c, e, hc, hl, hp⟩ := h
  refine ⟨A, c, e, fun w2 hs hw => ⟨A, c, e, hc, hl, fun h0 => ?_⟩⟩
  obtain ⟨b, off, hA, hbl, hj⟩ := hp h0
  refine ⟨b, off, hA, Nat.lt_of_lt_of_le hbl (Nat.le_trans hb.size hs), fun j u hu => ?_⟩
  rw [show w2.cell? ⟨b, off + j, none⟩ = w.cell? ⟨b, off + j, none⟩ by simp only [World.cell?, hw b (Nat.lt_of_lt_of_le hbl hb.size) (Nat.ne_of_lt hbl), hb.block b hbl]]
  exact hj j u hu
/-- append(s[:i:i], news...): a new row, or nothing new. -/
theorem run_app_cut {P : Program} (w : World) (t ty e : TypeId) (i : TypeInfo) (z : Value) (size bytes : Nat) (ht : P.underlying t = some (.slice e)) (hi : P.info? e = some i) (hz : i.zero = some z)
    (hsize : i.size = size) (hby : i.bytes = bytes) (b off k : Nat) (xs : List Value) (hxl : xs.length = k * size) (hxs : ∀ j u, xs[j]? = some u → w.cell? ⟨b, off + j, none⟩ = some u) (hbl : b < w.heap.size)
    (ad : Addr) (m c : Nat) (news : List Value) (hl : news.length = m * size) (hnews : ∀ j u, news[j]? = some u → w.cell? (ad.add j) = some u)
    (hk : k + m ≤ 3000) (hb100 : bytes ≤ 100) (N : Nat) (hbN : b ≠ N) (hN : N < w.heap.size) : ∃ v' w', (Builtin.append_ #[t, t] ty #[.slice (some ⟨b, off, none⟩) k k, .slice (some ad) m c]).run P w = .ok v' w' ∧ SlN N size w' v' (k + m) (xs ++ news) ∧ Below w.heap.size w w' := by
  subst hsize
  subst hby
  rcases Nat.eq_zero_or_pos m with h0 | h0
  · subst h0
    have hn : news = [] := List.eq_nil_of_length_eq_zero (by rw [hl]; omega)
    subst hn
    refine ⟨.slice (some ⟨b, off, none⟩) k k, w, ?_, ?_, Below.refl _ _⟩
    · simp [Builtin.append_, run_underlying ht, sizeOf, typeInfo, hi, Builtin.lenOf, Builtin.firstCells, loadCells, loadCellsFrom, storeCells]
    · rw [List.append_nil]
      exact SlN.of (Nat.le_refl _) hxl hbN hbl hxs
  · have hr := run_append_grow (P := P) w t ty e i z ht hi hz ⟨b, off, none⟩ k k xs hxl (fun j u hu => by rw [add_off]; exact hxs j u hu) ad m c news hl hnews (by omega) (by omega) (growslice_fits (by omega) (by have : (k + m) * i.bytes ≤ 3000 * 100 := Nat.mul_le_mul hk hb100; omega))
    refine ⟨_, _, hr, ?_, ((Below.refl w.heap.size w).drew.alloc (Nat.le_refl _) _)⟩
    have hlen : (xs ++ news).length = (k + m) * i.size := by rw [List.length_append, hxl, hl, Nat.add_mul]
    have hh := heap_alloc_new w.drew (.cells (xs.toArray ++ news.toArray ++ Builtin.zeroCells z.cells (grownCap w (k + m) k e - (k + m))) e)
    refine ⟨_, _, rfl, fun w2 _ hw2 => sl_own ((hw2 _ (by simp) (by have : N < w.drew.heap.size := hN; omega)).trans hh) (grownCap_ge _ _ _ _) hlen ?_⟩
    simp only [Array.toList_append, List.append_assoc]
    rw [← List.append_assoc, ← hlen]
    exact List.take_left
theorem step_cut {P : Program} {w : World} {ops : Array Oper} {o : Oper} {a : Act} {K : Act → World → Prop} {Q : Exit → Act → World → Prop} {F : Prop} (hgd : o.guard = none) (s x : Operand) (t : TypeId)
    (ho : o.op = .call { callee := .builtin .append, args := #[s, x], argTypes := #[t, t] })
    (e : TypeId) (i : TypeInfo) (z : Value) (size bytes : Nat) (ht : P.underlying t = some (.slice e)) (hi : P.info? e = some i) (hz : i.zero = some z)
    (hsize : i.size = size) (hby : i.bytes = bytes) (b off k : Nat) (xs : List Value) (hs : a.eval s = .slice (some ⟨b, off, none⟩) k k) (hxl : xs.length = k * size) (hxs : ∀ j u, xs[j]? = some u → w.cell? ⟨b, off + j, none⟩ = some u) (hbl : b < w.heap.size)
    (ad : Addr) (m c : Nat) (news : List Value) (hx : a.eval x = .slice (some ad) m c) (hl : news.length = m * size) (hnews : ∀ j u, news[j]? = some u → w.cell? (ad.add j) = some u)
    (hk : k + m ≤ 3000) (hb100 : bytes ≤ 100) (N : Nat) (hbN : b ≠ N) (hN : N < w.heap.size)
    (h : ∀ v' w1, SlN N size w1 v' (k + m) (xs ++ news) → Below w.heap.size w w1 → K (a.put o.dst v') w1) : if Region.wanted o (yielded ops a.tmps) = true then Oper.wp P o a w K Q else F := by
  have hw : Region.wanted o (yielded ops a.tmps) = true := by simp [Region.wanted, hgd]
  rw [if_pos hw]
  obtain ⟨v', w1, hr, h2, h3⟩ := run_app_cut (P := P) w t o.type e i z size bytes ht hi hz hsize hby b off k xs hxl hxs hbl ad m c news hl hnews hk hb100 N hbN hN
  unfold Oper.wp execOp
  simp only [ho, resolve, invoke, builtin, Sem.run_bind, Sem.run_pure, Result.andThen_ok, List.map_toArray, List.map_cons, List.map_nil, hs, hx, hr]
  exact h v' w1 h2 h3
theorem wrap_small_i64 (n : Int) (h0 : -9223372036854775808 ≤ n) (h1 : n ≤ 9223372036854775807) : IntKind.i64.wrap n = n := by
  rw [IntKind.wrap_i64]
  omega
theorem slv_cells {size : Nat} {w : World} {b off n c : Nat} {vs : List Value} (h : SlV size w (.slice (some ⟨b, off, none⟩) n c) n vs) (h0 : 0 < n) : ∀ j u, vs[j]? = some u → w.cell? ⟨b, off + j, none⟩ = some u := by
  obtain ⟨A, c', e, _, _, hp⟩ := h
  cases e
  obtain ⟨b', off', hA, _, hj⟩ := hp h0
  cases hA
  exact hj
theorem take_cells {w : World} {b off i : Nat} {vs : List Value} (h : ∀ j u, vs[j]? = some u → w.cell? ⟨b, off + j, none⟩ = some u) : ∀ j u, (vs.take i)[j]? = some u → w.drew.cell? ⟨b, off + j, none⟩ = some u := fun j u hu => by
  rw [List.getElem?_take] at hu
  split at hu
  · exact h j u hu
  · cases hu
theorem drop_cells {size : Nat} {w : World} {b off n c : Nat} {vs : List Value} (i : Nat) (hl : vs.length = n * size) (hi : i ≤ n) (hc : n ≤ c) (_ : 0 < n) (h : ∀ j u, vs[j]? = some u → w.cell? ⟨b, off + j, none⟩ = some u) :
    ∃ ad : Addr, (if c = i then some (⟨b, off, none⟩ : Addr) else some ⟨b, off + i * size, none⟩) = some ad ∧ ∀ j u, (vs.drop (i * size))[j]? = some u → w.drew.cell? (ad.add j) = some u := by
  by_cases hci : c = i
  · refine ⟨_, if_pos hci, fun j u hu => ?_⟩
    have : i = n := by omega
    rw [this, ← hl, List.drop_length] at hu
    cases hu
  · refine ⟨_, if_neg hci, fun j u hu => ?_⟩
    rw [List.getElem?_drop] at hu
    rw [add_off, Nat.add_assoc]
    exact h _ _ hu
/-- The copy, one pair less or none. -/
def QOne (w4 : World) (qE qS : Value) (A : Prs) (wx : World) : Prop :=
  ∃ (vA : Value) (A' : Prs), wx.heap[w4.heap.size]? = some (.cells #[qE, vA, qS] 25 (0, 0)) ∧ SlN w4.heap.size 2 wx vA A'.length (A'.map pairCs).flatten ∧ A'.Sublist A ∧ Below w4.heap.size w4 wx
/-- The copy, a scheme less too, or none. -/
def QTwo (w4 : World) (qE : Value) (A : Prs) (S : List ByteArray) (wx : World) : Prop :=
  ∃ (vA vS : Value) (A' : Prs) (S' : List ByteArray), wx.heap[w4.heap.size]? = some (.cells #[qE, vA, vS] 25 (0, 0)) ∧ SlA wx vA A' ∧ SlS wx vS S' ∧ A'.Sublist A ∧ S'.Sublist S ∧ Below w4.heap.size w4 wx
theorem pairCs_drop (l : Prs) (k : Nat) : ((l.drop k).map pairCs).flatten = (l.map pairCs).flatten.drop (k * 2) := by
  induction l generalizing k with
  | nil => simp
  | cons x l ih =>
    cases k with
    | zero => simp
    | succ k =>
      rw [List.drop_succ_cons, ih, List.map_cons, List.flatten_cons, show (k + 1) * 2 = k * 2 + 2 by omega]
      simp [pairCs]
theorem cut_len {α : Type} (l : List α) (i : Nat) (hi : i < l.length) : i + (l.length - (i + 1)) = (l.take i ++ l.drop (i + 1)).length := by
  rw [List.length_append, List.length_take, List.length_drop]
  omega
theorem slA_cut {w : World} {A : Prs} {v : Value} {i i1 : Nat} (hi1 : i1 = i + 1) (hi : i < A.length) (h : SlV 2 w v (i + (A.length - i1)) ((A.map pairCs).flatten.take (i * 2) ++ (A.map pairCs).flatten.drop (i1 * 2))) : SlA w v (A.take i ++ A.drop (i + 1)) := by
  subst hi1
  rw [← pairCs_take, ← pairCs_drop, ← List.flatten_append, ← List.map_append, cut_len A i hi] at h
  exact h
theorem slS_cut {w : World} {A : List ByteArray} {v : Value} {i i1 : Nat} (hi1 : i1 = i + 1) (hi : i < A.length) (h : SlV 1 w v (i + (A.length - i1)) ((A.map Value.string).take (i * 1) ++ (A.map Value.string).drop (i1 * 1))) : SlS w v (A.take i ++ A.drop (i + 1)) := by
  subst hi1
  rw [Nat.mul_one, Nat.mul_one, ← List.map_take, ← List.map_drop, ← List.map_append, cut_len A i hi] at h
  exact h
theorem q_one {w4 w7 : World} {qE qS x : Value} {A : Prs} {v : Value} {i i1 : Nat} (r7 : w7.heap[w4.heap.size]? = some (.cells #[qE, x, qS] 25 (0, 0))) (B7 : Below w4.heap.size w4 w7) (hi1 : i1 = i + 1) (hi : i < A.length)
    (h : SlN w4.heap.size 2 w7 v (i + (A.length - i1)) ((A.map pairCs).flatten.take (i * 2) ++ (A.map pairCs).flatten.drop (i1 * 2))) : QOne w4 qE qS A (w7.setCell ⟨w4.heap.size, 1, none⟩ v) := by
  refine ⟨v, A.take i ++ A.drop (i + 1), by simpa using Joins.block_setCell r7 (i := 1) v, ?_, cut_sub _ _, B7.setCell (Nat.le_refl _) _⟩
  have hl := (slA_cut hi1 hi h.here).open
  obtain ⟨_, _, e, _⟩ := hl
  obtain ⟨A1, c, e1, h⟩ := h
  refine ⟨_, _, e, fun w2 hs hw => slA_cut hi1 hi (h w2 (by simpa [World.setCell] using hs) fun k hk hk' => ?_)⟩
  rw [hw k (by simpa [World.setCell] using hk) hk', Below.heap_setCell _ _ _ _ hk']
theorem q_two {w4 wx w7 : World} {qE vA x : Value} {A A' : Prs} {S : List ByteArray} {v : Value} {i i1 : Nat} (r7 : w7.heap[w4.heap.size]? = some (.cells #[qE, vA, x] 25 (0, 0))) (B7 : Below w4.heap.size w4 w7) (hA : SlN w4.heap.size 2 wx vA A'.length (A'.map pairCs).flatten) (hb : Below wx.heap.size wx w7) (hs : A'.Sublist A) (hi1 : i1 = i + 1) (hi : i < S.length)
    (h : SlN w4.heap.size 1 w7 v (i + (S.length - i1)) ((S.map Value.string).take (i * 1) ++ (S.map Value.string).drop (i1 * 1))) : QTwo w4 qE A S (w7.setCell ⟨w4.heap.size, 2, none⟩ v) := by
  refine ⟨vA, v, A', S.take i ++ S.drop (i + 1), by simpa using Joins.block_setCell r7 (i := 2) v, ?_, slS_cut hi1 hi (h.sl _ _), hs, cut_sub _ _, B7.setCell (Nat.le_refl _) _⟩
  obtain ⟨_, _, _, hA⟩ := hA
  refine hA _ (by simpa [World.setCell] using hb.size) fun k hk hk' => ?_
  rw [Below.heap_setCell _ _ _ _ hk', hb.block k hk]
set_option maxHeartbeats 8000000 in
set_option maxRecDepth 100000 in
theorem less_law (v : Value) (E : List ByteArray) (A : Prs) (S : List ByteArray) (k : UInt8) (el nm val : ByteArray) (w : World) (hp : PolAt w v E A S) (ht : SpTab w) (hG : Glob w) (h1 : el.size ≤ 9223372036854775807) (h2 : nm.size ≤ 9223372036854775807) (h3 : val.size ≤ 9223372036854775807) :
    Calls Tryz.prog 6 #[v, .int .u8 (k.toNat : Int), .string el, .agg #[.string nm, .string val]] w (Yes w) := by
  obtain ⟨iA, hiA, hzA0, hzA1, hzA2⟩ := info_parts infoA
  obtain ⟨iS, hiS, hzS0, hzS1, hzS2⟩ := info_parts infoS
  have HP := Lib.hid hp
  obtain ⟨⟨vE, vA, vS, rfl, _, _, _⟩, _⟩ := hp
  obtain ⟨W, hW⟩ : ∃ W, (w.alloc (.cells #[vE, vA, vS] 25)).alloc (.cells #[.string nm, .string val] 38) = W := ⟨_, rfl⟩
  have B0 := Lib.hid (show Below w.heap.size w W by rw [← hW]; exact ((Below.refl _ w).alloc (Nat.le_refl _) _).alloc (by simp) _)
  have G0 := Lib.hid (show W.heap[w.heap.size]? = some (.cells #[vE, vA, vS] 25 (0, 0)) by rw [← hW]; exact (Below.heap_alloc _ _ _ (by simp)).trans (heap_alloc_new w _))
  have G1 := Lib.hid (show W.heap[w.heap.size + 1]? = some (.cells #[.string nm, .string val] 38 (0, 0)) by rw [← hW, show w.heap.size + 1 = (w.alloc (.cells #[vE, vA, vS] 25)).heap.size by simp]; exact heap_alloc_new _ _)
  have Z0 := Lib.hid (show w.heap.size + 1 < W.heap.size by rw [← hW]; simp)
  have HKN := Lib.hid fun w' (hb : Below w.heap.size w w') => known_any w' (ht.later hb) (hG.later hb)
  have HT := Lib.hid ht
  have HG := Lib.hid hG
  have HW := Lib.hid hW
  clear ht hG hW
  go_enter Tryz.func6, Tryz.ntmps6
  go_wp2_with fail
  rw [HW.out]
  refine Calls.mono (much_any _ E A S W (HP.out.later B0.out)) ?_
  rintro e w1 ⟨b, rfl, hbl, b1⟩
  have B1 := Lib.hid (below_on B0.out b1)
  have P1 := Lib.hid ((b1.block _ (by have := Z0.out; omega)).trans G0.out)
  have R1 := Lib.hid ((b1.block _ Z0.out).trans G1.out)
  have Z1 := Lib.hid (show w.heap.size + 1 < w1.heap.size from Nat.lt_of_lt_of_le Z0.out b1.size)
  have r1 := fun i => cell_of_row w1 (w.heap.size + 1) i _ _ _ R1.out
  have p1 := fun i => cell_of_row w1 w.heap.size i _ _ _ P1.out
  clear b1
  cases b with
  | true =>
    go_wp2_with fail
    refine Calls.mono (HKN.out _ B1.out) ?_
    rintro e w2 ⟨rfl, b2⟩
    have b2 := below_on B1.out b2
    go_wp2
    go_ret
    exact ⟨rfl, b2⟩
  | false =>
    obtain ⟨lE, lA, lS⟩ := hbl rfl
    clear hbl
    by_cases y1 : el.size ≤ 3000
    · have z1 : ¬ (3000 : Int) < (el.size : Int) := by omega
      by_cases y2 : nm.size ≤ 3000
      · have z2 : ¬ (3000 : Int) < (nm.size : Int) := by omega
        by_cases y3 : val.size ≤ 3000
        · have z3 : ¬ (3000 : Int) < (val.size : Int) := by omega
          go_wp2_with fail
          refine Calls.mono (HKN.out _ B1.out) ?_
          rintro e w2 ⟨rfl, b2⟩
          have B2 := Lib.hid (below_on B1.out b2)
          have P2 := Lib.hid ((b2.block _ (by have := Z1.out; omega)).trans P1.out)
          have R2 := Lib.hid ((b2.block _ Z1.out).trans R1.out)
          have Z2 := Lib.hid (show w.heap.size + 1 < w2.heap.size from Nat.lt_of_lt_of_le Z1.out b2.size)
          have p2 := fun i => cell_of_row w2 w.heap.size i _ _ _ P2.out
          clear b2 r1 p1 P1 R1 Z1
          go_wp2_with fail
          have hck := check_any _ E A S w2 (HP.out.later B2.out) (HT.out.later B2.out)
          obtain ⟨cb, hcb⟩ : ∃ cb, checkB E A S = cb := ⟨_, rfl⟩
          rw [hcb] at hck
          have HCB := Lib.hid hcb
          clear hcb
          refine Calls.mono hck ?_
          rintro e w3 ⟨rfl, b3⟩
          have B3 := Lib.hid (below_on B2.out b3)
          cases cb with
          | false =>
            rw [errOf_f]
            go_wp2
            go_ret
            exact ⟨rfl, B3.out⟩
          | true =>
            rw [errOf_t]
            have P3 := Lib.hid ((b3.block _ (by have := Z2.out; omega)).trans P2.out)
            have R3 := Lib.hid ((b3.block _ Z2.out).trans R2.out)
            have Z3 := Lib.hid (show w.heap.size + 1 < w3.heap.size from Nat.lt_of_lt_of_le Z2.out b3.size)
            have p3 := fun i => cell_of_row w3 w.heap.size i _ _ _ P3.out
            clear b3 p2 P2 R2 Z2 hck
            go_wp2_with fail
            refine Calls.mono (lent_any _ E A S w3 (HP.out.later B3.out) lE lA lS) ?_
            rintro e w4 ⟨v4, rfl, hp4, b4⟩
            have B4 := Lib.hid (below_on B3.out b4)
            have P4 := Lib.hid ((b4.block _ (by have := Z3.out; omega)).trans P3.out)
            have R4 := Lib.hid ((b4.block _ Z3.out).trans R3.out)
            have Z4 := Lib.hid (show w.heap.size + 1 < w4.heap.size from Nat.lt_of_lt_of_le Z3.out b4.size)
            obtain ⟨⟨qE, qA, qS, rfl, sE, sA, sS⟩, _⟩ := hp4
            obtain ⟨aE, cE, rfl, _, _⟩ := sE.open
            obtain ⟨aA, cA, rfl, kcA, kA⟩ := sA.open
            obtain ⟨aS, cS, rfl, kcS, kS⟩ := sS.open
            clear b4 p3 P3 R3 Z3
            obtain ⟨W5, hW5⟩ : ∃ W5, w4.alloc (.cells #[.slice aE E.length cE, .slice aA A.length cA, .slice aS S.length cS] 25) = W5 := ⟨_, rfl⟩
            have hb5 : Below w4.heap.size w4 W5 := by rw [← hW5]; exact (Below.refl _ w4).alloc (Nat.le_refl _) _
            have q5 : W5.heap[w4.heap.size]? = some (.cells #[.slice aE E.length cE, .slice aA A.length cA, .slice aS S.length cS] 25 (0, 0)) := by rw [← hW5]; exact heap_alloc_new w4 _
            have hQ5 : QOne w4 (.slice aE E.length cE) (.slice aS S.length cS) A W5 := ⟨_, A, q5, SlN.old sA hb5, List.Sublist.refl _, hb5⟩
            have HQ5 := Lib.hid hQ5
            have HW5 := Lib.hid hW5
            have HSE := Lib.hid sE; have HSA := Lib.hid sA; have HSS := Lib.hid sS
            have HKA := Lib.hid kA; have HKS := Lib.hid kS
            have HB5 := Lib.hid hb5
            have G5 := Lib.hid q5
            clear hW5 hb5 q5 hQ5 sE sA sS kA kS
            have l5 := fun i => cell_of_row W5 w4.heap.size i _ _ _ G5.out
            go_upto_region 6 with fail
            rw [HW5.out]
            go_upto_if 47 with fail
            go_cut [11] (fun _ wx => QOne w4 (.slice aE E.length cE) (.slice aS S.length cS) A wx)
            case first =>
              by_cases hA0 : A.length = 0
              · have zA : ¬ (0 : Int) < (A.length : Int) := by omega
                clear hA0
                go_wp2_with fail
                go_meet
                exact HQ5.out
              · have zA : (0 : Int) < (A.length : Int) := by omega
                have hrem : ((k.toNat : Int)).tmod (A.length : Int) = ((k.toNat % A.length : Nat) : Int) := by rw [Int.tmod_eq_emod_of_nonneg (by omega)]; omega
                have hil : k.toNat % A.length < A.length := Nat.mod_lt _ (by omega)
                obtain ⟨i, hi⟩ : ∃ i, k.toNat % A.length = i := ⟨_, rfl⟩
                rw [hi] at hrem hil
                clear hi
                obtain ⟨b, off, hAa, hbl, _⟩ := HKA.out 0 (by omega)
                subst hAa
                have hk256 : (k.toNat : Int) < 256 := by have := UInt8.toNat_lt k; omega
                have y1' : (i : Int) ≤ (cA : Int) := by omega
                have hSA5 := HSA.out.later HB5.out
                have hcs := slv_cells hSA5 (by omega)
                obtain ⟨i1, hi1⟩ : ∃ i1, i1 = i + 1 := ⟨_, rfl⟩
                have hwi : IntKind.i64.wrap ((i : Int) + 1) = (i1 : Int) := by rw [hi1]; exact wrap_small_i64 _ (by omega) (by omega)
                have y2' : (i1 : Int) ≤ (A.length : Int) := by omega
                have y4' : (0 : Int) ≤ (i1 : Int) := by omega
                obtain ⟨ad2, had2, hnews⟩ := drop_cells (b := b) (off := off) (c := cA) (size := 2) (w := W5) (n := A.length) (vs := (A.map pairCs).flatten) i1 (pairCs_len A) (by omega) kcA (by omega) hcs
                have HCS := Lib.hid (take_cells (i := i * 2) hcs)
                have HNews := Lib.hid hnews
                have HI1 := Lib.hid hi1
                have hbl5 : b < W5.drew.heap.size := Nat.lt_of_lt_of_le hbl HB5.out.size
                have f5 : ∀ i, W5.frozen? ⟨w4.heap.size, i, none⟩ = false := fun i => by simp [World.frozen?, G5.out]
                clear hnews hcs hSA5 hi1
                go_wp2_with fail
                go_region_law (refine step_cut rfl (.tmp 56) (.tmp 61) 23 rfl 36 iA _ 2 32 Tryz.underlying23 hiA hzA0 hzA1 hzA2 b off i ((A.map pairCs).flatten.take (i * 2)) rfl (by rw [List.length_take, pairCs_len]; omega) HCS.out hbl5 ad2 (A.length - i1) (cA - i1) ((A.map pairCs).flatten.drop (i1 * 2)) rfl (by rw [List.length_drop, pairCs_len]; omega) HNews.out (by have := HI1.out; omega) (by omega) w4.heap.size (Nat.ne_of_lt hbl) (by rw [← HW5.out]; simp) ?_; intro v7 w7 hv7 hb7; have H7 := Lib.hid hv7; obtain ⟨A7, c7, rfl, _⟩ := hv7; have B7 := Lib.hid ((show Below w4.heap.size w4 W5.drew from HB5.out.drew).trans (hb7.mono (by simpa using HB5.out.size))); have r7 := (hb7.block w4.heap.size (by rw [← HW5.out]; simp)).trans (show W5.drew.heap[w4.heap.size]? = _ from G5.out); have l7 := fun i => cell_of_row w7 w4.heap.size i _ _ _ r7; have f7 : ∀ i, w7.frozen? ⟨w4.heap.size, i, none⟩ = false := fun i => by simp [World.frozen?, r7])
                all_goals
                  go_wp2_with fail
                  go_meet
                  exact q_one r7 B7.out HI1.out hil H7.out
            case rest =>
              clear l5
              obtain ⟨x, hx⟩ : ∃ x, wc = x := ⟨_, rfl⟩
              rw [hx] at hcut ⊢
              clear hx
              obtain ⟨vA, A', rx, hAx, hsA, bx⟩ := hcut
              have Rx := Lib.hid rx
              have Bx := Lib.hid bx
              have HAx := Lib.hid hAx
              obtain ⟨aA', cA', rfl, _, _⟩ := (show SlA x vA A' from hAx.here).open
              have lx := fun i => cell_of_row x w4.heap.size i _ _ _ Rx.out
              clear rx bx hAx
              go_upto_if 68 with fail
              go_cut [12] (fun _ wx => QTwo w4 (.slice aE E.length cE) A S wx)
              case first =>
                by_cases hS0 : S.length = 0
                · have zS : ¬ (0 : Int) < (S.length : Int) := by omega
                  clear hS0
                  go_wp2_with fail
                  go_meet
                  exact ⟨_, _, A', S, Rx.out, HAx.out.here, HSS.out.later Bx.out, hsA, List.Sublist.refl _, Bx.out⟩
                · have zS : (0 : Int) < (S.length : Int) := by omega
                  have hrem : ((k.toNat : Int)).tmod (S.length : Int) = ((k.toNat % S.length : Nat) : Int) := by rw [Int.tmod_eq_emod_of_nonneg (by omega)]; omega
                  have hil : k.toNat % S.length < S.length := Nat.mod_lt _ (by omega)
                  obtain ⟨i, hi⟩ : ∃ i, k.toNat % S.length = i := ⟨_, rfl⟩
                  rw [hi] at hrem hil
                  clear hi
                  obtain ⟨b, off, hSa, hbl, _⟩ := HKS.out 0 (by omega)
                  subst hSa
                  have hk256 : (k.toNat : Int) < 256 := by have := UInt8.toNat_lt k; omega
                  have y1' : (i : Int) ≤ (cS : Int) := by omega
                  have hSA5 := HSS.out.later Bx.out
                  have hcs := slv_cells hSA5 (by omega)
                  obtain ⟨i1, hi1⟩ : ∃ i1, i1 = i + 1 := ⟨_, rfl⟩
                  have hwi : IntKind.i64.wrap ((i : Int) + 1) = (i1 : Int) := by rw [hi1]; exact wrap_small_i64 _ (by omega) (by omega)
                  have y2' : (i1 : Int) ≤ (S.length : Int) := by omega
                  have y4' : (0 : Int) ≤ (i1 : Int) := by omega
                  obtain ⟨ad2, had2, hnews⟩ := drop_cells (b := b) (off := off) (c := cS) (size := 1) (w := x) (n := S.length) (vs := S.map Value.string) i1 (by simp) (by omega) kcS (by omega) hcs
                  rw [Nat.mul_one] at had2
                  have HCS := Lib.hid (take_cells (i := i * 1) hcs)
                  have HNews := Lib.hid hnews
                  have HI1 := Lib.hid hi1
                  have hbl5 : b < x.drew.heap.size := Nat.lt_of_lt_of_le hbl Bx.out.size
                  have f5 : ∀ i, x.frozen? ⟨w4.heap.size, i, none⟩ = false := fun i => by simp [World.frozen?, Rx.out]
                  have hNx : w4.heap.size < x.drew.heap.size := (Array.getElem?_eq_some_iff.1 Rx.out).1
                  clear hnews hcs hSA5 hi1
                  go_wp2_with fail
                  go_region_law (refine step_cut rfl (.tmp 77) (.tmp 82) 22 rfl 9 iS _ 1 16 Tryz.underlying22 hiS hzS0 hzS1 hzS2 b off i ((S.map Value.string).take (i * 1)) rfl (by simp; omega) HCS.out hbl5 ad2 (S.length - i1) (cS - i1) ((S.map Value.string).drop (i1 * 1)) rfl (by simp) HNews.out (by have := HI1.out; omega) (by omega) w4.heap.size (Nat.ne_of_lt hbl) hNx ?_; intro v7 w7 hv7 hb7; have H7 := Lib.hid hv7; obtain ⟨A7, c7, rfl, _⟩ := hv7; have B8 := Lib.hid (show Below x.heap.size x w7 from (Below.refl _ x).drew.trans hb7); have B7 := Lib.hid (Bx.out.trans (B8.out.mono Bx.out.size)); have r7 := (B8.out.block w4.heap.size hNx).trans Rx.out; have l7 := fun i => cell_of_row w7 w4.heap.size i _ _ _ r7; have f7 : ∀ i, w7.frozen? ⟨w4.heap.size, i, none⟩ = false := fun i => by simp [World.frozen?, r7])
                  all_goals
                    go_wp2_with fail
                    go_meet
                    exact q_two r7 B7.out HAx.out B8.out hsA HI1.out hil H7.out
              case rest =>
                clear lx
                obtain ⟨y, hy⟩ : ∃ y, wc = y := ⟨_, rfl⟩
                rw [hy] at hcut ⊢
                clear hy
                obtain ⟨vA2, vS2, A2, S2, ry, hA2, hS2, sA2, sS2, bY⟩ := hcut
                have BY := Lib.hid bY
                have hB2 : Below w.heap.size w y := B4.out.trans (bY.mono B4.out.size)
                have ly := fun i => cell_of_row y w4.heap.size i _ _ _ ry
                have Py := Lib.hid ((bY.block w.heap.size (by have := Z4.out; omega)).trans P4.out)
                have Ry := Lib.hid ((bY.block _ Z4.out).trans R4.out)
                have py := fun i => cell_of_row y w.heap.size i _ _ _ Py.out
                have qy := fun i => cell_of_row y (w.heap.size + 1) i _ _ _ Ry.out
                have HPQ : PolAt y (.agg #[.slice aE E.length cE, vA2, vS2]) E A2 S2 := ⟨⟨_, _, _, rfl, HSE.out.later bY, hA2, hS2⟩, HP.out.lE, Nat.le_trans sA2.length_le HP.out.lA, Nat.le_trans sS2.length_le HP.out.lS, HP.out.sE, fun z hz => HP.out.sA z (sA2.subset hz), fun z hz => HP.out.sS z (sS2.subset hz)⟩
                have HQ := Lib.hid HPQ
                have HB2 := Lib.hid hB2
                have Hry := Lib.hid ry
                have Zy := Lib.hid (show w.heap.size + 1 < y.heap.size from Nat.lt_of_lt_of_le Z4.out bY.size)
                have Zq := Lib.hid (show w4.heap.size < y.heap.size from (Array.getElem?_eq_some_iff.1 ry).1)
                clear HPQ hB2 ry bY hA2 hS2
                go_wp2_with fail
                obtain ⟨kb, hkb⟩ : ∃ kb, keepsB E A2 S2 el nm val = kb := ⟨_, rfl⟩
                have hkeep := keeps_any _ E A2 S2 el nm val y HQ.out (HG.out.later HB2.out) (by omega)
                rw [hkb] at hkeep
                have HKB := Lib.hid hkb
                clear hkb
                refine Calls.mono hkeep ?_
                rintro e w5 ⟨rfl, b5⟩
                have ly5 := fun i => cell_of_row w5 w4.heap.size i _ _ _ ((b5.block _ Zq.out).trans Hry.out)
                have py5 := fun i => cell_of_row w5 w.heap.size i _ _ _ ((b5.block _ (by have := Zy.out; omega)).trans Py.out)
                have qy5 := fun i => cell_of_row w5 (w.heap.size + 1) i _ _ _ ((b5.block _ Zy.out).trans Ry.out)
                have B5 := Lib.hid (below_on HB2.out b5)
                have hck : checkB E A2 S2 = true := check_sub HCB.out sA2 sS2
                have hcall := check_any _ E A2 S2 w5 (HQ.out.later b5) (HT.out.later B5.out)
                rw [hck] at hcall
                clear hck hkeep ly py qy
                go_wp2_with fail
                refine Calls.mono hcall ?_
                rintro e w6 ⟨rfl, b6⟩
                rw [errOf_t]
                have B6 := Lib.hid (below_on B5.out b6)
                have py6 := fun i => cell_of_row w6 w.heap.size i _ _ _ ((b6.block _ (Nat.lt_of_lt_of_le (show w.heap.size < y.heap.size by have := Zy.out; omega) b5.size)).trans ((b5.block _ (by have := Zy.out; omega)).trans Py.out))
                have qy6 := fun i => cell_of_row w6 (w.heap.size + 1) i _ _ _ ((b6.block _ (Nat.lt_of_lt_of_le Zy.out b5.size)).trans ((b5.block _ Zy.out).trans Ry.out))
                clear b6 b5 ly5 py5 qy5 hcall
                cases kb with
                | false =>
                  go_wp2
                  go_ret
                  exact ⟨rfl, B6.out⟩
                | true =>
                  have hk2 : keepsB E A S el nm val = true := keeps_mono (fun _ h => h) (fun _ h => sA2.subset h) (fun _ h => sS2.subset h) HKB.out
                  have hcall := keeps_any _ E A S el nm val w6 (HP.out.later B6.out) (HG.out.later B6.out) (by omega)
                  rw [hk2] at hcall
                  clear hk2
                  go_wp2_with fail
                  refine Calls.mono hcall ?_
                  rintro e w7 ⟨rfl, b7⟩
                  have b7 := below_on B6.out b7
                  clear hcall
                  go_wp2
                  go_ret
                  exact ⟨rfl, b7⟩
        · have z3 : (3000 : Int) < (val.size : Int) := by omega
          go_wp2_with fail
          refine Calls.mono (HKN.out _ B1.out) ?_
          rintro e w2 ⟨rfl, b2⟩
          have b2 := below_on B1.out b2
          go_wp2
          go_ret
          exact ⟨rfl, b2⟩
      · have z2 : (3000 : Int) < (nm.size : Int) := by omega
        go_wp2_with fail
        refine Calls.mono (HKN.out _ B1.out) ?_
        rintro e w2 ⟨rfl, b2⟩
        have b2 := below_on B1.out b2
        go_wp2
        go_ret
        exact ⟨rfl, b2⟩
    · have z1 : (3000 : Int) < (el.size : Int) := by omega
      go_wp2_with fail
      refine Calls.mono (HKN.out _ B1.out) ?_
      rintro e w2 ⟨rfl, b2⟩
      have b2 := below_on B1.out b2
      go_wp2
      go_ret
      exact ⟨rfl, b2⟩
end Go.Proofs.YtjificnbeaemoaaGreatDoor
