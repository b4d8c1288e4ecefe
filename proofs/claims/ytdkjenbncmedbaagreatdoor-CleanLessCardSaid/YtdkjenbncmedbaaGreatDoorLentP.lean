/- tympanlaw05.much; tympanref00.LentPolicy: a policy of its own memory. -/
import Derived.Test.YtdkjenbncmedbaaGreatDoorPolCnt
namespace Go.Proofs.YtdkjenbncmedbaaGreatDoor
open Go.RowKit

def MuchR (w : World) (E : List ByteArray) (A : Prs) (S : List ByteArray) (e : Ending) (w' : World) : Prop := ∃ b, e = .returned (.bool b) ∧ (b = false → E.length ≤ 3000 ∧ A.length ≤ 3000 ∧ S.length ≤ 3000) ∧ Below w.heap.size w w'
set_option maxHeartbeats 1000000 in
set_option maxRecDepth 100000 in
theorem much_any (v : Value) (E : List ByteArray) (A : Prs) (S : List ByteArray) (w : World) (hp : PolAt w v E A S) : Calls Tryz.prog 9 #[v] w (MuchR w E A S) := by
  have hp0 := hp
  obtain ⟨⟨vE, vA, vS, rfl, _, _, _⟩, _⟩ := hp0
  have hb0 : Below w.heap.size w (w.alloc (.cells #[vE, vA, vS] 25)) := (Below.refl _ w).alloc (Nat.le_refl _) _
  have HC := Lib.hid (polcnt_any _ E A S _ (hp.later hb0) _ rfl)
  have HB0 := Lib.hid hb0
  clear hb0 hp
  go_enter Tryz.func9, Tryz.ntmps9
  go_wp2_with fail
  refine Calls.mono HC.out ?_
  rintro e w1 ⟨n, rfl, hlo, hhi, b1⟩
  have HB1 := Lib.hid (below_on HB0.out b1)
  have HLO := Lib.hid hlo
  clear b1 hlo
  go_wp2
  go_ret
  refine ⟨_, rfl, fun h => ?_, HB1.out⟩
  have h1 : ¬ (3000 : Int) < n := by simpa using h
  have := HLO.out
  omega
theorem run_app_none (P : Program) (w : World) (t ty e : TypeId) (i : TypeInfo) (ht : P.underlying t = some (.slice e)) (hi : P.info? e = some i) (c : Nat) :
    (Builtin.append_ #[t, t] ty #[.slice none 0 0, .slice none 0 c]).run P w = .ok (.slice none 0 0) w := by
  simp [Builtin.append_, run_underlying ht, sizeOf, typeInfo, hi, Builtin.lenOf, Builtin.firstCells]
theorem run_app_any {P : Program} (w : World) (t ty e : TypeId) (i : TypeInfo) (z : Value) (size bytes : Nat) (ht : P.underlying t = some (.slice e)) (hi : P.info? e = some i) (hz : i.zero = some z)
    (hsize : i.size = size) (hby : i.bytes = bytes) (hzs : z.cells.size = size) (hsz : 0 < size) (v : Value) (m : Nat) (news : List Value) (h : SlV size w v m news) (h1 : ∀ u ∈ news, u.oneCell' = true)
    (h63 : m ≤ maxLen) (hbytes : m * bytes ≤ 140737488355328) : ∃ v' w', (Builtin.append_ #[t, t] ty #[.slice none 0 0, v]).run P w = .ok v' w' ∧ w'.ownsRow w.heap.size e size v' m news ∧ w.grownBy w' none := by
  obtain ⟨A, c, rfl, hc, hl, hp⟩ := h
  cases A with
  | none =>
    have hm : m = 0 := by
      rcases Nat.eq_zero_or_pos m with h0 | h0
      · exact h0
      · obtain ⟨b, off, hA, _⟩ := hp h0; cases hA
    subst hm
    have hn : news = [] := List.eq_nil_of_length_eq_zero (by rw [hl]; omega)
    subst hn
    exact ⟨_, w, run_app_none P w t ty e i ht hi c, World.ownsRow_nil _ _ _ _, ⟨rfl, rfl, rfl, Nat.le_refl _, fun _ _ _ => rfl⟩⟩
  | some ad =>
    have hnews : ∀ j u, news[j]? = some u → w.cell? (ad.add j) = some u := fun j u hu => by
      have h0 : 0 < m := by
        rcases Nat.eq_zero_or_pos m with h0 | h0
        · subst h0
          have hn : news = [] := List.eq_nil_of_length_eq_zero (by rw [hl]; omega)
          subst hn
          cases hu
        · exact h0
      obtain ⟨b, off, hA, _, hj⟩ := hp h0
      cases hA
      rw [add_off]
      exact hj j u hu
    obtain ⟨v', w', hr, h2, h3, _, _⟩ := run_append_own_at (P := P) w w.heap.size t ty e i z size bytes ht hi hz hsize hby hzs hsz (.slice none 0 0) 0 [] (World.ownsRow_nil _ _ _ _) ad m c news hl hnews h1 (by omega) (by rw [Nat.zero_add]; exact hbytes) (Nat.le_refl _)
    rw [Nat.zero_add, List.nil_append] at h2
    exact ⟨v', w', hr, h2, h3⟩
theorem step_app {P : Program} (w : World) {ops : Array Oper} {rest : List Oper} {o : Oper} {a : Act} {Q : Exit → Act → World → Prop} (hgd : o.guard = none) (s x : Operand) (t : TypeId)
    (ho : o.op = .call { callee := .builtin .append, args := #[s, x], argTypes := #[t, t] })
    (e : TypeId) (i : TypeInfo) (z : Value) (size bytes : Nat) (ht : P.underlying t = some (.slice e)) (hi : P.info? e = some i) (hz : i.zero = some z)
    (hsize : i.size = size) (hby : i.bytes = bytes) (hzs : z.cells.size = size) (hsz : 0 < size) (hs : a.eval s = .slice none 0 0) (v : Value) (hx : a.eval x = v) (m : Nat) (news : List Value) (h : SlV size w v m news) (h1 : ∀ u ∈ news, u.oneCell' = true)
    (h63 : m ≤ maxLen) (hbytes : m * bytes ≤ 140737488355328)
    (hK : ∀ v' w', w'.ownsRow w.heap.size e size v' m news → w.grownBy w' none → wpList P ops Q rest (a.put o.dst v') w') :
    wpList P ops Q (o :: rest) a w := by
  refine wpList_plain hgd fun K hK' => ?_
  obtain ⟨v', w', hr, h2, h3⟩ := run_app_any (P := P) w t o.type e i z size bytes ht hi hz hsize hby hzs hsz v m news h h1 h63 hbytes
  unfold Oper.wp execOp
  simp only [ho, resolve, invoke, builtin, Sem.run_bind, Sem.run_pure, Result.andThen_ok, List.map_toArray, List.map_cons, List.map_nil, hs, hx, hr]
  exact hK' _ _ (hK v' w' h2 h3)
theorem own_slv {w : World} {base : Nat} {e : TypeId} {size : Nat} {v : Value} {n : Nat} {xs : List Value} (h : w.ownsRow base e size v n xs) : SlV size w v n xs := by
  obtain ⟨hl, h⟩ := h
  rcases h with ⟨rfl, rfl⟩ | ⟨g, cap, cur, rfl, _, hg, hc, _, _, ht⟩
  · exact ⟨_, _, rfl, Nat.le_refl _, hl, fun h => absurd h (Nat.lt_irrefl 0)⟩
  · exact sl_own hg hc hl ht
theorem slice_form {w : World} {base : Nat} {e : TypeId} {size : Nat} {v : Value} {n : Nat} {xs : List Value} (h : w.ownsRow base e size v n xs) : ∃ A c, v = .slice A n c := by
  rcases h.2 with ⟨rfl, rfl⟩ | ⟨g, cap, cur, rfl, _⟩
  · exact ⟨_, _, rfl⟩
  · exact ⟨_, _, rfl⟩
theorem own_keep {w w' : World} {base : Nat} {e : TypeId} {size : Nat} {v : Value} {n : Nat} {xs : List Value} (h : w.ownsRow base e size v n xs) (hs : ∀ g, base ≤ g → g < w.heap.size → w'.heap[g]? = w.heap[g]?) : w'.ownsRow base e size v n xs := by
  obtain ⟨hl, h⟩ := h
  refine ⟨hl, ?_⟩
  rcases h with h | ⟨g, cap, cur, hv, hb, hg, r⟩
  · exact .inl h
  · exact .inr ⟨g, cap, cur, hv, hb, (hs g hb (Array.getElem?_eq_some_iff.1 hg).1).trans hg, r⟩
theorem pol_end3 (w w2 : World) (n : Nat) (x : Array Value) (hx : x.size = 3) (a b c : Value) (hb : Below w.heap.size w w2) (hn : w.heap.size ≤ n) (h : w2.heap[n]? = some (.cells x 25 (0, 0))) :
    (((w2.setCell ⟨n, 0, none⟩ a).setCell ⟨n, 1, none⟩ b).setCell ⟨n, 2, none⟩ c).heap[n]? = some (.cells #[a, b, c] 25 (0, 0)) ∧ Below w.heap.size w (((w2.setCell ⟨n, 0, none⟩ a).setCell ⟨n, 1, none⟩ b).setCell ⟨n, 2, none⟩ c) := by
  have h1 := Joins.block_setCell h (i := 0) a
  have h2 := Joins.block_setCell h1 (i := 1) b
  have h3 := Joins.block_setCell h2 (i := 2) c
  obtain ⟨l⟩ := x
  match l, hx with
  | [_, _, _], _ => exact ⟨by simpa using h3, ((hb.setCell hn _).setCell hn _).setCell hn _⟩
theorem grown_below {w w' : World} (h : w.grownBy w' none) : Below w.heap.size w w' := ⟨h.os, h.tape, h.output, h.size, fun j hj => h.block j hj (by simp)⟩
theorem one_s (l : List ByteArray) : ∀ u ∈ l.map Value.string, u.oneCell' = true := fun u hu => by
  obtain ⟨x, _, rfl⟩ := List.mem_map.1 hu
  rfl
theorem one_p (l : Prs) : ∀ u ∈ (l.map pairCs).flatten, u.oneCell' = true := fun u hu => by
  obtain ⟨c, hc, huc⟩ := List.mem_flatten.1 hu
  obtain ⟨a, _, rfl⟩ := List.mem_map.1 hc
  simp [pairCs] at huc
  rcases huc with rfl | rfl <;> rfl
theorem infoS : (Tryz.prog.info? 9).map (fun i => (i.zero, i.size, i.bytes)) = some (some (.string ⟨#[]⟩), 1, 16) := by kernel_rfl
def LentR (w : World) (E : List ByteArray) (A : Prs) (S : List ByteArray) (e : Ending) (w' : World) : Prop := ∃ v, e = .returned v ∧ PolAt w' v E A S ∧ Below w.heap.size w w'
set_option maxHeartbeats 4000000 in
set_option maxRecDepth 100000 in
theorem lent_any (v : Value) (E : List ByteArray) (A : Prs) (S : List ByteArray) (w : World) (hp : PolAt w v E A S) (lE : E.length ≤ 3000) (lA : A.length ≤ 3000) (lS : S.length ≤ 3000) : Calls Tryz.prog 22 #[v] w (LentR w E A S) := by
  obtain ⟨iA, hiA, hzA0, hzA1, hzA2⟩ := info_parts infoA
  obtain ⟨iS, hiS, hzS0, hzS1, hzS2⟩ := info_parts infoS
  have HP := Lib.hid hp
  obtain ⟨⟨vE, vA, vS, rfl, hE, hA, hS⟩, _⟩ := hp
  obtain ⟨a1, c1, rfl, _, _⟩ := hE.open
  obtain ⟨a2, c2, rfl, _, _⟩ := hA.open
  obtain ⟨a3, c3, rfl, _, _⟩ := hS.open
  have HE := Lib.hid hE
  have HA := Lib.hid hA
  have HS := Lib.hid hS
  clear hE hA hS
  go_enter Tryz.func22, Tryz.ntmps22
  go_upto_region 2 with fail
  obtain ⟨W, hW⟩ : ∃ W, ((w.alloc (.cells #[.slice a1 E.length c1, .slice a2 A.length c2, .slice a3 S.length c3] 25)).alloc (.cells #[.slice none 0 0, .slice none 0 0, .slice none 0 0] 25)).alloc (.cells #[.slice none 0 0, .slice none 0 0, .slice none 0 0] 25) = W := ⟨_, rfl⟩
  have B0 := Lib.hid (show Below w.heap.size w W by rw [← hW]; exact (((Below.refl _ w).alloc (Nat.le_refl _) _).alloc (by simp) _).alloc (by simp; omega) _)
  have Q0 := Lib.hid (show W.heap[w.heap.size + 1 + 1]? = some (.cells #[.slice none 0 0, .slice none 0 0, .slice none 0 0] 25 (0, 0)) by rw [← hW, show w.heap.size + 1 + 1 = ((w.alloc (.cells #[.slice a1 E.length c1, .slice a2 A.length c2, .slice a3 S.length c3] 25)).alloc (.cells #[.slice none 0 0, .slice none 0 0, .slice none 0 0] 25)).heap.size by simp]; exact heap_alloc_new _ _)
  have P0 := Lib.hid (show W.heap[w.heap.size]? = some (.cells #[.slice a1 E.length c1, .slice a2 A.length c2, .slice a3 S.length c3] 25 (0, 0)) by rw [← hW]; exact (Below.heap_alloc _ _ _ (by simp; omega)).trans ((Below.heap_alloc _ _ _ (by simp)).trans (heap_alloc_new w _)))
  have R0 := Lib.hid (show W.heap[w.heap.size + 1]? = some (.cells #[.slice none 0 0, .slice none 0 0, .slice none 0 0] 25 (0, 0)) by rw [← hW]; exact (Below.heap_alloc _ _ _ (by simp)).trans (by rw [show w.heap.size + 1 = (w.alloc (.cells #[.slice a1 E.length c1, .slice a2 A.length c2, .slice a3 S.length c3] 25)).heap.size by simp]; exact heap_alloc_new _ _))
  have Z0 := Lib.hid (show w.heap.size + 1 + 1 < W.heap.size by rw [← hW]; simp)
  rw [hW]
  clear hW
  have c1 := fun i => cell_of_row W (w.heap.size + 1 + 1) i _ _ _ Q0.out
  have p1 := fun i => cell_of_row W w.heap.size i _ _ _ P0.out
  go_upto_region 3 with (first
    | (at_builtin; refine step_app _ rfl _ _ 22 rfl 9 iS _ 1 16 Tryz.underlying22 hiS hzS0 hzS1 hzS2 rfl (by decide) rfl _ rfl E.length (E.map Value.string) (HE.out.later B0.out) (one_s E) (by unfold maxLen; omega) (by omega) ?_; intro v1 u1 hown1 hg1; obtain ⟨x1, y1, rfl⟩ := slice_form hown1; have r1 := (hg1.block (w.heap.size + 1 + 1) Z0.out (by simp)).trans Q0.out; have cc1 := (fun i => cell_of_row u1 (w.heap.size + 1 + 1) i _ _ _ r1); have ff1 : ∀ i, u1.frozen? ⟨w.heap.size + 1 + 1, i, none⟩ = false := (fun i => by simp [World.frozen?, r1]))
    | fail)
  obtain ⟨W1, hW1⟩ : ∃ W1, u1.setCell ⟨w.heap.size + 1 + 1, 0, none⟩ (.slice x1 E.length y1) = W1 := ⟨_, rfl⟩
  have b1 : Below (w.heap.size + 1 + 1) W W1 := by rw [← hW1]; exact Below.setCell ((grown_below hg1).mono (Nat.le_of_lt Z0.out)) (Nat.le_refl _) _
  have B1 := Lib.hid (show Below w.heap.size w W1 from B0.out.trans (b1.mono (by omega)))
  have Q1 := Lib.hid (show W1.heap[w.heap.size + 1 + 1]? = some (.cells #[.slice x1 E.length y1, .slice none 0 0, .slice none 0 0] 25 (0, 0)) by rw [← hW1]; exact Joins.block_setCell r1 (i := 0) _)
  have P1 := Lib.hid ((b1.block w.heap.size (by omega)).trans P0.out)
  have R1 := Lib.hid ((b1.block (w.heap.size + 1) (by omega)).trans R0.out)
  have Z1 := Lib.hid (show w.heap.size + 1 + 1 < W1.heap.size from Nat.lt_of_lt_of_le Z0.out b1.size)
  have O1 := Lib.hid (show W1.ownsRow W.heap.size 9 1 (.slice x1 E.length y1) E.length (E.map Value.string) by rw [← hW1]; exact ownsRow_setCell_below hown1 (a := ⟨w.heap.size + 1 + 1, 0, none⟩) Z0.out _)
  have K1 := Lib.hid (show ∀ j, j ≠ w.heap.size + 1 + 1 → j < W.heap.size → W1.heap[j]? = W.heap[j]? from fun j hj hlt => by rw [← hW1, Below.heap_setCell _ _ _ _ hj]; exact hg1.block j hlt (by simp))
  rw [hW1]
  clear c1 p1 cc1 ff1 r1 hown1 hg1 hW1 b1
  have c2 := fun i => cell_of_row W1 (w.heap.size + 1 + 1) i _ _ _ Q1.out
  have p2 := fun i => cell_of_row W1 w.heap.size i _ _ _ P1.out
  go_upto_region 4 with (first
    | (at_builtin; refine step_app _ rfl _ _ 23 rfl 31 iA _ 2 32 Tryz.underlying23 hiA hzA0 hzA1 hzA2 rfl (by decide) rfl _ rfl A.length (A.map pairCs).flatten (HA.out.later B1.out) (one_p A) (by unfold maxLen; omega) (by omega) ?_; intro v2 u2 hown2 hg2; obtain ⟨x2, y2, rfl⟩ := slice_form hown2; have r2 := (hg2.block (w.heap.size + 1 + 1) Z1.out (by simp)).trans Q1.out; have cc2 := (fun i => cell_of_row u2 (w.heap.size + 1 + 1) i _ _ _ r2); have ff2 : ∀ i, u2.frozen? ⟨w.heap.size + 1 + 1, i, none⟩ = false := (fun i => by simp [World.frozen?, r2]))
    | fail)
  obtain ⟨W2, hW2⟩ : ∃ W2, u2.setCell ⟨w.heap.size + 1 + 1, 1, none⟩ (.slice x2 A.length y2) = W2 := ⟨_, rfl⟩
  have b2 : Below (w.heap.size + 1 + 1) W1 W2 := by rw [← hW2]; exact Below.setCell ((grown_below hg2).mono (Nat.le_of_lt Z1.out)) (Nat.le_refl _) _
  have K2s := Lib.hid b2.size
  have B2 := Lib.hid (show Below w.heap.size w W2 from B1.out.trans (b2.mono (by omega)))
  have Q2 := Lib.hid (show W2.heap[w.heap.size + 1 + 1]? = some (.cells #[.slice x1 E.length y1, .slice x2 A.length y2, .slice none 0 0] 25 (0, 0)) by rw [← hW2]; exact Joins.block_setCell r2 (i := 1) _)
  have P2 := Lib.hid ((b2.block w.heap.size (by omega)).trans P1.out)
  have R2 := Lib.hid ((b2.block (w.heap.size + 1) (by omega)).trans R1.out)
  have Z2 := Lib.hid (show w.heap.size + 1 + 1 < W2.heap.size from Nat.lt_of_lt_of_le Z1.out b2.size)
  have O2 := Lib.hid (show W2.ownsRow W1.heap.size 31 2 (.slice x2 A.length y2) A.length (A.map pairCs).flatten by rw [← hW2]; exact ownsRow_setCell_below hown2 (a := ⟨w.heap.size + 1 + 1, 1, none⟩) Z1.out _)
  have K2 := Lib.hid (show ∀ j, j ≠ w.heap.size + 1 + 1 → j < W1.heap.size → W2.heap[j]? = W1.heap[j]? from fun j hj hlt => by rw [← hW2, Below.heap_setCell _ _ _ _ hj]; exact hg2.block j hlt (by simp))
  rw [hW2]
  clear c2 p2 cc2 ff2 r2 hown2 hg2 hW2 b2
  have c3 := fun i => cell_of_row W2 (w.heap.size + 1 + 1) i _ _ _ Q2.out
  have p3 := fun i => cell_of_row W2 w.heap.size i _ _ _ P2.out
  go_upto_region 5 with (first
    | (at_builtin; refine step_app _ rfl _ _ 22 rfl 9 iS _ 1 16 Tryz.underlying22 hiS hzS0 hzS1 hzS2 rfl (by decide) rfl _ rfl S.length (S.map Value.string) (HS.out.later B2.out) (one_s S) (by unfold maxLen; omega) (by omega) ?_; intro v3 u3 hown3 hg3; obtain ⟨x3, y3, rfl⟩ := slice_form hown3; have r3 := (hg3.block (w.heap.size + 1 + 1) Z2.out (by simp)).trans Q2.out; have cc3 := (fun i => cell_of_row u3 (w.heap.size + 1 + 1) i _ _ _ r3); have ff3 : ∀ i, u3.frozen? ⟨w.heap.size + 1 + 1, i, none⟩ = false := (fun i => by simp [World.frozen?, r3]))
    | fail)
  obtain ⟨W3, hW3⟩ : ∃ W3, u3.setCell ⟨w.heap.size + 1 + 1, 2, none⟩ (.slice x3 S.length y3) = W3 := ⟨_, rfl⟩
  have b3 : Below (w.heap.size + 1 + 1) W2 W3 := by rw [← hW3]; exact Below.setCell ((grown_below hg3).mono (Nat.le_of_lt Z2.out)) (Nat.le_refl _) _
  have B3 := Lib.hid (show Below w.heap.size w W3 from B2.out.trans (b3.mono (by omega)))
  have Q3 := Lib.hid (show W3.heap[w.heap.size + 1 + 1]? = some (.cells #[.slice x1 E.length y1, .slice x2 A.length y2, .slice x3 S.length y3] 25 (0, 0)) by rw [← hW3]; exact Joins.block_setCell r3 (i := 2) _)
  have P3 := Lib.hid ((b3.block w.heap.size (by omega)).trans P2.out)
  have R3 := Lib.hid ((b3.block (w.heap.size + 1) (by omega)).trans R2.out)
  have Z3 := Lib.hid (show w.heap.size + 1 + 1 < W3.heap.size from Nat.lt_of_lt_of_le Z2.out b3.size)
  have O3 := Lib.hid (show W3.ownsRow W2.heap.size 9 1 (.slice x3 S.length y3) S.length (S.map Value.string) by rw [← hW3]; exact ownsRow_setCell_below hown3 (a := ⟨w.heap.size + 1 + 1, 2, none⟩) Z2.out _)
  have K3 := Lib.hid (show ∀ j, j ≠ w.heap.size + 1 + 1 → j < W2.heap.size → W3.heap[j]? = W2.heap[j]? from fun j hj hlt => by rw [← hW3, Below.heap_setCell _ _ _ _ hj]; exact hg3.block j hlt (by simp))
  rw [hW3]
  clear c3 p3 cc3 ff3 r3 hown3 hg3 hW3 b3
  have c4 := fun i => cell_of_row W3 (w.heap.size + 1 + 1) i _ _ _ Q3.out
  have c5 := fun i => cell_of_row W3 (w.heap.size + 1) i _ _ _ R3.out
  have f5 : ∀ i, W3.frozen? ⟨w.heap.size + 1, i, none⟩ = false := fun i => by simp [World.frozen?, R3.out]
  go_wp2
  have HEnd := Lib.hid (pol_end3 w W3 (w.heap.size + 1) _ rfl (.slice x1 E.length y1) (.slice x2 A.length y2) (.slice x3 S.length y3) B3.out (by omega) R3.out)
  obtain ⟨W4, hW4⟩ : ∃ W4, ((W3.setCell ⟨w.heap.size + 1, 0, none⟩ (.slice x1 E.length y1)).setCell ⟨w.heap.size + 1, 1, none⟩ (.slice x2 A.length y2)).setCell ⟨w.heap.size + 1, 2, none⟩ (.slice x3 S.length y3) = W4 := ⟨_, rfl⟩
  have hother : ∀ j, j ≠ w.heap.size + 1 → W4.heap[j]? = W3.heap[j]? := fun j hj => by rw [← hW4]; exact (Below.heap_setCell _ _ _ _ hj).trans ((Below.heap_setCell _ _ _ _ hj).trans (Below.heap_setCell _ _ _ _ hj))
  rw [hW4] at HEnd ⊢
  (try simp only [Exit.inBlock, Exit.then])
  refine bodyPost_ret (results_cell_row rfl _ W4 (w.heap.size + 1) _ _ _ _ rfl HEnd.out.1 Tryz.underlying25 rfl (by kernel_rfl)) rfl ?_
  have hz0 := Z0.out; have hz1 := Z1.out; have hz2 := Z2.out
  have o1 := own_keep O1.out (w' := W4) fun j h1 h2 => (hother j (by omega)).trans ((K3.out j (by omega) (by have := (show W1.heap.size ≤ W2.heap.size from K2s.out); omega)).trans (K2.out j (by omega) h2))
  have o2 := own_keep O2.out (w' := W4) fun j h1 h2 => (hother j (by omega)).trans (K3.out j (by omega) h2)
  have o3 := own_keep O3.out (w' := W4) fun j h1 h2 => hother j (by omega)
  obtain ⟨_, m1, m2, m3, m4, m5, m6⟩ := HP.out
  exact ⟨_, rfl, ⟨⟨_, _, _, rfl, own_slv o1, own_slv o2, own_slv o3⟩, m1, m2, m3, m4, m5, m6⟩, HEnd.out.2⟩
end Go.Proofs.YtdkjenbncmedbaaGreatDoor
