/- For RuleOrder: a list turned; a growing row of one's own beside a row that is written. -/
import Derived.Test.YtdkjenbncmedbaaGreatDoorLessLaw
namespace Go.Proofs.YtdkjenbncmedbaaGreatDoor
open Go.RowKit

def rot {α : Type} (l : List α) (m : Nat) : List α := l.drop m ++ l.take m
theorem rot_len {α : Type} (l : List α) (m : Nat) (hm : m ≤ l.length) : (rot l m).length = l.length := by
  unfold rot
  rw [List.length_append, List.length_drop, List.length_take]
  omega
theorem rot_perm {α : Type} (l : List α) (m : Nat) : (rot l m).Perm l := by
  unfold rot
  have h := List.perm_append_comm (l₁ := l.drop m) (l₂ := l.take m)
  rwa [List.take_append_drop] at h
theorem rot_get {α : Type} (l : List α) (m i : Nat) (hm : m < l.length) (hi : i < l.length) : (rot l m)[i]? = l[(i + m) % l.length]? := by
  unfold rot
  by_cases h : i < l.length - m
  · rw [List.getElem?_append_left (by rw [List.length_drop]; exact h), List.getElem?_drop, Nat.mod_eq_of_lt (by omega), Nat.add_comm]
  · rw [List.getElem?_append_right (by rw [List.length_drop]; omega), List.length_drop, List.getElem?_take_of_lt (by omega)]
    congr 1
    rw [show i + m = (i + m - l.length) + l.length by omega, Nat.add_mod_right, Nat.mod_eq_of_lt (by omega)]
    omega
theorem rot_snoc {α : Type} (l : List α) (m i : Nat) (hm : m < l.length) (hi : i < l.length) : (rot l m).take (i + 1) = (rot l m).take i ++ [l[(i + m) % l.length]'(Nat.mod_lt _ (by omega))] := by
  have hr : i < (rot l m).length := by rw [rot_len _ _ (by omega)]; exact hi
  rw [List.take_succ_eq_append_getElem hr]
  congr 2
  have h := rot_get l m i hm hi
  rw [List.getElem?_eq_getElem hr, List.getElem?_eq_getElem (Nat.mod_lt _ (by omega))] at h
  exact Option.some.inj h
theorem own_sln {w : World} {base N : Nat} {e : TypeId} {size : Nat} {v : Value} {n : Nat} {xs : List Value} (h : w.ownsRow base e size v n xs) (hN : N < base) : SlN N size w v n xs := by
  obtain ⟨A, c, e1⟩ := slice_form h
  exact ⟨A, c, e1, fun w2 _ hw => own_slv (own_keep h fun g hb hg => hw g hg (by omega))⟩
/-- append onto a row of one's own, as one step of a region. -/
theorem step_own {P : Program} {w : World} {ops : Array Oper} {o : Oper} {a : Act} {K : Act → World → Prop} {Q : Exit → Act → World → Prop} {F : Prop} (hgd : o.guard = none) (s x : Operand) (t : TypeId)
    (ho : o.op = .call { callee := .builtin .append, args := #[s, x], argTypes := #[t, t] })
    (base : Nat) (e : TypeId) (i : TypeInfo) (z : Value) (size bytes : Nat) (ht : P.underlying t = some (.slice e)) (hi : P.info? e = some i) (hz : i.zero = some z)
    (hsize : i.size = size) (hby : i.bytes = bytes) (hzs : z.cells.size = size) (hsz : 0 < size) (v : Value) (hs : a.eval s = v) (k : Nat) (xs : List Value) (hown : w.ownsRow base e size v k xs)
    (ad : Addr) (m c : Nat) (news : List Value) (hx : a.eval x = .slice (some ad) m c) (hl : news.length = m * size) (hnews : ∀ j u, news[j]? = some u → w.cell? (ad.add j) = some u) (h1 : ∀ u ∈ news, u.oneCell' = true)
    (h63 : k + m ≤ maxLen) (hbytes : (k + m) * bytes ≤ 140737488355328) (hbase : base ≤ w.heap.size)
    (h : ∀ v' w1, w1.ownsRow base e size v' (k + m) (xs ++ news) → w.grownBy w1 v.ownBlock → K (a.put o.dst v') w1) : if Region.wanted o (yielded ops a.tmps) = true then Oper.wp P o a w K Q else F := by
  have hw : Region.wanted o (yielded ops a.tmps) = true := by simp [Region.wanted, hgd]
  rw [if_pos hw]
  obtain ⟨v', w1, hr, h2, h3, _, _⟩ := run_append_own_at (P := P) w base t o.type e i z size bytes ht hi hz hsize hby hzs hsz v k xs hown ad m c news hl hnews h1 h63 hbytes hbase
  unfold Oper.wp execOp
  simp only [ho, resolve, invoke, builtin, Sem.run_bind, Sem.run_pure, Result.andThen_ok, List.map_toArray, List.map_cons, List.map_nil, hs, hx, hr]
  exact h v' w1 h2 h3
theorem SlN.at_ {N size : Nat} {w : World} {v : Value} {n : Nat} {vs : List Value} (h : SlN N size w v n vs) (w2 : World) (hs : w.heap.size ≤ w2.heap.size) (hw : ∀ j, j < w.heap.size → j ≠ N → w2.heap[j]? = w.heap[j]?) : SlV size w2 v n vs := by
  obtain ⟨_, _, _, h⟩ := h
  exact h w2 hs hw
theorem rot_full {α : Type} (l : List α) (m : Nat) : (rot l m).length = l.length := by
  unfold rot
  rw [List.length_append, List.length_drop, List.length_take]
  omega
theorem ord_pol {w wx : World} {v vE vA vS : Value} {E : List ByteArray} {A : Prs} {S : List ByteArray} {m1 m2 m3 : Nat} (hp : PolAt w v E A S) (hE : SlV 1 wx vE E.length (((rot E m1).take E.length).map Value.string)) (hA : SlV 2 wx vA A.length (((rot A m2).take A.length).map pairCs).flatten) (hS : SlV 1 wx vS S.length (((rot S m3).take S.length).map Value.string)) : PolAt wx (.agg #[vE, vA, vS]) (rot E m1) (rot A m2) (rot S m3) := by
  rw [List.take_of_length_le (by rw [rot_full]; exact Nat.le_refl _)] at hE hA hS
  rw [← rot_full E m1] at hE
  rw [← rot_full A m2] at hA
  rw [← rot_full S m3] at hS
  exact ⟨⟨_, _, _, rfl, hE, hA, hS⟩, by rw [rot_full]; exact hp.lE, by rw [rot_full]; exact hp.lA, by rw [rot_full]; exact hp.lS, fun x hx => hp.sE x ((rot_perm _ _).mem_iff.1 hx), fun x hx => hp.sA x ((rot_perm _ _).mem_iff.1 hx), fun x hx => hp.sS x ((rot_perm _ _).mem_iff.1 hx)⟩
theorem ord_pol2 {w wx : World} {v vE vA vS : Value} {E : List ByteArray} {A : Prs} {S : List ByteArray} {m1 m2 m3 : Nat} {x : ByteArray} (hx : x.size ≤ maxLen) (hp : PolAt w v E A S) (hl : S.length ≤ 1000000) (hE : SlV 1 wx vE E.length (((rot E m1).take E.length).map Value.string)) (hA : SlV 2 wx vA A.length (((rot A m2).take A.length).map pairCs).flatten) (hS : SlV 1 wx vS (S.length + 1) (((rot S m3).take S.length).map Value.string ++ [.string x])) : PolAt wx (.agg #[vE, vA, vS]) (rot E m1) (rot A m2) (rot S m3 ++ [x]) := by
  rw [List.take_of_length_le (by rw [rot_full]; exact Nat.le_refl _)] at hE hA hS
  rw [← rot_full E m1] at hE
  rw [← rot_full A m2] at hA
  rw [show S.length + 1 = (rot S m3 ++ [x]).length by rw [List.length_append, rot_full]; rfl, show (rot S m3).map Value.string ++ [.string x] = (rot S m3 ++ [x]).map Value.string by rw [List.map_append]; rfl] at hS
  refine ⟨⟨_, _, _, rfl, hE, hA, hS⟩, by rw [rot_full]; exact hp.lE, by rw [rot_full]; exact hp.lA, by rw [List.length_append, rot_full]; simp; omega, fun x hx => hp.sE x ((rot_perm _ _).mem_iff.1 hx), fun x hx => hp.sA x ((rot_perm _ _).mem_iff.1 hx), fun y hy => ?_⟩
  rcases List.mem_append.1 hy with h | h
  · exact hp.sS y ((rot_perm _ _).mem_iff.1 h)
  · rw [List.mem_singleton.1 h]; exact hx
/-- A loop that copies into the field of the row qb. -/
def OrdW (e : TypeId) (size : Nat) (wA : World) (qb : Nat) (row : Value → Array Value) (cells : Nat → List Value) (n : Nat) (vi : Value) (wr : World) : Prop :=
  ∃ (k : Nat) (v : Value), vi = .int .i64 k ∧ k ≤ n ∧ wr.heap[qb]? = some (.cells (row v) 25 (0, 0)) ∧ (∀ j, j < wA.heap.size → j ≠ qb → wr.heap[j]? = wA.heap[j]?) ∧ wr.ownsRow wA.heap.size e size v k (cells k) ∧ Below qb wA wr
theorem ord_grow {wA wr w7 : World} {o : Obj} {e : TypeId} {size i : Nat} {v : Value} {xs : List Value} (hsz : wA.heap.size ≤ wr.heap.size) (hown : wr.ownsRow wA.heap.size e size v i xs) (hg : (wr.drew.alloc o).grownBy w7 v.ownBlock) (j : Nat) (hj : j < wA.heap.size) : w7.heap[j]? = wr.heap[j]? :=
  (hg.block j (by simp; omega) (by intro he; have := (hown.lt _ he.symm).1; omega)).trans (Below.heap_alloc wr.drew o j (by simp; omega))
theorem ord_next {wA wr w7 : World} {o : Obj} {e : TypeId} {size qb n i fld : Nat} {row : Value → Array Value} {cells : Nat → List Value} {v v' : Value} {news : List Value} (hq : qb < wA.heap.size) (hlt : i < n) (hown : wr.ownsRow wA.heap.size e size v i (cells i)) (hg : (wr.drew.alloc o).grownBy w7 v.ownBlock)
    (hown7 : w7.ownsRow wA.heap.size e size v' (i + 1) (cells i ++ news)) (hc : cells (i + 1) = cells i ++ news) (rq : wr.heap[qb]? = some (.cells (row v) 25 (0, 0))) (hsame : ∀ j, j < wA.heap.size → j ≠ qb → wr.heap[j]? = wA.heap[j]?) (hbl : Below qb wA wr) (hrow : (row v).setIfInBounds fld v' = row v') :
    OrdW e size wA qb row cells n (.int .i64 ((i + 1 : Nat) : Int)) (w7.setCell ⟨qb, fld, none⟩ v') := by
  have hgr := fun j hj => ord_grow hbl.size hown hg j hj
  refine ⟨i + 1, v', rfl, hlt, ?_, ?_, ?_, ?_⟩
  · have := Joins.block_setCell ((hgr qb hq).trans rq) (i := fld) v'
    rwa [hrow] at this
  · intro j hj hne
    rw [Below.heap_setCell _ _ _ _ hne, hgr j hj, hsame j hj hne]
  · rw [hc]
    exact ownsRow_setCell_below hown7 (a := ⟨qb, fld, none⟩) hq _
  · refine Below.setCell (hbl.trans (b := wr) ⟨hg.os, hg.tape, hg.output, ?_, fun j hj => hgr j (by omega)⟩) (Nat.le_refl _) _
    have := hg.size
    simp at this
    omega
end Go.Proofs.YtdkjenbncmedbaaGreatDoor
