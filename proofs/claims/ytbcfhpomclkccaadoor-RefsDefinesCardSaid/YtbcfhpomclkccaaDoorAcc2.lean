/- append of bytes to a row of the call's own, in the words of Acc: in a plain region and in one that draws its order. -/
import Derived.Test.YtbcfhpomclkccaaDoorAcc
import Derived.RegionTactic
import Derived.Deep.RegionLaw
namespace Go.Proofs.YtbcfhpomclkccaaDoor
open Go.RowKit

theorem run_acc {w wr : World} {v : Value} {acc : List UInt8} (h : Acc w v acc wr) (ty : TypeId) (ad : Addr) (m c : Nat) (xs : List UInt8) (hm : m = xs.length) (hc : ∀ j u, (xs.map u8c)[j]? = some u → wr.cell? (ad.add j) = some u) (hlen : acc.length + xs.length ≤ 70368744177664) :
    ∃ v' w1, (Builtin.append_ #[22, 22] ty #[v, .slice (some ad) m c]).run Tryd.prog wr = .ok v' w1 ∧ Acc w v' (acc ++ xs) w1 := by
  obtain ⟨i0, hi, hz0, hz1, hz2⟩ := info_parts acc_byte
  obtain ⟨v', w1, hr, h2, h3, _, _⟩ := run_append_own_at (P := Tryd.prog) wr w.heap.size 22 ty 5 i0 _ 1 1 Tryd.underlying22 hi hz0 hz1 hz2 rfl (by decide) v acc.length (acc.map u8c) h.1 ad m c (xs.map u8c) (by rw [List.length_map]; omega) hc (one_cell_u8 xs) (by unfold maxLen; omega) (by omega) h.2.size
  exact ⟨v', w1, hr, h.step h3 h2 (by rw [List.length_append]; omega) (by rw [List.map_append])⟩

theorem wpList_acc {w wr : World} {ops : Array Oper} {rest : List Oper} {o : Oper} {a : Act} {Q : Exit → Act → World → Prop} (hgd : o.guard = none) (s x : Operand)
    (ho : o.op = .call { callee := .builtin .append, args := #[s, x], argTypes := #[22, 22] }) (v : Value) (acc : List UInt8) (hs : a.eval s = v) (hacc : Acc w v acc wr)
    (ad : Addr) (m c : Nat) (xs : List UInt8) (hx : a.eval x = .slice (some ad) m c) (hm : m = xs.length) (hc : ∀ j u, (xs.map u8c)[j]? = some u → wr.cell? (ad.add j) = some u) (hlen : acc.length + xs.length ≤ 70368744177664)
    (h : ∀ v' w1, Acc w v' (acc ++ xs) w1 → wpList Tryd.prog ops Q rest (a.put o.dst v') w1) : wpList Tryd.prog ops Q (o :: rest) a wr := by
  refine wpList_plain hgd fun K hK => ?_
  obtain ⟨v', w1, hr, h2⟩ := run_acc hacc o.type ad m c xs hm hc hlen
  unfold Oper.wp execOp
  simp only [ho, resolve, invoke, builtin, Sem.run_bind, Sem.run_pure, Result.andThen_ok, List.map_toArray, List.map_cons, List.map_nil, hs, hx, hr]
  exact hK _ _ (h v' w1 h2)

theorem step_acc {w wr : World} {ops : Array Oper} {o : Oper} {a : Act} {K : Act → World → Prop} {Q : Exit → Act → World → Prop} {E : Prop} (hgd : o.guard = none) (s x : Operand)
    (ho : o.op = .call { callee := .builtin .append, args := #[s, x], argTypes := #[22, 22] }) (v : Value) (acc : List UInt8) (hs : a.eval s = v) (hacc : Acc w v acc wr)
    (ad : Addr) (m c : Nat) (xs : List UInt8) (hx : a.eval x = .slice (some ad) m c) (hm : m = xs.length) (hc : ∀ j u, (xs.map u8c)[j]? = some u → wr.cell? (ad.add j) = some u) (hlen : acc.length + xs.length ≤ 70368744177664)
    (h : ∀ v' w1, Acc w v' (acc ++ xs) w1 → K (a.put o.dst v') w1) : if Region.wanted o (yielded ops a.tmps) = true then Oper.wp Tryd.prog o a wr K Q else E := by
  have hw : Region.wanted o (yielded ops a.tmps) = true := by simp [Region.wanted, hgd]
  rw [if_pos hw]
  obtain ⟨v', w1, hr, h2⟩ := run_acc hacc o.type ad m c xs hm hc hlen
  unfold Oper.wp execOp
  simp only [ho, resolve, invoke, builtin, Sem.run_bind, Sem.run_pure, Result.andThen_ok, List.map_toArray, List.map_cons, List.map_nil, hs, hx, hr]
  exact h v' w1 h2
/-- The one new cell of 'append(out, c)'. -/
theorem one_new (w : World) (x : UInt8) : ∀ j u, ([x].map u8c)[j]? = some u → (w.alloc (.cells #[.int .u8 (x.toNat : Int)] 5)).cell? ((⟨w.heap.size, 0, none⟩ : Addr).add j) = some u := cell_one_new w (u8c x) 5
end Go.Proofs.YtbcfhpomclkccaaDoor
