/- The reference's Strip. -/
import Derived.Test.YtjificnbeaemoaaGreatDoorStrip
namespace Go.Proofs.YtjificnbeaemoaaGreatDoor
open Go.RowKit

theorem lcut_cons (b : UInt8) (r : List UInt8) : lcut (b :: r) = if b.toNat ≤ 32 then lcut r else b :: r := by
  unfold lcut
  rw [List.dropWhile_cons]
  unfold sp
  simp only [decide_eq_true_eq]
theorem rcut_snoc1 (a : List UInt8) (b : UInt8) : rcut (a ++ [b]) = if b.toNat ≤ 32 then rcut a else a ++ [b] := by
  unfold rcut
  rw [List.reverse_append, List.reverse_singleton, List.singleton_append, List.dropWhile_cons]
  unfold sp
  simp only [decide_eq_true_eq]
  split
  · rfl
  · rw [List.reverse_cons, List.reverse_reverse]
theorem lcut_str (u : ByteArray) (h : 0 < u.size) : lcut u.data.toList = if u[0].toNat ≤ 32 then lcut (u.extract 1 u.size).data.toList else u.data.toList := by
  have hl : u.data.toList.length = u.size := Array.length_toList
  have e : (u.extract 1 u.size).data.toList = u.data.toList.drop 1 := by
    rw [Lib.extract_data, List.take_of_length_le (by rw [List.length_drop]; omega)]
  have e2 : u.data.toList = u[0] :: u.data.toList.drop 1 := by
    have := List.drop_eq_getElem_cons (l := u.data.toList) (i := 0) (by omega)
    rw [List.drop_zero] at this
    exact this
  rw [e]
  conv => lhs; rw [e2]
  rw [lcut_cons]
  split
  · rfl
  · exact e2.symm
theorem rcut_str (u : ByteArray) (n : Nat) (h : u.size = n + 1) : rcut u.data.toList = if u[n].toNat ≤ 32 then rcut (u.extract 0 n).data.toList else u.data.toList := by
  have hl : u.data.toList.length = u.size := Array.length_toList
  have e : (u.extract 0 n).data.toList = u.data.toList.take n := by rw [Lib.extract_data]; simp
  have e2 : u.data.toList = u.data.toList.take n ++ [u[n]] := by
    have h1 := List.take_succ_eq_append_getElem (l := u.data.toList) (i := n) (by omega)
    rw [List.take_of_length_le (by omega)] at h1
    exact h1
  rw [e]
  conv => lhs; rw [e2]
  rw [rcut_snoc1]
  split
  · rfl
  · exact e2.symm
def strLen (v : Value) : Nat := match v with | .string u => u.size | _ => 0
def Cut1 (l : List UInt8) (n : Nat) (v : Value) : Prop := ∃ u : ByteArray, v = .string u ∧ lcut u.data.toList = lcut l ∧ u.size ≤ n
def Cut2 (l : List UInt8) (n : Nat) (v : Value) : Prop := ∃ u : ByteArray, v = .string u ∧ rcut u.data.toList = rcut (lcut l) ∧ u.size ≤ n

theorem filt_take (u : ByteArray) (k : Nat) (h : k < u.size) : (u.data.toList.take (k + 1)).filter keep3 = (u.data.toList.take k).filter keep3 ++ (if keep3 u[k] then [u[k]] else []) := by
  rw [List.take_succ_eq_append_getElem (by rw [Array.length_toList]; exact h), List.filter_append]
  show _ ++ List.filter keep3 [u[k]] = _
  rw [List.filter_cons, List.filter_nil]
theorem u8_ne {x c : UInt8} (h : x ≠ c) : ((x.toNat : Int) != (c.toNat : Int)) = true := by
  rw [bne_iff_ne]
  intro e
  exact h (UInt8.toNat_inj.1 (by omega))
end Go.Proofs.YtjificnbeaemoaaGreatDoor
