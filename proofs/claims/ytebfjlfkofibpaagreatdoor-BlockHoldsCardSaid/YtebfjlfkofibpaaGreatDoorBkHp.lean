/- What is told of blocks that are all closed holds together. -/
import Derived.Test.YtebfjlfkofibpaaGreatDoorBkTo
namespace Go.Proofs.YtebfjlfkofibpaaGreatDoor
open Go.RowKit
def deepX : (n : Nat) -> TR n -> Nat
 | 0, _ => 0
 | n + 1, x => if 2 ≤ BD.kind (K := List (TR n)) x ∧ BD.kind (K := List (TR n)) x ≤ 4 then ((BD.kids (K := List (TR n)) x).map (deepX n)).foldl max 0 + 1 else ((BD.kids (K := List (TR n)) x).map (deepX n)).foldl max 0
def BoxK (k : Nat) : Prop := k ≤ 4 ∨ k = 10 ∨ k = 11
structure HoldB {K : Type} (x : BD (List K)) (c : Nat) : Prop where
 kind : 1 ≤ x.kind ∧ x.kind ≤ 12
 item : x.kind = 4 ↔ c = 3
 row : x.kind = 11 ↔ c = 10
 cell : x.kind = 12 ↔ c = 11
 txt : BoxK x.kind -> x.text.size = 0
 kids : ¬ BoxK x.kind -> x.kids = []
 para : x.kind = 5 -> x.text.size ≠ 0
def HoldP : (n : Nat) -> TR n -> Nat -> Prop
 | 0, _, _ => False
 | n + 1, x, c => HoldB (K := TR n) x c ∧ ∀ y ∈ BD.kids (K := List (TR n)) x, HoldP n y (BD.kind (K := List (TR n)) x)
theorem cell_hold (n : Nat) (c : ByteArray) : HoldP (n + 1) (cellT2 n c) 11 ∧ deepX (n + 1) (cellT2 n c) = 0 := by
 refine ⟨⟨⟨(by show 1 ≤ 12 ∧ 12 ≤ 12; decide), (by show 12 = 4 ↔ 11 = 3; decide), (by show 12 = 11 ↔ 11 = 10; decide), (by show 12 = 12 ↔ 11 = 11; decide), (fun h => ?_), fun _ => rfl, (fun h => ?_)⟩, fun y hy => ?_⟩, rfl⟩
 ·have h : 12 ≤ 4 ∨ 12 = 10 ∨ 12 = 11 := h
  omega
 ·have h : 12 = 5 := h
  omega
 ·cases hy
theorem foldl_zero : ∀ (l : List Nat), (∀ x ∈ l, x = 0) -> l.foldl max 0 = 0
 | [], _ => rfl
 | x :: l, h => by
  have := h x (by simp)
  subst this
  exact foldl_zero l fun y hy => h y (by simp [hy])
theorem row_hold (n k : Nat) (l : ByteArray) : HoldP (n + 2) (rowT2 n k l) 10 ∧ deepX (n + 2) (rowT2 n k l) = 0 := by
 refine ⟨⟨⟨(by show 1 ≤ 11 ∧ 11 ≤ 12; decide), (by show 11 = 4 ↔ 10 = 3; decide), (by show 11 = 11 ↔ 10 = 10; decide), (by show 11 = 12 ↔ 10 = 11; decide), fun _ => rfl, (fun h => absurd (.inr (.inr rfl)) h), (fun h => ?_)⟩, fun y hy => ?_⟩, ?_⟩
 ·have h : 11 = 5 := h
  omega
 ·obtain ⟨c, _, rfl⟩ := List.mem_map.1 hy
  exact (cell_hold n c).1
 ·refine foldl_zero _ fun x hx => ?_
  obtain ⟨y, hy, rfl⟩ := List.mem_map.1 hx
  obtain ⟨c, _, rfl⟩ := List.mem_map.1 hy
  exact (cell_hold n c).2
theorem foldl_max_zero : ∀ (l m : List Nat), (∀ x ∈ m, x = 0) -> (l ++ m).foldl max 0 = l.foldl max 0 := by
 intro l m h
 rw [List.foldl_append]
 generalize l.foldl max 0 = a
 induction m with
 | nil => rfl
 | cons x m ih =>
  have := h x (by simp)
  subst this
  rw [List.foldl_cons, Nat.max_zero]
  exact ih fun y hy => h y (by simp [hy])
theorem rows_deep (n : Nat) (d : Nd) : ∀ y ∈ rowsT n d, HoldP (n + 2) y 10 ∧ deepX (n + 2) y = 0 := by
 intro y hy
 unfold rowsT at hy
 split at hy
 ·obtain ⟨l, _, rfl⟩ := List.mem_map.1 hy
  exact row_hold n _ l
 ·cases hy
theorem rows_kind {n : Nat} {d : Nd} (h : d.kind ≠ 10) : rowsT n d = [] := by unfold rowsT; rw [if_neg h]
theorem told_hold {B : Nat} {r : Rd} (h : Ok B r) (hc : ∀ j, (r.nd j).opn = false) : ∀ (f i c : Nat), i < r.nds.length -> r.nds.length ≤ i + f -> ((r.nd i).kind = 4 ↔ c = 3) -> c ≠ 10 -> c ≠ 11 -> ((r.nd i).kind = 5 -> (r.nd i).text.size ≠ 0) ->
  HoldP (f + 3) (toldF f r i) c ∧ deepX (f + 3) (toldF f r i) = deepT f r i
 | 0, i, _, hi, hf, _, _, _, _ => absurd hf (by omega)
 | f + 1, i, c, hi, hf, h4, h10, h11, h5 => by
  have hd := h.nd i hi
  obtain ⟨D, hD⟩ : ∃ D, r.nd i = D := ⟨_, rfl⟩
  rw [hD] at hd h4 h5
  have hkid : ∀ k ∈ D.kids, HoldP (f + 3) (toldF f r k) D.kind ∧ deepX (f + 3) (toldF f r k) = deepT f r k := fun k hk => by
   obtain ⟨k1, k2, k3, k4, k5⟩ := h.kid i k (by rw [hD]; exact hk)
   rw [hD] at k4
   have hb := holds_box k4
   refine told_hold h hc f k D.kind k2 (by omega) ?_ (by omega) (by omega) fun e => k5 e (hc k)
   unfold holdsB at k4
   split at k4
   ·rename_i h3
    simp at k4
    omega
   ·rename_i h3
    split at k4
    ·simp at k4
     omega
    ·cases k4
  have hkd : (D.kids.map (toldF f r)).map (deepX (f + 3)) = D.kids.map (deepT f r) := by
   rw [List.map_map]
   exact List.map_congr_left fun k hk => (hkid k hk).2
  have hbx : ¬ BoxK D.kind -> D.kids = [] := fun hb => by
   cases hk : D.kids with
   | nil => rfl
   | cons k l =>
    have := holds_box (h.kid i k (by rw [hD, hk]; simp)).2.2.2.1
    rw [hD] at this
    exact absurd (.inl this) hb
  have hfold : (((D.kids.map (toldF f r)) ++ rowsT (f + 1) D).map (deepX (f + 3))).foldl max 0 = (D.kids.map (deepT f r)).foldl max 0 := by
   rw [List.map_append, hkd]
   refine foldl_max_zero _ _ fun x hx => ?_
   obtain ⟨y, hy, rfl⟩ := List.mem_map.1 hx
   exact (rows_deep (f + 1) D y hy).2
  unfold toldF deepT
  rw [hD]
  refine ⟨⟨⟨⟨hd.kind.1, by show D.kind ≤ 12; have := hd.kind.2; omega⟩, h4, ?_, ?_, fun hb => ?_, fun hb => ?_, h5⟩, fun y hy => ?_⟩, ?_⟩
  ·show D.kind = 11 ↔ c = 10
   have := hd.kind.2
   omega
  ·show D.kind = 12 ↔ c = 11
   have := hd.kind.2
   omega
  ·refine hd.txt ?_
   have hb : BoxK D.kind := hb
   unfold BoxK at hb
   have := hd.kind.2
   omega
  ·show D.kids.map (toldF f r) ++ rowsT (f + 1) D = []
   have hb : ¬ BoxK D.kind := hb
   rw [hbx hb, rows_kind fun e => hb (.inr (.inl e))]
   rfl
  ·rcases List.mem_append.1 (show y ∈ D.kids.map (toldF f r) ++ rowsT (f + 1) D from hy) with hy | hy
   ·obtain ⟨k, hk, rfl⟩ := List.mem_map.1 hy
    exact (hkid k hk).1
   ·have hk10 : D.kind = 10 := by
     by_cases e : D.kind = 10
     ·exact e
     ·rw [rows_kind e] at hy; cases hy
    show HoldP (f + 3) y D.kind
    rw [hk10]
    exact (rows_deep (f + 1) D y hy).1
  ·show (if 2 ≤ D.kind ∧ D.kind ≤ 4 then (((D.kids.map (toldF f r)) ++ rowsT (f + 1) D).map (deepX (f + 3))).foldl max 0 + 1 else (((D.kids.map (toldF f r)) ++ rowsT (f + 1) D).map (deepX (f + 3))).foldl max 0) = deepN D ((D.kids.map (deepT f r)).foldl max 0)
   rw [hfold]
   unfold deepN
   by_cases hk : 2 ≤ D.kind ∧ D.kind ≤ 4
   ·rw [if_pos hk, if_pos (by omega)]
   ·rw [if_neg hk, if_neg (by omega)]
end Go.Proofs.YtebfjlfkofibpaaGreatDoor
