/- The reader's invariant, and that closing leaves it. -/
import Derived.Test.YtebfjlfkofibpaaGreatDoorBkDf
namespace Go.Proofs.YtebfjlfkofibpaaGreatDoor
section
open Go.RowKit
def lw (l : List ByteArray) : Nat := sumZ l + l.length
def ow (d : Nd) : Nat := if d.kind = 5 ∧ d.opn = true then lw d.lines else 0
def Rd.openW (r : Rd) : Nat := (r.nds.map ow).sum
structure NdOk (B : Nat) (d : Nd) : Prop where
 asc : d.kids.Pairwise (· < ·)
 lines : lw d.lines ≤ B
 kind : 1 ≤ d.kind ∧ d.kind ≤ 10
 txt : (d.kind ≤ 4 ∨ d.kind = 10 ∨ (d.opn = true ∧ (d.kind = 5 ∨ d.kind = 7))) -> d.text.size = 0
 num : 0 ≤ d.first ∧ d.first ≤ 1000000 ∧ 0 ≤ d.last ∧ d.last ≤ 1000000
 ind : 0 ≤ d.indent ∧ d.indent ≤ 10000000 ∧ 0 ≤ d.offset ∧ d.offset ≤ 10000000
 html : 0 ≤ d.html ∧ d.html ≤ 7 ∧ d.fc < 256
structure Ok (B : Nat) (r : Rd) : Prop where
 few : r.nds.length ≤ 100000
 nn : r.n ≤ 1000000
 nd : ∀ i, i < r.nds.length -> NdOk B (r.nd i)
 kid : ∀ i k, k ∈ (r.nd i).kids -> i < k ∧ k < r.nds.length ∧ (r.nd k).parent = some i ∧ holdsB (r.nd i).kind (r.nd k).kind = true ∧ ((r.nd k).kind = 5 -> (r.nd k).opn = false -> (r.nd k).text.size ≠ 0)
 par : ∀ i p, (r.nd i).parent = some p -> p < i ∧ (r.nd p).kind ≤ 4
 opn : ∀ i, i ≠ 0 -> (r.nd i).opn = true -> ∃ p, (r.nd i).parent = some p ∧ (r.nd p).opn = true ∧ (r.nd p).kids.getLast? = some i
 refs : r.refs.length + r.openW ≤ B
 d1 : (r.nd 0).kind = 1
theorem Rd.nd_out {r : Rd} {i : Nat} (h : ¬ i < r.nds.length) : r.nd i = Nd.new 0 := by unfold Rd.nd; simp [List.getD, List.getElem?_eq_none (show r.nds.length ≤ i by omega)]
theorem NdOk.up {B C : Nat} {d : Nd} (h : NdOk B d) (hc : B ≤ C) : NdOk C d := ⟨h.asc, Nat.le_trans h.lines hc, h.kind, h.txt, h.num, h.ind, h.html⟩
theorem Ok.up {B C : Nat} {r : Rd} (h : Ok B r) (hc : B ≤ C) : Ok C r := ⟨h.few, h.nn, fun i hi => (h.nd i hi).up hc, h.kid, h.par, h.opn, Nat.le_trans h.refs hc, h.d1⟩
theorem sum_set : ∀ (l : List Nat) (i : Nat) (x : Nat) (h : i < l.length), (l.set i x).sum + l[i] = l.sum + x
 | a :: l, 0, x, _ => by simp; omega
 | a :: l, i + 1, x, h => by
  have := sum_set l i x (by simpa using h);simp at this ⊢;omega
theorem openW_upd {r : Rd} {i : Nat} (hi : i < r.nds.length) (d : Nd) : (r.upd i d).openW + ow (r.nd i) = r.openW + ow d := by
 unfold Rd.openW Rd.upd;simp only;rw [List.map_set];have := sum_set (r.nds.map ow) i (ow d) (by simpa using hi);rw [List.getElem_map] at this;rw [show r.nd i = r.nds[i] by unfold Rd.nd; simp [List.getD, List.getElem?_eq_getElem hi]];exact this
theorem ow_le_openW {r : Rd} {i : Nat} (hi : i < r.nds.length) : ow (r.nd i) ≤ r.openW := by
 have := openW_upd hi (Nd.new 0);have h0 : ow (Nd.new 0) = 0 := by unfold ow Nd.new; simp
 rw [h0] at this;omega
theorem ow_of {d : Nd} (h5 : d.kind = 5) (ho : d.opn = true) : ow d = lw d.lines := by unfold ow; rw [if_pos ⟨h5, ho⟩]
theorem ow_closed {d : Nd} (ho : d.opn = false) : ow d = 0 := by unfold ow; rw [if_neg fun h => by rw [ho] at h; exact absurd h.2 Bool.false_ne_true]
theorem ow_other {d : Nd} (h5 : d.kind ≠ 5) : ow d = 0 := by unfold ow; rw [if_neg fun h => h5 h.1]
theorem asc_len : ∀ (l : List Nat) (a n : Nat), l.Pairwise (· < ·) -> (∀ x ∈ l, a < x ∧ x < n) -> a < n -> l.length + a + 1 ≤ n
 | [], a, n, _, _, h => by simp; omega
 | x :: l, a, n, hp, hb, _ => by
  have hx := hb x (by simp);rw [List.pairwise_cons] at hp;have := asc_len l x n hp.2 (fun y hy => ⟨hp.1 y hy, (hb y (by simp [hy])).2⟩) hx.2;simp;omega
theorem Ok.kn {B : Nat} {r : Rd} (h : Ok B r) {i : Nat} (hi : i < r.nds.length) : (r.nd i).kids.length + i + 1 ≤ r.nds.length :=
 asc_len _ _ _ (h.nd i hi).asc (fun x hx => ⟨(h.kid i x hx).1, (h.kid i x hx).2.1⟩) hi
theorem Ok.upOpn {B : Nat} {r : Rd} (h : Ok B r) {i p : Nat} (ho : (r.nd i).opn = true) (hp : (r.nd i).parent = some p) : (r.nd p).opn = true := by
 have hpi := (h.par i p hp).1;obtain ⟨q, h1, h2, _⟩ := h.opn i (by omega) ho;rw [h1] at hp
 cases hp
 exact h2
theorem holds_box {k j : Nat} (h : holdsB k j = true) : k ≤ 4 := by
 unfold holdsB at h;split at h
 ·omega
 ·split at h
  ·omega
  ·cases h
theorem holds_five {k j : Nat} (h : holdsB k 5 = true) (hj : j ≠ 4) : holdsB k j = true := by
 unfold holdsB at h ⊢;split at h
 ·exact absurd h (by decide)
 ·rename_i h3;rw [if_neg h3];split at h
  ·rename_i h1;rw [if_pos h1];simpa using hj
  ·cases h
theorem Ok.upd {B C : Nat} {r : Rd} (h : Ok B r) {i : Nat} (hi : i < r.nds.length) {d : Nd} (hk : d.kids = (r.nd i).kids) (hp : d.parent = (r.nd i).parent) (hBC : B ≤ C) (hd : NdOk C d)
  (hkind : d.kind = (r.nd i).kind ∨ ((r.nd i).kind = 5 ∧ d.kind ≠ 4))
  (hopn : d.opn = (r.nd i).opn ∨ (d.opn = false ∧ ∀ j, (r.nd j).opn = true -> (r.nd j).parent ≠ some i))
  (hpc : d.kind = 5 -> d.opn = false -> (∀ p, i ∈ (r.nd p).kids -> d.text.size ≠ 0))
  (hr : r.refs.length + r.openW + ow d ≤ C + ow (r.nd i)) : Ok C (r.upd i d) := by
 have hn : ∀ j, j ≠ i -> (r.upd i d).nd j = r.nd j := fun j hj => by rw [Rd.upd_nd, if_neg fun h => hj h.1.symm]
 have hs : (r.upd i d).nd i = d := by rw [Rd.upd_nd, if_pos ⟨rfl, hi⟩]
 have hkids : ∀ j, ((r.upd i d).nd j).kids = (r.nd j).kids := fun j => by
  by_cases hj : j = i
  ·rw [hj, hs, hk]
  ·rw [hn j hj]
 have hpar : ∀ j, ((r.upd i d).nd j).parent = (r.nd j).parent := fun j => by
  by_cases hj : j = i
  ·rw [hj, hs, hp]
  ·rw [hn j hj]
 have hho : ∀ a b, holdsB (r.nd a).kind (r.nd b).kind = true -> holdsB ((r.upd i d).nd a).kind ((r.upd i d).nd b).kind = true := by
  intro a b hab;have e1 : ((r.upd i d).nd a).kind = (r.nd a).kind := by
   by_cases ha : a = i
   ·rcases hkind with h1 | ⟨h1, _⟩
    ·rw [ha, hs, h1]
    ·have := holds_box hab;rw [ha, h1] at this;omega
   ·rw [hn a ha]
  rw [e1]
  by_cases hb : b = i
  ·rcases hkind with h1 | ⟨h1, h2⟩
   ·rw [hb, hs, h1, <- hb]; exact hab
   ·rw [hb, hs];rw [hb, h1] at hab;exact holds_five hab h2
  ·rw [hn b hb]; exact hab
 refine ⟨by rw [Rd.upd_len]; exact h.few, h.nn, fun j hj => ?_, fun a b hb => ?_, fun a p hap => ?_, fun j hj ho => ?_, ?_, ?_⟩
 rotate_right
 ·by_cases h0 : (0 : Nat) = i
  ·have := h.d1;rw [h0, hs];rw [h0] at this;rcases hkind with h1 | ⟨h1, _⟩
   ·rw [h1]; exact this
   ·omega
  ·rw [hn 0 h0]; exact h.d1
 ·rw [Rd.upd_len] at hj
  by_cases hji : j = i
  ·rw [hji, hs]; exact hd
  ·rw [hn j hji]; exact (h.nd j hj).up hBC
 ·rw [hkids] at hb;obtain ⟨k1, k2, k3, k4, k5⟩ := h.kid a b hb;refine ⟨k1, by rw [Rd.upd_len]; exact k2, by rw [hpar]; exact k3, hho a b k4, fun h5 ho => ?_⟩
  by_cases hbi : b = i
  ·subst hbi;rw [hs] at h5 ho ⊢;exact hpc h5 ho a hb
  ·rw [hn b hbi] at h5 ho ⊢;exact k5 h5 ho
 ·rw [hpar] at hap;obtain ⟨k1, k2⟩ := h.par a p hap;refine ⟨k1, ?_⟩
  by_cases hpi : p = i
  ·subst hpi;rw [hs];rcases hkind with h1 | ⟨h1, _⟩
   ·rw [h1]; exact k2
   ·omega
  ·rw [hn p hpi]; exact k2
 ·have ho' : (r.nd j).opn = true := by
   by_cases hji : j = i
   ·rw [hji, hs] at ho;rcases hopn with h1 | ⟨h1, _⟩
    ·rw [hji, <- h1]; exact ho
    ·rw [h1] at ho; cases ho
   ·rw [hn j hji] at ho; exact ho
  obtain ⟨p, k1, k2, k3⟩ := h.opn j hj ho';refine ⟨p, by rw [hpar]; exact k1, ?_, by rw [hkids]; exact k3⟩
  by_cases hpi : p = i
  ·subst hpi;rw [hs];rcases hopn with h1 | ⟨_, h2⟩
   ·rw [h1]; exact k2
   ·exact absurd k1 (h2 j ho')
  ·rw [hn p hpi]; exact k2
 ·have := openW_upd hi d;show r.refs.length + _ ≤ _;omega
theorem Ok.same {B : Nat} {r q : Rd} (h : Ok B r) (hn : q.nds = r.nds) (hr : q.refs.length ≤ r.refs.length) (hm : q.n ≤ 1000000) : Ok B q := by
 have he : ∀ i, q.nd i = r.nd i := fun i => by unfold Rd.nd; rw [hn]
 refine ⟨by rw [hn]; exact h.few, hm, fun i hi => by rw [he]; exact h.nd i (by rw [<- hn]; exact hi), fun i k hk => ?_, fun i p hp => ?_, fun i h0 ho => ?_, ?_, by rw [he]; exact h.d1⟩
 ·rw [he] at hk;rw [he, he, hn];exact h.kid i k hk
 ·rw [he] at hp;rw [he];exact h.par i p hp
 ·rw [he] at ho;obtain ⟨p, h1, h2, h3⟩ := h.opn i h0 ho;exact ⟨p, by rw [he]; exact h1, by rw [he]; exact h2, by rw [he]; exact h3⟩
 ·have := h.refs;have e : q.openW = r.openW := by unfold Rd.openW; rw [hn]
  omega
theorem Ok.withRefs {B : Nat} {r : Rd} (h : Ok B r) (l : List RefT) (hl : l.length + r.openW ≤ B) : Ok B { r with refs := l } := ⟨h.few, h.nn, h.nd, h.kid, h.par, h.opn, hl, h.d1⟩
theorem defineF_len : ∀ (f : Nat) (s : ByteArray) (l : List RefT), (defineF f s l).2.length + (defineF f s l).1.size ≤ l.length + s.size
 | 0, s, l => Nat.le_refl _
 | f + 1, s, l => by
  rw [defineF];split
  ·exact Nat.le_refl _
  ·rename_i h0;have h1 := defV_in s;refine Nat.le_trans (defineF_len f _ _) ?_;rw [ByteArray.size_extract];split
   ·omega
   ·simp; omega
theorem trailL_lw (l : List ByteArray) : lw (trailL l) ≤ lw l := by
 have h : ∃ m, l = trailL l ++ m := by
  unfold trailL;refine ⟨(l.reverse.takeWhile fun x => (blankT x.data.toList).isEmpty).reverse, ?_⟩;rw [<- List.reverse_append, List.takeWhile_append_dropWhile, List.reverse_reverse]
 obtain ⟨m, hm⟩ := h;unfold lw
 conv => rhs; rw [hm]
 rw [sumZ_appendK, List.length_append];omega
theorem joinN_size (l : List ByteArray) : (joinN l).size ≤ lw l := by
 have := joinL_lenK l;show (joinLK l).toArray.size ≤ _;unfold lw;simpa using this
theorem Ok.gone {B : Nat} {r : Rd} (h : Ok B r) {i p : Nat} (hi : i < r.nds.length) {d : Nd} (hk : d.kids = (r.nd i).kids) (hp : d.parent = (r.nd i).parent) (hd : NdOk B d) (hkind : d.kind = (r.nd i).kind) (ho : d.opn = false) (hio : (r.nd i).opn = true) (hno : ∀ j, (r.nd j).opn = true -> (r.nd j).parent ≠ some i) (hpp : (r.nd i).parent = some p)
  (hr : r.refs.length + r.openW + ow d ≤ B + ow (r.nd i)) : Ok B ((r.upd i d).upd p { (r.upd i d).nd p with kids := ((r.upd i d).nd p).kids.dropLast }) := by
 have hpi := (h.par i p hpp).1;have hne : i ≠ p := by omega
 have hpl : p < r.nds.length := by omega
 obtain ⟨p', k1, k2, k3⟩ := h.opn i (by omega) hio;obtain rfl : p = p' := by rw [hpp] at k1; exact Option.some.inj k1
 have hnp : (r.upd i d).nd p = r.nd p := by rw [Rd.upd_nd, if_neg fun h => hne h.1]
 rw [hnp];generalize hqd : ((r.upd i d).upd p { r.nd p with kids := (r.nd p).kids.dropLast }) = q;have hlen : q.nds.length = r.nds.length := by rw [<- hqd, Rd.upd_len, Rd.upd_len]
 have hqi : q.nd i = d := by rw [<- hqd, Rd.upd_nd, if_neg fun h => hne h.1.symm, Rd.upd_nd, if_pos ⟨rfl, hi⟩]
 have hqp : q.nd p = { r.nd p with kids := (r.nd p).kids.dropLast } := by rw [<- hqd, Rd.upd_nd, if_pos ⟨rfl, by rw [Rd.upd_len]; exact hpl⟩]
 have hqo : ∀ j, j ≠ i -> j ≠ p -> q.nd j = r.nd j := fun j h1 h2 => by rw [<- hqd, Rd.upd_nd, if_neg fun h => h2 h.1.symm, Rd.upd_nd, if_neg fun h => h1 h.1.symm]
 have hkind2 : ∀ j, (q.nd j).kind = (r.nd j).kind := fun j => by
  by_cases h1 : j = i
  ·rw [h1, hqi, hkind]
  ·by_cases h2 : j = p
   ·rw [h2, hqp]
   ·rw [hqo j h1 h2]
 have hpar2 : ∀ j, (q.nd j).parent = (r.nd j).parent := fun j => by
  by_cases h1 : j = i
  ·rw [h1, hqi, hp]
  ·by_cases h2 : j = p
   ·rw [h2, hqp]
   ·rw [hqo j h1 h2]
 have hkids2 : ∀ j x, x ∈ (q.nd j).kids -> x ∈ (r.nd j).kids ∧ x ≠ i := fun j x hx => by
  have hnot : j ≠ p -> x ∈ (r.nd j).kids -> x ≠ i := fun hj hx2 e => by
   have := (h.kid j x hx2).2.2.1;rw [e, hpp] at this;exact hj (Option.some.inj this).symm
  by_cases h1 : j = i
  ·rw [h1, hqi, hk] at hx;rw [h1];exact ⟨hx, hnot (by rw [h1]; exact hne) (by rw [h1]; exact hx)⟩
  ·by_cases h2 : j = p
   ·rw [h2, hqp] at hx;rw [h2];refine ⟨(List.dropLast_sublist _).mem hx, fun e => ?_⟩;have hasc := (h.nd p hpl).asc;rcases snoc_cases (r.nd p).kids with hk0 | ⟨y, c, hyc⟩
    ·rw [hk0] at k3; cases k3
    ·rw [hyc, List.getLast?_concat] at k3
     cases k3
     have hx' : x ∈ (r.nd p).kids.dropLast := hx;rw [hyc, List.dropLast_concat] at hx';rw [hyc, List.pairwise_append] at hasc;have := hasc.2.2 x hx' i (by simp);omega
   ·rw [hqo j h1 h2] at hx;exact ⟨hx, hnot h2 hx⟩
 refine ⟨by rw [hlen]; exact h.few, by rw [<- hqd]; exact h.nn, fun j hj => ?_, fun a b hb => ?_, fun a p' hap => ?_, fun j hj hjo => ?_, ?_, by rw [hkind2]; exact h.d1⟩
 ·rw [hlen] at hj
  by_cases h1 : j = i
  ·rw [h1, hqi]; exact hd
  ·by_cases h2 : j = p
   ·rw [h2, hqp];have hb := h.nd p hpl;exact ⟨hb.asc.sublist (List.dropLast_sublist _), hb.lines, hb.kind, hb.txt, hb.num, hb.ind, hb.html⟩
   ·rw [hqo j h1 h2]; exact h.nd j hj
 ·obtain ⟨hb1, hb2⟩ := hkids2 a b hb;obtain ⟨m1, m2, m3, m4, m5⟩ := h.kid a b hb1;refine ⟨m1, by rw [hlen]; exact m2, by rw [hpar2]; exact m3, by rw [hkind2, hkind2]; exact m4, ?_⟩
  by_cases h2 : b = p
  ·rw [h2, hqp]; rw [h2] at m5; exact m5
  ·rw [hqo b hb2 h2]; exact m5
 ·rw [hpar2] at hap;rw [hkind2];exact h.par a p' hap
 ·have h1 : j ≠ i := fun e => by rw [e, hqi, ho] at hjo; cases hjo
  have hjo' : (r.nd j).opn = true := by
   by_cases h2 : j = p
   ·rw [h2, hqp] at hjo; rw [h2]; exact hjo
   ·rw [hqo j h1 h2] at hjo; exact hjo
  obtain ⟨p', m1, m2, m3⟩ := h.opn j hj hjo';have hp'i : p' ≠ i := fun e => hno j hjo' (by rw [m1, e]);have hp'p : p' ≠ p := fun e => by
   rw [e, k3] at m3;exact h1 (Option.some.inj m3).symm
  exact ⟨p', by rw [hpar2]; exact m1, by rw [hqo p' hp'i hp'p]; exact m2, by rw [hqo p' hp'i hp'p]; exact m3⟩
 ·have e1 := openW_upd hi d;have e2 := openW_upd (r := r.upd i d) (i := p) (by rw [Rd.upd_len]; exact hpl) { r.nd p with kids := (r.nd p).kids.dropLast };rw [hqd, hnp] at e2;have e3 : ow { r.nd p with kids := (r.nd p).kids.dropLast } = ow (r.nd p) := rfl;have e4 : q.refs = r.refs := by rw [<- hqd]; rfl
  rw [e4];omega
theorem shut_ok {B : Nat} {r : Rd} (h : Ok B r) {b : Nat} (hb : b < r.nds.length) (ho : (r.nd b).opn = true) (hno : ∀ j, (r.nd j).opn = true -> (r.nd j).parent ≠ some b) (hB : B ≤ 1000000) : Ok B (r.shut b) := by
 have hd := h.nd b hb;have hopn2 : ∀ d : Nd, d.opn = false -> (d.opn = (r.nd b).opn ∨ (d.opn = false ∧ ∀ j, (r.nd j).opn = true -> (r.nd j).parent ≠ some b)) := fun d h0 => .inr ⟨h0, hno⟩;have href := h.refs;have hwle := ow_le_openW hb;have hlast : ∀ z : Int, 0 ≤ z -> z ≤ 1000000 -> (r.nd b).kind ≤ 4 -> Ok B (r.upd b { r.nd b with opn := false, last := z }) := by
  intro z h0 h1 h4;refine h.upd hb (d := { r.nd b with opn := false, last := z }) rfl rfl (Nat.le_refl _) ⟨hd.asc, hd.lines, hd.kind, fun _ => hd.txt (.inl h4), ⟨hd.num.1, hd.num.2.1, h0, h1⟩, hd.ind, hd.html⟩ (.inl rfl) (hopn2 _ rfl) (fun h5 => ?_) ?_
  ·exact absurd (show (r.nd b).kind = 5 from h5) (by omega)
  ·rw [ow_closed (show Nd.opn _ = false from rfl)]; omega
 unfold Rd.shut;simp only;split
 ·rename_i h5;have h5' : (r.nd b).kind = 5 := h5;have hlines := hd.lines;obtain ⟨X, hX⟩ : ∃ X, defineF (joinN (r.nd b).lines).size (joinN (r.nd b).lines) r.refs = X := ⟨_, rfl⟩;have hlen := defineF_len (joinN (r.nd b).lines).size (joinN (r.nd b).lines) r.refs;rw [hX] at hlen;have hjz := joinN_size (r.nd b).lines;have how := ow_of h5' ho;have hX2 : (defineF (joinN { r.nd b with opn := false }.lines).size (joinN { r.nd b with opn := false }.lines) r.refs) = X := hX;rw [hX2];have hnd : NdOk B { r.nd b with opn := false, text := trimN X.1 } := ⟨hd.asc, hd.lines, hd.kind, fun h1 => by
   rcases h1 with h1 | h1 | h1
   ·have h1 : (r.nd b).kind ≤ 4 := h1;omega
   ·have h1 : (r.nd b).kind = 10 := h1;omega
   ·exact absurd h1.1 Bool.false_ne_true, hd.num, hd.ind, hd.html⟩
  have how2 : ow { r.nd b with opn := false, text := trimN X.1 } = 0 := ow_closed rfl;have hW := openW_upd hb { r.nd b with opn := false, text := trimN X.1 };split
  ·rename_i ht;split
   ·rename_i p hp;have hp' : (r.nd b).parent = some p := hp;have hg := h.gone hb (d := { r.nd b with opn := false, text := trimN X.1 }) rfl rfl hnd rfl rfl ho hno hp' (by omega);refine (hg.withRefs X.2 ?_);have hne : ¬ b = p := by have := (h.par b p hp').1; omega
    have e2 := openW_upd (r := r.upd b { r.nd b with opn := false, text := trimN X.1 }) (i := p) (by rw [Rd.upd_len]; have := (h.par b p hp').1; omega) { (r.upd b { r.nd b with opn := false, text := trimN X.1 }).nd p with kids := ((r.upd b { r.nd b with opn := false, text := trimN X.1 }).nd p).kids.dropLast };have e3 : ow { (r.upd b { r.nd b with opn := false, text := trimN X.1 }).nd p with kids := ((r.upd b { r.nd b with opn := false, text := trimN X.1 }).nd p).kids.dropLast } = ow ((r.upd b { r.nd b with opn := false, text := trimN X.1 }).nd p) := rfl;omega
   ·rename_i hp;have hp' : (r.nd b).parent = none := hp
    by_cases hb0 : b = 0
    ·refine Ok.withRefs (h.upd hb (d := { r.nd b with opn := false, text := trimN X.1 }) rfl rfl (Nat.le_refl _) hnd (.inl rfl) (hopn2 _ rfl) (fun _ _ p hm => ?_) (by omega)) X.2 (by omega);have := (h.kid p b hm).1;omega
    ·obtain ⟨p, k1, _⟩ := h.opn b hb0 ho;rw [hp'] at k1; cases k1
  ·rename_i ht;exact Ok.withRefs (h.upd hb (d := { r.nd b with opn := false, text := trimN X.1 }) rfl rfl (Nat.le_refl _) hnd (.inl rfl) (hopn2 _ rfl) (fun _ _ p hm => ht) (by omega)) X.2 (by omega)
 ·rename_i h5;have h5' : ¬ (r.nd b).kind = 5 := h5;have hsimple : ∀ (t : ByteArray) (l : List ByteArray), lw l ≤ B -> ((r.nd b).kind ≤ 4 ∨ (r.nd b).kind = 10 -> t.size = 0) -> Ok B (r.upd b { r.nd b with opn := false, text := t, lines := l }) := by
   intro t l hl ht;refine h.upd hb (d := { r.nd b with opn := false, text := t, lines := l }) rfl rfl (Nat.le_refl _) ⟨hd.asc, hl, hd.kind, fun h1 => ?_, hd.num, hd.ind, hd.html⟩ (.inl rfl) (hopn2 _ rfl) (fun e => absurd e h5') ?_
   ·rcases h1 with h1 | h1 | h1
    ·exact ht (.inl h1)
    ·exact ht (.inr h1)
    ·exact absurd h1.1 Bool.false_ne_true
   ·rw [ow_closed (show Nd.opn _ = false from rfl)]; omega
  split
  ·rename_i h7;have h7' : (r.nd b).kind = 7 := h7;refine hsimple _ _ ?_ (fun e => by omega);split
   ·exact hd.lines
   ·exact Nat.le_trans (trailL_lw _) hd.lines
  ·split
   ·rename_i h8;have h8' : (r.nd b).kind = 8 := h8;exact hsimple _ _ hd.lines (fun e => by omega)
   ·split
    ·rename_i h43;have h43' : (r.nd b).kind = 4 ∨ (r.nd b).kind = 3 := h43;refine hlast _ ?_ ?_ (by omega)
     ·split
      ·rename_i k hk;exact (h.nd k (h.kid b k (List.mem_of_getLast? hk)).2.1).num.2.2.1
      ·exact hd.num.1
     ·split
      ·rename_i k hk;exact (h.nd k (h.kid b k (List.mem_of_getLast? hk)).2.1).num.2.2.2
      ·exact hd.num.2.1
    ·split
     ·rename_i h2;have h2' : (r.nd b).kind = 2 := h2;refine hlast _ ?_ ?_ (by omega)
      ·split
       ·have := hd.num; show 0 ≤ max (r.nd b).last _; omega
       ·exact hd.num.2.2.1
      ·split
       ·rename_i k hk;have h1 := (h.nd k (h.kid b k (List.mem_of_getLast? hk)).2.1).num.2.2.2;have := hd.num;show max (r.nd b).last _ ≤ 1000000;omega
       ·exact hd.num.2.2.2
     ·exact hsimple _ _ hd.lines (fun e => hd.txt (e.elim .inl fun x => .inr (.inl x)))
theorem shut_self (r : Rd) (b : Nat) (hb : b < r.nds.length) (hpb : (r.nd b).parent ≠ some b) : ((r.shut b).nd b).opn = false := by
 have hu : ∀ d : Nd, d.opn = false -> ((r.upd b d).nd b).opn = false := fun d hd => by rw [Rd.upd_nd, if_pos ⟨rfl, hb⟩]; exact hd
 unfold Rd.shut;simp only;split
 ·split
  ·split
   ·rename_i p hp;have hp' : (r.nd b).parent = some p := hp;rw [Rd.upd_nd, if_neg fun h => hpb (by rw [hp', h.1])];exact hu _ rfl
   ·exact hu _ rfl
  ·exact hu _ rfl
 ·split
  ·exact hu _ rfl
  ·split
   ·exact hu _ rfl
   ·split
    ·exact hu _ rfl
    ·split
     ·exact hu _ rfl
     ·exact hu _ rfl
theorem shut_opn_le (r : Rd) (b j : Nat) (hb : b < r.nds.length) (hpb : (r.nd b).parent ≠ some b) (h : ((r.shut b).nd j).opn = true) : (r.nd j).opn = true := by
 by_cases hj : j = b
 ·rw [hj, shut_self r b hb hpb] at h; cases h
 ·rw [shut_opn r b j hj] at h; exact h
theorem closeF_ok {B : Nat} (hB : B ≤ 1000000) : ∀ (f : Nat) (r : Rd) (b : Nat), Ok B r -> b < r.nds.length -> (r.nd b).opn = true -> r.nds.length ≤ b + f -> Ok B (Rd.closeF f r b) ∧ ((Rd.closeF f r b).nd b).opn = false ∧ ∀ j, ((Rd.closeF f r b).nd j).opn = true -> (r.nd j).opn = true
 | 0, r, b, _, hb, _, hf => by omega
 | f + 1, r, b, h, hb, ho, hf => by
  rw [Rd.closeF];have hpb : ∀ q : Rd, LikeR r q -> (q.nd b).parent ≠ some b := fun q hq e => by
   rw [(hq.nd b).parent] at e;have := (h.par b b e).1;omega
  have key : ∀ q : Rd, LikeR r q -> Ok B q -> (q.nd b).opn = true -> (∀ j, (q.nd j).opn = true -> (r.nd j).opn = true) -> (∀ j, (q.nd j).opn = true -> (q.nd j).parent ≠ some b) -> Ok B (q.shut b) ∧ ((q.shut b).nd b).opn = false ∧ ∀ j, ((q.shut b).nd j).opn = true -> (r.nd j).opn = true := by
   intro q hq hqo hqb hle hno;have hbl : b < q.nds.length := by rw [hq.len]; exact hb
   exact ⟨shut_ok hqo hbl hqb hno hB, shut_self q b hbl (hpb q hq), fun j hj => hle j (shut_opn_le q b j hbl (hpb q hq) hj)⟩
  have hlastk : ∀ j, (r.nd j).opn = true -> (r.nd j).parent = some b -> (r.nd b).kids.getLast? = some j := fun j hj hp => by
   have hpj := (h.par j b hp).1;obtain ⟨p, k1, _, k3⟩ := h.opn j (by omega) hj;rw [hp] at k1
   cases k1
   exact k3
  cases hi : r.inner b with
  | none =>
   refine key r (LikeR.refl r) h ho (fun _ h => h) (fun j hj hp => ?_);have hl := hlastk j hj hp;unfold Rd.inner at hi;rw [hl] at hi;simp only [hj, if_true] at hi
   cases hi
  | some k =>
   have hk : b < k ∧ k < r.nds.length := by
    unfold Rd.inner at hi
    cases hl : (r.nd b).kids.getLast? with
    | none => rw [hl] at hi; cases hi
    | some j =>
     rw [hl] at hi;simp only at hi;split at hi
     ·cases hi
      have := h.kid b k (List.mem_of_getLast? hl);exact ⟨this.1, this.2.1⟩
     ·cases hi
   have hko := Rd.inner_opn hi;obtain ⟨h1, h2, h3⟩ := closeF_ok hB f r k h hk.2 hko (by omega);have hlk := closeF_like f r k;have hbo : ((Rd.closeF f r k).nd b).opn = true := by
    have hlast : (r.nd b).kids.getLast? = some k := by
     unfold Rd.inner at hi
     cases hl : (r.nd b).kids.getLast? with
     | none => rw [hl] at hi; cases hi
     | some j =>
      rw [hl] at hi;simp only at hi;split at hi
      ·cases hi; rfl
      ·cases hi
    have hwf : ∀ (i : Nat) (d : Nd), r.nds[i]? = some d -> ∀ x ∈ d.kids, i < x ∧ x < r.nds.length := fun i d hd x hx => by
     have hnd := Rd.nd_of hd;rw [<- hnd] at hx;exact ⟨(h.kid i x hx).1, (h.kid i x hx).2.1⟩
    exact (closeF_opnK f r hwf k b hk.2 hk.1).trans ho
   refine key _ hlk h1 hbo h3 (fun j hj hp => ?_);rw [(hlk.nd j).parent] at hp;have hl := hlastk j (h3 j hj) hp;unfold Rd.inner at hi;rw [hl] at hi;simp only [h3 j hj, if_true] at hi
   cases hi
   rw [h2] at hj
   cases hj
theorem Ok.close {B : Nat} (hB : B ≤ 1000000) {r : Rd} (h : Ok B r) {b : Nat} (hb : b < r.nds.length) (ho : (r.nd b).opn = true) : Ok B (r.close b) := (closeF_ok hB _ r b h hb ho (by omega)).1
theorem inv_ok {B : Nat} (hB : B ≤ 1000000) : Inv (Ok B) where
 n := fun r h => h.few
 kn := fun r h i d hd => by
  have hi := (List.getElem?_eq_some_iff.1 hd).1;have := h.kn hi;rw [Rd.nd_of hd] at this;omega
 close := fun r b h hb ho => h.close hB hb ho
 up := fun r h i p ho hp => h.upOpn ho hp
 cur := fun r c h => h.same rfl (Nat.le_refl _) h.nn
end
section
open Go.RowKit
def wz (l : List UInt8) : Nat := (l.map fun b => if b = 9 then 4 else 1).sum
def blankU (b : UInt8) : Bool := b == 32 || b == 9
def nbl (l : List UInt8) : Nat := (l.filter fun b => !blankU b).length
theorem wz_cons (b : UInt8) (l : List UInt8) : wz (b :: l) = (if b = 9 then 4 else 1) + wz l := by unfold wz; simp
theorem wz_append (a b : List UInt8) : wz (a ++ b) = wz a + wz b := by unfold wz; simp
theorem nbl_append (a b : List UInt8) : nbl (a ++ b) = nbl a + nbl b := by unfold nbl; simp
theorem len_wz : ∀ l : List UInt8, l.length ≤ wz l ∧ wz l ≤ 4 * l.length
 | [] => by simp [wz]
 | b :: l => by
  have := len_wz l;rw [wz_cons, List.length_cons];split <;> omega
theorem nbl_le (l : List UInt8) : nbl l ≤ l.length := List.length_filter_le _ _
theorem wz_drop (l : List UInt8) (k : Nat) : wz (l.drop k) + min k l.length ≤ wz l := by
 have h := wz_append (l.take k) (l.drop k);rw [List.take_append_drop] at h;have := (len_wz (l.take k)).1;rw [List.length_take] at this;omega
theorem nbl_drop (l : List UInt8) (k : Nat) : nbl (l.drop k) ≤ nbl l := by
 have h := nbl_append (l.take k) (l.drop k);rw [List.take_append_drop] at h;omega
theorem wz_blanks (n : Nat) : wz (List.replicate n (32 : UInt8)) = n := by
 induction n with
 | zero => rfl
 | succ n ih => rw [List.replicate_succ, wz_cons, if_neg (by decide), ih]; omega
theorem nbl_blanks (n : Nat) : nbl (List.replicate n (32 : UInt8)) = 0 := by
 induction n with
 | zero => rfl
 | succ n ih =>
  rw [List.replicate_succ];unfold nbl at ih ⊢;rw [List.filter_cons, if_neg (by decide)];exact ih
theorem colS_wz {c d : Nat} {b : UInt8} (h : colS c b = some d) : d ≤ c + (if b = 9 then 4 else 1) ∧ blankU b = true := by
 unfold colS at h;split at h
 ·rename_i hb; cases h; subst hb; exact ⟨by simp, rfl⟩
 ·split at h
  ·rename_i hb; cases h; subst hb; exact ⟨by rw [if_pos rfl]; omega, rfl⟩
  ·cases h
theorem trimL_cons (b : UInt8) (l : List UInt8) : Lib.trimLeftS (b :: l) [32, 9] = if blankU b = true then Lib.trimLeftS l [32, 9] else b :: l := by
 unfold Lib.trimLeftS;rw [List.dropWhile_cons];have h : ([32, 9] : List UInt8).contains b = blankU b := by unfold blankU; simp only [List.contains, List.elem]; cases b == 32 <;> cases b == 9 <;> rfl
 rw [h]
theorem colS_none {c : Nat} {b : UInt8} (h : colS c b = none) : blankU b = false := by
 unfold colS at h;unfold blankU
 by_cases h1 : b = 32
 ·rw [if_pos h1] at h; cases h
 ·by_cases h2 : b = 9
  ·rw [if_neg h1, if_pos h2] at h; cases h
  ·simp [h1, h2]
theorem colF_pot : ∀ (l : List UInt8) (c : Nat), colF l c + wz (Lib.trimLeftS l [32, 9]) ≤ c + wz l
 | [], c => by simp [colF, Lib.trimLeftS]
 | b :: l, c => by
  rw [colF, trimL_cons]
  cases h : colS c b with
  | none => rw [colS_none h, if_neg Bool.false_ne_true]; exact Nat.le_refl _
  | some d =>
   have h1 := colS_wz h;rw [h1.2, if_pos rfl, wz_cons];have := colF_pot l d;simp only at this ⊢;omega
theorem trimL_head (l : List UInt8) (b : UInt8) (t : List UInt8) (h : Lib.trimLeftS l [32, 9] = b :: t) : blankU b = false := by
 induction l with
 | nil => simp [Lib.trimLeftS] at h
 | cons a l ih =>
  rw [trimL_cons] at h;split at h
  ·exact ih h
  ·rename_i hb
   cases h
   simpa using hb
theorem trimL_nbl (l : List UInt8) : nbl (Lib.trimLeftS l [32, 9]) = nbl l := by
 induction l with
 | nil => simp [Lib.trimLeftS]
 | cons a l ih =>
  rw [trimL_cons];split
  ·rename_i hb;rw [ih];unfold nbl;rw [List.filter_cons, if_neg (by simp [hb])]
  ·rfl
theorem cutKF_pot (e : Nat) : ∀ (l : List UInt8) (c k : Nat), k ≤ (cutKF e l c k).1 ∧ (cutKF e l c k).2 + wz (l.drop ((cutKF e l c k).1 - k)) ≤ c + wz l ∧ nbl (l.drop ((cutKF e l c k).1 - k)) = nbl l
 | [], c, k => by simp [cutKF]
 | b :: l, c, k => by
  rw [cutKF]
  cases h : colE e c b with
  | none => simp
  | some d =>
   have h0 : colS c b = some d := by
    unfold colE at h;split at h
    ·exact h
    ·cases h
   have h1 := colS_wz h0;obtain ⟨i1, i2, i3⟩ := cutKF_pot e l d (k + 1);simp only;refine ⟨by omega, ?_, ?_⟩
   ·rw [show (cutKF e l d (k + 1)).1 - k = ((cutKF e l d (k + 1)).1 - (k + 1)) + 1 by omega, List.drop_succ_cons, wz_cons];omega
   ·rw [show (cutKF e l d (k + 1)).1 - k = ((cutKF e l d (k + 1)).1 - (k + 1)) + 1 by omega, List.drop_succ_cons, i3];unfold nbl;rw [List.filter_cons, if_neg (by simp [h1.2])]
theorem cutN_pot (l : List UInt8) (col n : Nat) : (cutN l col n).2 + wz (cutN l col n).1 ≤ col + wz l ∧ nbl (cutN l col n).1 = nbl l := by
 obtain ⟨h1, h2, h3⟩ := cutKF_pot (col + n) l col 0;unfold cutN;rw [Nat.sub_zero] at h2 h3;split
 ·exact ⟨h2, h3⟩
 ·refine ⟨?_, ?_⟩
  ·simp only;rw [wz_append, wz_blanks];omega
  ·simp only;rw [nbl_append, nbl_blanks, Nat.zero_add, h3]
def Rd.pot (r : Rd) : Nat := r.col + wz r.rest.data.toList
def Rd.nb (r : Rd) : Nat := nbl r.rest.data.toList
theorem Rd.cut_pot (r : Rd) (n : Nat) : (r.cut n).pot ≤ r.pot := by
 have := (cutN_pot r.rest.data.toList r.col n).1;unfold Rd.pot Rd.cut;simpa using this
theorem Rd.cut_nb (r : Rd) (n : Nat) : (r.cut n).nb = r.nb := by
 have := (cutN_pot r.rest.data.toList r.col n).2;unfold Rd.nb Rd.cut;simpa using this
theorem Rd.bareT_list (r : Rd) : r.bareT.data.toList = Lib.trimLeftS r.rest.data.toList [32, 9] := by unfold Rd.bareT; simp
theorem Rd.bare_pot (r : Rd) : r.col + r.bareW + wz r.bareT.data.toList ≤ r.pot := by
 have h := colF_pot r.rest.data.toList r.col;have h1 := (colF_le r.rest.data.toList r.col).1;rw [Rd.bareT_list];unfold Rd.bareW widthN Rd.pot;omega
theorem Rd.bare_nb (r : Rd) : nbl r.bareT.data.toList = r.nb := by rw [Rd.bareT_list, trimL_nbl]; rfl
theorem Rd.pass_list (r : Rd) (n : Nat) : (r.pass n).rest.data.toList = r.bareT.data.toList.drop n := by
 unfold Rd.pass;simp only;rw [Lib.extract_data];have hl : r.bareT.data.toList.length = r.bareT.size := lTq;rw [List.take_of_length_le (by rw [List.length_drop]; omega)]
theorem Rd.pass_pot (r : Rd) (n : Nat) (hn : n ≤ r.bareT.size) : (r.pass n).pot ≤ r.pot := by
 have h1 := r.bare_pot;have h2 := wz_drop r.bareT.data.toList n;have hl : r.bareT.data.toList.length = r.bareT.size := lTq;unfold Rd.pot at h1 ⊢;rw [Rd.pass_list];show r.col + r.bareW + n + _ ≤ _;omega
theorem Rd.pass_nb (r : Rd) (n : Nat) (h1 : 1 ≤ n) (hn : n ≤ r.bareT.size) : (r.pass n).nb + 1 ≤ r.nb := by
 rw [<- Rd.bare_nb r];unfold Rd.nb;rw [Rd.pass_list];have hl : r.bareT.data.toList.length = r.bareT.size := lTq
 cases hb : r.bareT.data.toList with
 | nil => rw [hb] at hl; simp at hl; omega
 | cons b t =>
  rw [Rd.bareT_list] at hb;have hk := trimL_head _ _ _ hb;obtain ⟨m, rfl⟩ : ∃ m, n = m + 1 := ⟨n - 1, by omega⟩;rw [List.drop_succ_cons];have := nbl_drop t m;unfold nbl at this ⊢;rw [List.filter_cons, if_pos (by simp [hk]), List.length_cons];omega
theorem Rd.rest_pot (r : Rd) : r.rest.size ≤ r.pot ∧ r.col ≤ r.pot := by
 have := (len_wz r.rest.data.toList).1;have hl : r.rest.data.toList.length = r.rest.size := lTq;unfold Rd.pot;omega
theorem Rd.bare_size (r : Rd) : r.bareT.size + r.bareW ≤ r.pot := by
 have h1 := r.bare_pot;have h2 := (len_wz r.bareT.data.toList).1;have hl : r.bareT.data.toList.length = r.bareT.size := lTq;omega
end
