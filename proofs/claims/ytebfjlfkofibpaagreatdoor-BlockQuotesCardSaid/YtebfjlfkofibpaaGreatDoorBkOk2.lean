/- The reader's invariant, and that a new block leaves it. -/
import Derived.Test.YtebfjlfkofibpaaGreatDoorBkOk
import Derived.Test.YtebfjlfkofibpaaGreatDoorBkBe
namespace Go.Proofs.YtebfjlfkofibpaaGreatDoor
set_option maxRecDepth 100000
section
open Go.RowKit
structure Rdy (B : Nat) (r : Rd) : Prop where
 ok : Ok B r
 d0 : (r.nd 0).opn = true
 cur : ∃ a, r.cur = some a ∧ (r.nd a).opn = true
def Shut (r : Rd) (a : Nat) : Prop := ∀ j, (r.nd j).opn = true -> (r.nd j).parent ≠ some a
theorem opn_lt {r : Rd} {a : Nat} (h : (r.nd a).opn = true) : a < r.nds.length := by
 by_cases hl : a < r.nds.length
 ·exact hl
 ·rw [Rd.nd_out hl] at h; cases h
theorem up_of {B : Nat} {r : Rd} (h : Ok B r) (hd : (r.nd 0).kind = 1) : ∀ (n a : Nat), a ≤ n -> (r.nd a).opn = true -> Up r a
 | _, 0, _, _ => .doc hd
 | 0, a + 1, hn, _ => absurd hn (by omega)
 | n + 1, a + 1, hn, ho => by
  obtain ⟨p, h1, h2, _⟩ := h.opn (a + 1) (by omega) ho;have := (h.par (a + 1) p h1).1;exact .up h1 (up_of h hd n p (by omega) h2)
theorem Ok.wf {B : Nat} {r : Rd} (h : Ok B r) : ∀ (i : Nat) (d : Nd), r.nds[i]? = some d -> ∀ x ∈ d.kids, i < x ∧ x < r.nds.length := fun i d hd x hx => by
 rw [<- Rd.nd_of hd] at hx;exact ⟨(h.kid i x hx).1, (h.kid i x hx).2.1⟩
theorem Ok.last {B : Nat} {r : Rd} (h : Ok B r) {j a : Nat} (hj : (r.nd j).opn = true) (hp : (r.nd j).parent = some a) : (r.nd a).kids.getLast? = some j ∧ r.inner a = some j := by
 have hpj := (h.par j a hp).1;obtain ⟨p, k1, _, k3⟩ := h.opn j (by omega) hj;rw [hp] at k1
 cases k1
 refine ⟨k3, ?_⟩;unfold Rd.inner;rw [k3];simp [hj]
theorem shut_none {B : Nat} {r : Rd} (h : Ok B r) {a : Nat} (hi : r.inner a = none) : Shut r a := fun j hj hp => by
 have := (h.last hj hp).2;rw [hi] at this
 cases this
theorem Rd.inner_mem {r : Rd} {a k : Nat} (h : r.inner a = some k) : k ∈ (r.nd a).kids := by
 unfold Rd.inner at h;split at h
 ·rename_i j hj;split at h
  ·cases h; exact List.mem_of_getLast? hj
  ·cases h
 ·cases h
theorem close_facts {B : Nat} (hB : B ≤ 1000000) {r : Rd} (h : Ok B r) {b : Nat} (hb : b < r.nds.length) (ho : (r.nd b).opn = true) :
  Ok B (r.close b) ∧ ((r.close b).nd b).opn = false ∧ (∀ j, ((r.close b).nd j).opn = true -> (r.nd j).opn = true) ∧ LikeR r (r.close b) ∧ ∀ j, j < b -> ((r.close b).nd j).opn = (r.nd j).opn := by
 obtain ⟨h1, h2, h3⟩ := closeF_ok hB _ r b h hb ho (Nat.le_add_left _ _);exact ⟨h1, h2, h3, close_like r b, fun j hj => closeF_opnK _ r h.wf b j hb hj⟩
theorem shut_close {B : Nat} (hB : B ≤ 1000000) {r : Rd} (h : Ok B r) {a k : Nat} (hk : k < r.nds.length) (ho : (r.nd k).opn = true) (hp : (r.nd k).parent = some a) : Shut (r.close k) a := fun j hj hja => by
 obtain ⟨_, h2, h3, h4, _⟩ := close_facts hB h hk ho;rw [(h4.nd j).parent] at hja;have e1 := (h.last (h3 j hj) hja).1;have e2 := (h.last ho hp).1;rw [e1] at e2
 cases e2
 rw [h2] at hj
 cases hj
theorem settle_facts {B : Nat} (hB : B ≤ 1000000) {r : Rd} (h : Ok B r) {a : Nat} (hc : r.cur = some a) (_ : (r.nd a).opn = true) :
  Ok B r.settle ∧ Shut r.settle a ∧ (∀ j, (r.settle.nd j).opn = true -> (r.nd j).opn = true) ∧ LikeR r r.settle ∧ ∀ j, j ≤ a -> (r.settle.nd j).opn = (r.nd j).opn := by
 have hl := settle_like r;have he : r.settle = match r.inner a with | some k => r.close k | none => r := by unfold Rd.settle; rw [hc]; rfl
 cases hi : r.inner a with
 | none =>
  rw [hi] at he;simp only at he;rw [he];exact ⟨h, shut_none h hi, fun _ h => h, LikeR.refl r, fun _ _ => rfl⟩
 | some k =>
  rw [hi] at he;simp only at he;rw [he];obtain ⟨m1, m2, m3, _⟩ := h.kid a k (Rd.inner_mem hi);obtain ⟨h1, h2, h3, h4, h5⟩ := close_facts hB h m2 (Rd.inner_opn hi);exact ⟨h1, shut_close hB h m2 (Rd.inner_opn hi) m3, h3, h4, fun j hj => h5 j (by omega)⟩
theorem shut_new (r : Rd) (b j : Nat) (hj : j ≠ b) (hp : (r.nd b).parent ≠ some j) : (r.shut b).nd j = r.nd j := by
 have hu : ∀ d, ((r.upd b d).nd j) = r.nd j := fun d => by rw [Rd.upd_nd, if_neg fun h => hj h.1.symm]
 unfold Rd.shut;simp only;split
 ·split
  ·split
   ·rename_i p hpp;have hpp' : (r.nd b).parent = some p := hpp;rw [Rd.upd_nd, if_neg fun h => hp (by rw [hpp', h.1])];exact hu _
   ·exact hu _
  ·exact hu _
 ·split
  ·exact hu _
  ·split
   ·exact hu _
   ·split
    ·exact hu _
    ·split
     ·exact hu _
     ·exact hu _
theorem closeF_new : ∀ (f : Nat) (r : Rd) (c j : Nat), c ≠ j -> (r.nd j).opn = false -> (∀ i, (r.nd i).parent ≠ some j) -> (Rd.closeF f r c).nd j = r.nd j
 | 0, _, _, _, _, _, _ => rfl
 | f + 1, r, c, j, hc, ho, hp => by
  rw [Rd.closeF]
  cases hi : r.inner c with
  | none => exact shut_new r c j (fun e => hc e.symm) (hp c)
  | some k =>
   have hk : k ≠ j := fun e => by
    have := Rd.inner_opn hi;rw [e, ho] at this
    cases this
   have hl := closeF_like f r k;simp only;rw [shut_new _ c j (fun e => hc e.symm) (by rw [(hl.nd c).parent]; exact hp c)];exact closeF_new f r k j hk ho hp
structure LikeC (r q : Rd) : Prop where
 len : q.nds.length = r.nds.length
 nd : ∀ j, Like (r.nd j) (q.nd j)
 rest : q.rest = r.rest
 col : q.col = r.col
 n : q.n = r.n
 opn : ∀ j, (q.nd j).opn = true -> (r.nd j).opn = true
theorem LikeC.trans {a b c : Rd} (h : LikeC a b) (k : LikeC b c) : LikeC a c :=
 ⟨k.len.trans h.len, fun j => (h.nd j).trans (k.nd j), k.rest.trans h.rest, k.col.trans h.col, k.n.trans h.n, fun j hj => h.opn j (k.opn j hj)⟩
theorem holds_doc {K : Nat} (h : K ≠ 4) : holdsB 1 K = true := by
 unfold holdsB;rw [if_neg (by decide), if_pos (.inl rfl)];simpa using h
theorem popF_facts {B : Nat} (hB : B ≤ 1000000) (K b : Nat) : ∀ (f : Nat) (q : Rd) (g : Nat), Ok B q -> (q.nd 0).kind = 1 -> q.cur = some g -> (q.nd g).opn = true -> Shut q g -> g < f -> (K = 4 -> (q.nd g).kind = 3) -> (q.nd b).opn = false -> (∀ i, (q.nd i).parent ≠ some b) ->
  ∃ a, a ≤ g ∧ (Rd.popF K f q).cur = some a ∧ Ok B (Rd.popF K f q) ∧ ((Rd.popF K f q).nd a).opn = true ∧ Shut (Rd.popF K f q) a ∧ holdsB ((Rd.popF K f q).nd a).kind K = true ∧ LikeC q (Rd.popF K f q) ∧ (Rd.popF K f q).nd b = q.nd b ∧ (∀ j, j ≤ a -> ((Rd.popF K f q).nd j).opn = (q.nd j).opn)
 | 0, _, _, _, _, _, _, _, hf, _, _, _ => absurd hf (Nat.not_lt_zero _)
 | f + 1, q, g, h, hd, hc, ho, hs, hf, h4, hbo, hbp => by
  rw [Rd.popF, hc];simp only
  by_cases hh : holdsB (q.nd g).kind K = true
  ·rw [if_pos hh];exact ⟨g, Nat.le_refl _, hc, h, ho, hs, hh, ⟨rfl, fun _ => Like.refl _, rfl, rfl, rfl, fun _ h => h⟩, rfl, fun _ _ => rfl⟩
  ·rw [if_neg hh];have hK : K ≠ 4 := fun e => hh (by rw [h4 e, e]; decide);have hg0 : g ≠ 0 := fun e => hh (by rw [e, hd]; exact holds_doc hK);obtain ⟨p, hp, hpo, _⟩ := h.opn g hg0 ho;have hpg := (h.par g p hp).1;have hgl := opn_lt ho;obtain ⟨c1, c2, c3, c4, c5⟩ := close_facts hB h hgl ho;have hgb : g ≠ b := fun e => by rw [e, hbo] at ho; cases ho
   have hnb : (q.close g).nd b = q.nd b := closeF_new _ q g b hgb hbo hbp;rw [hp];obtain ⟨a, k1, k2, k3, k4, k5, k6, k7, k8, k9⟩ := popF_facts hB K b f { q.close g with cur := some p } p (c1.same rfl (Nat.le_refl _) c1.nn) ((c4.nd 0).kind.trans hd) rfl ((c5 p hpg).trans hpo) (shut_close hB h hgl ho hp) (by omega) (fun e => absurd e hK)
    (by show ((q.close g).nd b).opn = false; rw [hnb]; exact hbo) (fun i => by show ((q.close g).nd i).parent ≠ _; rw [(c4.nd i).parent]; exact hbp i);refine ⟨a, by omega, k2, k3, k4, k5, k6, ?_, ?_, fun j hj => ?_⟩
   ·refine LikeC.trans (b := { q.close g with cur := some p }) ⟨c4.len, c4.nd, c4.rest, c4.col, c4.n, c3⟩ k7
   ·rw [k8]; exact hnb
   ·rw [k9 j hj]; exact c5 j (by omega)
theorem more_nd_old (r : Rd) (d : Nd) {j : Nat} (h : j < r.nds.length) : (r.more d).nd j = r.nd j := by rw [Rd.more_nd, if_pos h]
theorem more_nd_new (r : Rd) (d : Nd) : (r.more d).nd r.nds.length = d := by rw [Rd.more_nd, if_neg (Nat.lt_irrefl _), if_pos rfl]
theorem opn_len {B : Nat} {r : Rd} (h : Ok B r) : 0 < r.nds.length := by
 by_cases h0 : 0 < r.nds.length
 ·exact h0
 ·have := h.d1;rw [Rd.nd_out h0] at this
  cases this
theorem Ok.more {B : Nat} {r : Rd} (h : Ok B r) (d : Nd) (hfew : r.nds.length + 1 ≤ 100000) (hd : NdOk B d) (hk : d.kids = []) (hp : d.parent = none) (ho : d.opn = false) : Ok B (r.more d) := by
 have hl := Rd.more_len r d;have hc : ∀ j, (r.more d).nd j = r.nd j ∨ (j = r.nds.length ∧ (r.more d).nd j = d) := fun j => by
  by_cases h1 : j < r.nds.length
  ·exact .inl (more_nd_old r d h1)
  ·by_cases h2 : j = r.nds.length
   ·subst h2; exact .inr ⟨rfl, more_nd_new r d⟩
   ·left;rw [Rd.nd_out (by rw [hl]; omega), Rd.nd_out (by omega)]
 refine ⟨by rw [hl]; exact hfew, h.nn, fun j hj => ?_, fun a b hb => ?_, fun a p hap => ?_, fun j hj hjo => ?_, ?_, by rw [more_nd_old r d (opn_len h)]; exact h.d1⟩
 ·rcases hc j with e | ⟨e1, e⟩
  ·by_cases h1 : j < r.nds.length
   ·rw [e]; exact h.nd j h1
   ·rw [hl] at hj;obtain rfl : j = r.nds.length := by omega
    rw [more_nd_new]; exact hd
  ·rw [e]; exact hd
 ·rcases hc a with e | ⟨e1, e⟩
  ·rw [e] at hb ⊢;obtain ⟨m1, m2, m3, m4, m5⟩ := h.kid a b hb;rw [more_nd_old r d m2];exact ⟨m1, by omega, m3, m4, m5⟩
  ·rw [e, hk] at hb; cases hb
 ·rcases hc a with e | ⟨e1, e⟩
  ·rw [e] at hap;obtain ⟨m1, m2⟩ := h.par a p hap;refine ⟨m1, ?_⟩;have hal : a < r.nds.length := by
    by_cases h1 : a < r.nds.length
    ·exact h1
    ·rw [Rd.nd_out h1] at hap; cases hap
   rw [more_nd_old r d (by omega)]; exact m2
  ·rw [e, hp] at hap; cases hap
 ·rcases hc j with e | ⟨e1, e⟩
  ·rw [e] at hjo;obtain ⟨p, m1, m2, m3⟩ := h.opn j hj hjo;have := opn_lt m2;exact ⟨p, by rw [e]; exact m1, by rw [more_nd_old r d this]; exact m2, by rw [more_nd_old r d this]; exact m3⟩
  ·rw [e, ho] at hjo; cases hjo
 ·have e : (r.more d).openW = r.openW + ow d := by unfold Rd.openW Rd.more; simp
  rw [e, ow_closed ho];exact h.refs
theorem push_ok {B : Nat} {q : Rd} {a b : Nat} (h : Ok B q) (hc : q.cur = some a) (ha : (q.nd a).opn = true) (hb : b + 1 = q.nds.length) (hk : (q.nd b).kids = []) (hp : (q.nd b).parent = none) (ho : (q.nd b).opn = false) (hlb : (q.nd b).lines = []) (htb : (q.nd b).text.size = 0) (hab : a < b)
  (hh : holdsB (q.nd a).kind (q.nd b).kind = true) (hs : Shut q a) :
  Ok B (q.push b) ∧ (q.push b).nd b = { q.nd b with parent := some a, opn := true, first := q.n, last := q.n } ∧ (q.push b).nd a = { q.nd a with kids := (q.nd a).kids ++ [b] } ∧ ∀ j, j ≠ a -> j ≠ b -> (q.push b).nd j = q.nd j := by
 have hbl : b < q.nds.length := by omega
 have hal : a < q.nds.length := by omega
 have hba : ¬ b = a := by omega
 obtain ⟨D, hD⟩ : ∃ D : Nd, { q.nd b with parent := some a, opn := true, first := (q.n : Int), last := (q.n : Int) } = D := ⟨_, rfl⟩
 have hDk : D.kids = [] := by rw [<- hD]; exact hk
 have hDp : D.parent = some a := by rw [<- hD]
 have hDkind : D.kind = (q.nd b).kind := by rw [<- hD]
 have hDl : D.lines = [] := by rw [<- hD]; exact hlb
 have hDo : D.opn = true := by rw [<- hD]
 rw [hD];have hp1 : q.push b = { ((q.upd b D).upd a { q.nd a with kids := (q.nd a).kids ++ [b] }) with lzy := false, tip := some b } := by
  unfold Rd.push;rw [hc];simp only;rw [hD, Rd.upd_nd, if_neg fun h => hba h.1]
 obtain ⟨u, hu⟩ : ∃ u, (q.upd b D).upd a { q.nd a with kids := (q.nd a).kids ++ [b] } = u := ⟨_, rfl⟩;rw [hu] at hp1;have hnd : ∀ j, (q.push b).nd j = u.nd j := fun j => by rw [hp1]; rfl
 have hlen : (q.push b).nds.length = q.nds.length := push_len q b;have hua : u.nd a = { q.nd a with kids := (q.nd a).kids ++ [b] } := by rw [<- hu, Rd.upd_nd, if_pos ⟨rfl, by rw [Rd.upd_len]; exact hal⟩]
 have hub : u.nd b = D := by rw [<- hu, Rd.upd_nd, if_neg fun h => hba h.1.symm, Rd.upd_nd, if_pos ⟨rfl, hbl⟩]
 have huo : ∀ j, j ≠ a -> j ≠ b -> u.nd j = q.nd j := fun j h1 h2 => by rw [<- hu, Rd.upd_nd, if_neg fun h => h1 h.1.symm, Rd.upd_nd, if_neg fun h => h2 h.1.symm]
 have hkind : ∀ j, (u.nd j).kind = (q.nd j).kind := fun j => by
  by_cases h1 : j = a
  ·rw [h1, hua]
  ·by_cases h2 : j = b
   ·rw [h2, hub, hDkind]
   ·rw [huo j h1 h2]
 have hkb : ∀ i, b ∉ (q.nd i).kids := fun i hi => by
  have := (h.kid i b hi).2.2.1;rw [hp] at this
  cases this
 refine ⟨?_, by rw [hnd, hub], by rw [hnd, hua], fun j h1 h2 => by rw [hnd, huo j h1 h2]⟩;refine ⟨by rw [hlen]; exact h.few, by rw [hp1, <- hu]; exact h.nn, fun j hj => ?_, fun i k hk2 => ?_, fun i p hip => ?_, fun j hj hjo => ?_, ?_, by rw [hnd, hkind]; exact h.d1⟩
 ·rw [hnd];rw [hlen] at hj
  by_cases h1 : j = a
  ·rw [h1, hua];have hA := h.nd a hal;refine ⟨?_, hA.lines, hA.kind, hA.txt, hA.num, hA.ind, hA.html⟩;show List.Pairwise (· < ·) ((q.nd a).kids ++ [b]);rw [List.pairwise_append];refine ⟨hA.asc, by simp, fun x hx y hy => ?_⟩;obtain rfl : y = b := by simpa using hy
   have h2 := (h.kid a x hx).2.1;have h3 : x ≠ y := fun e => hkb a (by rw [<- e]; exact hx);omega
  ·by_cases h2 : j = b
   ·rw [h2, hub];have hbn := h.nd b hbl;have hn := h.nn;rw [<- hD];exact ⟨by rw [show Nd.kids _ = [] from hk]; exact List.Pairwise.nil, hbn.lines, hbn.kind, fun _ => htb, ⟨by show (0 : Int) ≤ q.n; omega, by show (q.n : Int) ≤ _; omega, by show (0 : Int) ≤ q.n; omega, by show (q.n : Int) ≤ _; omega⟩, hbn.ind, hbn.html⟩
   ·rw [huo j h1 h2]; exact h.nd j hj
 ·rw [hnd] at hk2;rw [hnd, hnd, hkind, hkind, hlen];have hold : k ∈ (q.nd i).kids -> i < k ∧ k < q.nds.length ∧ (u.nd k).parent = some i ∧ holdsB (q.nd i).kind (q.nd k).kind = true ∧ ((q.nd k).kind = 5 -> (u.nd k).opn = false -> (u.nd k).text.size ≠ 0) := fun hm => by
   obtain ⟨m1, m2, m3, m4, m5⟩ := h.kid i k hm;have hkb2 : k ≠ b := fun e => hkb i (by rw [<- e]; exact hm)
   by_cases h1 : k = a
   ·rw [h1] at m3 m5 ⊢;rw [hua];rw [h1] at m1 m2 m4;exact ⟨m1, m2, m3, m4, m5⟩
   ·rw [huo k h1 hkb2];exact ⟨m1, m2, m3, m4, m5⟩
  by_cases h1 : i = a
  ·rw [h1, hua] at hk2;rcases List.mem_append.1 hk2 with hm | hm
   ·rw [h1] at hold ⊢; exact hold hm
   ·obtain rfl : k = b := by simpa using hm
    rw [h1, hub];exact ⟨hab, hbl, hDp, hh, fun _ e => by rw [hDo] at e; cases e⟩
  ·by_cases h2 : i = b
   ·rw [h2, hub, hDk] at hk2; cases hk2
   ·rw [huo i h1 h2] at hk2; exact hold hk2
 ·rw [hnd] at hip;rw [hnd, hkind]
  by_cases h2 : i = b
  ·rw [h2, hub, hDp] at hip
   cases hip
   rw [h2];exact ⟨hab, holds_box hh⟩
  ·by_cases h1 : i = a
   ·rw [h1, hua] at hip; rw [h1]; exact h.par a p hip
   ·rw [huo i h1 h2] at hip; exact h.par i p hip
 ·rw [hnd] at hjo ⊢
  by_cases h2 : j = b
  ·rw [h2, hub];exact ⟨a, hDp, by rw [hnd, hua]; exact ha, by rw [hnd, hua]; exact List.getLast?_concat⟩
  ·have hjo' : (q.nd j).opn = true := by
    by_cases h1 : j = a
    ·rw [h1, hua] at hjo; rw [h1]; exact hjo
    ·rw [huo j h1 h2] at hjo; exact hjo
   obtain ⟨p, m1, m2, m3⟩ := h.opn j hj hjo';have hpa : p ≠ a := fun e => hs j hjo' (by rw [m1, e]);have hpb : p ≠ b := fun e => by rw [e, ho] at m2; cases m2
   refine ⟨p, ?_, by rw [hnd, huo p hpa hpb]; exact m2, by rw [hnd, huo p hpa hpb]; exact m3⟩
   by_cases h1 : j = a
   ·rw [h1, hua]; rw [h1] at m1; exact m1
   ·rw [huo j h1 h2]; exact m1
 ·have e1 := openW_upd hbl D;have e2 := openW_upd (r := q.upd b D) (i := a) (by rw [Rd.upd_len]; exact hal) { q.nd a with kids := (q.nd a).kids ++ [b] };rw [hu, Rd.upd_nd, if_neg fun h => hba h.1] at e2;have e3 : ow { q.nd a with kids := (q.nd a).kids ++ [b] } = ow (q.nd a) := rfl;have e4 : ow D = 0 := by unfold ow; rw [hDl]; split <;> rfl
  have e5 := ow_closed ho;have e6 : (q.push b).openW = u.openW := by rw [hp1]; rfl
  have e7 : (q.push b).refs = q.refs := by rw [hp1, <- hu]; rfl
  have := h.refs;rw [e6, e7];omega
structure FreshR (B : Nat) (r q : Rd) (d : Nd) (a : Nat) : Prop where
 rdy : Rdy B q
 cur : q.cur = some a
 ca : (q.nd a).opn = true
 new : q.nd r.nds.length = { d with parent := some a, opn := true, first := r.n, last := r.n }
 len : q.nds.length = r.nds.length + 1
 rest : q.rest = r.rest
 col : q.col = r.col
 n : q.n = r.n
 tip : q.tip = some r.nds.length
 lzy : q.lzy = false
 kind : ∀ j, j < r.nds.length -> (q.nd j).kind = (r.nd j).kind
theorem fresh_facts {B : Nat} (hB : B ≤ 1000000) {r : Rd} (h : Rdy B r) (d : Nd) (hfew : r.nds.length + 1 ≤ 100000) (hd : NdOk B d) (hk : d.kids = []) (hp : d.parent = none) (ho : d.opn = false) (hl : d.lines = []) (ht : d.text.size = 0) (h4 : d.kind = 4 -> r.curK = 3) : ∃ a, FreshR B r (r.fresh d) d a := by
 obtain ⟨hok, hd0, g, hc, hg⟩ := h;have hd1 := hok.d1;have hgl := opn_lt hg;have h0l : 0 < r.nds.length := by omega
 have hm := hok.more d hfew hd hk hp ho;have hml := Rd.more_len r d;obtain ⟨m, hmm⟩ : ∃ m, r.more d = m := ⟨_, rfl⟩;have hmc : m.cur = some g := by rw [<- hmm]; exact hc
 have hmg : (m.nd g).opn = true := by rw [<- hmm, more_nd_old r d hgl]; exact hg
 have hm0 : (m.nd 0).kind = 1 := by rw [<- hmm, more_nd_old r d h0l]; exact hd1
 have hm00 : (m.nd 0).opn = true := by rw [<- hmm, more_nd_old r d h0l]; exact hd0
 have hmb : m.nd r.nds.length = d := by rw [<- hmm]; exact more_nd_new r d
 have hmo : ∀ j, j < r.nds.length -> m.nd j = r.nd j := fun j hj => by rw [<- hmm]; exact more_nd_old r d hj
 have hmr : m.rest = r.rest ∧ m.col = r.col ∧ m.n = r.n := by rw [<- hmm]; exact ⟨rfl, rfl, rfl⟩
 have hmp : ∀ i, (m.nd i).parent ≠ some r.nds.length := fun i e => by
  have hi := (by rw [<- hmm] at e; exact hm.par i _ e : r.nds.length < i ∧ _).1;rw [Rd.nd_out (by rw [<- hmm, hml]; omega)] at e
  cases e
 rw [hmm] at hm hml;obtain ⟨s1, s2, s3, s4, s5⟩ := settle_facts hB hm hmc hmg;have hsb : (m.settle).nd r.nds.length = d := by
  have he : m.settle = match m.inner g with | some k => m.close k | none => m := by unfold Rd.settle; rw [hmc]; rfl
  rw [he]
  cases hi : m.inner g with
  | none => exact hmb
  | some k =>
   have hkne : k ≠ r.nds.length := fun e => by
    have := Rd.inner_opn hi;rw [e, hmb, ho] at this
    cases this
   exact (closeF_new _ m k r.nds.length hkne (by rw [hmb]; exact ho) hmp).trans hmb
 have hkg : d.kind = 4 -> (m.settle.nd g).kind = 3 := fun e => by
  rw [(s4.nd g).kind, hmo g hgl];have := h4 e;unfold Rd.curK at this;rw [hc] at this;exact this
 obtain ⟨a, k1, k2, k3, k4, k5, k6, k7, k8, k9⟩ := popF_facts hB d.kind r.nds.length m.nds.length m.settle g s1 ((s4.nd 0).kind.trans hm0) (s4.cur.trans hmc) ((s5 g (Nat.le_refl _)).trans hmg) s2 (by omega) hkg (by rw [hsb]; exact ho) (fun i => by rw [(s4.nd i).parent]; exact hmp i);have hfr : r.fresh d = (m.settle.popF d.kind m.nds.length).push r.nds.length := by
  unfold Rd.fresh Rd.begin;rw [hmm, hmb]
 obtain ⟨q, hq⟩ : ∃ q, m.settle.popF d.kind m.nds.length = q := ⟨_, rfl⟩;rw [hq] at hfr k2 k3 k4 k5 k6 k7 k8 k9;have hql : q.nds.length = r.nds.length + 1 := k7.len.trans (s4.len.trans hml);have hqb : q.nd r.nds.length = d := k8.trans hsb;have hqn : q.n = r.n := k7.n.trans (s4.n.trans hmr.2.2);have hab : a < r.nds.length := by omega
 obtain ⟨p1, p2, p3, p4⟩ := push_ok k3 k2 k4 hql.symm (by rw [hqb]; exact hk) (by rw [hqb]; exact hp) (by rw [hqb]; exact ho) (by rw [hqb]; exact hl) (by rw [hqb]; exact ht) hab (by rw [hqb]; exact k6) k5;rw [hqb, hqn] at p2;have hpe : ∃ u : Rd, q.push r.nds.length = { u with lzy := false, tip := some r.nds.length } ∧ u.rest = q.rest ∧ u.col = q.col ∧ u.n = q.n ∧ u.cur = q.cur := by
  unfold Rd.push;rw [k2];exact ⟨_, rfl, rfl, rfl, rfl, k2⟩
 obtain ⟨u, hu, u1, u2, u3, u4⟩ := hpe;have hkq : ∀ j, j < r.nds.length -> (q.nd j).kind = (r.nd j).kind := fun j hj => by
  rw [(k7.nd j).kind, (s4.nd j).kind, hmo j hj]
 have hkk : ∀ j, j < r.nds.length -> ((q.push r.nds.length).nd j).kind = (r.nd j).kind := fun j hj => by
  by_cases hja : j = a
  ·rw [hja, p3, <- hkq a hab]
  ·rw [p4 j hja (by omega)]; exact hkq j hj
 have hca : ((q.push r.nds.length).nd a).opn = true := by rw [p3]; exact k4
 have hcur : (q.push r.nds.length).cur = some a := by rw [hu]; exact u4.trans k2
 have h00 : ((q.push r.nds.length).nd 0).opn = true := by
  by_cases h0a : a = 0
  ·rw [<- h0a]; exact hca
  ·rw [p4 0 (fun e => h0a e.symm) (by omega), k9 0 (by omega), s5 0 (by omega)]; exact hm00
 rw [hfr];refine ⟨a, ⟨p1, h00, a, hcur, hca⟩, hcur, hca, p2, by rw [push_len]; exact hql, ?_, ?_, ?_, ?_, ?_, hkk⟩
 ·rw [hu]; exact u1.trans (k7.rest.trans (s4.rest.trans hmr.1))
 ·rw [hu]; exact u2.trans (k7.col.trans (s4.col.trans hmr.2.1))
 ·rw [hu]; exact u3.trans hqn
 ·rw [hu]
 ·rw [hu]
end
section
open Go.RowKit
variable {F : Frm}
theorem own_ones {w : World} {base : Nat} {v : Value} {l : List ByteArray} (h : w.ownsRow base 9 1 v l.length (l.map Value.string)) : ∃ A c, v = .slice A l.length c ∧ ∀ (k : Nat) (hk : k < l.length), ∃ g, A = some ⟨g, 0, none⟩ ∧ g < w.heap.size ∧ l.length ≤ c ∧ w.cell? ⟨g, k, none⟩ = some (.string l[k]) := by
 rcases h.2 with ⟨h1, h2⟩ | ⟨g, cap, cur, rfl, hb, hg, hc, _⟩
 ·exact ⟨none, 0, by rw [h2]; exact h1, fun k hk => by omega⟩
 ·refine ⟨_, _, rfl, fun k hk => ⟨g, rfl, (gSq.1 hg).1, hc, ?_⟩⟩;have hadd : ∀ j, (⟨g, 0, none⟩ : Addr).add j = ⟨g, j, none⟩ := fun j => by
   unfold Addr.add;split
   ·rename_i h0; rw [h0]
   ·simp
  have c1 := h.cells (g := g) rfl k (.string l[k]) (by simp [List.getElem?_eq_getElem hk]);rw [hadd] at c1;exact c1
theorem join_nil (c : Nat) (w : World) : Calls Tryz.prog 35 #[.slice none 0 c, .string ⟨#[10]⟩] w (JoinRK w []) := by
 go_enter Tryz.func35, Tryz.ntmps35;go_wp2;go_ret;exact ⟨rfl, Below.refl _ _⟩
theorem join_own (l : List ByteArray) (v : Value) (base : Nat) (w : World) (h : w.ownsRow base 9 1 v l.length (l.map Value.string)) (hl : lw l ≤ 1000000) : Calls Tryz.prog 35 #[v, .string ⟨#[10]⟩] w fun e w' => e = .returned (.string (joinN l)) ∧ Below w.heap.size w w' := by
 unfold lw at hl;rcases h.2 with ⟨h1, h2⟩ | ⟨g, cap, cur, rfl, hb, hg, hc, _⟩
 ·have h0 : l = [] := List.eq_nil_of_length_eq_zero h2;subst h0;subst h1;exact join_nil 0 w
 ·refine join_anyK l g cap w (by omega) (by omega) hc (gSq.1 hg).1 fun j x hx => ?_;have hadd : (⟨g, 0, none⟩ : Addr).add j = ⟨g, j, none⟩ := by
   unfold Addr.add;split
   ·rename_i h0; rw [h0]
   ·simp
  have c1 := h.cells (g := g) rfl j (.string x) (by simp [hx]);rw [hadd] at c1;exact c1
theorem Rd.upd_same {r : Rd} {i : Nat} {d : Nd} (h : r.nds[i]? = some d) : r.upd i d = r := by
 unfold Rd.upd;have : r.nds.set i d = r.nds := by
  apply List.ext_getElem?;intro j;rw [List.getElem?_set];split
  ·rename_i hij;subst hij;rw [if_pos (List.getElem?_eq_some_iff.1 h).1, h]
  ·rfl
 rw [this]
theorem inner_ok {B : Nat} (hB : B ≤ 1000000) {f : Nat} {r q : Rd} {b : Nat} (h : Ok B r) (hb : b < r.nds.length) (ho : (r.nd b).opn = true) (hf : r.nds.length ≤ b + (f + 1)) (hq : (match r.inner b with | some k => Rd.closeF f r k | none => r) = q) :
  Ok B q ∧ (q.nd b).opn = true ∧ LikeR r q := by
 cases hi : r.inner b with
 | none => rw [hi] at hq; simp only at hq; rw [<- hq]; exact ⟨h, ho, LikeR.refl r⟩
 | some k =>
  rw [hi] at hq;simp only at hq;rw [<- hq];have hk := Rd.inner_ltK h.wf hb hi;obtain ⟨h1, h2, h3⟩ := closeF_ok hB f r k h hk.2 (Rd.inner_opn hi) (by omega);exact ⟨h1, (closeF_opnK f r h.wf k b hk.2 hk.1).trans ho, closeF_like f r k⟩
theorem linesN_take (t : ByteArray) (l : List ByteArray) (k : Nat) (hk : k < l.length) : linesN t (l.take (k + 1)) = linesN t (l.take k) ++ (l[k] ++ ⟨#[10]⟩) := by
 unfold linesN;rw [List.take_succ_eq_append_getElem hk, List.foldl_append];rfl
theorem linesN_size (t : ByteArray) (l : List ByteArray) : (linesN t l).size = t.size + lw l := by
 unfold linesN
 induction l generalizing t with
 | nil => simp [lw, sumZ]
 | cons x l ih =>
  rw [List.foldl_cons, ih];simp [lw, sumZ, ByteArray.size_append];have : (⟨#[10]⟩ : ByteArray).size = 1 := rfl;omega
theorem lw_take (l : List ByteArray) (k : Nat) (hk : k < l.length) : lw (l.take k) + l[k].size + 1 ≤ lw l := by
 have h1 : l = l.take k ++ l[k] :: l.drop (k + 1) := by rw [List.getElem_cons_drop hk, List.take_append_drop]
 have h3 : ∀ (a : List ByteArray) (x : ByteArray) (c : List ByteArray), lw (a ++ x :: c) = lw a + (x.size + 1 + lw c) := fun a x c => by
  unfold lw;rw [sumZ_appendK, List.length_append, List.length_cons, show sumZ (x :: c) = x.size + sumZ c by simp [sumZ]];omega
 have h2 := h3 (l.take k) l[k] (l.drop (k + 1));rw [<- h1] at h2;omega
theorem lw_mem {l : List ByteArray} {x : ByteArray} (h : x ∈ l) : x.size ≤ lw l := by
 obtain ⟨k, hk, rfl⟩ := List.getElem_of_mem h;have := lw_take l k hk;omega
theorem shut_five {r : Rd} {b : Nat} (hk : (r.nd b).kind = 5) {X : ByteArray × List RefT} (hX : defineF (joinN (r.nd b).lines).size (joinN (r.nd b).lines) r.refs = X) (ht : (trimN X.1).size ≠ 0) :
  r.shut b = { (r.upd b { r.nd b with opn := false, text := trimN X.1 }) with refs := X.2 } := by
 unfold Rd.shut;simp only;rw [if_pos hk, hX, if_neg ht]
theorem shut_gone {r : Rd} {b p : Nat} (hk : (r.nd b).kind = 5) (hp : (r.nd b).parent = some p) {X : ByteArray × List RefT} (hX : defineF (joinN (r.nd b).lines).size (joinN (r.nd b).lines) r.refs = X) (ht : (trimN X.1).size = 0) {q : Rd} (hq : { (r.upd b { r.nd b with opn := false, text := trimN X.1 }) with refs := X.2 } = q) :
  r.shut b = q.upd p { q.nd p with kids := (q.nd p).kids.dropLast } := by
 unfold Rd.shut;simp only;rw [if_pos hk, hX, if_pos ht];split
 ·rename_i p' hp';have hp2 : (r.nd b).parent = some p' := hp';rw [hp] at hp2
  cases hp2
  rw [<- hq]
 ·rename_i hp';have hp2 : (r.nd b).parent = none := hp';rw [hp] at hp2
  cases hp2
theorem shut_seven {r : Rd} {b : Nat} (hk : (r.nd b).kind = 7) {l : List ByteArray} (hl : (if 0 < (r.nd b).fm then (r.nd b).lines else trailL (r.nd b).lines) = l) : r.shut b = r.upd b { r.nd b with opn := false, lines := l, text := linesN (r.nd b).text l } := by
 unfold Rd.shut;simp only;rw [if_neg (by show ¬ (r.nd b).kind = 5; omega), if_pos (show Nd.kind { r.nd b with opn := false } = 7 from hk), <- hl]
theorem shut_eight {r : Rd} {b : Nat} (hk : (r.nd b).kind = 8) : r.shut b = r.upd b { r.nd b with opn := false, text := joinN (trailL (r.nd b).lines) } := by
 unfold Rd.shut;simp only;rw [if_neg (by show ¬ (r.nd b).kind = 5; omega), if_neg (by show ¬ (r.nd b).kind = 7; omega), if_pos (show Nd.kind { r.nd b with opn := false } = 8 from hk)]
def lastI (r : Rd) (b : Nat) : Int := match (r.nd b).kids.getLast? with | some k => (r.nd k).last | none => (r.nd b).first
def lastQ (r : Rd) (b : Nat) : Int := match (r.nd b).kids.getLast? with | some k => max (r.nd b).last (r.nd k).last | none => (r.nd b).last
theorem shut_four {r : Rd} {b : Nat} (hk : (r.nd b).kind = 4 ∨ (r.nd b).kind = 3) : r.shut b = r.upd b { r.nd b with opn := false, last := lastI r b } := by
 unfold Rd.shut;simp only;rw [if_neg (by show ¬ (r.nd b).kind = 5; omega), if_neg (by show ¬ (r.nd b).kind = 7; omega), if_neg (by show ¬ (r.nd b).kind = 8; omega), if_pos (show Nd.kind { r.nd b with opn := false } = 4 ∨ Nd.kind { r.nd b with opn := false } = 3 from hk)];rfl
theorem shut_two {r : Rd} {b : Nat} (hk : (r.nd b).kind = 2) : r.shut b = r.upd b { r.nd b with opn := false, last := lastQ r b } := by
 unfold Rd.shut;simp only;rw [if_neg (by show ¬ (r.nd b).kind = 5; omega), if_neg (by show ¬ (r.nd b).kind = 7; omega), if_neg (by show ¬ (r.nd b).kind = 8; omega), if_neg (show ¬ ((r.nd b).kind = 4 ∨ (r.nd b).kind = 3) by omega), if_pos (show Nd.kind { r.nd b with opn := false } = 2 from hk)];rfl
theorem shut_else {r : Rd} {b : Nat} (h5 : (r.nd b).kind ≠ 5) (h7 : (r.nd b).kind ≠ 7) (h8 : (r.nd b).kind ≠ 8) (h4 : (r.nd b).kind ≠ 4) (h3 : (r.nd b).kind ≠ 3) (h2 : (r.nd b).kind ≠ 2) : r.shut b = r.upd b { r.nd b with opn := false } := by
 unfold Rd.shut;simp only;rw [if_neg (show ¬ (r.nd b).kind = 5 from h5), if_neg (show ¬ (r.nd b).kind = 7 from h7), if_neg (show ¬ (r.nd b).kind = 8 from h8), if_neg (show ¬ ((r.nd b).kind = 4 ∨ (r.nd b).kind = 3) by omega), if_neg (show ¬ (r.nd b).kind = 2 from h2)]
end
