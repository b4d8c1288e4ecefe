/- With a quote's mark ahead of each line. With a quote's mark ahead of each line. -/
import Derived.Test.YtebfjlfkofibpaaGreatDoorBkKe
namespace Go.Proofs.YtebfjlfkofibpaaGreatDoor
section
open Go.RowKit
abbrev Nd.sh (d : Nd) : Nd := { d with parent := d.parent.map (· + 1), kids := d.kids.map (· + 1) }
def NoTab (s : ByteArray) : Prop := ∀ b ∈ s.data.toList, b ≠ 9
structure Sim (r q : Rd) : Prop where
 len : q.nds.length = r.nds.length + 1
 pos : 0 < r.nds.length
 nd : ∀ i, i ≠ 0 -> q.nd (i + 1) = (r.nd i).sh
 top : (q.nd 1).kids = (r.nd 0).kids.map (· + 1)
 k2 : (q.nd 1).kind = 2
 k1 : (r.nd 0).kind = 1
 o1 : (q.nd 1).opn = (r.nd 0).opn
 p1 : (q.nd 1).parent = some 0
 dk : (q.nd 0).kids = [1]
 dn : (q.nd 0).kind = 1
 dop : (q.nd 0).opn = true
 rest : q.rest = r.rest
 tab : NoTab r.rest
 n : q.n = r.n
 lzy : q.lzy = r.lzy
 cur : q.cur = r.cur.map (· + 1)
 tip : q.tip = r.tip.map (· + 1)
 refs : q.refs = r.refs
namespace Sim
theorem kids {r q : Rd} (h : Sim r q) (i : Nat) : (q.nd (i + 1)).kids = (r.nd i).kids.map (· + 1) := by
 by_cases hi : i = 0
 ·rw [hi]; exact h.top
 ·rw [h.nd i hi]
theorem opn {r q : Rd} (h : Sim r q) (i : Nat) : (q.nd (i + 1)).opn = (r.nd i).opn := by
 by_cases hi : i = 0
 ·rw [hi]; exact h.o1
 ·rw [h.nd i hi]
theorem kind {r q : Rd} (h : Sim r q) {i : Nat} (hi : i ≠ 0) : (q.nd (i + 1)).kind = (r.nd i).kind := by rw [h.nd i hi]
theorem kindE {r q : Rd} (h : Sim r q) (i : Nat) {K : Nat} (h1 : K ≠ 1) (h2 : K ≠ 2) : (q.nd (i + 1)).kind = K ↔ (r.nd i).kind = K := by
 by_cases hi : i = 0
 ·rw [hi, h.k2, h.k1]; omega
 ·rw [h.kind hi]
theorem inner {r q : Rd} (h : Sim r q) (b : Nat) : q.inner (b + 1) = (r.inner b).map (· + 1) := by
 unfold Rd.inner;rw [h.kids b, List.getLast?_map]
 cases (r.nd b).kids.getLast? with
 | none => rfl
 | some k =>
  simp only [Option.map];rw [h.opn k];split <;> rfl
theorem upd {r q : Rd} (h : Sim r q) {i : Nat} (hi : i ≠ 0) (d : Nd) : Sim (r.upd i d) (q.upd (i + 1) d.sh) := by
 have e1 : (q.upd (i + 1) d.sh).nd 1 = q.nd 1 := by rw [Rd.upd_nd, if_neg (by omega)]
 have e0 : (q.upd (i + 1) d.sh).nd 0 = q.nd 0 := by rw [Rd.upd_nd, if_neg (by omega)]
 have e2 : (r.upd i d).nd 0 = r.nd 0 := by rw [Rd.upd_nd, if_neg (by omega)]
 refine ⟨?_, ?_, fun j hj => ?_, ?_, ?_, ?_, ?_, ?_, ?_, ?_, ?_, h.rest, h.tab, h.n, h.lzy, h.cur, h.tip, h.refs⟩
 ·show (q.nds.set _ _).length = (r.nds.set _ _).length + 1;rw [List.length_set, List.length_set]; exact h.len
 ·show 0 < (r.nds.set _ _).length;rw [List.length_set]; exact h.pos
 ·rw [Rd.upd_nd, Rd.upd_nd];have hl := h.len
  by_cases c : i = j ∧ i < r.nds.length
  ·rw [if_pos c, if_pos (by omega)]
  ·rw [if_neg c, if_neg (by omega)]; exact h.nd j hj
 ·rw [e1, e2]; exact h.top
 ·rw [e1]; exact h.k2
 ·rw [e2]; exact h.k1
 ·rw [e1, e2]; exact h.o1
 ·rw [e1]; exact h.p1
 ·rw [e0]; exact h.dk
 ·rw [e0]; exact h.dn
 ·rw [e0]; exact h.dop
theorem setKids {r q : Rd} (h : Sim r q) (a : Nat) (l : List Nat) : Sim (r.upd a { r.nd a with kids := l }) (q.upd (a + 1) { q.nd (a + 1) with kids := l.map (· + 1) }) := by
 by_cases ha : a = 0
 ·subst ha;have hl := h.len;have hp := h.pos;have e1 : (q.upd (0 + 1) { q.nd (0 + 1) with kids := l.map (· + 1) }).nd 1 = { q.nd 1 with kids := l.map (· + 1) } := by rw [Rd.upd_nd, if_pos (by omega)]
  have e0 : (q.upd (0 + 1) { q.nd (0 + 1) with kids := l.map (· + 1) }).nd 0 = q.nd 0 := by rw [Rd.upd_nd, if_neg (by omega)]
  have e2 : (r.upd 0 { r.nd 0 with kids := l }).nd 0 = { r.nd 0 with kids := l } := by rw [Rd.upd_nd, if_pos (by omega)]
  refine ⟨?_, ?_, fun j hj => ?_, ?_, ?_, ?_, ?_, ?_, ?_, ?_, ?_, h.rest, h.tab, h.n, h.lzy, h.cur, h.tip, h.refs⟩
  ·show (q.nds.set _ _).length = (r.nds.set _ _).length + 1;rw [List.length_set, List.length_set]; exact h.len
  ·show 0 < (r.nds.set _ _).length;rw [List.length_set]; exact h.pos
  ·rw [Rd.upd_nd, Rd.upd_nd, if_neg (by omega), if_neg (by omega)]; exact h.nd j hj
  ·rw [e1, e2]
  ·rw [e1]; exact h.k2
  ·rw [e2]; exact h.k1
  ·rw [e1, e2]; exact h.o1
  ·rw [e1]; exact h.p1
  ·rw [e0]; exact h.dk
  ·rw [e0]; exact h.dn
  ·rw [e0]; exact h.dop
 ·rw [h.nd a ha];exact h.upd ha { r.nd a with kids := l }
theorem drop {r q : Rd} (h : Sim r q) (a : Nat) : Sim (r.upd a { r.nd a with kids := (r.nd a).kids.dropLast }) (q.upd (a + 1) { q.nd (a + 1) with kids := (q.nd (a + 1)).kids.dropLast }) := by
 rw [h.kids a, <- List.map_dropLast];exact h.setKids a _
theorem add {r q : Rd} (h : Sim r q) (a b : Nat) : Sim (r.upd a { r.nd a with kids := (r.nd a).kids ++ [b] }) (q.upd (a + 1) { q.nd (a + 1) with kids := (q.nd (a + 1)).kids ++ [b + 1] }) := by
 rw [h.kids a];have := h.setKids a ((r.nd a).kids ++ [b]);rw [List.map_append] at this;exact this
theorem setRefs {r q : Rd} (h : Sim r q) (l : List RefT) : Sim { r with refs := l } { q with refs := l } := ⟨h.len, h.pos, h.nd, h.top, h.k2, h.k1, h.o1, h.p1, h.dk, h.dn, h.dop, h.rest, h.tab, h.n, h.lzy, h.cur, h.tip, rfl⟩
theorem setCur {r q : Rd} (h : Sim r q) (c : Option Nat) : Sim { r with cur := c } { q with cur := c.map (· + 1) } := ⟨h.len, h.pos, h.nd, h.top, h.k2, h.k1, h.o1, h.p1, h.dk, h.dn, h.dop, h.rest, h.tab, h.n, h.lzy, rfl, h.tip, h.refs⟩
theorem setTip {r q : Rd} (h : Sim r q) (c : Option Nat) (b : Bool) : Sim { r with tip := c, lzy := b } { q with tip := c.map (· + 1), lzy := b } := ⟨h.len, h.pos, h.nd, h.top, h.k2, h.k1, h.o1, h.p1, h.dk, h.dn, h.dop, h.rest, h.tab, h.n, rfl, h.cur, rfl, h.refs⟩
theorem setRest {r q : Rd} (h : Sim r q) (s : ByteArray) (hs : NoTab s) (c d : Nat) : Sim { r with rest := s, col := c } { q with rest := s, col := d } := ⟨h.len, h.pos, h.nd, h.top, h.k2, h.k1, h.o1, h.p1, h.dk, h.dn, h.dop, rfl, hs, h.n, h.lzy, h.cur, h.tip, h.refs⟩
theorem turn {r q : Rd} (h : Sim r q) {b : Nat} (hb : b ≠ 0) {f g : Nd -> Nd} (hf : g (r.nd b).sh = (f (r.nd b)).sh) : Sim (r.turn b f) (q.turn (b + 1) g) := by
 unfold Rd.turn;rw [h.nd b hb, hf];exact h.upd hb _
theorem shut {B : Nat} {r q : Rd} (h : Sim r q) (hok : Ok B r) {b : Nat} (hb : b ≠ 0) : Sim (r.shut b) (q.shut (b + 1)) := by
 have hl : ∀ k, (r.nd b).kids.getLast? = some k -> (q.nd (k + 1)).last = (r.nd k).last := fun k hk => by
  have := (hok.kid b k (List.mem_of_getLast? hk)).1;rw [h.nd k (by omega)]
 unfold Rd.shut;rw [h.nd b hb, h.refs];simp only [List.getLast?_map]
 by_cases h5 : (r.nd b).kind = 5
 ·simp only [if_pos h5];have h1 := (h.upd hb { r.nd b with opn := false, text := trimN (defineF (joinN (r.nd b).lines).size (joinN (r.nd b).lines) r.refs).1 }).setRefs (defineF (joinN (r.nd b).lines).size (joinN (r.nd b).lines) r.refs).2
  by_cases ht : (trimN (defineF (joinN (r.nd b).lines).size (joinN (r.nd b).lines) r.refs).1).size = 0
  ·simp only [if_pos ht]
   cases hp : (r.nd b).parent with
   | none =>
    simp only [Option.map];simp only [hp] at h1;exact h1
   | some p =>
    simp only [Option.map];simp only [hp] at h1;exact h1.drop p
  ·simp only [if_neg ht];exact h1
 ·simp only [if_neg h5]
  by_cases h7 : (r.nd b).kind = 7
  ·simp only [if_pos h7];exact h.upd hb { r.nd b with opn := false, lines := _, text := _ }
  ·simp only [if_neg h7]
   by_cases h8 : (r.nd b).kind = 8
   ·simp only [if_pos h8];exact h.upd hb { r.nd b with opn := false, text := _ }
   ·simp only [if_neg h8]
    by_cases h4 : (r.nd b).kind = 4 ∨ (r.nd b).kind = 3
    ·simp only [if_pos h4]
     cases hk : (r.nd b).kids.getLast? with
     | none =>
      simp only [Option.map];exact h.upd hb { r.nd b with opn := false, last := _ }
     | some k =>
      simp only [Option.map];rw [hl k hk];exact h.upd hb { r.nd b with opn := false, last := _ }
    ·simp only [if_neg h4]
     by_cases h2 : (r.nd b).kind = 2
     ·simp only [if_pos h2]
      cases hk : (r.nd b).kids.getLast? with
      | none =>
       simp only [Option.map];exact h.upd hb { r.nd b with opn := false, last := _ }
      | some k =>
       simp only [Option.map];rw [hl k hk];exact h.upd hb { r.nd b with opn := false, last := _ }
     ·simp only [if_neg h2];exact h.upd hb { r.nd b with opn := false }
theorem closeF {B : Nat} (hB : B ≤ 1000000) : ∀ (f : Nat) (r q : Rd) (b : Nat), Sim r q -> Ok B r -> b ≠ 0 -> b < r.nds.length -> (r.nd b).opn = true -> r.nds.length ≤ b + f -> Sim (Rd.closeF f r b) (Rd.closeF (f + 1) q (b + 1))
 | 0, _, _, _, _, _, _, hl, _, hf => absurd hf (by omega)
 | f + 1, r, q, b, h, hok, hb, hl, ho, hf => by
  have e1 : Rd.closeF (f + 1) r b = (match r.inner b with | some k => Rd.closeF f r k | none => r).shut b := rfl
  have e2 : Rd.closeF (f + 1 + 1) q (b + 1) = (match q.inner (b + 1) with | some k => Rd.closeF (f + 1) q k | none => q).shut (b + 1) := rfl
  rw [e1, e2, h.inner b]
  cases hi : r.inner b with
  | none =>
   simp only [Option.map];exact h.shut hok hb
  | some k =>
   simp only [Option.map];have hm := hok.kid b k (Rd.inner_mem hi);have hko := Rd.inner_opn hi;exact (closeF hB f r q k h hok (by omega) hm.2.1 hko (by omega)).shut (closeF_ok hB f r k hok hm.2.1 hko (by omega)).1 hb
theorem close {B : Nat} (hB : B ≤ 1000000) {r q : Rd} (h : Sim r q) (hok : Ok B r) {b : Nat} (hb : b ≠ 0) (ho : (r.nd b).opn = true) : Sim (r.close b) (q.close (b + 1)) := by
 unfold Rd.close;rw [h.len];exact h.closeF hB _ r q b hok hb (opn_lt ho) ho (by omega)
theorem settle {B : Nat} (hB : B ≤ 1000000) {r q : Rd} (h : Sim r q) (hok : Ok B r) : Sim r.settle q.settle := by
 unfold Rd.settle;rw [h.cur]
 cases r.cur with
 | none => exact h
 | some a =>
  simp only [Option.map];rw [h.inner a]
  cases hi : r.inner a with
  | none => exact h
  | some k =>
   have := (hok.kid a k (Rd.inner_mem hi)).1;exact h.close hB hok (by omega) (Rd.inner_opn hi)
theorem popF {B : Nat} (hB : B ≤ 1000000) (K : Nat) : ∀ (f : Nat) (r q : Rd) (g : Nat), Sim r q -> Ok B r -> r.cur = some g -> (r.nd g).opn = true -> g < f -> (K = 4 -> (r.nd g).kind = 3) -> Sim (Rd.popF K f r) (Rd.popF K (f + 1) q)
 | 0, _, _, _, _, _, _, _, hf, _ => absurd hf (by omega)
 | f + 1, r, q, g, h, hok, hc, ho, hf, h4 => by
  have e1 : Rd.popF K (f + 1) r = match r.cur with
   | some a => if holdsB (r.nd a).kind K = true then r else Rd.popF K f { (r.close a) with cur := (r.nd a).parent }
   | none => r := rfl
  have e2 : Rd.popF K (f + 1 + 1) q = match q.cur with
   | some a => if holdsB (q.nd a).kind K = true then q else Rd.popF K (f + 1) { (q.close a) with cur := (q.nd a).parent }
   | none => q := rfl
  rw [e1, e2, h.cur, hc];simp only [Option.map];have hh : holdsB (q.nd (g + 1)).kind K = holdsB (r.nd g).kind K := by
   by_cases hg : g = 0
   ·rw [hg, h.k2, h.k1]; rfl
   ·rw [h.kind hg]
  rw [hh]
  by_cases hK : holdsB (r.nd g).kind K = true
  ·rw [if_pos hK, if_pos hK]; exact h
  ·rw [if_neg hK, if_neg hK];have hK4 : K ≠ 4 := fun e => hK (by rw [h4 e, e]; decide);have hg0 : g ≠ 0 := fun e => hK (by rw [e, h.k1]; exact holds_doc hK4);obtain ⟨p, hp, hpo, _⟩ := hok.opn g hg0 ho;have hpg := (hok.par g p hp).1;obtain ⟨c1, _, _, _, c5⟩ := close_facts hB hok (opn_lt ho) ho;rw [h.nd g hg0, show (r.nd g).sh.parent = some (p + 1) by unfold Nd.sh; simp [hp], hp]
   exact popF hB K f { r.close g with cur := some p } { q.close (g + 1) with cur := some (p + 1) } p ((h.close hB hok hg0 ho).setCur (some p)) (c1.same rfl (Nat.le_refl _) c1.nn) rfl ((c5 p hpg).trans hpo) (by omega) (fun e => absurd e hK4)
theorem push {r q : Rd} (h : Sim r q) {b : Nat} (hb : b ≠ 0) : Sim (r.push b) (q.push (b + 1)) := by
 unfold Rd.push;rw [h.cur]
 cases hc : r.cur with
 | none => exact h
 | some a =>
  simp only [Option.map];rw [h.nd b hb, h.n];have h1 := ((h.upd hb { r.nd b with parent := some a, opn := true, first := r.n, last := r.n }).add a b).setTip (some b) false
  exact h1
theorem more {r q : Rd} (h : Sim r q) (d : Nd) (hk : d.kids = []) (hp : d.parent = none) : Sim (r.more d) (q.more d) := by
 have hds : d.sh = d := by
  cases d
  simp only at hk hp;subst hk hp;rfl
 have hl := h.len;have hps := h.pos;have e1 : (q.more d).nd 1 = q.nd 1 := more_nd_old q d (by omega);have e0 : (q.more d).nd 0 = q.nd 0 := more_nd_old q d (by omega);have e2 : (r.more d).nd 0 = r.nd 0 := more_nd_old r d hps;refine ⟨?_, ?_, fun j hj => ?_, ?_, ?_, ?_, ?_, ?_, ?_, ?_, ?_, h.rest, h.tab, h.n, h.lzy, h.cur, h.tip, h.refs⟩
 ·rw [Rd.more_len, Rd.more_len, hl]
 ·rw [Rd.more_len]; omega
 ·rw [Rd.more_nd, Rd.more_nd]
  by_cases c : j < r.nds.length
  ·rw [if_pos c, if_pos (by omega)]; exact h.nd j hj
  ·rw [if_neg c, if_neg (by omega)]
   by_cases c2 : j = r.nds.length
   ·rw [if_pos c2, if_pos (by omega), hds]
   ·rw [if_neg c2, if_neg (by omega)]; rfl
 ·rw [e1, e2]; exact h.top
 ·rw [e1]; exact h.k2
 ·rw [e2]; exact h.k1
 ·rw [e1, e2]; exact h.o1
 ·rw [e1]; exact h.p1
 ·rw [e0]; exact h.dk
 ·rw [e0]; exact h.dn
 ·rw [e0]; exact h.dop
theorem fresh {B : Nat} (hB : B ≤ 1000000) {r q : Rd} (hs : Sim r q) (h : Rdy B r) (d : Nd) (hfew : r.nds.length + 1 ≤ 100000) (hd : NdOk B d) (hk : d.kids = []) (hp : d.parent = none) (ho : d.opn = false) (h4 : d.kind = 4 -> r.curK = 3) : Sim (r.fresh d) (q.fresh d) := by
 obtain ⟨hok, _, g, hc, hg⟩ := h;have hgl := opn_lt hg;have hm := hok.more d hfew hd hk hp ho;have hsm := hs.more d hk hp;have hb := more_nd_new r d;have hb2 : (q.more d).nd q.nds.length = d := more_nd_new q d;have hmg : ((r.more d).nd g).opn = true := by rw [more_nd_old r d hgl]; exact hg
 obtain ⟨s1, _, _, s4, s5⟩ := settle_facts hB hm (show (r.more d).cur = some g from hc) hmg;unfold Rd.fresh Rd.begin;rw [hb, hb2, hsm.len, show q.nds.length = r.nds.length + 1 from hs.len];refine push (popF hB d.kind _ _ _ g (hsm.settle hB hm) s1 (s4.cur.trans hc) ((s5 g (Nat.le_refl _)).trans hmg) (by rw [Rd.more_len]; omega) (fun e => ?_)) (by have := hs.pos; omega);rw [(s4.nd g).kind, more_nd_old r d hgl];have := h4 e;unfold Rd.curK at this;rw [hc] at this;exact this
end Sim
end
section
open Go.RowKit
theorem colF_tl : ∀ (l : List UInt8) (_ : ∀ b ∈ l, b ≠ 9) (c d : Nat), colF l c + d = colF l d + c ∧ c ≤ colF l c
 | [], _, c, d => by simp only [colF]; omega
 | b :: l, h, c, d => by
  have hb := h b (List.mem_cons_self ..);simp only [colF, colS, if_neg hb]
  by_cases h32 : b = 32
  ·simp only [if_pos h32];have := colF_tl l (fun x hx => h x (List.mem_cons_of_mem _ hx)) (c + 1) (d + 1);omega
  ·simp only [if_neg h32];omega
theorem widthN_tl {l : List UInt8} (h : ∀ b ∈ l, b ≠ 9) (c d : Nat) : widthN l c = widthN l d := by
 unfold widthN;have h1 := colF_tl l h c d;have h2 := colF_tl l h d c;omega
theorem cutKF_tl : ∀ (l : List UInt8) (_ : ∀ b ∈ l, b ≠ 9) (c d e f k : Nat), e + d = f + c -> c ≤ e -> (cutKF e l c k).1 = (cutKF f l d k).1 ∧ (cutKF e l c k).2 ≤ e
 | [], _, c, d, e, f, k, _, hc => ⟨rfl, hc⟩
 | b :: l, h, c, d, e, f, k, he, hc => by
  have hb := h b (List.mem_cons_self ..);simp only [cutKF, colE, colS, if_neg hb]
  by_cases h32 : b = 32
  ·simp only [if_pos h32]
   by_cases hce : c < e
   ·simp only [if_pos hce, if_pos (show d < f by omega)];exact cutKF_tl l (fun x hx => h x (List.mem_cons_of_mem _ hx)) (c + 1) (d + 1) e f (k + 1) (by omega) (by omega)
   ·simp only [if_neg hce, if_neg (show ¬ d < f by omega)];exact ⟨trivial, hc⟩
  ·simp only [if_neg h32, ite_self];exact ⟨trivial, hc⟩
theorem cutN_tl {l : List UInt8} (h : ∀ b ∈ l, b ≠ 9) (c d n : Nat) : (cutN l c n).1 = (cutN l d n).1 ∧ ∀ b ∈ (cutN l c n).1, b ≠ 9 := by
 have h1 := cutKF_tl l h c d (c + n) (d + n) 0 (by omega) (by omega);have h2 := cutKF_tl l h d c (d + n) (c + n) 0 (by omega) (by omega);unfold cutN;rw [if_pos h1.2, if_pos h2.2];exact ⟨by rw [h1.1], fun b hb => h b (List.mem_of_mem_drop hb)⟩
theorem trimL_tl : ∀ (l : List UInt8), (∀ b ∈ l, b ≠ 9) -> ∀ b ∈ Lib.trimLeftS l [32, 9], b ≠ 9
 | [], _ => fun b hb => by simp [Lib.trimLeftS] at hb
 | x :: l, h => by
  rw [trimL_cons];split
  ·exact trimL_tl l fun b hb => h b (List.mem_cons_of_mem _ hb)
  ·exact h
def OSim : Option Rd -> Option Rd -> Prop
 | some a, some b => Sim a b
 | none, none => True
 | _, _ => False
namespace Sim
theorem bareT {r q : Rd} (h : Sim r q) : q.bareT = r.bareT := by unfold Rd.bareT; rw [h.rest]
theorem bareW {r q : Rd} (h : Sim r q) : q.bareW = r.bareW := by unfold Rd.bareW; rw [h.rest]; exact widthN_tl h.tab _ _
theorem tabT {r q : Rd} (h : Sim r q) : NoTab r.bareT := by
 unfold NoTab;rw [Rd.bareT_list];exact trimL_tl _ h.tab
theorem cut {r q : Rd} (h : Sim r q) (n : Nat) : Sim (r.cut n) (q.cut n) := by
 have h1 := cutN_tl h.tab r.col q.col n;unfold Rd.cut;rw [h.rest, <- h1.1];exact h.setRest _ (fun b hb => h1.2 b (by simpa using hb)) _ _
theorem pass {r q : Rd} (h : Sim r q) (n : Nat) : Sim (r.pass n) (q.pass n) := by
 have ht : NoTab (r.pass n).rest := fun b hb => by
  rw [Rd.pass_list] at hb;exact h.tabT b (List.mem_of_mem_drop hb)
 unfold Rd.pass at ht ⊢;rw [h.bareT];exact h.setRest _ ht _ _
theorem tipK {r q : Rd} (h : Sim r q) {K : Nat} (h1 : K ≠ 1) (h2 : K ≠ 2) : q.tipK = K ↔ r.tipK = K := by
 unfold Rd.tipK;rw [h.tip]
 cases r.tip with
 | none => exact Iff.rfl
 | some i => exact h.kindE i h1 h2
theorem curK {r q : Rd} (h : Sim r q) {K : Nat} (h1 : K ≠ 1) (h2 : K ≠ 2) : q.curK = K ↔ r.curK = K := by
 unfold Rd.curK;rw [h.cur]
 cases r.cur with
 | none => exact Iff.rfl
 | some i => exact h.kindE i h1 h2
theorem freshTurn {B : Nat} (hB : B ≤ 1000000) {r q : Rd} (h : Sim r q) (hr : Rdy B r) (k : Nat) (h1 : 1 ≤ k) (h10 : k ≤ 10) (h4 : k ≠ 4) (hfew : r.nds.length + 1 ≤ 100000) {f g : Nd -> Nd} (hf : ∀ D : Nd, g D.sh = (f D).sh) :
  Sim ((r.fresh (Nd.new k)).turn r.nds.length f) ((q.fresh (Nd.new k)).turn q.nds.length g) := by
 have hn := new_ok B k h1 h10;rw [h.len];exact (h.fresh hB hr (Nd.new k) hfew hn.ok hn.kids hn.par hn.opn (fun e => absurd e h4)).turn (by have := h.pos; omega) (hf _)
theorem goes {B : Nat} (hB : B ≤ 1000000) {r q : Rd} (h : Sim r q) (ho : Okd B r) {k : Nat} (hk0 : k ≠ 0) (hko : (r.nd k).opn = true) : Sim (r.goes k).1 (q.goes (k + 1)).1 ∧ (q.goes (k + 1)).2 = (r.goes k).2 := by
 have hk := opn_lt hko;have hln := Rd.upd_len r k { r.nd k with last := r.n };have hl := last_ok ho hk;have hnil := h.setRest ⟨#[]⟩ (fun b (hb : b ∈ ([] : List UInt8)) => absurd hb (by simp)) r.col q.col;rw [h.n] at hnil;have hko2 : ((r.upd k { r.nd k with last := r.n }).nd k).opn = true := by rw [Rd.upd_nd, if_pos ⟨rfl, hk⟩]; exact hko
 unfold Rd.goes;rw [h.nd k hk0, h.bareT, h.bareW, h.n];simp only [List.isEmpty_map]
 by_cases h2 : (r.nd k).kind = 2
 ·simp only [if_pos h2]
  by_cases c : 4 ≤ r.bareW ∨ r.bareT.data.toList.head? ≠ some 62
  ·simp only [if_pos c]; exact ⟨h, trivial⟩
  ·simp only [if_neg c]; exact ⟨((h.pass 1).cut 1).turn hk0 rfl, trivial⟩
 ·simp only [if_neg h2]
  by_cases h4 : (r.nd k).kind = 4
  ·simp only [if_pos h4]
   by_cases c : r.bareT.size = 0
   ·simp only [if_pos c]; exact ⟨h, trivial⟩
   ·simp only [if_neg c]
    by_cases c2 : (r.bareW : Int) < (r.nd k).indent
    ·simp only [if_pos c2]; exact ⟨h, trivial⟩
    ·simp only [if_neg c2]; exact ⟨h.cut _, trivial⟩
  ·simp only [if_neg h4]
   by_cases h5 : (r.nd k).kind = 5 ∨ (r.nd k).kind = 10
   ·simp only [if_pos h5]; exact ⟨h, trivial⟩
   ·simp only [if_neg h5]
    by_cases h8 : (r.nd k).kind = 8
    ·simp only [if_pos h8]; exact ⟨h, trivial⟩
    ·simp only [if_neg h8]
     by_cases h7 : (r.nd k).kind = 7
     ·simp only [if_pos h7]
      by_cases c : 0 < (r.nd k).fm
      ·simp only [if_pos c]
       by_cases c2 : r.bareW < 4 ∧ shutB r.bareT.data.toList (r.nd k).fc (r.nd k).fm = true
       ·simp only [if_pos c2];exact ⟨(h.turn hk0 (f := fun x => { x with last := r.n }) rfl).close hB hl.ok hk0 hko2, trivial⟩
       ·simp only [if_neg c2]; exact ⟨h.cut _, trivial⟩
      ·simp only [if_neg c]
       by_cases c2 : 4 ≤ r.bareW
       ·simp only [if_pos c2]; exact ⟨h.cut _, trivial⟩
       ·simp only [if_neg c2]
        by_cases c3 : r.bareT.size = 0
        ·simp only [if_pos c3]; exact ⟨hnil, trivial⟩
        ·simp only [if_neg c3]; exact ⟨h, trivial⟩
     ·simp only [if_neg h7]; exact ⟨h, trivial⟩
theorem code {B : Nat} (hB : B ≤ 1000000) {r q : Rd} (h : Sim r q) (hr : Rdy B r) (hfew : r.nds.length + 1 ≤ 100000) (t : ByteArray) : Sim (r.code t).1 (q.code t).1 ∧ (q.code t).2 = (r.code t).2 := by
 unfold Rd.code
 by_cases c : t.size = 0 ∨ r.tipK = 5
 ·rw [if_pos c, if_pos (c.imp_right (h.tipK (by decide) (by decide)).2)]; exact ⟨h, rfl⟩
 ·rw [if_neg c, if_neg fun e => c (e.imp_right (h.tipK (by decide) (by decide)).1)];simp only;refine ⟨?_, trivial⟩;have hn := new_ok B 7 (by decide) (by decide);have hs := (h.cut 4).fresh hB (hr.cut 4) (Nd.new 7) hfew hn.ok hn.kids hn.par hn.opn (fun e => by cases e);rw [hs.rest, (h.cut 4).len];exact hs.turn (by have := h.pos; show r.nds.length ≠ 0; omega) rfl
theorem quote {B : Nat} (hB : B ≤ 1000000) {r q : Rd} (h : Sim r q) (hr : Rdy B r) (hfew : r.nds.length + 1 ≤ 100000) : Sim r.quote.1 q.quote.1 := by
 have hn := new_ok B 2 (by decide) (by decide);have h1 := (h.pass 1).cut 1;have hs := h1.fresh hB ((hr.pass 1).cut 1) (Nd.new 2) hfew hn.ok hn.kids hn.par hn.opn (fun e => by cases e);unfold Rd.quote;simp only;rw [h1.len];exact hs.setCur (some _)
theorem head {B : Nat} (hB : B ≤ 1000000) {r q : Rd} (h : Sim r q) (hr : Rdy B r) (hfew : r.nds.length + 1 ≤ 100000) (t : ByteArray) : OSim (r.head t) (q.head t) := by
 unfold Rd.head
 by_cases c : headLev t.data.toList = 0
 ·rw [if_pos c, if_pos c]; trivial
 ·rw [if_neg c, if_neg c];exact h.freshTurn hB hr 6 (by decide) (by decide) (by decide) hfew fun _ => rfl
theorem fenced {B : Nat} (hB : B ≤ 1000000) {r q : Rd} (h : Sim r q) (hr : Rdy B r) (hfew : r.nds.length + 1 ≤ 100000) (t : ByteArray) (w : Nat) : OSim (r.fenced t w) (q.fenced t w) := by
 unfold Rd.fenced
 cases openV t.data.toList with
 | none => trivial
 | some x => exact h.freshTurn hB hr 7 (by decide) (by decide) (by decide) hfew fun _ => rfl
theorem rule {B : Nat} (hB : B ≤ 1000000) {r q : Rd} (h : Sim r q) (hr : Rdy B r) (hfew : r.nds.length + 1 ≤ 100000) (t : ByteArray) : OSim (r.rule t) (q.rule t) := by
 unfold Rd.rule
 by_cases c : ruleB t.data.toList = true
 ·rw [if_pos c, if_pos c];exact h.freshTurn hB hr 9 (by decide) (by decide) (by decide) hfew fun _ => rfl
 ·rw [if_neg c, if_neg c]; trivial
theorem table {r q : Rd} (h : Sim r q) (t : ByteArray) : OSim (r.table t) (q.table t) := by
 unfold Rd.table;rw [h.cur]
 cases r.cur with
 | none => trivial
 | some b =>
  simp only [Option.map]
  by_cases c : (r.nd b).kind = 5
  ·have hb : b ≠ 0 := fun e => by rw [e, h.k1] at c; cases c
   rw [if_neg (show ¬ (r.nd b).kind ≠ 5 from fun e => e c), if_neg (show ¬ (q.nd (b + 1)).kind ≠ 5 from fun e => e ((h.kindE b (by decide) (by decide)).2 c)), h.nd b hb, h.n];simp only;split
   ·cases alignsL t with
    | none => trivial
    | some a =>
     simp only;split
     ·trivial
     ·exact h.turn hb rfl
   ·trivial
  ·rw [if_pos c, if_pos fun e => c ((h.kindE b (by decide) (by decide)).1 e)]; trivial
theorem under {r q : Rd} (h : Sim r q) (t : ByteArray) : Sim (r.under t).1 (q.under t).1 ∧ (q.under t).2 = (r.under t).2 := by
 unfold Rd.under;rw [h.cur]
 cases r.cur with
 | none => exact ⟨h, rfl⟩
 | some b =>
  simp only [Option.map]
  by_cases c : (r.nd b).kind ≠ 5 ∨ underN t.data.toList = 0
  ·rw [if_pos c, if_pos (c.imp_left fun e => fun e2 => e ((h.kindE b (by decide) (by decide)).1 e2))]; exact ⟨h, rfl⟩
  ·have h5 : (r.nd b).kind = 5 := Decidable.byContradiction fun e => c (.inl e);have hb : b ≠ 0 := fun e => by rw [e, h.k1] at h5; cases h5
   rw [if_neg c, if_neg (show ¬ ((q.nd (b + 1)).kind ≠ 5 ∨ underN t.data.toList = 0) from fun e => c (e.imp_left fun e1 e2 => e1 ((h.kindE b (by decide) (by decide)).2 e2))), h.nd b hb, h.refs, h.n];simp only;obtain ⟨X, hX⟩ : ∃ X, defineF (joinN (r.nd b).lines).size (joinN (r.nd b).lines) r.refs = X := ⟨_, rfl⟩;rw [hX];have h1 := (h.turn hb (f := fun d => { d with lines := [] }) (g := fun d => { d with lines := [] }) rfl).setRefs X.2
   by_cases ht : (trimN X.1).size = 0
   ·simp only [if_pos ht]; exact ⟨h1, trivial⟩
   ·simp only [if_neg ht]; exact ⟨h1.turn hb rfl, trivial⟩
end Sim
end
end Go.Proofs.YtebfjlfkofibpaaGreatDoor
