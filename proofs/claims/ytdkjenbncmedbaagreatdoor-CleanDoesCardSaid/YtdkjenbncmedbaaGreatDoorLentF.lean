/- SpoilNodes: it returns, and writes into the nodes' own memory alone. Own copies of nodes lie in blocks none of which is frozen. -/
import Derived.Test.YtdkjenbncmedbaaGreatDoorNodLent
namespace Go.Proofs.YtdkjenbncmedbaaGreatDoor
open Go.RowKit

/-- What a cell may become. -/
def Kin (u v : Value) : Prop := (∃ x y, u = .int .u8 x ∧ v = .int .u8 y) ∨ (∃ s t, u = .string s ∧ v = .string t) ∨ (∃ A m c, u = .slice A m c ∧ v = .slice none 0 0)
theorem Kin.int (x y : Int) : Kin (.int .u8 x) (.int .u8 y) := .inl ⟨x, y, rfl, rfl⟩
theorem Kin.str (s t : ByteArray) : Kin (.string s) (.string t) := .inr (.inl ⟨s, t, rfl, rfl⟩)
theorem Kin.sl (A : Option Addr) (m c : Nat) : Kin (.slice A m c) (.slice none 0 0) := .inr (.inr ⟨A, m, c, rfl, rfl⟩)
theorem Kin.ofInt {x : Int} {v : Value} (h : Kin (.int .u8 x) v) : ∃ y, v = .int .u8 y := by
  rcases h with ⟨_, y, _, e⟩ | ⟨_, _, e, _⟩ | ⟨_, _, _, e, _⟩
  · exact ⟨y, e⟩
  · cases e
  · cases e
theorem Kin.ofStr {x : ByteArray} {v : Value} (h : Kin (.string x) v) : ∃ y, v = .string y := by
  rcases h with ⟨_, _, e, _⟩ | ⟨_, t, _, e⟩ | ⟨_, _, _, e, _⟩
  · cases e
  · exact ⟨t, e⟩
  · cases e
theorem Kin.ofSl {A : Option Addr} {m c : Nat} {v : Value} (h : Kin (.slice A m c) v) : v = .slice none 0 0 := by
  rcases h with ⟨_, _, e, _⟩ | ⟨_, _, e, _⟩ | ⟨_, _, _, _, e⟩
  · cases e
  · cases e
  · exact e
/-- Cells of blocks of S alone have turned, each into one of its kind. -/
structure Tame (S : Nat → Prop) (w w' : World) : Prop where
  os : w'.os = w.os
  tape : w'.tape = w.tape
  output : w'.output = w.output
  size : w'.heap.size = w.heap.size
  block : ∀ b, ¬ S b → w'.heap[b]? = w.heap[b]?
  frozen : ∀ a, w'.frozen? a = w.frozen? a
  kin : ∀ a u, w.cell? a = some u → w'.cell? a = some u ∨ ∃ u', w'.cell? a = some u' ∧ Kin u u'
theorem Tame.refl (S : Nat → Prop) (w : World) : Tame S w w := ⟨rfl, rfl, rfl, rfl, fun _ _ => rfl, fun _ => rfl, fun _ _ h => .inl h⟩
theorem Kin.trans {u v x : Value} (h : Kin u v) (k : Kin v x) : Kin u x := by
  rcases h with ⟨a, b, rfl, rfl⟩ | ⟨a, b, rfl, rfl⟩ | ⟨A, m, c, rfl, rfl⟩
  · obtain ⟨y, rfl⟩ := k.ofInt; exact .int _ _
  · obtain ⟨y, rfl⟩ := k.ofStr; exact .str _ _
  · rw [k.ofSl]; exact .sl _ _ _
theorem Tame.trans {S : Nat → Prop} {w w1 w2 : World} (h : Tame S w w1) (k : Tame S w1 w2) : Tame S w w2 :=
  ⟨k.os.trans h.os, k.tape.trans h.tape, k.output.trans h.output, k.size.trans h.size, fun b hb => (k.block b hb).trans (h.block b hb), fun a => (k.frozen a).trans (h.frozen a), fun a u hu => by
    rcases h.kin a u hu with e | ⟨u', e, q⟩
    · exact k.kin a u e
    · rcases k.kin a u' e with e2 | ⟨u2, e2, q2⟩
      · exact .inr ⟨u', e2, q⟩
      · exact .inr ⟨u2, e2, q.trans q2⟩⟩
theorem frozen_setCell (w : World) (a : Addr) (v : Value) (b : Addr) : (w.setCell a v).frozen? b = w.frozen? b := by
  simp only [World.setCell, World.frozen?, Array.getElem?_modify]
  by_cases hb : a.block = b.block
  · simp only [hb, if_true]
    cases hh : w.heap[b.block]? with
    | none => rfl
    | some o => cases o <;> rfl
  · simp only [hb, if_false]
theorem Tame.put {S : Nat → Prop} {w : World} {a : Addr} {u v : Value} (ha : S a.block) (hu : w.cell? a = some u) (hk : Kin u v) : Tame S w (w.setCell a v) :=
  ⟨rfl, rfl, rfl, size_setCell _ _ _, fun b hb => Below.heap_setCell _ _ _ _ (fun e => hb (by rw [e]; exact ha)), frozen_setCell w a v, fun b x hx => by
    by_cases e : a = b
    · subst e
      rw [hu] at hx
      cases hx
      exact .inr ⟨v, World.cell?_setCell_same _ _ _ hu, hk⟩
    · exact .inl ((World.cell?_setCell_other w a b v e).trans hx)⟩
theorem Tame.int {S : Nat → Prop} {w w' : World} (h : Tame S w w') {a : Addr} {x : Int} (hx : w.cell? a = some (.int .u8 x)) : ∃ y, w'.cell? a = some (.int .u8 y) := by
  rcases h.kin a _ hx with e | ⟨u', e, q⟩
  · exact ⟨x, e⟩
  · obtain ⟨y, rfl⟩ := q.ofInt; exact ⟨y, e⟩
theorem Tame.str {S : Nat → Prop} {w w' : World} (h : Tame S w w') {a : Addr} {x : ByteArray} (hx : w.cell? a = some (.string x)) : ∃ y, w'.cell? a = some (.string y) := by
  rcases h.kin a _ hx with e | ⟨u', e, q⟩
  · exact ⟨x, e⟩
  · obtain ⟨y, rfl⟩ := q.ofStr; exact ⟨y, e⟩
theorem Tame.sl {S : Nat → Prop} {w w' : World} (h : Tame S w w') {a : Addr} {A : Option Addr} {m c : Nat} (hx : w.cell? a = some (.slice A m c)) : w'.cell? a = some (.slice A m c) ∨ w'.cell? a = some (.slice none 0 0) := by
  rcases h.kin a _ hx with e | ⟨u', e, q⟩
  · exact .inl e
  · rw [q.ofSl] at e; exact .inr e

/-! ### the shape of nodes -/
def AttrSh (w : World) (S : Nat → Prop) (v : Value) : Prop := ∃ A m c, v = .slice A m c ∧ m ≤ 9223372036854775807 ∧ ∀ k, k < m → ∃ ad s t, A = some ad ∧ S ad.block ∧ w.cell? (ad.add (k * 2)) = some (.string s) ∧ w.cell? ⟨(ad.add (k * 2)).block, (ad.add (k * 2)).off + 1, none⟩ = some (.string t)
def NodeCs (w : World) (p : Addr) (va vk : Value) : Prop := ∃ (x y : Int) (s t : ByteArray), w.cell? p = some (.int .u8 x) ∧ w.cell? ⟨p.block, p.off + 1, none⟩ = some (.int .u8 y) ∧ w.cell? ⟨p.block, p.off + 2, none⟩ = some (.string s) ∧ w.cell? ⟨p.block, p.off + 3, none⟩ = some va ∧ w.cell? ⟨p.block, p.off + 4, none⟩ = some (.string t) ∧ w.cell? ⟨p.block, p.off + 5, none⟩ = some vk
def NodeSh : Nat → World → (Nat → Prop) → Value → Prop
  | 0, _, _, v => ∃ A c, v = .slice A 0 c
  | n + 1, w, S, v => ∃ A m c, v = .slice A m c ∧ m ≤ 9223372036854775807 ∧ ∀ k, k < m → ∃ ad va vk, A = some ad ∧ S ad.block ∧ NodeCs w (ad.add (k * 6)) va vk ∧ AttrSh w S va ∧ NodeSh n w S vk
theorem AttrSh.nil (w : World) (S : Nat → Prop) : AttrSh w S (.slice none 0 0) := ⟨none, 0, 0, rfl, by omega, fun k h => by omega⟩
theorem NodeSh.nil : ∀ (n : Nat) (w : World) (S : Nat → Prop), NodeSh n w S (.slice none 0 0)
  | 0, _, _ => ⟨none, 0, rfl⟩
  | _ + 1, _, _ => ⟨none, 0, 0, rfl, by omega, fun k h => by omega⟩
theorem NodeSh.form : ∀ {n : Nat} {w : World} {S : Nat → Prop} {v : Value}, NodeSh n w S v → ∃ A m c, v = .slice A m c
  | 0, _, _, _, ⟨A, c, h⟩ => ⟨A, 0, c, h⟩
  | _ + 1, _, _, _, ⟨A, m, c, h, _⟩ => ⟨A, m, c, h⟩
theorem AttrSh.tame {S : Nat → Prop} {w w' : World} (h : Tame S w w') {v : Value} (a : AttrSh w S v) : AttrSh w' S v := by
  obtain ⟨A, m, c, e, hm, hk⟩ := a
  refine ⟨A, m, c, e, hm, fun k hlt => ?_⟩
  obtain ⟨ad, s, t, hA, hS, c0, c1⟩ := hk k hlt
  obtain ⟨s', e0⟩ := h.str c0
  obtain ⟨t', e1⟩ := h.str c1
  exact ⟨ad, s', t', hA, hS, e0, e1⟩
theorem NodeSh.tame {S : Nat → Prop} {w w' : World} (h : Tame S w w') : ∀ {n : Nat} {v : Value}, NodeSh n w S v → NodeSh n w' S v
  | 0, _, hn => hn
  | n + 1, _, ⟨A, m, c, e, hm, hk⟩ => ⟨A, m, c, e, hm, fun k hlt => by
    obtain ⟨ad, va, vk, hA, hS, ⟨x, y, s, t, c0, c1, c2, c3, c4, c5⟩, ha, hkk⟩ := hk k hlt
    obtain ⟨x', e0⟩ := h.int c0
    obtain ⟨y', e1⟩ := h.int c1
    obtain ⟨s', e2⟩ := h.str c2
    obtain ⟨t', e4⟩ := h.str c4
    obtain ⟨Aa, ma, ca, ea, _⟩ := id ha
    obtain ⟨Ak, mk, ck, ek⟩ := hkk.form
    rw [ea] at c3
    rw [ek] at c5
    have a' : ∃ va', w'.cell? ⟨(ad.add (k * 6)).block, (ad.add (k * 6)).off + 3, none⟩ = some va' ∧ AttrSh w' S va' := by
      rcases h.sl c3 with e3 | e3
      · exact ⟨_, e3, by rw [← ea]; exact ha.tame h⟩
      · exact ⟨_, e3, AttrSh.nil _ _⟩
    have k' : ∃ vk', w'.cell? ⟨(ad.add (k * 6)).block, (ad.add (k * 6)).off + 5, none⟩ = some vk' ∧ NodeSh n w' S vk' := by
      rcases h.sl c5 with e5 | e5
      · exact ⟨_, e5, by rw [← ek]; exact NodeSh.tame h hkk⟩
      · exact ⟨_, e5, NodeSh.nil _ _ _⟩
    obtain ⟨va', e3, ha'⟩ := a'
    obtain ⟨vk', e5, hk'⟩ := k'
    exact ⟨ad, va', vk', hA, hS, ⟨x', y', s', t', e0, e1, e2, e3, e4, e5⟩, ha', hk'⟩⟩
theorem AttrsAt.sh {w : World} {S : Nat → Prop} {v : Value} {l : List AttrD} (h : AttrsAt w S v l) : AttrSh w S v := by
  obtain ⟨A, c, e, hm, hk⟩ := h.get
  refine ⟨A, _, c, e, hm, fun k hlt => ?_⟩
  obtain ⟨ad, hA, _, _, hS, c0, c1⟩ := hk k hlt
  exact ⟨ad, _, _, hA, hS, c0, c1⟩
theorem NodesAt.sh {w : World} {S : Nat → Prop} : ∀ {n : Nat} {v : Value} {l : List (NT n)}, NodesAt n w S v l → NodeSh n w S v
  | 0, _, _, h => h.none_
  | n + 1, _, _, h => by
    obtain ⟨A, c, e, hm, hk⟩ := h.get
    refine ⟨A, _, c, e, hm, fun k hlt => ?_⟩
    obtain ⟨ad, va, vk, hA, ha, hkk, _, _, _, _, hS, c0, c1, c2, c3, c4, c5⟩ := hk k hlt
    exact ⟨ad, va, vk, hA, hS, ⟨_, _, _, _, c0, c1, c2, c3, c4, c5⟩, ha.sh, NodesAt.sh hkk⟩
/-- Two strings are written. -/
theorem Tame.two {S : Nat → Prop} {w : World} {p q : Addr} {s t : ByteArray} (hp : S p.block) (hq : S q.block) (c0 : w.cell? p = some (.string s)) (c1 : w.cell? q = some (.string t)) (s' t' : ByteArray) : Tame S w ((w.setCell p (.string s')).setCell q (.string t')) := by
  have h1 : Tame S w (w.setCell p (.string s')) := Tame.put hp c0 (.str _ _)
  obtain ⟨t1, e1⟩ := h1.str c1
  exact h1.trans (Tame.put hq e1 (.str _ _))
/-- A node is written. -/
theorem Tame.six {S : Nat → Prop} {w : World} {p : Addr} {va vk : Value} (hp : S p.block) (h : NodeCs w p va vk) (ha : ∃ A m c, va = .slice A m c) (hk : ∃ A m c, vk = .slice A m c) (x y : Int) (s t : ByteArray) :
    Tame S w ((((((w.setCell p (.int .u8 x)).setCell ⟨p.block, p.off + 1, none⟩ (.int .u8 y)).setCell ⟨p.block, p.off + 2, none⟩ (.string s)).setCell ⟨p.block, p.off + 3, none⟩ (.slice none 0 0)).setCell ⟨p.block, p.off + 4, none⟩ (.string t)).setCell ⟨p.block, p.off + 5, none⟩ (.slice none 0 0)) := by
  obtain ⟨x0, y0, s0, t0, c0, c1, c2, c3, c4, c5⟩ := h
  obtain ⟨Aa, ma, ca, rfl⟩ := ha
  obtain ⟨Ak, mk, ck, rfl⟩ := hk
  have h0 : Tame S w (w.setCell p (.int .u8 x)) := Tame.put hp c0 (.int _ _)
  obtain ⟨_, e1⟩ := h0.int c1
  have h1 := h0.trans (Tame.put (S := S) (a := ⟨p.block, p.off + 1, none⟩) (v := .int .u8 y) hp e1 (.int _ _))
  obtain ⟨_, e2⟩ := h1.str c2
  have h2 := h1.trans (Tame.put (S := S) (a := ⟨p.block, p.off + 2, none⟩) (v := .string s) hp e2 (.str _ _))
  have e3 := h2.sl c3
  have h3 : Tame S w (((w.setCell p (.int .u8 x)).setCell ⟨p.block, p.off + 1, none⟩ (.int .u8 y)).setCell ⟨p.block, p.off + 2, none⟩ (.string s) |>.setCell ⟨p.block, p.off + 3, none⟩ (.slice none 0 0)) := by
    rcases e3 with e | e
    · exact h2.trans (Tame.put (S := S) (a := ⟨p.block, p.off + 3, none⟩) hp e (.sl _ _ _))
    · exact h2.trans (Tame.put (S := S) (a := ⟨p.block, p.off + 3, none⟩) hp e (.sl _ _ _))
  obtain ⟨_, e4⟩ := h3.str c4
  have h4 := h3.trans (Tame.put (S := S) (a := ⟨p.block, p.off + 4, none⟩) (v := .string t) hp e4 (.str _ _))
  rcases h4.sl c5 with e | e
  · exact h4.trans (Tame.put (S := S) (a := ⟨p.block, p.off + 5, none⟩) hp e (.sl _ _ _))
  · exact h4.trans (Tame.put (S := S) (a := ⟨p.block, p.off + 5, none⟩) hp e (.sl _ _ _))
theorem cell_far {w : World} {a b : Addr} {s : ByteArray} {A : Option Addr} {m c : Nat} (h1 : w.cell? a = some (.string s)) (h2 : w.cell? b = some (.slice A m c)) (u : Value) : (w.setCell a u).cell? b = some (.slice A m c) := by
  refine (World.cell?_setCell_other w a b u fun e => ?_).trans h2
  rw [e, h2] at h1
  cases h1
theorem str_next {w : World} {p : Addr} {t : ByteArray} (h : w.cell? ⟨p.block, p.off + 1, none⟩ = some (.string t)) (u : Value) : (w.setCell p u).cell? ⟨p.block, p.off + 1, none⟩ = some (.string t) :=
  (World.cell?_setCell_other w p _ u fun e => by have : p.off = p.off + 1 := congrArg Addr.off e; omega).trans h
theorem cell_more {w : World} {p : Addr} {j : Nat} (h : 0 < j) {u : Value} (hu : w.cell? ⟨p.block, p.off + j, none⟩ = some u) (v : Value) : (w.setCell p v).cell? ⟨p.block, p.off + j, none⟩ = some u :=
  (World.cell?_setCell_other w p _ v fun e => by have : p.off = p.off + j := congrArg Addr.off e; omega).trans hu
def SpoilR (S : Nat → Prop) (w : World) (e : Ending) (w' : World) : Prop := e = .returned (.tuple #[]) ∧ Tame S w w'
def FreeS (S : Nat → Prop) (w : World) : Prop := ∀ a : Addr, S a.block → w.frozen? a = false
theorem FreeS.tame {S : Nat → Prop} {w w' : World} (h : FreeS S w) (t : Tame S w w') : FreeS S w' := fun a ha => (t.frozen a).trans (h a ha)
def SpoilW (S : Nat → Prop) (m : Nat) (w : World) (i : Value) (wr : World) : Prop := ∃ k : Nat, i = .int .i64 k ∧ k ≤ m ∧ Tame S w wr
def SpoilA (S : Nat → Prop) (m : Nat) (w : World) (p : Addr) (v : Value) (i : Value) (wr : World) : Prop := ∃ k : Nat, i = .int .i64 k ∧ k ≤ m ∧ Tame S w wr ∧ wr.cell? p = some v
set_option maxHeartbeats 4000000 in
set_option maxRecDepth 100000 in
theorem spoil_any (S : Nat → Prop) : ∀ (n : Nat) (v : Value) (w : World), NodeSh n w S v → FreeS S w → Calls Tryz.prog 17 #[v] w (SpoilR S w) := by
  intro n
  induction n with
  | zero =>
    intro v w h _
    obtain ⟨A, c, rfl⟩ := h
    go_enter Tryz.func17, Tryz.ntmps17
    go_wp2
    refine wp_loop_rounds 1 ?_
    rw [rounds_succ]
    go_wp2
    go_end0
    exact ⟨rfl, Tame.refl _ _⟩
  | succ n ih =>
    intro v w h hf
    have HN := Lib.hid h; have HF := Lib.hid hf; have IH := Lib.hid ih
    obtain ⟨A, m, c, rfl, hm, _⟩ := h
    clear hf ih
    go_enter Tryz.func17, Tryz.ntmps17
    go_wp2
    go_loopw [2] (fun vi wr => SpoilW S m w vi wr) (fun vi _ => m - (intOf vi).toNat)
    case atStart => exact ⟨0, rfl, Nat.zero_le _, Tame.refl _ _⟩
    case round =>
      obtain ⟨k, rfl, hk, ht⟩ := hrel
      have HT := Lib.hid ht
      by_cases hlt : k < m
      · have hki : (k : Int) < (m : Int) := by omega
        obtain ⟨A', m', c', e', _, hget⟩ := NodeSh.tame ht HN.out
        cases e'
        obtain ⟨ad, va, vk, hA, hSb, hcs, ha, hkk⟩ := hget k hlt
        subst hA
        obtain ⟨x, y, s, t, c0, c1, c2, c3, c4, c5⟩ := id hcs
        obtain ⟨Ak, mk, ck, ek⟩ := hkk.form
        subst ek
        have hcall := IH.out _ wr hkk (HF.out.tame ht)
        have HC := Lib.hid hcall
        have HCs := Lib.hid hcs
        clear hcall hget ht hcs ha hkk c0 c1 c2 c3 c4
        go_wp2_with fail
        refine Calls.mono HC.out ?_
        rintro e w1 ⟨rfl, t1⟩
        have ht1 := HT.out.trans t1
        obtain ⟨A', m', c', e', _, hget⟩ := NodeSh.tame ht1 HN.out
        cases e'
        obtain ⟨ad', va1, vk1, hA, _, hcs1, ha1, hkk1⟩ := hget k hlt
        cases hA
        obtain ⟨A2, m2, c2, e2, hm2, _⟩ := id ha1
        subst e2
        obtain ⟨x1, y1, s1, t1', d0, d1, d2, d3, d4, d5⟩ := id hcs1
        have HT1 := Lib.hid ht1; have HA1 := Lib.hid ha1
        clear ht1 t1 hget hcs1 ha1 hkk1 d0 d1 d2 d4 d5 c5
        go_wp2
        go_loopw [3] (fun vi wr => SpoilA S m2 w1 ⟨(ad.add (k * 6)).block, (ad.add (k * 6)).off + 3, none⟩ (.slice A2 m2 c2) vi wr) (fun vi _ => m2 - (intOf vi).toNat)
        case atStart => exact ⟨0, rfl, Nat.zero_le _, Tame.refl _ _, d3⟩
        case round =>
          obtain ⟨j, rfl, hj, ht2, e3⟩ := hrel
          by_cases hjl : j < m2
          · have hji : (j : Int) < (m2 : Int) := by omega
            obtain ⟨A', m', c', e', _, hget⟩ := AttrSh.tame ht2 HA1.out
            cases e'
            obtain ⟨ad2, s2, u2, hA2, hS2, g0, g1⟩ := hget j hjl
            subst hA2
            have hS2' : S (ad2.add (j * 2)).block := by rw [block_of_add]; exact hS2
            have hfr := HF.out.tame (HT1.out.trans ht2)
            have f0 := hfr (ad2.add (j * 2)) hS2'
            have f1 : ∀ i, wr.frozen? ⟨(ad2.add (j * 2)).block, i, none⟩ = false := fun i => hfr _ hS2'
            have r1 := cell_more (by decide) g1
            have HT2 := Lib.hid ht2
            have HW2 := Lib.hid (fun s' t' => Tame.two (S := S) (q := ⟨(ad2.add (j * 2)).block, (ad2.add (j * 2)).off + 1, none⟩) hS2' hS2' g0 g1 s' t')
            have HK2 := Lib.hid (fun s' t' => cell_far (str_next g1 (.string s')) (cell_far g0 e3 (.string s')) (.string t'))
            clear hget ht2 hfr
            go_wp2
            go_roundw
            case rel => exact ⟨j + 1, by go_num, hjl, HT2.out.trans (HW2.out _ _), HK2.out _ _⟩
            case measure => simp [intOf]; omega
          · have ht3 := HT1.out.trans ht2
            obtain ⟨A', m', c', e', _, hget⟩ := NodeSh.tame ht3 HN.out
            cases e'
            obtain ⟨ad', va1, vk1, hA, hSb', hcs1, ha1, hkk1⟩ := hget k hlt
            cases hA
            have hSp : S (ad.add (k * 6)).block := by rw [block_of_add]; exact hSb'
            obtain ⟨x1, y1, s1, t1', q0, q1, q2, q3, q4, q5⟩ := id hcs1
            have hfr := HF.out.tame ht3
            have f0 := hfr (ad.add (k * 6)) hSp
            have f1 : ∀ i, wr.frozen? ⟨(ad.add (k * 6)).block, i, none⟩ = false := fun i => hfr _ hSp
            have r1 := cell_more (by decide) q1
            have r2 := cell_more (by decide) q2
            have r3 := cell_more (by decide) q3
            have r4 := cell_more (by decide) q4
            have r5 := cell_more (by decide) q5
            have HT3 := Lib.hid ht3
            have HW3 := Lib.hid (fun x y s t => Tame.six (S := S) hSp hcs1 (by obtain ⟨A, m, c, e, _⟩ := ha1; exact ⟨A, m, c, e⟩) hkk1.form x y s t)
            clear hget ht3 hfr hcs1 ha1 hkk1 ht2
            go_wp2
            go_roundw
            case rel => exact ⟨k + 1, by go_num, hlt, HT3.out.trans (HW3.out _ _ _ _)⟩
            case measure => simp [intOf]; omega
      · go_wp2
        go_end0
        exact ⟨rfl, HT.out⟩

def FreeB (w : World) (k : Nat) : Prop := ∀ i, w.frozen? ⟨k, i, none⟩ = false
theorem FreeB.same {w w' : World} {k : Nat} (h : FreeB w k) (e : w'.heap[k]? = w.heap[k]?) : FreeB w' k := fun i => by
  have := h i
  unfold World.frozen? at this ⊢
  simp only at this ⊢
  rw [e]
  exact this
theorem free_own {base : Nat} {e : TypeId} {size n g : Nat} {w : World} {v : Value} {xs : List Value} (h : w.ownsRow base e size v n xs) (hg : v.ownBlock = some g) : FreeB w g := fun i => by
  rcases h.2 with ⟨hv, _⟩ | ⟨g', cap, cur, hv, _, hh, _⟩
  · rw [hv] at hg; cases hg
  · rw [hv] at hg
    cases hg
    exact Lib.frozen_of_heap hh i
def NewF (w w' : World) (k : Nat) : Prop := New w w' k ∧ FreeB w' k
def OwnF (w : World) (v : Value) (wr : World) (k : Nat) : Prop := Own w v wr k ∧ FreeB wr k
def LentAF (w : World) (l : List AttrD) (e : Ending) (w' : World) : Prop := ∃ v', e = .returned v' ∧ Below w.heap.size w w' ∧ AttrsAt w' (NewF w w') v' l
def LentNF (w : World) (n : Nat) (l : List (NT n)) (e : Ending) (w' : World) : Prop := ∃ v', e = .returned v' ∧ Below w.heap.size w w' ∧ NodesAt n w' (NewF w w') v' l
set_option maxHeartbeats 1000000 in
theorem lentf_attrs (v : Value) (l : List AttrD) (S : Nat → Prop) (w : World) (h : AttrsAt w S v l) (hl : l.length ≤ 1000000) : Calls Tryz.prog 40 #[v] w (LentAF w l) := by
  obtain ⟨i0, hi, hz0, hz1, hz2⟩ := info_parts info37
  obtain ⟨A, c, rfl, _, hget⟩ := h.get
  cases A with
  | none =>
    have hl0 : l = [] := by
      rcases Nat.eq_zero_or_pos l.length with h0 | h0
      · exact List.length_eq_zero_iff.1 h0
      · obtain ⟨ad, hA, _⟩ := hget 0 h0; cases hA
    subst hl0
    clear hget h hz0 hz1 hz2
    simp only [List.length_nil]
    go_enter Tryz.func40, Tryz.ntmps40
    go_wp2
    go_ret
    exact ⟨_, rfl, Below.refl _ _, none, 0, rfl, by simp, by simp, by simp⟩
  | some ad =>
    have hcs := h.cells
    have HC := Lib.hid hcs
    have HG := Lib.hid hget
    clear hcs hget h
    go_enter Tryz.func40, Tryz.ntmps40
    go_wp2_with (at_builtin; refine wpList_append_own_at _ rfl _ _ 46 rfl w.heap.size 27 i0 _ 2 32 Tryz.underlying46 hi hz0 hz1 hz2 rfl (by decide) (.slice none 0 0) 0 [] rfl (World.ownsRow_nil w _ _ _) ad l.length c (l.map attrCells).flatten rfl (attr_len l) HC.out (attr_one l) (by unfold maxLen; omega) (by omega) (Nat.le_refl _) ?_)
    intro v' w' hown hg _ hob
    go_wp2
    go_ret
    refine ⟨v', rfl, ?_, ?_⟩
    · exact (Below.refl _ w).grown hg (Nat.le_refl _) (by intro k hk; simp [Value.ownBlock] at hk)
    · refine Row.of_own (l.map attrCells) hown (fun k hk => ⟨⟨(hown.lt k hk).1, (hown.lt k hk).2⟩, free_own hown hk⟩) (by omega) (attr_two l) (by simp) ?_
      intro i cs x hc hx
      have hi' := (List.getElem?_eq_some_iff.1 hx).1
      simp [hx] at hc
      obtain ⟨ad2, _, hn, hv, _⟩ := HG.out i hi'
      have e : l[i] = x := by rw [List.getElem?_eq_getElem hi'] at hx; exact Option.some.inj hx
      rw [e] at hn hv
      exact ⟨hc.symm, hn, hv⟩

def OutRelF (w : World) (n : Nat) (l : List (NT (n + 1))) (v i : Value) (wr : World) : Prop :=
  ∃ (k : Nat) (css : List (List Value)), i = .int .i64 k ∧ k ≤ l.length ∧ css.length = k ∧ (∀ c ∈ css, List.length c = 6) ∧ wr.ownsRow w.heap.size 48 6 v k css.flatten ∧ Below w.heap.size w wr ∧
    ∀ (j : Nat) (c : List Value) (x : NodeD (List (NT n))), css[j]? = some c → l[j]? = some x → NodeIs (NodesAt n) wr (OwnF w v wr) c x

theorem lentf_end {w wr : World} {n : Nat} {l : List (NT (n + 1))} {v i : Value} (h : OutRelF w n l v i wr) (hi : i = .int .i64 l.length) (hl : l.length ≤ 9223372036854775807) : LentNF w (n + 1) l (.returned v) wr := by
  obtain ⟨k, css, hik, hk, hcl, hc6, hown, hb, hE⟩ := h
  rw [hi] at hik
  have e : k = l.length := by injection hik with _ e; omega
  subst e
  refine ⟨v, rfl, hb, ?_⟩
  refine Row.of_own (α := NodeD (List (NT n))) css hown (fun k hk => ⟨⟨(hown.lt k hk).1, (hown.lt k hk).2⟩, free_own hown hk⟩) hl hc6 hcl ?_
  intro j c x hc hx
  exact (hE j c x hc hx).keep (fun _ _ => rfl) (fun k hk => ⟨⟨hk.1.1, hk.1.2.1⟩, hk.2⟩)

theorem lentf_step {n : Nat} {w wr w0 w1 w1' w2 w3 w4 : World} {l : List (NT (n + 1))} {k : Nat} {css : List (List Value)} {u3 v' v1 v2 : Value} (hcl : css.length = k) (hc6 : ∀ c ∈ css, List.length c = 6) (hlt : k < l.length)
    (hE : ∀ (j : Nat) (c : List Value) (x : NodeD (List (NT n))), css[j]? = some c → l[j]? = some x → NodeIs (NodesAt n) wr (OwnF w u3 wr) c x) (ho : ∀ g, u3.ownBlock = some g → w.heap.size ≤ g ∧ g < wr.heap.size)
    (hW2 : ∀ b, b < wr.heap.size → w3.heap[b]? = wr.heap[b]?) (hW3 : ∀ b, wr.heap.size < b → b < w2.heap.size → w3.heap[b]? = w2.heap[b]?)
    (hz3 : w2.heap.size < w3.heap.size) (hz0 : wr.heap.size < w0.heap.size) (hz01 : w0.heap.size ≤ w1.heap.size) (hz : w.heap.size ≤ wr.heap.size) (hz1 : w1'.heap.size = w1.heap.size) (hb2 : Below w1'.heap.size w1' w2) (h11 : ∀ b, wr.heap.size < b → w1'.heap[b]? = w1.heap[b]?)
    (hbw3 : Below w.heap.size w w3) (ha1 : AttrsAt w1 (NewF w0 w1) v1 (NodeD.attrs l[k])) (ha2 : NodesAt n w2 (NewF w1' w2) v2 (NodeD.kids l[k]))
    (hnm : (NodeD.name l[k]).size ≤ 9223372036854775807) (htx : (NodeD.text l[k]).size ≤ 9223372036854775807) (hki : NodeD.kind l[k] < 256) (hsp : NodeD.space l[k] < 256)
    (hown4 : w4.ownsRow w.heap.size 48 6 v' (k + 1) (css.flatten ++ [.int .u8 (NodeD.kind l[k]), .int .u8 (NodeD.space l[k]), .string (NodeD.name l[k]), v1, .string (NodeD.text l[k]), v2]))
    (hg4 : w3.grownBy w4 u3.ownBlock) (hob4 : v'.ownBlock = u3.ownBlock ∨ v'.ownBlock = some w3.heap.size) : OutRelF w n l v' (.int .i64 ((k : Int) + 1)) w4 := by
  have hz4 := hg4.size
  have hs2 := hb2.size
  have ho4 : ∀ b, w.heap.size ≤ b → b < w3.heap.size → u3.ownBlock ≠ some b → Own w v' w4 b := fun b h1 h2 h3 => ⟨h1, by omega, by
    rcases hob4 with e | e
    · rw [e]; exact h3
    · rw [e]; intro e2; cases e2; omega⟩
  have hne : ∀ b, wr.heap.size < b → u3.ownBlock ≠ some b := fun b hb e => by have := (ho b e).2; omega
  refine ⟨k + 1, css ++ [[.int .u8 (NodeD.kind l[k]), .int .u8 (NodeD.space l[k]), .string (NodeD.name l[k]), v1, .string (NodeD.text l[k]), v2]], by go_num, by omega, by simp [hcl], ?_, by simpa using hown4, hbw3.grown hg4 (by have := hbw3.size; omega) (fun g hg => (ho g hg).1), ?_⟩
  · intro c hc
    rcases List.mem_append.1 hc with h | h
    · exact hc6 c h
    · simp at h; subst h; rfl
  · intro j c x hc hx
    by_cases hjk : j < k
    · rw [List.getElem?_append_left (by omega)] at hc
      have hq : ∀ b, OwnF w u3 wr b → w4.heap[b]? = wr.heap[b]? := fun b hb => by
        rw [hg4.block b (by have := hb.1.2.1; omega) (fun e => hb.1.2.2 e.symm)]
        exact hW2 b hb.1.2.1
      exact (hE j c x hc hx).keep hq (fun b hb => ⟨ho4 b hb.1.1 (by have := hb.1.2.1; omega) hb.1.2.2, hb.2.same (hq b hb)⟩)
    · have hj : j = k := by
        have := (List.getElem?_eq_some_iff.1 hc).1
        simp at this; omega
      subst hj
      rw [List.getElem?_append_right (by omega), hcl] at hc
      simp at hc
      subst hc
      have hxk : l[j] = x := by rw [List.getElem?_eq_getElem hlt] at hx; exact Option.some.inj hx
      subst hxk
      refine ⟨v1, v2, rfl, ?_, ?_, hnm, htx, hki, hsp⟩
      · have hq : ∀ b, NewF w0 w1 b → w4.heap[b]? = w1.heap[b]? := fun b hb => by
          obtain ⟨⟨h1, h2⟩, _⟩ := hb
          rw [hg4.block b (by omega) (fun e => hne b (by omega) e.symm), hW3 b (by omega) (by omega), hb2.block b (by omega)]
          exact h11 b (by omega)
        exact (ha1.keep (w' := w4) hq).mono fun b hb => ⟨ho4 b (by have := hb.1.1; omega) (by have := hb.1.2; omega) (hne b (by have := hb.1.1; omega)), hb.2.same (hq b hb)⟩
      · have hq : ∀ b, NewF w1' w2 b → w4.heap[b]? = w2.heap[b]? := fun b hb => by
          obtain ⟨⟨h1, h2⟩, _⟩ := hb
          rw [hg4.block b (by omega) (fun e => hne b (by omega) e.symm), hW3 b (by omega) (by omega)]
        exact NodesAt.mono (fun b hb => ⟨ho4 b (by have := hb.1.1; omega) (by have := hb.1.2; omega) (hne b (by have := hb.1.1; omega)), hb.2.same (hq b hb)⟩) n (NodesAt.keep (w' := w4) hq n ha2)

set_option maxHeartbeats 4000000 in
set_option maxRecDepth 100000 in
theorem lentf_nodes (n : Nat) : ∀ (v : Value) (l : List (NT n)) (S : Nat → Prop) (w : World), NodesAt n w S v l → (∀ k, S k → k < w.heap.size) → wt n l ≤ 1000000 → Calls Tryz.prog 14 #[v] w (LentNF w n l) := by
  induction n with
  | zero =>
    intro v l S w h hS hw
    obtain ⟨A, c, rfl⟩ := h.none_
    go_enter Tryz.func14, Tryz.ntmps14
    go_wp2
    refine wp_loop_rounds 1 ?_
    rw [rounds_succ]
    go_wp2
    go_ret
    refine ⟨_, rfl, Below.refl _ _, ?_⟩
    exact nodes_zero _ _ _
  | succ n ih =>
    intro v l S w h hS hw
    have hlw := wt_len n l
    obtain ⟨i0, hi, hz0, hz1, hz2⟩ := info_parts info35
    obtain ⟨A, c, rfl, hl, hget⟩ := h.get
    have HG := Lib.hid hget
    have HN := Lib.hid h
    have IH := Lib.hid ih
    clear hget h ih
    go_enter Tryz.func14, Tryz.ntmps14
    go_wp2
    go_loopw [3, 4] (fun v i wr => OutRelF w n l v i wr) (fun _ i _ => l.length - (intOf i).toNat)
    case atStart => exact ⟨0, [], rfl, Nat.zero_le _, rfl, by simp, World.ownsRow_nil _ _ _ _, Below.refl _ _, by simp⟩
    case round =>
      obtain ⟨k, css, rfl, hk, hcl, hc6, hown, hbw, hE⟩ := hrel
      by_cases hlt : k < l.length
      · obtain ⟨ad, va, vk, hA, hatt, hkids, hnm, htx, hki, hsp, hbl, c0, c1, c2, c3, c4, c5⟩ := HG.out k hlt
        subst hA
        have hwg := wt_get n l k hlt
        have hbl2 := hS _ hbl
        have hblk : ∀ j : Nat, wr.cell? ⟨(ad.add (k * 6)).block, j, none⟩ = w.cell? ⟨(ad.add (k * 6)).block, j, none⟩ := fun j => hbw.cell (by rw [block_of_add]; exact hbl2)
        have d0 : wr.cell? (ad.add (k * 6)) = some (.int .u8 (NodeD.kind l[k])) := (hbw.cell (by rw [block_of_add]; exact hbl2)).trans c0
        have d1 := (hblk _).trans c1
        have d2 := (hblk _).trans c2
        have d3 := (hblk _).trans c3
        have d4 := (hblk _).trans c4
        have d5 := (hblk _).trans c5
        have HCL := Lib.hid hcl; have HC6 := Lib.hid hc6; have HE := Lib.hid hE; have HW := Lib.hid hwg
        have HAT := Lib.hid hatt; have HK := Lib.hid hkids
        clear hcl hc6 hE hwg c0 c1 c2 c3 c4 c5 hblk hatt hkids
        obtain ⟨A2, m2, c2, rfl⟩ := HAT.out.shape
        obtain ⟨A3, m3, c3, rfl⟩ := HK.out.shape
        have hws := hbw.size
        have hold0 := old_alloc hbw hws (Obj.cells #[.int .u8 (NodeD.kind l[k]), .int .u8 (NodeD.space l[k]), .string (NodeD.name l[k]), .slice A2 m2 c2, .string (NodeD.text l[k]), .slice A3 m3 c3] 48)
        have hat0 := AttrsAt.keep HAT.out fun b hb => hold0 b (hS b hb)
        have HX0 := Lib.hid (Box.new wr 48 #[.int .u8 (NodeD.kind l[k]), .int .u8 (NodeD.space l[k]), .string (NodeD.name l[k]), .slice A2 m2 c2, .string (NodeD.text l[k]), .slice A3 m3 c3])
        have HOLD0 := Lib.hid hold0
        clear hold0
        have hla := attrs_len_le (NodeD.attrs l[k])
        have hwk := HW.out
        go_wp2_with fail
        refine (lentf_attrs _ (NodeD.attrs l[k]) S _ hat0 (by omega)).mono ?_
        rintro e w1 ⟨v1, rfl, hb1, ha1⟩
        obtain ⟨A4, m4, c4', rfl⟩ := ha1.shape
        have hx1 := HX0.out.below hb1 (by simp)
        have hz1' := hx1.lt
        have e3 := hx1.cell 3
        have f3 := hx1.free 3
        have e5 := (hx1.set 3 (.slice A4 m4 c4')).cell 5
        simp only [List.getElem?_toArray, List.getElem?_cons_succ, List.getElem?_cons_zero, List.setIfInBounds_toArray, List.set_cons_succ, List.set_cons_zero] at e3 e5
        have HX1 := Lib.hid (hx1.set 3 (.slice A4 m4 c4')); have HB1 := Lib.hid hb1; have HA1 := Lib.hid ha1
        clear hx1 hb1 ha1 hat0
        have hlt1 : wr.heap.size < (w1.setCell ⟨wr.heap.size, 3, none⟩ (.slice A4 m4 c4')).heap.size := HX1.out.lt
        have hW1 : ∀ b, b < w.heap.size → (w1.setCell ⟨wr.heap.size, 3, none⟩ (.slice A4 m4 c4')).heap[b]? = w.heap[b]? := fun b hb => (Below.heap_setCell _ _ _ _ (by simp; omega)).trans ((HB1.out.block b (by simp; omega)).trans (HOLD0.out b hb))
        have hkid1 := NodesAt.keep (fun b hb => hW1 b (hS b hb)) n HK.out
        have HBW1 : Hid (Below w.heap.size w (w1.setCell ⟨wr.heap.size, 3, none⟩ (.slice A4 m4 c4'))) := ((hbw.alloc hws _).trans (HB1.out.mono (by simp; omega))).setCell (by simp; omega) _
        have hsz1 := HBW1.out.size
        have HW1 := Lib.hid hW1
        clear hW1
        go_wp2_with fail
        refine (IH.out _ (NodeD.kids l[k]) S _ hkid1 (fun b hb => Nat.lt_of_lt_of_le (hS b hb) hsz1) (by omega)).mono ?_
        rintro e w2 ⟨v2, rfl, hb2, ha2⟩
        obtain ⟨A6, m6, c6', rfl⟩ := ha2.shape
        have hx2 := HX1.out.below hb2 hlt1
        have hz2' := hx2.lt
        have e5b := hx2.cell 5
        have f5 := hx2.free 5
        have hx3 := hx2.set 5 (.slice A6 m6 c6')
        have g0 := hx3.cell 0
        have g1 := hx3.cell 1
        have g2 := hx3.cell 2
        have g3 := hx3.cell 3
        have g4 := hx3.cell 4
        have g5 := hx3.cell 5
        simp only [List.getElem?_toArray, List.getElem?_cons_succ, List.getElem?_cons_zero, List.setIfInBounds_toArray, List.set_cons_succ, List.set_cons_zero] at e5b g0 g1 g2 g3 g4 g5
        have HB2 := Lib.hid hb2; have HA2 := Lib.hid ha2
        clear hx2 hx3 hb2 ha2 hkid1
        have hW2 : ∀ b, b < wr.heap.size → ((w2.setCell ⟨wr.heap.size, 5, none⟩ (.slice A6 m6 c6')).alloc (.cells #[.int .u8 (NodeD.kind l[k]), .int .u8 (NodeD.space l[k]), .string (NodeD.name l[k]), .slice A4 m4 c4', .string (NodeD.text l[k]), .slice A6 m6 c6'] 48)).heap[b]? = wr.heap[b]? := fun b hb => by
          have hz := HB2.out.size
          rw [Below.heap_alloc _ _ _ (by simp [World.setCell]; omega), Below.heap_setCell _ _ _ _ (by simp; omega), HB2.out.block b (by omega), Below.heap_setCell _ _ _ _ (by simp; omega), HB1.out.block b (by simp; omega)]
          exact Below.heap_alloc _ _ _ hb
        have hown2 := ownsRow_same hown (fun g _ hg => hW2 g hg)
        have hW3 : ∀ b, wr.heap.size < b → b < w2.heap.size → ((w2.setCell ⟨wr.heap.size, 5, none⟩ (.slice A6 m6 c6')).alloc (.cells #[.int .u8 (NodeD.kind l[k]), .int .u8 (NodeD.space l[k]), .string (NodeD.name l[k]), .slice A4 m4 c4', .string (NodeD.text l[k]), .slice A6 m6 c6'] 48)).heap[b]? = w2.heap[b]? := fun b hb hb2 => by
          rw [Below.heap_alloc _ _ _ (by rw [size_setCell]; exact hb2), Below.heap_setCell _ _ _ _ (by simp; omega)]
        have HN3 := Lib.hid (Box.new (w2.setCell ⟨wr.heap.size, 5, none⟩ (.slice A6 m6 c6')) 48 #[.int .u8 (NodeD.kind l[k]), .int .u8 (NodeD.space l[k]), .string (NodeD.name l[k]), .slice A4 m4 c4', .string (NodeD.text l[k]), .slice A6 m6 c6'])
        have HO := Lib.hid (fun g hg => hown.lt g hg)
        have HW3 := Lib.hid hW3
        have HW2 := Lib.hid hW2
        clear hW3
        have HZ2 := Lib.hid HB2.out.size
        clear hW2 hown
        go_wp2_with (at_builtin; refine wpList_append_own_at _ rfl _ _ 37 rfl w.heap.size 48 i0 _ 6 88 Tryz.underlying37 hi hz0 hz1 hz2 rfl (by decide) _ k css.flatten rfl hown2 ⟨w2.heap.size, 0, none⟩ 1 1 [.int .u8 (NodeD.kind l[k]), .int .u8 (NodeD.space l[k]), .string (NodeD.name l[k]), .slice A4 m4 c4', .string (NodeD.text l[k]), .slice A6 m6 c6'] rfl rfl ?c1 ?c2 ?c3 ?c4 ?c5 ?_)
        case c1 =>
          have := box_lie HN3.out
          rw [size_setCell] at this
          exact fun j u hu => this j u (by simpa using hu)
        case c2 =>
          intro u hu
          simp at hu
          rcases hu with rfl | rfl | rfl | rfl | rfl | rfl <;> rfl
        case c3 => unfold maxLen; omega
        case c4 => omega
        case c5 => have := HZ2.out; rw [World.size_alloc, size_setCell]; omega
        intro v' w4 hown4 hg4 _ hob4
        go_wp2
        go_roundw
        case rel =>
          exact lentf_step HCL.out HC6.out hlt HE.out HO.out HW2.out HW3.out (by rw [World.size_alloc, size_setCell]; omega) (by simp) HB1.out.size hws (size_setCell _ _ _) HB2.out (fun b hb => Below.heap_setCell _ _ _ _ (by simp; omega))
            (((HBW1.out.trans (HB2.out.mono hsz1)).setCell (by simp; omega) _).alloc (by rw [size_setCell]; have := HZ2.out; omega) _) HA1.out HA2.out hnm htx hki hsp hown4 hg4 (by rw [World.size_alloc, size_setCell]; exact hob4)
        case measure => simp [intOf]; omega
      · go_wp2
        go_ret
        refine lentf_end ⟨k, css, rfl, hk, hcl, hc6, hown, hbw, hE⟩ ?_ hl
        rw [show k = l.length by omega]
end Go.Proofs.YtdkjenbncmedbaaGreatDoor
