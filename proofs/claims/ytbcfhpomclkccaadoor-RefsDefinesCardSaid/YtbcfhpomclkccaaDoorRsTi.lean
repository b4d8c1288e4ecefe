/- refs.Title. -/
import Derived.Test.YtbcfhpomclkccaaDoorRsDst
import Derived.Maps.OwnOps
import Derived.Maps.OwnSet
namespace Go.Proofs.YtbcfhpomclkccaaDoor
open Go.RowKit Go.Maps

/-- What ends a title; 0: none begins. -/
def endU (c : UInt8) : UInt8 := if c = 34 then 34 else if c = 39 then 39 else if c = 40 then 41 else 0
def mayT (c b : UInt8) : Bool := (c != 40) || (b != 40)
/-- The title at i: from where, to where, and where it ends. -/
def titleN (l : List UInt8) (i : Nat) : Option (Nat × Nat × Nat) := match l[i]? with
  | none => none
  | some c => if endU c = 0 then none else if (upF l (endU c) (mayT c) l.length (i + 1)).2 then some (i + 1, (upF l (endU c) (mayT c) l.length (i + 1)).1, (upF l (endU c) (mayT c) l.length (i + 1)).1 + 1) else none
def titleV (s : ByteArray) (i : Nat) : ByteArray × Nat × Bool := match titleN s.data.toList i with
  | some (a, b, e) => (unescB (s.extract a b), e, true)
  | none => (⟨#[]⟩, i, false)
def endsD : DataW Unit := (((DataW.map []).put (.int .u8 34) (.lit (.int .u8 34))).put (.int .u8 39) (.lit (.int .u8 39))).put (.int .u8 40) (.lit (.int .u8 41))
theorem int_ne {a b : Int} (h : ¬ a = b) : Lit.int .u8 a ≠ Lit.int .u8 b := fun e => h (by injection e)
theorem u8_ne {c d : UInt8} (h : ¬ c = d) : ¬ (c.toNat : Int) = (d.toNat : Int) := fun e => h (UInt8.toNat_inj.1 (by omega))
theorem ends_at (c : UInt8) : endsD.atKey (.int .u8 (c.toNat : Int)) (.lit (.int .u8 0)) = .lit (.int .u8 ((endU c).toNat : Int)) := by
  unfold endsD endU
  have k0 : IsMap (DataW.map [] : DataW Unit) := isMap_empty
  by_cases h40 : c = 40
  · subst h40
    exact atKey_put_same ((k0.put _ _).put _ _) (show WideAt.IsKeyLit (Lit.int .u8 40) from trivial) _ _
  · rw [atKey_put_other (int_ne (show ¬ (c.toNat : Int) = 40 from u8_ne (d := 40) h40))]
    by_cases h39 : c = 39
    · subst h39
      exact atKey_put_same (k0.put _ _) (show WideAt.IsKeyLit (Lit.int .u8 39) from trivial) _ _
    · rw [atKey_put_other (int_ne (show ¬ (c.toNat : Int) = 39 from u8_ne (d := 39) h39))]
      by_cases h34 : c = 34
      · subst h34
        exact atKey_put_same k0 (show WideAt.IsKeyLit (Lit.int .u8 34) from trivial) _ _
      · rw [atKey_put_other (int_ne (show ¬ (c.toNat : Int) = 34 from u8_ne (d := 34) h34)), if_neg h34, if_neg h39, if_neg h40]
        rfl
def EndsAt (w : World) (B : Nat) : Prop := w.ownsMap (H := Unit) Tryd.prog 5 (plainElem Tryd.prog 5) B 3 endsD
theorem EndsAt.below {w w' : World} {B : Nat} (h : EndsAt w B) (hb : Below w.heap.size w w') : EndsAt w' B := by
  obtain ⟨es, clock, h1, h2⟩ := h
  exact ⟨es, clock, (hb.block B (Array.getElem?_eq_some_iff.1 h1).1).trans h1, h2⟩
theorem u8_wf (c : UInt8) : (Lit.int .u8 (c.toNat : Int)).wf = true := by
  have := UInt8.toNat_lt c
  revert this
  generalize c.toNat = n
  intro h
  have e1 : IntKind.u8.min = 0 := by decide
  have e2 : IntKind.u8.max = 255 := by decide
  simp [Lit.wf, e1, e2]
  omega
theorem zeroU (w : World) : (zeroValue 5).run Tryd.prog w = .ok (.int .u8 0) w := by kernel_rfl
set_option maxRecDepth 100000 in
theorem EndsAt.look {w : World} {B : Nat} (h : EndsAt w B) (c : UInt8) : (Instr.lookup 96 (.map (some B)) (.int .u8 (c.toNat : Int)) false).run Tryd.prog w = .ok (.int .u8 ((endU c).toNat : Int)) w := by
  obtain ⟨x, hrun, hat, _⟩ := World.ownsMap.lookup_int h (int_keyed Tryd.underlying5) Tryd.underlying96 Tryd.underlying5 (zeroU w) (keyOf_int_mk Tryd.underlying5 (u8_wf c))
  rw [ends_at] at hat
  injection hat with h1
  injection h1 with _ h2
  rw [hrun, h2]
theorem ends_make (w : World) (B : Nat) (hB : B = w.heap.size) : ∃ w1 w2 w3 : World,
    (Instr.mapUpdate 96 (.map (some B)) (.int .u8 34) (.int .u8 34)).run Tryd.prog (w.alloc (.map #[] 0)) = .ok () w1 ∧
    (Instr.mapUpdate 96 (.map (some B)) (.int .u8 39) (.int .u8 39)).run Tryd.prog w1 = .ok () w2 ∧
    (Instr.mapUpdate 96 (.map (some B)) (.int .u8 40) (.int .u8 41)).run Tryd.prog w2 = .ok () w3 ∧ EndsAt w3 B ∧ Below w.heap.size w w3 ∧ B < w3.heap.size := by
  subst hB
  have h0 := World.ownsMap_made w Tryd.prog 5 (plainElem (H := Unit) Tryd.prog 5)
  have e : ∀ a : UInt8, plainElem (H := Unit) Tryd.prog 5 (.int .u8 (a.toNat : Int)) = some (.lit (.int .u8 (a.toNat : Int)), []) := fun a => plainElem_int Tryd.underlying5 (u8_wf a)
  have k : ∀ a : UInt8, keyOf Tryd.prog 5 (.int .u8 (a.toNat : Int)) = some (.int .u8 (a.toNat : Int)) := fun a => keyOf_int_mk Tryd.underlying5 (u8_wf a)
  obtain ⟨w1, r1, o1, g1⟩ := h0.update (int_keyed Tryd.underlying5) Tryd.underlying96 (by decide) (k 34) (e 34)
  obtain ⟨w2, r2, o2, g2⟩ := o1.update (int_keyed Tryd.underlying5) Tryd.underlying96 (by decide) (k 39) (e 39)
  obtain ⟨w3, r3, o3, g3⟩ := o2.update (int_keyed Tryd.underlying5) Tryd.underlying96 (by decide) (k 40) (e 41)
  have b0 : Below w.heap.size w (w.alloc (.map #[] 0)) := (Below.refl _ w).alloc (Nat.le_refl _) _
  have b1 := b0.grown g1 b0.size (fun j hj => by cases hj; exact Nat.le_refl _)
  have b2 := b1.grown g2 b1.size (fun j hj => by cases hj; exact Nat.le_refl _)
  have b3 := b2.grown g3 b2.size (fun j hj => by cases hj; exact Nat.le_refl _)
  exact ⟨w1, w2, w3, r1, r2, r3, o3, b3, o3.lt⟩
theorem s4_below {A B C D : Prop} (h : A ∧ B ∧ C ∧ D) : D := h.2.2.2
theorem grown_cell {w w' : World} {r : Nat} {p : Addr} (h : w.grownBy w' (some r)) (hp : p.block < w.heap.size) (hr : ¬ p.block = r) : w'.cell? p = w.cell? p := by
  unfold World.cell?
  rw [h.block p.block hp (fun e => hr (Option.some.inj e))]
set_option maxRecDepth 100000 in
theorem title1_any (s : ByteArray) (i p r : Nat) (b : UInt8) (w : World) (hi : i < s.size) (c : UInt8) (hc : s[i] = c) (hp : w.cell? ⟨p, 0, none⟩ = some (.string s)) (hr : w.cell? ⟨r, 0, none⟩ = some (.int .i64 (i : Int))) :
    Calls Tryd.prog 72 #[.int .u8 (b.toNat : Int), .pointer (some ⟨p, 0, none⟩), .pointer (some ⟨r, 0, none⟩)] w (RB w (mayT c b)) := by
  obtain ⟨q, hq⟩ : ∃ q, (c != 40) = q := ⟨_, rfl⟩
  obtain ⟨x, hx⟩ : ∃ x, (b != 40) = x := ⟨_, rfl⟩
  have hv : mayT c b = (q || x) := by unfold mayT; rw [hq, hx]
  rw [hv]
  have hq2 : ((c.toNat : Int) != 40) = q := by rw [show ((c.toNat : Int) != 40) = (c != 40) from bnec c 40]; exact hq
  have hx2 : ((b.toNat : Int) != 40) = x := by rw [show ((b.toNat : Int) != 40) = (b != 40) from bnec b 40]; exact hx
  have hki : (i : Int) < (s.size : Int) := by omega
  clear hq hx hv
  cases q
  · go_enter Tryd.func72, Tryd.ntmps72
    go_wp2
    (try rw [hc])
    go_wp2
    go_ret
    exact ⟨rfl, rfl⟩
  · go_enter Tryd.func72, Tryd.ntmps72
    go_wp2
    (try rw [hc])
    go_wp2
    go_ret
    exact ⟨rfl, rfl⟩
set_option maxHeartbeats 4000000 in
set_option maxRecDepth 100000 in
theorem title_none (s : ByteArray) (i : Nat) (w : World) (_ : s.size < 4294967281) (_ : i ≤ 1099511627776) (h : ∀ c, s.data.toList[i]? = some c → endU c = 0) : Calls Tryd.prog 36 #[.string s, .int .i64 (i : Int)] w (SIB w (⟨#[]⟩, i, false)) := by
  obtain ⟨W, hW⟩ : ∃ W, (w.alloc (.cells #[.string s] 9)).alloc (.cells #[.int .i64 (i : Int)] 3) = W := ⟨_, rfl⟩
  have hbW : Below w.heap.size w W := by rw [← hW]; exact ((Below.refl _ w).alloc (Nat.le_refl _) _).alloc (by simp) _
  have hWz : w.heap.size + 1 + 1 = W.heap.size := by rw [← hW]; simp
  obtain ⟨w1, w2, w3, r1, r2, r3, he, hb, hB⟩ := ends_make W (w.heap.size + 1 + 1) hWz
  have b3 : Below W.heap.size W w3 := hb
  have cp : w3.cell? ⟨w.heap.size, 0, none⟩ = some (.string s) := (b3.cell (p := ⟨w.heap.size, 0, none⟩) (by show w.heap.size < W.heap.size; omega)).trans (by
    rw [← hW]
    exact (((Below.refl _ _).alloc (Nat.le_refl _) _).cell (p := ⟨w.heap.size, 0, none⟩) (by simp)).trans (cell_of_row _ w.heap.size 0 _ _ _ (heap_alloc_new w _)))
  have cr : w3.cell? ⟨w.heap.size + 1, 0, none⟩ = some (.int .i64 (i : Int)) := (b3.cell (p := ⟨w.heap.size + 1, 0, none⟩) (by show w.heap.size + 1 < W.heap.size; omega)).trans (by
    rw [← hW]
    simp)
  rw [← hW] at r1
  have HB := Lib.hid (hbW.trans (b3.mono (by omega)))
  have hmm := @run_makeMap Tryd.prog
  by_cases hil : i < s.size
  · have hki : (i : Int) < (s.size : Int) := by omega
    obtain ⟨c, hc⟩ : ∃ c, s[i] = c := ⟨_, rfl⟩
    have hlk := he.look c
    have h0 := h c (by rw [get_list s i hil, hc])
    rw [h0] at hlk
    clear hW hbW hWz he hb hB b3 h h0
    go_enter Tryd.func36, Tryd.ntmps36
    go_wp2_with fail
    (try rw [hc])
    go_wp2_with fail
    go_quiet (fail)
    go_wp2
    go_ret3
    exact ⟨rfl, below_drewN HB.out _⟩
  · have hki : (s.size : Int) ≤ (i : Int) := by omega
    clear hW hbW hWz he hb hB b3 h
    go_enter Tryd.func36, Tryd.ntmps36
    go_wp2_with fail
    go_quiet (fail)
    go_wp2
    go_ret3
    exact ⟨rfl, below_drewN HB.out _⟩
set_option maxHeartbeats 4000000 in
set_option maxRecDepth 100000 in
theorem title_some (s : ByteArray) (i : Nat) (w : World) (hs : s.size < 4294967281) (hil : i < s.size) (c : UInt8) (hc : s[i] = c) (hen : ¬ endU c = 0) : Calls Tryd.prog 36 #[.string s, .int .i64 (i : Int)] w (SIB w (titleV s i)) := by
  obtain ⟨W, hW⟩ : ∃ W, (w.alloc (.cells #[.string s] 9)).alloc (.cells #[.int .i64 (i : Int)] 3) = W := ⟨_, rfl⟩
  have hbW : Below w.heap.size w W := by rw [← hW]; exact ((Below.refl _ w).alloc (Nat.le_refl _) _).alloc (by simp) _
  have hWz : w.heap.size + 1 + 1 = W.heap.size := by rw [← hW]; simp
  obtain ⟨w1, w2, w3, r1, r2, r3, he, hb, hB⟩ := ends_make W (w.heap.size + 1 + 1) hWz
  have b3 : Below W.heap.size W w3 := hb
  have cp : w3.cell? ⟨w.heap.size, 0, none⟩ = some (.string s) := (b3.cell (p := ⟨w.heap.size, 0, none⟩) (by show w.heap.size < W.heap.size; omega)).trans (by
    rw [← hW]
    exact (((Below.refl _ _).alloc (Nat.le_refl _) _).cell (p := ⟨w.heap.size, 0, none⟩) (by simp)).trans (cell_of_row _ w.heap.size 0 _ _ _ (heap_alloc_new w _)))
  have cr : w3.cell? ⟨w.heap.size + 1, 0, none⟩ = some (.int .i64 (i : Int)) := (b3.cell (p := ⟨w.heap.size + 1, 0, none⟩) (by show w.heap.size + 1 < W.heap.size; omega)).trans (by
    rw [← hW]
    simp)
  rw [← hW] at r1
  have HB := Lib.hid (hbW.trans (b3.mono (by omega)))
  have hmm := @run_makeMap Tryd.prog
  have hki : (i : Int) < (s.size : Int) := by omega
  have hl : s.data.toList.length = s.size := Array.length_toList
  have hlk := he.look c
  obtain ⟨en, hE⟩ : ∃ en, endU c = en := ⟨_, rfl⟩
  have hen0 : ((en.toNat : Int) == 0) = false := by rw [show ((en.toNat : Int) == 0) = (en == 0) from beqc en 0]; rw [← hE]; exact beq_no hen
  obtain ⟨W4, hW4⟩ : ∃ W4, w3.alloc (.cells #[.string s, .int .i64 ((i : Int) + 1)] 63) = W4 := ⟨_, rfl⟩
  have hb4 : Below w3.heap.size w3 W4 := by rw [← hW4]; exact (Below.refl _ w3).alloc (Nat.le_refl _) _
  have hlk4 := (he.below hb4).look c
  have hc4 : CurAt W4 w3.heap.size s (i + 1) := by rw [← hW4]; exact heap_alloc_new w3 _
  have cp4 : W4.cell? ⟨w.heap.size, 0, none⟩ = some (.string s) := (hb4.cell (p := ⟨w.heap.size, 0, none⟩) (by show w.heap.size < w3.heap.size; omega)).trans cp
  have cr4 : W4.cell? ⟨w.heap.size + 1, 0, none⟩ = some (.int .i64 (i : Int)) := (hb4.cell (p := ⟨w.heap.size + 1, 0, none⟩) (by show w.heap.size + 1 < w3.heap.size; omega)).trans cr
  rw [hE] at hlk hlk4
  have hU := upTo_title s (i + 1) w3.heap.size en (mayT c) w.heap.size (w.heap.size + 1) W4 (by omega) (by omega) hc4 (fun b w' hg => title1_any s i w.heap.size (w.heap.size + 1) b w' hil c hc ((grown_cell hg (by show w.heap.size < W4.heap.size; have := hb4.size; omega) (by show ¬ w.heap.size = w3.heap.size; omega)).trans cp4) ((grown_cell hg (by show w.heap.size + 1 < W4.heap.size; have := hb4.size; omega) (by show ¬ w.heap.size + 1 = w3.heap.size; omega)).trans cr4))
  obtain ⟨hin1, hin2⟩ := upF_in s.data.toList en (mayT c) s.size (i + 1) (by omega)
  have hn : titleN s.data.toList i = if (upF s.data.toList en (mayT c) s.size (i + 1)).2 then some (i + 1, (upF s.data.toList en (mayT c) s.size (i + 1)).1, (upF s.data.toList en (mayT c) s.size (i + 1)).1 + 1) else none := by
    unfold titleN
    rw [get_list s i hil, hc]
    simp only
    rw [if_neg hen, hE, hl]
  obtain ⟨⟨j, f⟩, hx⟩ : ∃ x, upF s.data.toList en (mayT c) s.size (i + 1) = x := ⟨_, rfl⟩
  rw [hx] at hU hin1 hin2 hn
  simp only at hin1 hin2 hn
  have HU := Lib.hid hU
  have HB4 := Lib.hid (HB.out.trans (hb4.mono (by omega)))
  have hj1 : (i : Int) + 1 ≤ (j : Int) := by omega
  have hj2 : (j : Int) ≤ (s.size : Int) := by omega
  have hz4 : w.heap.size + 1 < W4.heap.size := by have := hb4.size; omega
  have hz4' : w.heap.size < W4.heap.size := by omega
  have hzc : w3.heap.size < W4.heap.size := (Array.getElem?_eq_some_iff.1 (show W4.heap[w3.heap.size]? = _ from hc4)).1
  subst hW4
  cases f with
  | false =>
    have hv : titleV s i = (⟨#[]⟩, i, false) := by unfold titleV; rw [hn]; rfl
    rw [hv]
    clear hv hW hbW hWz he hb b3 hn hU hx hb4 hc4 hl hin1 hin2 hE hen
    go_enter Tryd.func36, Tryd.ntmps36
    go_wp2_with fail
    (try rw [hc])
    go_wp2_with fail
    (try rw [hc])
    go_wp2_with fail
    refine Calls.mono HU.out ?_
    rintro e w5 ⟨rfl, hc5, hg5⟩
    have hr5 : w5.cell? ⟨w.heap.size + 1, 0, none⟩ = some (.int .i64 (i : Int)) := (grown_cell hg5 hz4 (by show ¬ w.heap.size + 1 = w3.heap.size; omega)).trans cr4
    have HB5 := Lib.hid (HB4.out.grown hg5 HB4.out.size (fun q hq => by cases hq; omega))
    clear hc5 hg5
    go_wp2_with fail
    go_quiet (fail)
    go_wp2
    go_ret3
    exact ⟨rfl, below_drewN HB5.out _⟩
  | true =>
    have hv : titleV s i = (unescB (s.extract (i + 1) j), j + 1, true) := by unfold titleV; rw [hn]; rfl
    obtain ⟨x, hxe⟩ : ∃ x : ByteArray, s.extract (i + 1) j = x := ⟨_, rfl⟩
    have hxs : x.size = j - (i + 1) := by rw [← hxe, ByteArray.size_extract]; omega
    rw [hxe] at hv
    obtain ⟨X, hX⟩ : ∃ X, unescB x = X := ⟨_, rfl⟩
    have HUN := Lib.hid fun w' => unesc_ret x (by omega) X hX w'
    rw [hX] at hv
    rw [hv]
    have HXE := Lib.hid hxe
    clear hv hX hxe hxs hW hbW hWz he hb b3 hn hU hx hb4 hc4 hl hin1 hin2 hE hen
    go_enter Tryd.func36, Tryd.ntmps36
    go_wp2_with fail
    (try rw [hc])
    go_wp2_with fail
    (try rw [hc])
    go_wp2_with fail
    refine Calls.mono HU.out ?_
    rintro e w5 ⟨rfl, hc5, hg5⟩
    have hp5 : w5.cell? ⟨w.heap.size, 0, none⟩ = some (.string s) := (grown_cell hg5 hz4' (by show ¬ w.heap.size = w3.heap.size; omega)).trans cp4
    have hr5 : w5.cell? ⟨w.heap.size + 1, 0, none⟩ = some (.int .i64 (i : Int)) := (grown_cell hg5 hz4 (by show ¬ w.heap.size + 1 = w3.heap.size; omega)).trans cr4
    have HB5 := Lib.hid (HB4.out.grown hg5 HB4.out.size (fun q hq => by cases hq; omega))
    have HSI := Lib.hid fun (w' : World) (h : Below w5.heap.size w5 w') => (⟨(h.cell (p := ⟨w.heap.size, 0, none⟩) (by have := hg5.size; show w.heap.size < w5.heap.size; omega)).trans hp5, (h.cell (p := ⟨w.heap.size + 1, 0, none⟩) (by have := hg5.size; show w.heap.size + 1 < w5.heap.size; omega)).trans hr5, cell_of_row w' w3.heap.size 1 _ _ _ ((h.block _ (Nat.lt_of_lt_of_le hzc hg5.size)).trans hc5), h⟩ : w'.cell? ⟨w.heap.size, 0, none⟩ = some (.string s) ∧ w'.cell? ⟨w.heap.size + 1, 0, none⟩ = some (.int .i64 (i : Int)) ∧ w'.cell? ⟨w3.heap.size, 1, none⟩ = some (.int .i64 (j : Int)) ∧ Below w5.heap.size w5 w')
    clear hc5 hg5 hp5 hr5
    go_wp2_with fail
    have HS0 := Lib.hid (HSI.out w5 (Below.refl _ _))
    have hwi : IntKind.i64.wrap ((i : Int) + 1) = (i : Int) + 1 := IntWalk.i64_in _ (by omega)
    have hwj : IntKind.i64.wrap ((j : Int) + 1) = (j : Int) + 1 := IntWalk.i64_in _ (by omega)
    have hi0 : (0 : Int) ≤ (i : Int) + 1 := by omega
    go_region_held3 (fun w' => w'.cell? ⟨w.heap.size, 0, none⟩ = some (.string s) ∧ w'.cell? ⟨w.heap.size + 1, 0, none⟩ = some (.int .i64 (i : Int)) ∧ w'.cell? ⟨w3.heap.size, 1, none⟩ = some (.int .i64 (j : Int)) ∧ Below w5.heap.size w5 w') (first | (with_reducible assumption) | (with_reducible exact HS0.out) | (with_reducible exact HSI.out _ (Below.refl _ _).drew) | (with_reducible exact HSI.out _ (Below.drew (s4_below (by assumption)))) | (with_reducible exact HSI.out _ (below_on (s4_below (by assumption)) (by assumption)))) (first
      | ((try rw [HXE.out]); (with_reducible refine Calls.mono (HUN.out _) ?_); rintro e w6 ⟨rfl, b6⟩))
    all_goals
      go_wp2_with fail
      go_ret3
      exact ⟨rfl, below_on HB5.out (s4_below (by assumption))⟩
theorem title_any (s : ByteArray) (i : Nat) (w : World) (hs : s.size < 4294967281) (hi : i ≤ 1099511627776) : Calls Tryd.prog 36 #[.string s, .int .i64 (i : Int)] w (SIB w (titleV s i)) := by
  by_cases h : ∀ c, s.data.toList[i]? = some c → endU c = 0
  · have hv : titleV s i = (⟨#[]⟩, i, false) := by
      unfold titleV titleN
      cases hg : s.data.toList[i]? with
      | none => rfl
      | some c => simp only; rw [if_pos (h c hg)]
    rw [hv]
    exact title_none s i w hs hi h
  · rw [Classical.not_forall] at h
    obtain ⟨c, h⟩ := h
    rw [Classical.not_imp] at h
    have hil : i < s.size := by have := (List.getElem?_eq_some_iff.1 h.1).1; simpa using this
    exact title_some s i w hs hil c (by have := h.1; rw [get_list s i hil] at this; exact Option.some.inj this) h.2
end Go.Proofs.YtbcfhpomclkccaaDoor
