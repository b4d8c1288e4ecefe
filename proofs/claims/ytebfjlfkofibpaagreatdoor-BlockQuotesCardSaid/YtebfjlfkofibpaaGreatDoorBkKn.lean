/- The chapter's examples, plainly. The chapter's examples. -/
import Derived.Test.YtebfjlfkofibpaaGreatDoorBkPa
import Derived.Test.YtebfjlfkofibpaaGreatDoorBkSm
namespace Go.Proofs.YtebfjlfkofibpaaGreatDoor
section
open Go.RowKit
def k1T : ByteArray := ⟨#[62, 32, 97, 10, 98]⟩
def k2T : ByteArray := ⟨#[45, 32, 97, 10, 10, 45, 32, 98]⟩
def k3T : ByteArray := ⟨#[91, 97, 93, 58, 32, 98, 10, 99]⟩
def k4T : ByteArray := ⟨#[124, 97, 124, 98, 124, 10, 124, 45, 124, 45, 124, 10, 124, 49, 124]⟩
def chk1 (n : Nat) (x : TR (n + 3)) : Bool := match BD.kids (K := List (TR (n + 2))) x with
 | [y] => match BD.kids (K := List (TR (n + 1))) y with
  | [z] => decide (BD.text (K := List (TR n)) z = ⟨#[97, 10, 98]⟩)
  | _ => false
 | _ => false
def chk2 (n : Nat) (x : TR (n + 3)) : Bool := match BD.kids (K := List (TR (n + 2))) x with
 | [y] => !(BD.tight (K := List (TR (n + 1))) y) && decide ((BD.kids (K := List (TR (n + 1))) y).length = 2)
 | _ => false
def chk3 (n : Nat) (x : TR (n + 3)) (r : List RefT) : Bool := match BD.kids (K := List (TR (n + 2))) x, r with
 | [y], [q] => decide (BD.text (K := List (TR (n + 1))) y = ⟨#[99]⟩) && decide (q.2.1 = ⟨#[98]⟩)
 | _, _ => false
def chk4 (n : Nat) (x : TR (n + 3)) : Bool := match BD.kids (K := List (TR (n + 2))) x with
 | [y] => decide (BD.kind (K := List (TR (n + 1))) y = 10) && (match BD.kids (K := List (TR (n + 1))) y with
  | [_, z] => decide ((BD.kids (K := List (TR n)) z).length = 1)
  | _ => false)
 | _ => false
def chk1T (t : ByteArray) : Bool := chk1 (fueT t) (treT t) && decide (deepT (fueT t) (finT t) 0 = 1)
def chk2T (t : ByteArray) : Bool := chk2 (fueT t) (treT t)
def chk3T (t : ByteArray) : Bool := chk3 (fueT t) (treT t) (finT t).refs
def chk4T (t : ByteArray) : Bool := chk4 (fueT t) (treT t)
theorem k1_ok : chk1T k1T = true := by kernel_rfl
theorem k2_ok : chk2T k2T = true := by kernel_rfl
theorem k3_ok : chk3T k3T = true := by kernel_rfl
theorem k4_ok : chk4T k4T = true := by kernel_rfl
theorem chk1_facts {t : ByteArray} (h : chk1T t = true) : (∃ y z, BD.kids (K := List (TR (fueT t + 2))) (treT t) = [y] ∧ BD.kids (K := List (TR (fueT t + 1))) y = [z] ∧ BD.text (K := List (TR (fueT t))) z = ⟨#[97, 10, 98]⟩) ∧ deepT (fueT t) (finT t) 0 = 1 := by
 unfold chk1T at h;rw [Bool.and_eq_true] at h;refine ⟨?_, by simpa using h.2⟩;have h := h.1;unfold chk1 at h;split at h
 ·rename_i y hy;split at h
  ·rename_i z hz;exact ⟨y, z, hy, hz, by simpa using h⟩
  ·cases h
 ·cases h
theorem chk2_facts {t : ByteArray} (h : chk2T t = true) : ∃ y, BD.kids (K := List (TR (fueT t + 2))) (treT t) = [y] ∧ BD.tight (K := List (TR (fueT t + 1))) y = false ∧ (BD.kids (K := List (TR (fueT t + 1))) y).length = 2 := by
 unfold chk2T chk2 at h;split at h
 ·rename_i y hy;rw [Bool.and_eq_true] at h;exact ⟨y, hy, by simpa using h.1, by simpa using h.2⟩
 ·cases h
theorem chk3_facts {t : ByteArray} (h : chk3T t = true) : ∃ y q, BD.kids (K := List (TR (fueT t + 2))) (treT t) = [y] ∧ (finT t).refs = [q] ∧ BD.text (K := List (TR (fueT t + 1))) y = ⟨#[99]⟩ ∧ q.2.1 = ⟨#[98]⟩ := by
 unfold chk3T chk3 at h;split at h
 ·rename_i y q hy hq;rw [Bool.and_eq_true] at h;exact ⟨y, q, hy, hq, by simpa using h.1, by simpa using h.2⟩
 ·cases h
theorem chk4_facts {t : ByteArray} (h : chk4T t = true) : ∃ y x z, BD.kids (K := List (TR (fueT t + 2))) (treT t) = [y] ∧ BD.kind (K := List (TR (fueT t + 1))) y = 10 ∧ BD.kids (K := List (TR (fueT t + 1))) y = [x, z] ∧ (BD.kids (K := List (TR (fueT t))) z).length = 1 := by
 unfold chk4T chk4 at h;split at h
 ·rename_i y hy;rw [Bool.and_eq_true] at h;obtain ⟨h1, h2⟩ := h;split at h2
  ·rename_i x z hz;exact ⟨y, x, z, hy, by simpa using h1, hz, by simpa using h2⟩
  ·cases h2
 ·cases h
end
section
set_option maxHeartbeats 8000000
set_option maxRecDepth 100000
open Go.RowKit
def KidP (w : World) (ad : Addr) (kd : Nat) (tg : Bool) (tx : ByteArray) (A : Option Addr) (m c : Nat) : Prop :=
 ad.block < w.heap.size ∧ w.cell? ad = some (.int .u8 kd) ∧ w.cell? ⟨ad.block, ad.off + 4, none⟩ = some (.bool tg) ∧ w.cell? ⟨ad.block, ad.off + 6, none⟩ = some (.string tx) ∧ w.cell? ⟨ad.block, ad.off + 8, none⟩ = some (.slice A m c)
theorem KidP.later {w w' : World} {ad : Addr} {kd : Nat} {tg : Bool} {tx : ByteArray} {A : Option Addr} {m c : Nat} (h : KidP w ad kd tg tx A m c) (hb : Below w.heap.size w w') : KidP w' ad kd tg tx A m c :=
 ⟨Nat.lt_of_lt_of_le h.1 hb.size, (hb.cell h.1).trans h.2.1, (hb.cell (p := ⟨ad.block, ad.off + 4, none⟩) h.1).trans h.2.2.1, (hb.cell (p := ⟨ad.block, ad.off + 6, none⟩) h.1).trans h.2.2.2.1, (hb.cell (p := ⟨ad.block, ad.off + 8, none⟩) h.1).trans h.2.2.2.2⟩
theorem add_zero_a (ad : Addr) : ad.add (0 * 10) = ad := by
 unfold Addr.add;rw [if_pos rfl]
theorem BlksAt.kid {n : Nat} {w : World} {S : Nat -> Prop} {v : Value} {l : List (BD (List (TR n)))} (h : BlksAt (n + 1) w S v l) (hS : ∀ k, S k -> k < w.heap.size) (k : Nat) {y : BD (List (TR n))} (hy : l[k]? = some y) :
  ∃ ad c A2 c2, v = .slice (some ad) l.length c ∧ BlksAt n w S (.slice A2 y.kids.length c2) y.kids ∧ KidP w (ad.add (k * 10)) y.kind y.tight y.text A2 y.kids.length c2 := by
 obtain ⟨A, c, rfl, _, hg⟩ := h.get2;obtain ⟨ad, A1, A2, m1, m2, c1, c2, rfl, hb, ha, hk, d0, d1, d2, d3, d4, d5, d6, d7, d8, d9⟩ := hg k y hy;obtain ⟨A2', c2', e⟩ := hk.form;injection e with e1 e2 e3;subst e1;subst e2;subst e3;exact ⟨ad, c, A2, c2, rfl, hk, (by rw [block_of_add]; exact hS _ hb), d0, d4, d6, d8⟩
def aggB (kd : Nat) (lv : Int) (mk : Nat) (st : Int) (tg : Bool) (inf tx : ByteArray) (A : Option Addr) (m c : Nat) (vk : Value) : Value :=
 .agg #[.int .u8 kd, .int .i64 lv, .int .u8 mk, .int .i64 st, .bool tg, .string inf, .string tx, .slice A m c, vk, .slice none 0 0]
theorem ParseR.open {t : ByteArray} {w w' : World} {e : Ending} (h : ParseR t w e w') : ∃ kd lv mk st tg inf tx A m c vk rv,
  e = .returned (.tuple #[aggB kd lv mk st tg inf tx A m c vk, rv, .int .i64 (deepT (fueT t) (finT t) 0 : Nat)]) ∧ BlksAt (fueT t + 2) w' (fun k => k < w'.heap.size) vk (BD.kids (K := List (TR (fueT t + 2))) (treT t)) ∧ w'.ownsRow w.heap.size 43 3 rv (finT t).refs.length (refCells (finT t).refs) ∧ Below w.heap.size w w' := by
 obtain ⟨va, vk, rv, h1, h2, h3, h4, h5⟩ := h;obtain ⟨A, m, c, rfl, -⟩ := id h2.1;exact ⟨_, _, _, _, _, _, _, A, m, c, vk, rv, h1, h3, h4, h5⟩
theorem parse_k1 (w : World) (hG : GlobB w) : Calls Tryz.prog 10 #[.string ⟨#[62, 32, 97, 10, 98]⟩] w fun e w' => ∃ kd lv mk st tg inf tx A m c rv ad1 c1 kd1 tg1 tx1 ad2 c2 kd2 tg2 A3 m3 c3,
  e = .returned (.tuple #[aggB kd lv mk st tg inf tx A m c (.slice (some ad1) 1 c1), rv, .int .i64 1]) ∧ KidP w' ad1 kd1 tg1 tx1 (some ad2) 1 c2 ∧ KidP w' ad2 kd2 tg2 ⟨#[97, 10, 98]⟩ A3 m3 c3 ∧ Below w.heap.size w w' := by
 refine (parse_any k1T w (by decide) hG).mono ?_;intro e w' h;have hk := k1_ok;generalize k1T = t at h hk;obtain ⟨⟨y, z, h1, h2, h3⟩, h4⟩ := chk1_facts hk;obtain ⟨kd, lv, mk, st, tg, inf, tx, A, m, c, vk, rv, rfl, hb, _, hbw⟩ := h.open;rw [h4];obtain ⟨ad1, c1, A2, c2, hv, hk1, hp1⟩ := BlksAt.kid (n := fueT t + 1) hb (fun _ h => h) 0 (y := y) (by rw [h1]; rfl);obtain ⟨ad2, c2', A3, c3, hv2, _, hp2⟩ := BlksAt.kid (n := fueT t) hk1 (fun _ h => h) 0 (y := z) (by rw [h2]; rfl);injection hv2 with e1 e2 e3;subst e1;subst e3;rw [h1] at hv;rw [h2] at hp1;rw [add_zero_a] at hp1 hp2;rw [h3] at hp2
 subst hv;exact ⟨kd, lv, mk, st, tg, inf, tx, A, m, c, rv, ad1, c1, _, _, _, ad2, _, _, _, _, _, _, rfl, hp1, hp2, hbw⟩
theorem parse_k2 (w : World) (hG : GlobB w) : Calls Tryz.prog 10 #[.string ⟨#[45, 32, 97, 10, 10, 45, 32, 98]⟩] w fun e w' => ∃ kd lv mk st tg inf tx A m c rv ad1 c1 kd1 tx1 A2 c2 dp,
  e = .returned (.tuple #[aggB kd lv mk st tg inf tx A m c (.slice (some ad1) 1 c1), rv, .int .i64 dp]) ∧ KidP w' ad1 kd1 false tx1 A2 2 c2 ∧ Below w.heap.size w w' := by
 refine (parse_any k2T w (by decide) hG).mono ?_;intro e w' h;have hk := k2_ok;generalize k2T = t at h hk;obtain ⟨y, h1, h2, h3⟩ := chk2_facts hk;obtain ⟨kd, lv, mk, st, tg, inf, tx, A, m, c, vk, rv, rfl, hb, _, hbw⟩ := h.open;obtain ⟨ad1, c1, A2, c2, hv, hk1, hp1⟩ := BlksAt.kid (n := fueT t + 1) hb (fun _ h => h) 0 (y := y) (by rw [h1]; rfl);rw [h1] at hv;rw [h2, h3, add_zero_a] at hp1;subst hv;exact ⟨kd, lv, mk, st, tg, inf, tx, A, m, c, rv, ad1, c1, _, _, _, _, _, rfl, hp1, hbw⟩
theorem parse_k3 (w : World) (hG : GlobB w) : Calls Tryz.prog 10 #[.string ⟨#[91, 97, 93, 58, 32, 98, 10, 99]⟩] w fun e w' => ∃ kd lv mk st tg inf tx A m c ad1 c1 kd1 tg1 A2 m2 c2 g cr dp,
  e = .returned (.tuple #[aggB kd lv mk st tg inf tx A m c (.slice (some ad1) 1 c1), .slice (some ⟨g, 0, none⟩) 1 cr, .int .i64 dp]) ∧ KidP w' ad1 kd1 tg1 ⟨#[99]⟩ A2 m2 c2 ∧ g < w'.heap.size ∧ w'.cell? ⟨g, 1, none⟩ = some (.string ⟨#[98]⟩) ∧ Below w.heap.size w w' := by
 refine (parse_any k3T w (by decide) hG).mono ?_;intro e w' h;have hk := k3_ok;generalize k3T = t at h hk;obtain ⟨y, q, h1, h2, h3, h4⟩ := chk3_facts hk;obtain ⟨kd, lv, mk, st, tg, inf, tx, A, m, c, vk, rv, rfl, hb, hr, hbw⟩ := h.open;obtain ⟨ad1, c1, A2, c2, hv, hk1, hp1⟩ := BlksAt.kid (n := fueT t + 1) hb (fun _ h => h) 0 (y := y) (by rw [h1]; rfl);rw [h1] at hv;rw [h3, add_zero_a] at hp1;subst hv;rw [h2] at hr;obtain ⟨Ar, cr, rfl, hr3⟩ := own_three (l := [q]) hr;obtain ⟨g, rfl, hg, _, hg1, _⟩ := hr3 0 (by simp)
 exact ⟨kd, lv, mk, st, tg, inf, tx, A, m, c, ad1, c1, _, _, _, _, _, g, cr, _, rfl, hp1, hg, (by rw [<- h4]; exact hg1), hbw⟩
theorem parse_k4 (w : World) (hG : GlobB w) : Calls Tryz.prog 10 #[.string ⟨#[124, 97, 124, 98, 124, 10, 124, 45, 124, 45, 124, 10, 124, 49, 124]⟩] w fun e w' => ∃ kd lv mk st tg inf tx A m c rv ad1 c1 tg1 tx1 ad2 c2 kd2 tg2 tx2 A3 c3 dp,
  e = .returned (.tuple #[aggB kd lv mk st tg inf tx A m c (.slice (some ad1) 1 c1), rv, .int .i64 dp]) ∧ KidP w' ad1 10 tg1 tx1 (some ad2) 2 c2 ∧ KidP w' (ad2.add (1 * 10)) kd2 tg2 tx2 A3 1 c3 ∧ Below w.heap.size w w' := by
 refine (parse_any k4T w (by decide) hG).mono ?_;intro e w' h;have hk := k4_ok;generalize k4T = t at h hk;obtain ⟨y, x, z, h1, h2, h3, h4⟩ := chk4_facts hk;obtain ⟨kd, lv, mk, st, tg, inf, tx, A, m, c, vk, rv, rfl, hb, _, hbw⟩ := h.open;obtain ⟨ad1, c1, A2, c2, hv, hk1, hp1⟩ := BlksAt.kid (n := fueT t + 1) hb (fun _ h => h) 0 (y := y) (by rw [h1]; rfl);obtain ⟨ad2, c2', A3, c3, hv2, _, hp2⟩ := BlksAt.kid (n := fueT t) hk1 (fun _ h => h) 1 (y := z) (by rw [h3]; rfl);injection hv2 with e1 e2 e3;subst e1;subst e3;rw [h1] at hv;rw [h3, h2, add_zero_a] at hp1;rw [h4] at hp2;subst hv
 exact ⟨kd, lv, mk, st, tg, inf, tx, A, m, c, rv, ad1, c1, _, _, ad2, _, _, _, _, _, _, _, rfl, hp1, hp2, hbw⟩
theorem known_any (w : World) (hG : GlobB w) : Calls Tryz.prog 8 #[] w fun e w' => e = .returned (.bool true) ∧ Below w.heap.size w w' := by
 have HG := hdn hG;have HK1 := hdn (parse_k1 w hG);have HK2 := hdn fun w' (h : Below w.heap.size w w') => parse_k2 w' (hG.later h);have HK3 := hdn fun w' (h : Below w.heap.size w w') => parse_k3 w' (hG.later h);have HK4 := hdn fun w' (h : Below w.heap.size w w') => parse_k4 w' (hG.later h);clear hG;unfold aggB at HK1 HK2 HK3 HK4;go_enter Tryz.func8, Tryz.ntmps8;go_wp2_with fail;refine cMq HK1.out ?_;rintro e w1 ⟨kd, lv, mk, st, tg, inf, tx, A, m, c, rv, ad1, c1, kd1, tg1, tx1, ad2, c2, kd2, tg2, A3, m3, c3, rfl, p1, p2, b1⟩
 have P1 := hdn p1; have P2 := hdn p2; have B1 := hdn b1;clear p1 p2 b1;go_wp2_with fail;refine cMq (HK2.out _ (B1.out.alloc B1.out.size _)) ?_;rintro e w2 ⟨kd', lv', mk', st', tg', inf', tx', A', m', c', rv', ad1', c1', kd1', tx1', A2', c2', dp', rfl, p3, b2⟩;have P3 := hdn p3; have B2 := hdn b2;have R1 := hdn ((b2.block _ (by simp)).trans (heap_alloc_new w1 _));have B12 := hdn (((Below.refl _ w1).alloc (Nat.le_refl _) _).trans (b2.mono (by simp)));have hs1 : w1.heap.size < w2.heap.size := Nat.lt_of_lt_of_le (by simp) b2.size;have BW2 := hdn (B1.out.trans (B12.out.mono B1.out.size))
 clear p3 b2;go_wp2_with fail;refine cMq (HK3.out _ (BW2.out.alloc BW2.out.size _)) ?_;rintro e w3 ⟨kd3, lv3, mk3, st3, tg3, inf3, tx3, AA3, mm3, cc3, ad3, c13, kd13, tg13, A23, m23, c23, gr, cr, dp3, rfl, p4, hgr, hcr, b3⟩;have P4 := hdn p4; have B3 := hdn b3;have R2 := hdn ((b3.block _ (by simp)).trans (heap_alloc_new w2 _));have B23 := hdn (((Below.refl _ w2).alloc (Nat.le_refl _) _).trans (b3.mono (by simp)));have hs2 : w2.heap.size < w3.heap.size := Nat.lt_of_lt_of_le (by simp) b3.size;have BW3 := hdn (BW2.out.trans (B23.out.mono BW2.out.size));have HCr := hdn hcr;clear p4 b3 hcr
 go_wp2_with fail;refine cMq (HK4.out _ (BW3.out.alloc BW3.out.size _)) ?_;rintro e w4 ⟨kd4, lv4, mk4, st4, tg4, inf4, tx4, AA4, mm4, cc4, rv4, ad4, c14, tg14, tx14, ad24, c24, kd24, tg24, tx24, A34, c34, dp4, rfl, p5, p6, b4⟩;have R3 := hdn ((b4.block _ (by simp)).trans (heap_alloc_new w3 _));have B34 := hdn (((Below.refl _ w3).alloc (Nat.le_refl _) _).trans (b4.mono (by simp)));have hs3 : w3.heap.size < w4.heap.size := Nat.lt_of_lt_of_le (by simp) b4.size;have BW4 := hdn (BW3.out.trans (B34.out.mono BW3.out.size));have ba := fun o => (Below.refl _ w4).alloc (Nat.le_refl _) o
 have q1 := fun o => (P1.out.later (B12.out.trans ((B23.out.trans (B34.out.mono B23.out.size)).mono B12.out.size))).later (ba o);have q2 := fun o => (P2.out.later (B12.out.trans ((B23.out.trans (B34.out.mono B23.out.size)).mono B12.out.size))).later (ba o);have q3 := fun o => (P3.out.later (B23.out.trans (B34.out.mono B23.out.size))).later (ba o);have q4 := fun o => (P4.out.later B34.out).later (ba o);have q5 := fun o => p5.later (ba o);have q6 := fun o => p6.later (ba o);have u12 := fun o => (q1 o).2.2.2.2; have u21 := fun o => (q2 o).2.2.2.1
 have u31 := fun o => (q3 o).2.2.1; have u32 := fun o => (q3 o).2.2.2.2;have u41 := fun o => (q4 o).2.2.2.1;have u51 := fun o => (q5 o).2.1; have u52 := fun o => (q5 o).2.2.2.2;have u61 := fun o => (show (w4.alloc o).cell? ⟨ad24.block, ad24.off + 10 + 8, none⟩ = some (.slice A34 1 c34) from (q6 o).2.2.2.2);have ucr := fun o => ((ba o).cell (p := ⟨gr, 1, none⟩) (by show gr < _; omega)).trans ((B34.out.cell (p := ⟨gr, 1, none⟩) hgr).trans HCr.out)
 have v1 := fun o i => cell_of_row (w4.alloc o) w1.heap.size i _ _ _ (((ba o).block _ (by omega)).trans ((B34.out.block _ (by omega)).trans ((B23.out.block _ (by omega)).trans R1.out)));have v2 := fun o i => cell_of_row (w4.alloc o) w2.heap.size i _ _ _ (((ba o).block _ (by omega)).trans ((B34.out.block _ (by omega)).trans R2.out));have v3 := fun o i => cell_of_row (w4.alloc o) w3.heap.size i _ _ _ (((ba o).block _ (by omega)).trans R3.out);clear q1 q2 q3 q4 q5 q6 ba p5 p6 b4;go_wp2;go_ret;exact ⟨rfl, BW4.out.alloc BW4.out.size _⟩
end
end Go.Proofs.YtebfjlfkofibpaaGreatDoor
