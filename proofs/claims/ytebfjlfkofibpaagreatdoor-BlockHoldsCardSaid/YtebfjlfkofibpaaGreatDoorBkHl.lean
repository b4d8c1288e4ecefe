/- The law on what holds. -/
import Derived.Test.YtebfjlfkofibpaaGreatDoorBkHw
import Derived.Test.YtebfjlfkofibpaaGreatDoorBkKn
namespace Go.Proofs.YtebfjlfkofibpaaGreatDoor
set_option maxHeartbeats 4000000
set_option maxRecDepth 100000
open Go.RowKit
theorem told_kind (f : Nat) (r : Rd) (i : Nat) : BD.kind (K := List (TR (f + 2))) (toldF f r i) = (r.nd i).kind := by
 cases f <;> rfl
theorem hol_law (A : Option Addr) (m c : Nat) (l : List UInt8) (w : World) (hl : SlU8 w (.slice A m c) l) (hll : l.length ≤ 9223372036854775807) (hG : GlobB w) : Calls Tryz.prog 5 #[.slice A m c] w fun e w' => e = .returned (.bool true) ∧ Below w.heap.size w w' := by
 have hm : m = l.length := by obtain ⟨_, _, _, e, h, _⟩ := hl; cases e; exact h
 have HK := hdn (known_any w hG)
 by_cases hb : 1200 < m
 ·have hbi : (1200 : Int) < (m : Int) := by omega
  clear hl hm
  go_enter Tryz.func5, Tryz.ntmps5
  go_wp2_with fail
  refine Calls.mono HK.out ?_
  rintro e w1 ⟨rfl, hb1⟩
  go_wp2
  go_ret
  exact ⟨rfl, hb1⟩
 ·have hbi : ¬ (1200 : Int) < (m : Int) := by omega
  have ht := textL_len l
  obtain ⟨t, hte⟩ : ∃ t : ByteArray, (⟨(textL l).toArray⟩ : ByteArray) = t := ⟨_, rfl⟩
  have hts : t.size ≤ 10000 := by
   rw [<- hte]
   show (textL l).toArray.size ≤ _
   simp
   omega
  have HT := hdn fun w' (h : Below w.heap.size w w') => show Calls Tryz.prog _ #[.slice A m c] w' (StrR w' (textL l)) from reftext_any (.slice A m c) l w' (by omega) (hl.later h)
  unfold StrR at HT
  rw [hte] at HT
  have HP := hdn fun w' (h : Below w.heap.size w w') => parse_any t w' hts (hG.later h)
  obtain ⟨f1, f2, f3, f4, f5⟩ := fin_facts hts
  have hhold := told_hold f1 f2 (fueT t) 0 0 f5 (by unfold fueT; omega) (by rw [f4]; decide) (by decide) (by decide) (fun e => by rw [f4] at e; cases e)
  have hfew : fueT t ≤ 100000 := f1.few
  have HHo := hdn (hol_all (fueT t + 2) (by omega))
  obtain ⟨fu, hfu⟩ : ∃ fu, fueT t = fu := ⟨_, rfl⟩
  have HPp := hdn fun w' h => (HP.out w' h)
  unfold ParseR at HP
  clear hl hm ht hte f2 f3 f5 hG
  go_enter Tryz.func5, Tryz.ntmps5
  go_wp2_with fail
  refine Calls.mono HK.out ?_
  rintro e w1 ⟨rfl, hb1⟩
  have HB1 := hdn hb1
  clear hb1
  go_wp2_with fail
  refine Calls.mono (HT.out w1 HB1.out) ?_
  rintro e w2 ⟨rfl, hb2⟩
  have HB2 := hdn (HB1.out.trans (hb2.mono HB1.out.size))
  clear hb2
  go_wp2_with fail
  refine Calls.mono (HP.out w2 HB2.out) ?_
  rintro e w3 ⟨va, vk, rv, rfl, ha, hk, _, hb3⟩
  have HB3 := hdn (HB2.out.trans (hb3.mono HB2.out.size))
  have hkd : BD.kind (K := List (TR (fueT t + 2))) (treT t) = 1 := (told_kind _ _ _).trans f4
  obtain ⟨A1, m1, c1, hva, -⟩ := id ha.1
  obtain ⟨A2, c2, hvk⟩ := hk.form
  obtain ⟨N2, hN2⟩ : ∃ N2, vk = .slice A2 N2 c2 := ⟨_, hvk⟩
  clear hvk
  subst hva
  subst hN2
  have hho := fun (o : Obj) => HHo.out (treT t) (.slice A1 m1 c1) (.slice A2 N2 c2) (fun k => k < w3.heap.size) (w3.alloc o) 0 (ha.keep fun b hb => Below.heap_alloc _ _ _ hb) (BlksAt.keep (fun b hb => Below.heap_alloc _ _ _ hb) _ hk) (fun b hb => by show b < (w3.alloc o).heap.size; simp; omega) hhold.1
  have hdx : deepX (fueT t + 2 + 1) (treT t) = deepT (fueT t) (finT t) 0 := hhold.2
  rw [hdx] at hho
  obtain ⟨DP, hDP⟩ : ∃ DP, deepT (fueT t) (finT t) 0 = DP := ⟨_, rfl⟩
  rw [hDP] at hho ⊢
  rw [hkd] at hho ⊢
  have HH := hdn hho
  clear hho ha hk hb3 hhold hdx hDP hkd f4 f1
  unfold blkCs at HH ⊢
  go_wp2_with fail
  refine Calls.mono (HH.out _) ?_
  rintro e w4 ⟨rfl, hb4⟩
  go_wp2
  go_ret
  exact ⟨rfl, (HB3.out.alloc HB3.out.size _).trans (hb4.mono (by simp; have := HB3.out.size; omega))⟩
end Go.Proofs.YtebfjlfkofibpaaGreatDoor
