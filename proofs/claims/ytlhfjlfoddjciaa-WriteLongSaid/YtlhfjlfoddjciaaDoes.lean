/- WriteDoes: Fragment of any nodes is the reference's text, and the nodes stay. Proved for every input; no condition. -/
import Derived.Test.YtlhfjlfoddjciaaLaw2
import Derived.Test.YtlhfjlfoddjciaaOpen
import Derived.Carry
namespace Go.Proofs.Ytlhfjlfoddjciaa
open Go.ChangeShapes Go.WideShapes Go.ChangeAt Go.RowKit

set_option maxHeartbeats 2000000 in
theorem does_law (n : Nat) (v : Value) (l : List (NT n)) (w : World) (hG : Glob w) (h : NodesAt n w (fun k => k < w.heap.size) v l) : Calls Try.prog 3 #[v] w (Yes w) := by
  have HG := Lib.hid hG
  have H := Lib.hid h
  have hpos := hG.pos
  obtain ⟨A, m, c, rfl⟩ := h.shape
  clear h hG
  go_enter Try.func3, Try.ntmps3
  go_wp2_with fail
  refine Calls.mono (nodes_cnt n _ l 0 800 _ _ H.out (by decide) (by decide) (by decide) (by decide)) ?_
  rintro e w1 ⟨r, rfl, ⟨c1, c2, c3, c4⟩, d, rfl⟩
  by_cases hr : 800 < r
  · go_wp2
    go_ret
    exact ⟨rfl, below_drewN (Below.refl _ _) d⟩
  · have hw : wt n l ≤ 1000000 := by have := c3 (by omega); omega
    clear c1 c2 c3 c4
    go_wp2_with fail
    refine Calls.mono (lent_nodes n _ l _ _ (H.out.drewN d) (fun k hk => hk) hw) ?_
    rintro e w2 ⟨v', rfl, b2, h2⟩
    obtain ⟨A', m', c', rfl⟩ := h2.shape
    have H2 := Lib.hid h2
    clear h2
    go_wp2_with fail
    refine Calls.mono (fragment_any n _ l _ _ (fun k hk => hk.2) ((HG.out.drewN d).below b2 hpos) H2.out hw) ?_
    rintro e w3 ⟨rfl, b3⟩
    go_wp2_with fail
    refine Calls.mono (known_any _ (((HG.out.drewN d).below b2 hpos).below b3 (Nat.lt_of_lt_of_le hpos b2.size))) ?_
    rintro e w4 ⟨rfl, b4⟩
    have hz2 : w.heap.size ≤ w2.heap.size := b2.size
    have hz3 := b3.size
    have hz4 := b4.size
    have b14 : Below w.heap.size w w4 := (((below_drewN (Below.refl _ w) d).trans b2).trans (b3.mono hz2)).trans (b4.mono (Nat.le_trans hz2 hz3))
    have b24 : Below w2.heap.size w2 w4 := b3.trans (b4.mono hz3)
    go_wp2_with fail
    refine Calls.mono (reffrag_all n _ l (fun k => k < w.heap.size) _ (fun k hk => by omega) (NodesAt.keep (fun k hk => b14.block k hk) n H.out) hw) ?_
    rintro e w5 ⟨rfl, b5⟩
    have hz5 := b5.size
    go_wp2_with fail
    refine Calls.mono (same_nodes n _ _ l (New (w.drewN d) w2) (fun k => k < w.heap.size) _ (NodesAt.keep (fun k hk => (b24.trans (b5.mono (by omega))).block k hk.2) n H2.out) (NodesAt.keep (fun k hk => (b14.trans (b5.mono (by omega))).block k hk) n H.out) (fun k hk => Nat.lt_of_lt_of_le hk.2 (Nat.le_trans (Nat.le_trans hz3 hz4) hz5)) (fun k hk => Nat.lt_of_lt_of_le hk (b14.trans (b5.mono (by omega))).size)) ?_
    rintro e w6 ⟨rfl, b6⟩
    go_wp2
    go_ret
    exact ⟨rfl, (b14.trans (b5.mono (by omega))).trans (b6.mono (by omega))⟩

theorem laid_ : laidOutB Try.prog = true := by kernel_rfl
theorem read22 : Try.prog.readableRec 22 = true := by kernel_rfl

set_option maxRecDepth 100000 in
theorem does_lifted (os : Os) (started : os.Started) (H : Type) (enc : TypeId × Value → H) :
    ReturnsInHanded {} Try.checked os 3 .any (Rows.writeDoesSpec.pre6 enc Try.prog Try.f3 Rows.writeDoesRow.domain false) (Rows.writeDoesSpec.post enc Try.prog Try.f3 false true false false) := by
  refine returnsInHanded_of_change_shaped (C := Try.checked) own_ started (by kernel_rfl) Try.func3
    (ChangeSpec.witness6 (enc := enc) (C := Try.checked) false ⟨#[], #[.slice none 0 0], []⟩ 8 (by kernel_rfl) (by kernel_rfl) (by kernel_rfl) (by kernel_rfl)) ?_
  intro W base args ds gs before hval0 hW _ _ hsh _
  have hval : ∀ (j : Nat) t v, Try.f3.params[j]? = some t → args[j]? = some v → Value.okWide Try.prog W .any base t v := hval0
  have hW' := hW
  have hlt := hW.lt
  obtain ⟨p, q, hA0, hV, rfl, hfz, hnd⟩ := hW
  have hA : DataW.TrodAll enc Try.prog W 0 (fun _ => true) true Try.f3.params.toList args.toList ds p := hA0
  rw [Try.params3] at hA hval
  obtain ⟨v0, d0, rfl, rfl, h0⟩ := trodAll_one hA
  obtain ⟨rfl, rfl⟩ := trodVars_none hV
  obtain ⟨A, m, c, rfl⟩ := okWide_slice Try.underlying22 (hval 0 22 v0 rfl rfl)
  have h0' := h0
  obtain ⟨fuel, hf⟩ := h0
  obtain ⟨l, hl⟩ := nodes_read _ (Nat.le_refl _) hf
  clear hA0 hval0
  simp only [List.append_nil] at hW' hlt
  refine (does_law _ _ l W (glob_of hsh) hl).mono fun e W' ⟨he, hb⟩ => ?_
  subst he
  exact ⟨_, rfl, post_below (pv := []) hW' (fun _ _ _ => trodAll_mk1 (shut_bool Try.underlying4 true)) (fun sp hsp => trodAll_mk1 (WideElems.Trod_stays laid_ read22 (of_decide_eq_true (by kernel_rfl)) h0' (fun x hx => hb.same (hlt x hx)) hsp)) (fun _ _ => rfl) (by simp) hb (ok_one (by kernel_rfl) rfl (okWide_bool_mk Try.underlying4 true))⟩

theorem does_holds : Rows.WriteDoesSaid :=
  OpenClaim.holds_of_wide 3 Try.f3 rfl rfl rfl rfl rfl rfl rfl ⟨rfl, rfl, rfl, rfl, rfl⟩ rfl rfl rfl rfl rfl (by kernel_rfl) Try.func3 (by kernel_rfl)
    (of_decide_eq_true (by kernel_rfl)) (by unfold Func.isWrapper; rw [if_neg (of_decide_eq_false (by kernel_rfl))]; exact ⟨rfl, rfl⟩)
    (fun os started H enc _ => does_lifted os started H enc)
end Go.Proofs.Ytlhfjlfoddjciaa
