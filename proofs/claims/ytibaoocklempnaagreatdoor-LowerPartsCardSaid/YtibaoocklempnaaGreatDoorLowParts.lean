/- LowerParts: inlines one behind the other are written one behind the other; so are a document's blocks. Proved for every input; the listed tables of packages math/bits and internal/strconv are tied to the library's text by the given tie; no other condition. -/
import Derived.Test.YtibaoocklempnaaGreatDoorLift30b
import Derived.Test.YtibaoocklempnaaGreatDoorPartsLaw
import Derived.Test.YtibaoocklempnaaGreatDoorOpenB
namespace Go.Proofs.YtibaoocklempnaaGreatDoor
open Go.ChangeShapes Go.WideShapes Go.ChangeAt Go.RowKit
open Go.ChangeMaps (open_string shut_string)

theorem i64_wf {k : Int} (h : (Lit.int .i64 k).wf = true) : -9223372036854775808 ≤ k ∧ k ≤ 9223372036854775807 := by
  simp only [Lit.wf, Bool.and_eq_true, decide_eq_true_eq] at h
  have h0 : IntKind.i64.min = -9223372036854775808 := by decide
  have h1 : IntKind.i64.max = 9223372036854775807 := by decide
  rw [h0, h1] at h
  exact h

set_option maxRecDepth 100000 in
theorem lowerParts_lifted (os : Os) (started : os.Started) (H : Type) (enc : TypeId × Value → H) :
    ReturnsInHanded {} Tryz.checked os 10 .any (fun w args => (Rows.lowerPartsSpec.pre enc Tryz.prog Tryz.f10 [] false w args ∧ laidMetH Tryz.prog Rows.lowerPartsRow.laid w) ∧ sizedMet enc Tryz.prog Tryz.f10 (OpenSpec.ofChange Rows.lowerPartsSpec) false w args)
      (Rows.lowerPartsSpec.post enc Tryz.prog Tryz.f10 false true false false) := by
  refine returnsInHanded_and_shaped_sized (C := Tryz.checked) (X := fun w _ => laidMetH Tryz.prog Rows.lowerPartsRow.laid w) (fun _ _ _ hh h => h.of_heap hh) own_ started (by kernel_rfl) Tryz.func10
    (ChangeSpec.witness_shaped (enc := enc) (C := Tryz.checked) (os := os) (X := fun w _ => laidMetH Tryz.prog Rows.lowerPartsRow.laid w) false (World.laidAll Tryz.prog os Rows.lowerPartsRow.laid) #[.slice none 0 0, .int .i64 0, .slice none 0 0] 8 (World.laidAll_os _ _ _)
      (World.shaped_of_ZipB (by kernel_rfl) (by kernel_rfl)) (by kernel_rfl) (by kernel_rfl) (by kernel_rfl)
      (by rw [MakeChecks.laidMetH_plain _ _ _ (by kernel_rfl)]; exact laidMet_laidAll _ (by kernel_rfl) (by kernel_rfl))) ?_
  intro W base args ds gs before hval0 hW hsh hL hsz
  have hval : ∀ (j : Nat) t v, Tryz.f10.params[j]? = some t → args[j]? = some v → Value.okWide Tryz.prog W .any base t v := hval0
  have hW' := hW
  have hlt := hW.lt
  have hwts := hsz.weights hW
  obtain ⟨p, q, hA0, hV, rfl, _, _⟩ := hW
  have hA : DataW.TrodAll enc Tryz.prog W 0 (fun _ => true) true Tryz.f10.params.toList args.toList ds p := hA0
  rw [Tryz.params10] at hA hval
  obtain ⟨v0, v1, v2, d0, d1, d2, p0, p1, p2, rfl, rfl, rfl, h0, h1, h2⟩ := trodAll_three hA
  obtain ⟨rfl, rfl⟩ := trodVars_none hV
  obtain ⟨A, m, c, rfl⟩ := okWide_slice Tryz.underlying31 (hval 0 31 v0 rfl rfl)
  obtain ⟨A2, m2, c2, rfl⟩ := okWide_slice Tryz.underlying37 (hval 2 37 v2 rfl rfl)
  obtain ⟨k, rfl, rfl, rfl, hk⟩ := open_int Tryz.underlying3 (hval 1 3 v1 rfl rfl) h1
  have h0' := h0
  have h2' := h2
  obtain ⟨fuel, hf⟩ := h0
  obtain ⟨fuel2, hf2⟩ := h2
  have hfit : Fit Tryz.prog 37 d2 := fun n hn => by
    have := List.all_eq_true.1 hwts n (by
      rw [Tryz.params10]
      exact DataW.weights_mem_each (j := 2) (t := 37) (d := d2) rfl rfl n hn)
    simpa using this
  obtain ⟨l, hl⟩ := inls_read _ (Nat.le_refl _) hf
  obtain ⟨l2, hl2, hcap2⟩ := blks_read _ (Nat.le_refl _) hfit hf2
  have hcap : CapOk (.slice A m c) := by
    rcases Go.Deep.open_slice Tryz.underlying31 hf with ⟨e, _⟩ | ⟨a, len, cap, m', n', D, Pl, e, _, hl', hm, _⟩
    · simp [Value.cells] at e
      obtain ⟨rfl, rfl, rfl⟩ := e
      exact fun A' m' c' e => by cases e; exact ⟨Nat.le_refl _, by decide, fun _ => rfl⟩
    · simp [Value.cells] at e
      obtain ⟨rfl, rfl, rfl⟩ := e
      unfold maxLen at hm
      exact fun A' m' c' e => by cases e; exact ⟨hl', by omega, fun h => by cases h⟩
  clear hA0 hval0
  simp only [List.append_nil] at hW' hlt
  refine (parts_law _ A m c l k _ A2 m2 c2 l2 W (pow_of rfl hL) hl hcap hl2 hcap2 (i64_wf hk)).mono fun e W' ⟨he, hb⟩ => ?_
  subst he
  exact ⟨_, rfl, post_below (pv := []) hW' (fun _ _ _ => trodAll_mk1 (shut_bool Tryz.underlying4 true)) (fun sp hsp => trodAll_mk3 (WideElems.Trod_stays laid_ (by kernel_rfl) (of_decide_eq_true (by kernel_rfl)) h0' (fun x hx => hb.same (hlt x (by simp; exact .inl hx))) (fun x hx => hsp x (by simp; exact .inl hx))) (shut_int Tryz.underlying3 hk) (WideElems.Trod_stays laid_ (by kernel_rfl) (of_decide_eq_true (by kernel_rfl)) h2' (fun x hx => hb.same (hlt x (by simp; exact .inr hx))) (fun x hx => hsp x (by simp; exact .inr hx)))) (fun _ _ => rfl) (by simp) hb (ok_one (by kernel_rfl) rfl (okWide_bool_mk Tryz.underlying4 true))⟩

theorem lowerParts_holds : Rows.LowerPartsSaid :=
  OpenClaim.holds_of_wide 10 Tryz.f10 rfl rfl rfl rfl rfl rfl rfl ⟨rfl, rfl, rfl, rfl, rfl⟩ rfl rfl rfl rfl rfl (by kernel_rfl) Tryz.func10 (by kernel_rfl)
    (of_decide_eq_true (by kernel_rfl)) (by unfold Func.isWrapper; first | (rw [if_pos (by decide +kernel)]; kernel_rfl) | (rw [if_neg (by decide +kernel)]; exact ⟨rfl, rfl⟩))
    (fun os started H enc _ => lowerParts_lifted os started H enc)

theorem lowerParts_card : Rows.LowerPartsCardSaid :=
  Claim7.holds_tied_plain_at .later [] [.data, .data, .data] true _ true
    lowerParts_holds (fun _ h => by cases h) (by kernel_rfl) (fun _ h => by cases h) lowerParts_row_tie rfl ⟨rfl, rfl⟩ (by kernel_rfl) rfl
    (fun f fn hf hfn => by
      obtain rfl : f = 10 := Option.some.inj ((show Tryz.prog.funcNamed "tympan/tympanlaw30.LowerParts" = some 10 by kernel_rfl).symm.trans hf) |>.symm
      obtain rfl : fn = Tryz.f10 := (Option.some.inj (Tryz.func10.symm.trans hfn)).symm
      exact ⟨by kernel_rfl, fun j t ht => by
        rw [Tryz.params10] at ht
        have hm : t ∈ [31, 3, 37] := by simpa using Array.mem_of_getElem? ht
        have hall : ([31, 3, 37].all fun u => !Tryz.prog.wantsStandIn u) = true := by kernel_rfl
        exact (show Tryz.prog.wantsStandIn t = false by simpa using List.all_eq_true.1 hall t hm)⟩)
    (by kernel_rfl)
end Go.Proofs.YtibaoocklempnaaGreatDoor
