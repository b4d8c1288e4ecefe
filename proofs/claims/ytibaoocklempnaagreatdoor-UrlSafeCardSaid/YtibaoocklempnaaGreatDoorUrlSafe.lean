/- UrlSafe: for every text and all schemes, Safe of package url is that of the reference. Proved for every input; the two listed tables of package unicode/utf8 are tied to the library's text by the given tie; no other condition. -/
import Derived.Test.YtibaoocklempnaaGreatDoorLift
import Derived.SliceStrings
import Derived.Carry
namespace Go.Proofs.YtibaoocklempnaaGreatDoor
open Go.ChangeShapes Go.WideShapes Go.ChangeAt Go.RowKit
open Go.ChangeMaps (open_string shut_string)

theorem strs_cells : Tryz.prog.cellsOf 9 = 1 := by kernel_rfl
theorem strs_laid : laidOutB Tryz.prog = true := by kernel_rfl
theorem strs_readable : Tryz.prog.readableRec 27 = true := by kernel_rfl
theorem strs_read {H : Type} {enc : TypeId × Value → H} {W : World} {A : Option Addr} {m c : Nat} {d : DataW H} {p : List MemPlace} (h : DataW.Trod enc Tryz.prog W 0 (fun _ => true) true 27 (.slice A m c) d p) :
    ∃ l, l.length ≤ 9223372036854775807 ∧ StrsAt (fun k => k < W.heap.size) W (.slice A m c) l := by
  obtain ⟨fuel, hf⟩ := h
  rcases open_strings Tryz.underlying27 Tryz.underlying9 strs_cells hf with ⟨hcs, _⟩ | ⟨a, len, cap, ss, hcs, _, hl, hm, hz, _, hcell, _⟩
  · simp [Value.cells] at hcs
    obtain ⟨rfl, rfl, rfl⟩ := hcs
    exact ⟨[], by simp, none, 0, rfl, fun h => absurd h (Nat.lt_irrefl 0)⟩
  · simp [Value.cells] at hcs
    obtain ⟨rfl, rfl, rfl⟩ := hcs
    rw [if_pos rfl] at hz
    unfold maxLen at hm
    refine ⟨ss.take m, by rw [List.length_take]; omega, some a, c, by rw [List.length_take, hz, Nat.min_eq_left hl], fun h0 => ?_⟩
    have hlen : (ss.take m).length = m := by rw [List.length_take, hz, Nat.min_eq_left hl]
    rw [hlen] at h0 ⊢
    have hc0 := hcell 0 (by omega)
    have hsp := World.cell?_spot hc0
    obtain ⟨b, off, spot⟩ := a
    have hspot : spot = none := by simpa [Addr.add] using hsp
    subst hspot
    have hadd : ∀ j, (⟨b, off, none⟩ : Addr).add j = ⟨b, off + j, none⟩ := fun j => by unfold Addr.add; split <;> simp_all
    have hb := lt_cell hc0
    rw [hadd] at hb
    refine ⟨b, off, rfl, hb, fun j hj => ?_⟩
    have := hcell j (by omega)
    rw [hadd] at this
    rw [this, List.getD, List.getD, List.getElem?_take_of_lt hj]

set_option maxRecDepth 100000 in
theorem urlSafe_lifted (os : Os) (started : os.Started) (H : Type) (enc : TypeId × Value → H) :
    ReturnsInHanded {} Tryz.checked os 6 .any (fun w args => (Rows.urlSafeSpec.pre enc Tryz.prog Tryz.f6 [] false w args ∧ laidMetH Tryz.prog Rows.urlSafeRow.laid w) ∧ sizedMet enc Tryz.prog Tryz.f6 (OpenSpec.ofChange Rows.urlSafeSpec) false w args)
      (Rows.urlSafeSpec.post enc Tryz.prog Tryz.f6 false true false false) := by
  refine returnsInHanded_and_shaped (C := Tryz.checked) (X := fun w _ => laidMetH Tryz.prog Rows.urlSafeRow.laid w) (fun _ _ _ hh h => h.of_heap hh) own_ started (by kernel_rfl) Tryz.func6
    (ChangeSpec.witness_shaped (enc := enc) (C := Tryz.checked) (os := os) (X := fun w _ => laidMetH Tryz.prog Rows.urlSafeRow.laid w) false (World.laidAll Tryz.prog os Rows.urlSafeRow.laid) #[.string ⟨#[]⟩, .slice none 0 0] 8 (World.laidAll_os _ _ _)
      (World.shaped_of_ZipB (by kernel_rfl) (by kernel_rfl)) (by kernel_rfl) (by kernel_rfl) (by kernel_rfl)
      (by rw [MakeChecks.laidMetH_plain _ _ _ (by kernel_rfl)]; exact laidMet_laidAll _ (by kernel_rfl) (by kernel_rfl))) ?_
  intro W base args ds gs before hval0 hW hsh hL
  have hval : ∀ (j : Nat) t v, Tryz.f6.params[j]? = some t → args[j]? = some v → Value.okWide Tryz.prog W .any base t v := hval0
  have hW' := hW
  have hlt := hW.lt
  obtain ⟨p, q, hA0, hV, rfl, _, _⟩ := hW
  have hA : DataW.TrodAll enc Tryz.prog W 0 (fun _ => true) true Tryz.f6.params.toList args.toList ds p := hA0
  rw [Tryz.params6] at hA hval
  obtain ⟨v0, v1, d0, d1, p0, p1, rfl, rfl, rfl, h0, h1⟩ := trodAll_two hA
  obtain ⟨rfl, rfl⟩ := trodVars_none hV
  obtain ⟨s, rfl, rfl, rfl, ws⟩ := open_string Tryz.underlying9 (hval 0 9 v0 rfl rfl) h0
  obtain ⟨A, m, c, rfl⟩ := okWide_slice Tryz.underlying27 (hval 1 27 v1 rfl rfl)
  obtain ⟨sc, hscl, hsc⟩ := strs_read h1
  clear hA0 hval0
  simp only [List.append_nil, List.nil_append] at hW' hlt
  refine (safe_law s _ sc W ⟨tabs_of rfl hL, max_of hsh⟩ (by unfold maxLen at ws; omega) hsc hscl).mono fun e W' ⟨he, hb⟩ => ?_
  subst he
  exact ⟨_, rfl, post_below (pv := []) hW' (fun _ _ _ => trodAll_mk1 (shut_bool Tryz.underlying4 true)) (fun sp hsp => trodAll_mk2 (shut_string Tryz.underlying9 ws) (WideElems.Trod_stays strs_laid strs_readable (of_decide_eq_true (by kernel_rfl)) h1 (fun x hx => hb.same (hlt x hx)) hsp)) (fun _ _ => rfl) (by simp) hb (ok_one (by kernel_rfl) rfl (okWide_bool_mk Tryz.underlying4 true))⟩

theorem urlSafe_holds : Rows.UrlSafeSaid :=
  OpenClaim.holds_of_wide 6 Tryz.f6 rfl rfl rfl rfl rfl rfl rfl ⟨rfl, rfl, rfl, rfl, rfl⟩ rfl rfl rfl rfl rfl (by kernel_rfl) Tryz.func6 (by kernel_rfl)
    (of_decide_eq_true (by kernel_rfl)) (by unfold Func.isWrapper; first | (rw [if_pos (by decide +kernel)]; kernel_rfl) | (rw [if_neg (by decide +kernel)]; exact ⟨rfl, rfl⟩))
    (fun os started H enc _ => urlSafe_lifted os started H enc)

theorem urlSafe_card : Rows.UrlSafeCardSaid :=
  Claim7.holds_tied_plain_at .later [] [.data, .pinned] true _ true
    urlSafe_holds (fun _ h => by cases h) (by kernel_rfl) (fun _ h => by cases h) urlSafe_row_tie rfl ⟨rfl, rfl⟩ (by kernel_rfl) rfl
    (fun f fn hf hfn => by
      obtain rfl : f = 6 := Option.some.inj ((show Tryz.prog.funcNamed "tympan/tympanlaw04.UrlSafe" = some 6 by kernel_rfl).symm.trans hf) |>.symm
      obtain rfl : fn = Tryz.f6 := (Option.some.inj (Tryz.func6.symm.trans hfn)).symm
      exact ⟨by kernel_rfl, fun j t ht => by
        rw [Tryz.params6] at ht
        have hm : t ∈ [9, 27] := by simpa using Array.mem_of_getElem? ht
        have hall : ([9, 27].all fun u => !Tryz.prog.wantsStandIn u) = true := by kernel_rfl
        exact (show Tryz.prog.wantsStandIn t = false by simpa using List.all_eq_true.1 hall t hm)⟩)
    (by kernel_rfl)
end Go.Proofs.YtibaoocklempnaaGreatDoor
