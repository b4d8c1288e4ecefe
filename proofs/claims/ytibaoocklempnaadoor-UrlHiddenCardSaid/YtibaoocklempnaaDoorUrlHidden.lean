/- UrlHidden: for every text, cuts and front, an address has the scheme that it has without what browsers leave out. Proved for every input; the two listed tables of package unicode/utf8 are tied to the library's text by the given tie; no other condition. -/
import Derived.Test.YtibaoocklempnaaDoorLift
import Derived.Test.YtibaoocklempnaaDoorHidden
import Derived.ChangeSlices
import Derived.Carry
namespace Go.Proofs.YtibaoocklempnaaDoor
open Go.ChangeShapes Go.WideShapes Go.ChangeAt Go.RowKit
open Go.ChangeMaps (open_string shut_string)

theorem nums_cells : Tryd.prog.cellsOf 25 = 1 := by kernel_rfl
theorem nums_laid : laidOutB Tryd.prog = true := by kernel_rfl
theorem nums_readable : Tryd.prog.readableRec 22 = true := by kernel_rfl
theorem u16_wf {n : Int} (h : (Lit.int .u16 n).wf = true) : 0 ≤ n ∧ n < 65536 := by
  have h' : (decide (IntKind.u16.min ≤ n) && decide (n ≤ IntKind.u16.max)) = true := h
  simp only [Bool.and_eq_true, decide_eq_true_eq] at h'
  have e1 : IntKind.u16.min = 0 := by decide
  have e2 : IntKind.u16.max = 65535 := by decide
  omega
theorem nums_read {H : Type} {enc : TypeId × Value → H} {W : World} {A : Option Addr} {m c : Nat} {d : DataW H} {p : List MemPlace} (h : DataW.Trod enc Tryd.prog W 0 (fun _ => true) true 22 (.slice A m c) d p) :
    ∃ l, l.length ≤ 9223372036854775807 ∧ NumsAt W (.slice A m c) l := by
  obtain ⟨fuel, hf⟩ := h
  rcases open_ints Tryd.underlying22 Tryd.underlying25 nums_cells hf with ⟨hcs, _⟩ | ⟨a, len, cap, zs, hcs, _, hl, hm, hz, _, hcell, hwf⟩
  · simp [Value.cells] at hcs
    obtain ⟨rfl, rfl, rfl⟩ := hcs
    exact ⟨[], by simp, none, 0, rfl, by simp, fun h => absurd h (Nat.lt_irrefl 0)⟩
  · simp [Value.cells] at hcs
    obtain ⟨rfl, rfl, rfl⟩ := hcs
    rw [if_pos rfl] at hz
    unfold maxLen at hm
    have hlen : ((zs.take m).map Int.toNat).length = m := by rw [List.length_map, List.length_take, hz, Nat.min_eq_left hl]
    refine ⟨(zs.take m).map Int.toNat, by rw [hlen]; omega, some a, c, by rw [hlen], fun n hn => ?_, fun h0 => ?_⟩
    · obtain ⟨z, hz', rfl⟩ := List.mem_map.1 hn
      have := u16_wf (hwf z (List.mem_of_mem_take hz'))
      omega
    · rw [hlen] at h0
      have hc0 := hcell 0 (by omega)
      have hsp := World.cell?_spot hc0
      obtain ⟨b, off, spot⟩ := a
      have hspot : spot = none := by simpa [Addr.add] using hsp
      subst hspot
      have hadd : ∀ j, (⟨b, off, none⟩ : Addr).add j = ⟨b, off + j, none⟩ := fun j => by unfold Addr.add; split <;> simp_all
      have hb := lt_cell hc0
      rw [hadd] at hb
      refine ⟨b, off, rfl, hb, fun j hj => ?_⟩
      have hjm : j < m := by rw [hlen] at hj; exact hj
      have hjz : j < zs.length := by omega
      have := hcell j hjz
      rw [hadd] at this
      rw [this, List.getElem_map, List.getElem_take, List.getD, List.getElem?_eq_getElem hjz]
      have hw := u16_wf (hwf zs[j] (List.getElem_mem hjz))
      show some (Value.int .u16 zs[j]) = some (Value.int .u16 ((zs[j].toNat : Nat) : Int))
      rw [Int.toNat_of_nonneg hw.1]

set_option maxRecDepth 100000 in
theorem urlHidden_lifted (os : Os) (started : os.Started) (H : Type) (enc : TypeId × Value → H) :
    ReturnsInHanded {} Tryd.checked os 3 .any (fun w args => (Rows.urlHiddenSpec.pre enc Tryd.prog Tryd.f3 [] false w args ∧ laidMetH Tryd.prog Rows.urlHiddenRow.laid w) ∧ sizedMet enc Tryd.prog Tryd.f3 (OpenSpec.ofChange Rows.urlHiddenSpec) false w args)
      (Rows.urlHiddenSpec.post enc Tryd.prog Tryd.f3 false true false false) := by
  refine returnsInHanded_and_shaped (C := Tryd.checked) (X := fun w _ => laidMetH Tryd.prog Rows.urlHiddenRow.laid w) (fun _ _ _ hh h => h.of_heap hh) own_ started (by kernel_rfl) Tryd.func3
    (ChangeSpec.witness_shaped (enc := enc) (C := Tryd.checked) (os := os) (X := fun w _ => laidMetH Tryd.prog Rows.urlHiddenRow.laid w) false (World.laidAll Tryd.prog os Rows.urlHiddenRow.laid) #[.string ⟨#[]⟩, .slice none 0 0, .string ⟨#[]⟩] 8 (World.laidAll_os _ _ _)
      (World.shaped_of_ZipB (by kernel_rfl) (by kernel_rfl)) (by kernel_rfl) (by kernel_rfl) (by kernel_rfl)
      (by rw [MakeChecks.laidMetH_plain _ _ _ (by kernel_rfl)]; exact laidMet_laidAll _ (by kernel_rfl) (by kernel_rfl))) ?_
  intro W base args ds gs before hval0 hW hsh hL
  have hval : ∀ (j : Nat) t v, Tryd.f3.params[j]? = some t → args[j]? = some v → Value.okWide Tryd.prog W .any base t v := hval0
  have hW' := hW
  have hlt := hW.lt
  obtain ⟨p, q, hA0, hV, rfl, _, _⟩ := hW
  have hA : DataW.TrodAll enc Tryd.prog W 0 (fun _ => true) true Tryd.f3.params.toList args.toList ds p := hA0
  rw [Tryd.params3] at hA hval
  obtain ⟨v0, v1, v2, d0, d1, d2, p0, p1, p2, rfl, rfl, rfl, h0, h1, h2⟩ := trodAll_three hA
  obtain ⟨rfl, rfl⟩ := trodVars_none hV
  obtain ⟨s, rfl, rfl, rfl, ws⟩ := open_string Tryd.underlying9 (hval 0 9 v0 rfl rfl) h0
  obtain ⟨A, m, c, rfl⟩ := okWide_slice Tryd.underlying22 (hval 1 22 v1 rfl rfl)
  obtain ⟨f, rfl, rfl, rfl, wf⟩ := open_string Tryd.underlying9 (hval 2 9 v2 rfl rfl) h2
  obtain ⟨l, hll, hl⟩ := nums_read h1
  clear hA0 hval0
  simp only [List.append_nil, List.nil_append] at hW' hlt
  refine (hidden_law s _ l f W ⟨tabs_of rfl hL, max_of hsh⟩ (by unfold maxLen at ws; omega) (by unfold maxLen at wf; omega) hll hl).mono fun e W' ⟨he, hb⟩ => ?_
  subst he
  exact ⟨_, rfl, post_below (pv := []) hW' (fun _ _ _ => trodAll_mk1 (shut_bool Tryd.underlying4 true)) (fun sp hsp => trodAll_mk3 (shut_string Tryd.underlying9 ws) (WideElems.Trod_stays nums_laid nums_readable (of_decide_eq_true (by kernel_rfl)) h1 (fun x hx => hb.same (hlt x hx)) hsp) (shut_string Tryd.underlying9 wf)) (fun _ _ => rfl) (by simp) hb (ok_one (by kernel_rfl) rfl (okWide_bool_mk Tryd.underlying4 true))⟩

theorem urlHidden_holds : Rows.UrlHiddenSaid :=
  OpenClaim.holds_of_wide 3 Tryd.f3 rfl rfl rfl rfl rfl rfl rfl ⟨rfl, rfl, rfl, rfl, rfl⟩ rfl rfl rfl rfl rfl (by kernel_rfl) Tryd.func3 (by kernel_rfl)
    (of_decide_eq_true (by kernel_rfl)) (by unfold Func.isWrapper; first | (rw [if_pos (by decide +kernel)]; kernel_rfl) | (rw [if_neg (by decide +kernel)]; exact ⟨rfl, rfl⟩))
    (fun os started H enc _ => urlHidden_lifted os started H enc)

theorem urlHidden_card : Rows.UrlHiddenCardSaid :=
  Claim7.holds_tied_plain_at .later [] [.data, .pinned] true _ true
    urlHidden_holds (fun _ h => by cases h) (by kernel_rfl) (fun _ h => by cases h) urlHidden_row_tie rfl ⟨rfl, rfl⟩ (by kernel_rfl) rfl
    (fun f fn hf hfn => by
      obtain rfl : f = 3 := Option.some.inj ((show Tryd.prog.funcNamed "tympan/tympanlaw04.UrlHidden" = some 3 by kernel_rfl).symm.trans hf) |>.symm
      obtain rfl : fn = Tryd.f3 := (Option.some.inj (Tryd.func3.symm.trans hfn)).symm
      exact ⟨by kernel_rfl, fun j t ht => by
        rw [Tryd.params3] at ht
        have hm : t ∈ [9, 22, 9] := by simpa using Array.mem_of_getElem? ht
        have hall : ([9, 22, 9].all fun u => !Tryd.prog.wantsStandIn u) = true := by kernel_rfl
        exact (show Tryd.prog.wantsStandIn t = false by simpa using List.all_eq_true.1 hall t hm)⟩)
    (by kernel_rfl)
end Go.Proofs.YtibaoocklempnaaDoor
