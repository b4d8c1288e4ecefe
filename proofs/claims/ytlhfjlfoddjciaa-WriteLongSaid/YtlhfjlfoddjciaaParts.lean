/- WriteParts: nodes one behind the other are written one behind the other. Proved for every input; no condition. -/
import Derived.Test.YtlhfjlfoddjciaaDoes
namespace Go.Proofs.Ytlhfjlfoddjciaa
open Go.ChangeShapes Go.WideShapes Go.ChangeAt Go.RowKit

theorem NodesAt.len {w : World} {S : Nat → Prop} {A : Option Addr} {m c : Nat} : ∀ {n : Nat} {l : List (NT n)}, NodesAt n w S (.slice A m c) l → m = l.length
  | 0, _, ⟨_, _, e, _⟩ => by cases e; rfl
  | _ + 1, _, ⟨_, _, e, _⟩ => by cases e; rfl
theorem wt_len' : ∀ (n : Nat) (l : List (NT n)), l.length ≤ wt n l
  | 0, [] => Nat.zero_le _
  | 0, x :: _ => Empty.elim x
  | n + 1, l => wt_len n l

theorem Row.take_ {α : Type} {size : Nat} {E : World → (Nat → Prop) → List Value → α → Prop} {w : World} {S : Nat → Prop} {A : Option Addr} {m c : Nat} {l : List α} (h : Row size E w S (.slice A m c) l) (j : Nat) (hj : j ≤ m) : Row size E w S (.slice A j c) (l.take j) := by
  obtain ⟨A', c', e, hl, h0, h1⟩ := h
  cases e
  refine ⟨A, c, by rw [List.length_take, Nat.min_eq_left hj], by rw [List.length_take]; omega, fun h => h0 (by rw [List.length_take] at h; omega), fun i x hx => h1 i x ?_⟩
  rw [List.getElem?_take] at hx
  split at hx
  · exact hx
  · cases hx
theorem Row.drop_ {α : Type} {size : Nat} {E : World → (Nat → Prop) → List Value → α → Prop} {w : World} {S : Nat → Prop} {a : Addr} {m c : Nat} {l : List α} (h : Row size E w S (.slice (some a) m c) l) (j c' : Nat) (hj : j ≤ m) : Row size E w S (.slice (some (a.add (j * size))) (m - j) c') (l.drop j) := by
  obtain ⟨A', c0, e, hl, h0, h1⟩ := h
  cases e
  refine ⟨_, c', by rw [List.length_drop], by rw [List.length_drop]; omega, fun h => ?_, fun i x hx => ?_⟩
  · obtain ⟨ad, hA, hS⟩ := h0 (by rw [List.length_drop] at h; omega)
    cases hA
    exact ⟨_, rfl, by rw [block_of_add]; exact hS⟩
  · rw [List.getElem?_drop] at hx
    obtain ⟨ad, vs, hA, hlie, hE⟩ := h1 _ _ hx
    cases hA
    refine ⟨_, vs, rfl, ?_, hE⟩
    rw [add_of_add, ← Nat.add_mul]
    exact hlie
theorem Row.none_ {α : Type} {size : Nat} {E : World → (Nat → Prop) → List Value → α → Prop} {w : World} {S : Nat → Prop} (A : Option Addr) (c : Nat) : Row size E w S (.slice A 0 c) [] :=
  ⟨A, c, rfl, Nat.zero_le _, fun h => absurd h (Nat.lt_irrefl 0), fun i x hx => by simp at hx⟩
theorem NodesAt.take_ {n : Nat} {w : World} {S : Nat → Prop} {A : Option Addr} {m c : Nat} {l : List (NT n)} (h : NodesAt n w S (.slice A m c) l) (j : Nat) (hj : j ≤ m) : NodesAt n w S (.slice A j c) (l.take j) := by
  cases n with
  | zero => exact Row.take_ (α := Empty) (size := 6) (E := fun _ _ _ _ => False) h j hj
  | succ n => exact Row.take_ (α := NodeD (List (NT n))) (size := 6) (E := NodeIs (NodesAt n)) h j hj
theorem NodesAt.drop_ {n : Nat} {w : World} {S : Nat → Prop} {a : Addr} {m c : Nat} {l : List (NT n)} (h : NodesAt n w S (.slice (some a) m c) l) (j c' : Nat) (hj : j ≤ m) : NodesAt n w S (.slice (some (a.add (j * 6))) (m - j) c') (l.drop j) := by
  cases n with
  | zero => exact Row.drop_ (α := Empty) (size := 6) (E := fun _ _ _ _ => False) h j c' hj
  | succ n => exact Row.drop_ (α := NodeD (List (NT n))) (size := 6) (E := NodeIs (NodesAt n)) h j c' hj
theorem NodesAt.nil_ (n : Nat) {w : World} {S : Nat → Prop} (A : Option Addr) (c : Nat) : NodesAt n w S (.slice A 0 c) [] := by
  cases n with
  | zero => exact Row.none_ (α := Empty) (size := 6) (E := fun _ _ _ _ => False) A c
  | succ n => exact Row.none_ (α := NodeD (List (NT n))) (size := 6) (E := NodeIs (NodesAt n)) A c
theorem rowOut_parts {K : Type} (f : Bool → K → List UInt8) (raw : Bool) (l : List (NodeD K)) (j : Nat) : rowOut f raw (l.take j) ++ rowOut f raw (l.drop j) = rowOut f raw l := by
  unfold rowOut; rw [← List.flatten_append, ← List.map_append, List.take_append_drop]
theorem rowWt_parts {K : Type} (f : K → Nat) (l : List (NodeD K)) (j : Nat) : rowWt f (l.take j) + rowWt f (l.drop j) = rowWt f l := by
  unfold rowWt; rw [← List.sum_append, ← List.map_append, List.take_append_drop]
theorem frag_parts (n : Nat) (raw : Bool) (l : List (NT n)) (j : Nat) : frag n raw (l.take j) ++ frag n raw (l.drop j) = frag n raw l := by
  cases n with
  | zero => rfl
  | succ n => exact rowOut_parts (K := List (NT n)) (frag n) raw l j
theorem wt_parts (n : Nat) (l : List (NT n)) (j : Nat) : wt n (l.take j) + wt n (l.drop j) = wt n l := by
  cases n with
  | zero => rfl
  | succ n => exact rowWt_parts (K := List (NT n)) (wt n) l j
theorem wt_nil (n : Nat) : wt n [] = 0 := by cases n <;> rfl
theorem frag_nil (n : Nat) (raw : Bool) : frag n raw [] = [] := by cases n <;> rfl
theorem bytes_add {a b c : List UInt8} (h : a ++ b = c) : (⟨a.toArray⟩ : ByteArray) ++ ⟨b.toArray⟩ = ⟨c.toArray⟩ := by
  subst h
  apply ByteArray.ext
  simp [ByteArray.data_append]

set_option maxHeartbeats 2000000 in
theorem parts_law (n : Nat) (A : Option Addr) (m c : Nat) (l : List (NT n)) (k : Int) (w : World) (hG : Glob w) (h : NodesAt n w (fun k => k < w.heap.size) (.slice A m c) l) (hmc : m ≤ c) (hc : c ≤ 9223372036854775807) (hA : A = none → c = 0) (hk : -9223372036854775808 ≤ k ∧ k ≤ 9223372036854775807) : Calls Try.prog 5 #[.slice A m c, .int .i64 k] w (Yes w) := by
  have HG := Lib.hid hG
  have H := Lib.hid h
  have hpos := hG.pos
  clear h hG
  go_enter Try.func5, Try.ntmps5
  go_wp2_with fail
  refine Calls.mono (nodes_cnt n _ l 0 800 _ _ H.out (by decide) (by decide) (by decide) (by decide)) ?_
  rintro e w1 ⟨r, rfl, ⟨c1, c2, c3, c4⟩, d, rfl⟩
  by_cases hr : 800 < r
  · go_wp2_with fail
    refine Calls.mono (known_any _ (HG.out.drewN d)) ?_
    rintro e w4 ⟨rfl, b4⟩
    go_wp2
    go_ret
    exact ⟨rfl, (below_drewN (Below.refl _ w) d).trans b4⟩
  · have hw : wt n l ≤ 1000000 := by have := c3 (by omega); omega
    clear c1 c2 c3 c4
    go_wp2_with fail
    refine Calls.mono (known_any _ (HG.out.drewN d)) ?_
    rintro e w2 ⟨rfl, b2⟩
    have hm : m ≤ 1000000 := by have := H.out.len; have := wt_len' n l; omega
    obtain ⟨j, hj, hjm⟩ : ∃ j : Nat, max k 0 % ((m : Int) + 1) = j ∧ j ≤ m := by
      have h1 := Int.emod_nonneg (max k 0) (show ((m : Int) + 1) ≠ 0 by omega)
      have h2 := Int.emod_lt_of_pos (max k 0) (show (0 : Int) < (m : Int) + 1 by omega)
      exact ⟨(max k 0 % ((m : Int) + 1)).toNat, by omega, by omega⟩
    go_upto_region 4 with fail
    rw [hj]
    clear hj
    have hz2 : w.heap.size ≤ w2.heap.size := b2.size
    have hb2 : Below w.heap.size w w2 := (below_drewN (Below.refl _ w) d).trans b2
    have HA : ∀ W', Below w.heap.size w W' → Calls Try.prog 9 #[.slice A m c] W' (OneR W' (frag n false l)) := fun W' hb => fragment_any n _ l _ _ (fun k hk => Nat.lt_of_lt_of_le hk hb.size) (HG.out.below hb hpos) (NodesAt.keep (fun k hk => hb.block k hk) n H.out) hw
    have HH := Lib.hid HA
    clear HA
    have hfp := frag_parts n false l j
    have hwp := wt_parts n l j
    have HB : ∀ W', Below w.heap.size w W' → Calls Try.prog 9 #[.slice A j c] W' (OneR W' (frag n false (l.take j))) := fun W' hb => fragment_any n _ _ _ _ (fun k hk => Nat.lt_of_lt_of_le hk hb.size) (HG.out.below hb hpos) (NodesAt.keep (fun k hk => hb.block k hk) n (H.out.take_ j hjm)) (by omega)
    have hlen : (frag n false (l.take j)).length + (frag n false (l.drop j)).length ≤ 9223372036854775807 := by have := frag_le n false (l.take j); have := frag_le n false (l.drop j); omega
    have HHB := Lib.hid HB
    clear HB
    have HB := Lib.hid (bytes_add hfp)
    clear hfp
    by_cases hcj : c = j
    · obtain rfl : j = m := by omega
      subst hcj
      clear HHB HB
      have hlen2 : (frag n false l).length + (frag n false []).length ≤ 9223372036854775807 := by have := frag_le n false l; have := frag_le n false []; have := wt_nil n; omega
      have HB := Lib.hid (bytes_add (show frag n false l ++ frag n false [] = frag n false l by rw [frag_nil, List.append_nil]))
      have HC : ∀ W', Below w.heap.size w W' → Calls Try.prog 9 #[.slice A 0 0] W' (OneR W' (frag n false [])) := fun W' hb => fragment_any n _ _ _ _ (fun k hk => Nat.lt_of_lt_of_le hk hb.size) (HG.out.below hb hpos) (NodesAt.nil_ n A 0) (by have := wt_nil n; omega)
      have HHC := Lib.hid HC
      clear HC hwp
      go_region_with (go_at_call 9; first | (go_at_call_of 9 (0 : Nat); refine Calls.mono (HHC.out _ (b24.trans (b4.mono hz24))) ?_; rintro e w5 ⟨rfl, b5⟩) | (refine Calls.mono (HH.out _ hb2.drew) ?_; rintro e w3 ⟨rfl, b3⟩) | (refine Calls.mono (HH.out _ (hb2.drew.trans (b3.mono hz2))) ?_; rintro e w4 ⟨rfl, b4⟩; have b24 := hb2.drew.trans (b3.mono hz2); have hz24 := b24.size))
      all_goals
        rw [HB.out]
        go_wp2
        go_ret
        refine ⟨?_, (b24.trans (b4.mono hz24)).trans (b5.mono (Nat.le_trans hz24 b4.size))⟩
        go_simp
    · rcases A with _ | a
      · have := hA rfl
        omega
      · have HC : ∀ W', Below w.heap.size w W' → Calls Try.prog 9 #[.slice (some (a.add (j * 6))) (m - j) (c - j)] W' (OneR W' (frag n false (l.drop j))) := fun W' hb => fragment_any n _ _ _ _ (fun k hk => Nat.lt_of_lt_of_le hk hb.size) (HG.out.below hb hpos) (NodesAt.keep (fun k hk => hb.block k hk) n (H.out.drop_ j (c - j) hjm)) (by omega)
        have HHC := Lib.hid HC
        clear HC hwp
        go_region_with (first | (go_at_call_of 9 (m - j); refine Calls.mono (HHC.out _ (b24.trans (b4.mono hz24))) ?_; rintro e w5 ⟨rfl, b5⟩) | (go_at_call_of 9 j; refine Calls.mono (HHB.out _ (hb2.drew.trans (b3.mono hz2))) ?_; rintro e w4 ⟨rfl, b4⟩; have b24 := hb2.drew.trans (b3.mono hz2); have hz24 := b24.size) | (go_at_call 9; refine Calls.mono (HH.out _ hb2.drew) ?_; rintro e w3 ⟨rfl, b3⟩))
        all_goals
          rw [HB.out]
          go_wp2
          go_ret
          refine ⟨?_, (b24.trans (b4.mono hz24)).trans (b5.mono (Nat.le_trans hz24 b4.size))⟩
          go_simp

theorem i64_wf {k : Int} (h : (Lit.int .i64 k).wf = true) : -9223372036854775808 ≤ k ∧ k ≤ 9223372036854775807 := by
  simp only [Lit.wf, Bool.and_eq_true, decide_eq_true_eq] at h
  have h0 : IntKind.i64.min = -9223372036854775808 := by decide
  have h1 : IntKind.i64.max = 9223372036854775807 := by decide
  rw [h0, h1] at h
  exact h

set_option maxRecDepth 100000 in
theorem parts_lifted (os : Os) (started : os.Started) (H : Type) (enc : TypeId × Value → H) :
    ReturnsInHanded {} Try.checked os 5 .any (Rows.writePartsSpec.pre6 enc Try.prog Try.f5 Rows.writePartsRow.domain false) (Rows.writePartsSpec.post enc Try.prog Try.f5 false true false false) := by
  refine returnsInHanded_of_change_shaped (C := Try.checked) own_ started (by kernel_rfl) Try.func5
    (ChangeSpec.witness6 (enc := enc) (C := Try.checked) false ⟨#[], #[.slice none 0 0, .int .i64 0], []⟩ 8 (by kernel_rfl) (by kernel_rfl) (by kernel_rfl) (by kernel_rfl)) ?_
  intro W base args ds gs before hval0 hW _ _ hsh _
  have hval : ∀ (j : Nat) t v, Try.f5.params[j]? = some t → args[j]? = some v → Value.okWide Try.prog W .any base t v := hval0
  have hW' := hW
  have hlt := hW.lt
  obtain ⟨p, q, hA0, hV, rfl, hfz, hnd⟩ := hW
  have hA : DataW.TrodAll enc Try.prog W 0 (fun _ => true) true Try.f5.params.toList args.toList ds p := hA0
  rw [Try.params5] at hA hval
  obtain ⟨v0, v1, d0, d1, p0, p1, rfl, rfl, rfl, h0, h1⟩ := trodAll_two hA
  obtain ⟨rfl, rfl⟩ := trodVars_none hV
  obtain ⟨A, m, c, rfl⟩ := okWide_slice Try.underlying22 (hval 0 22 v0 rfl rfl)
  obtain ⟨k, rfl, rfl, rfl, hk⟩ := open_int Try.underlying3 (hval 1 3 v1 rfl rfl) h1
  have h0' := h0
  obtain ⟨fuel, hf⟩ := h0
  obtain ⟨l, hl⟩ := nodes_read _ (Nat.le_refl _) hf
  have hmc : m ≤ c ∧ c ≤ 9223372036854775807 ∧ (A = none → c = 0) := by
    rcases Go.Deep.open_slice Try.underlying22 hf with ⟨e, _⟩ | ⟨a, len, cap, m', n', D, Pl, e, _, hl', hm, _⟩
    · simp [Value.cells] at e
      obtain ⟨rfl, rfl, rfl⟩ := e
      exact ⟨by omega, by omega, fun _ => rfl⟩
    · simp [Value.cells] at e
      obtain ⟨rfl, rfl, rfl⟩ := e
      unfold maxLen at hm
      exact ⟨hl', by omega, fun h => by cases h⟩
  clear hA0 hval0
  simp only [List.append_nil] at hW' hlt
  refine (parts_law _ A m c l k W (glob_of hsh) hl hmc.1 hmc.2.1 hmc.2.2 (i64_wf hk)).mono fun e W' ⟨he, hb⟩ => ?_
  subst he
  exact ⟨_, rfl, post_below (pv := []) hW' (fun _ _ _ => trodAll_mk1 (shut_bool Try.underlying4 true)) (fun sp hsp => trodAll_mk2 (WideElems.Trod_stays laid_ read22 (of_decide_eq_true (by kernel_rfl)) h0' (fun x hx => hb.same (hlt x hx)) hsp) (shut_int Try.underlying3 hk)) (fun _ _ => rfl) (by simp) hb (ok_one (by kernel_rfl) rfl (okWide_bool_mk Try.underlying4 true))⟩

theorem parts_holds : Rows.WritePartsSaid :=
  OpenClaim.holds_of_wide 5 Try.f5 rfl rfl rfl rfl rfl rfl rfl ⟨rfl, rfl, rfl, rfl, rfl⟩ rfl rfl rfl rfl rfl (by kernel_rfl) Try.func5 (by kernel_rfl)
    (of_decide_eq_true (by kernel_rfl)) (by unfold Func.isWrapper; rw [if_neg (of_decide_eq_false (by kernel_rfl))]; exact ⟨rfl, rfl⟩)
    (fun os started H enc _ => parts_lifted os started H enc)
end Go.Proofs.Ytlhfjlfoddjciaa
