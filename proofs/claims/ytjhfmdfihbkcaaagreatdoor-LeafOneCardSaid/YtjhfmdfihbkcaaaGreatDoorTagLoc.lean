/- A tag is a tag whatever stands behind it, plainly. -/
import Derived.Test.YtjhfmdfihbkcaaaGreatDoorAtEnds
namespace Go.Proofs.YtjhfmdfihbkcaaaGreatDoor
open Go.RowKit

def condL (l : List UInt8) (p : UInt8 → Bool) (k : Nat) : Bool := match l[k]? with
  | some x => p x
  | none => false
theorem condL_at {l : List UInt8} {p : UInt8 → Bool} {k : Nat} (h : k < l.length) : condL l p k = p l[k] := by unfold condL; rw [List.getElem?_eq_getElem h]
theorem condL_out {l : List UInt8} {p : UInt8 → Bool} {k : Nat} (h : l.length ≤ k) : condL l p k = false := by unfold condL; rw [List.getElem?_eq_none h]
theorem runL_yes {l : List UInt8} {p : UInt8 → Bool} {k : Nat} (h : condL l p k = true) : k < l.length ∧ run p l k = run p l (k + 1) := by
  rcases Nat.lt_or_ge k l.length with h1 | h1
  · rw [condL_at h1] at h
    exact ⟨h1, run_yes h1 h⟩
  · rw [condL_out h1] at h
    cases h
theorem runL_no {l : List UInt8} {p : UInt8 → Bool} {k : Nat} (h : condL l p k = false) : run p l k = k := by
  rcases Nat.lt_or_ge k l.length with h1 | h1
  · rw [condL_at h1] at h
    exact run_not h1 h
  · exact run_end h1
/-- Two texts that are alike up to k. -/
def Alike (l l' : List UInt8) (k : Nat) : Prop := ∀ j, j < k → l'[j]? = l[j]?
theorem alike_cond {l l' : List UInt8} {k : Nat} (h : Alike l l' k) (p : UInt8 → Bool) {j : Nat} (hj : j < k) : condL l' p j = condL l p j := by unfold condL; rw [h j hj]
theorem alike_run0 {l l' : List UInt8} {k : Nat} (h : Alike l l' k) (p : UInt8 → Bool) : ∀ (d i : Nat), run p l i = i + d → i + d < k → run p l' i = i + d
  | 0, i, hr, hk => by
    have hc : condL l p i = false := by
      cases hc : condL l p i with
      | false => rfl
      | true =>
        have := runL_yes hc
        have h2 := run_ge p l (i + 1)
        omega
    exact runL_no (by rw [alike_cond h p (by omega), hc])
  | d + 1, i, hr, hk => by
    have hc : condL l p i = true := by
      cases hc : condL l p i with
      | true => rfl
      | false =>
        have := runL_no hc
        omega
    have h1 := (runL_yes hc).2
    have hc' : condL l' p i = true := by rw [alike_cond h p (by omega), hc]
    rw [(runL_yes hc').2]
    have := alike_run0 h p d (i + 1) (by omega) (by omega)
    omega
theorem alike_run {l l' : List UInt8} {k : Nat} (h : Alike l l' k) (p : UInt8 → Bool) {i : Nat} (hk : run p l i < k) : run p l' i = run p l i := by
  have hge := run_ge p l i
  have := alike_run0 h p (run p l i - i) i (by omega) (by omega)
  omega
theorem alike_gap {l l' : List UInt8} {k i : Nat} (h : Alike l l' k) (hk : gapN l i < k) : gapN l' i = gapN l i := alike_run h _ hk
theorem wordN_cond (l : List UInt8) (f r : ByteArray) (i : Nat) : wordN l f r i = if condL l (oneB f) i = true then some (run (wordP r) l (i + 1)) else none := by
  unfold wordN
  split
  · rename_i h
    rw [condL_at h]
  · rename_i h
    rw [condL_out (by omega), if_neg (by simp)]
theorem alike_word {l l' : List UInt8} {k i j : Nat} {f r : ByteArray} (h : Alike l l' k) (hw : wordN l f r i = some j) (hj : j < k) : wordN l' f r i = some j := by
  rw [wordN_cond] at hw ⊢
  have hlt : i < j := by
    split at hw
    · cases hw
      have := run_ge (wordP r) l (i + 1)
      omega
    · cases hw
  rw [alike_cond h _ (by omega)]
  split at hw
  · rename_i hc
    rw [if_pos hc]
    have e : run (wordP r) l (i + 1) = j := Option.some.inj hw
    rw [alike_run h _ (by omega), e]
  · cases hw
theorem alike_word_none {l l' : List UInt8} {k i : Nat} {f r : ByteArray} (h : Alike l l' k) (hw : wordN l f r i = none) (hi : i < k) : wordN l' f r i = none := by
  rw [wordN_cond] at hw ⊢
  rw [alike_cond h _ hi]
  split at hw
  · cases hw
  · rename_i hc
    rw [if_neg hc]
theorem alike_quote {l l' : List UInt8} {k i j : Nat} {b : UInt8} (h : Alike l l' k) (hq : quoteN l b i = some j) (hj : j ≤ k) : quoteN l' b i = some j := by
  unfold quoteN at hq ⊢
  rcases indexByte_spec (l.drop (i + 1)) b with ⟨h1, _⟩ | ⟨a, h1, h2, h3⟩
  · rw [h1, if_pos (by decide)] at hq; cases hq
  · rw [h1, if_neg (by omega)] at hq
    have e : i + a + 2 = j := by have := Option.some.inj hq; omega
    rcases indexByte_spec (l'.drop (i + 1)) b with ⟨g1, g2⟩ | ⟨a', g1, g2, g3⟩
    · exfalso
      refine g2 a ?_
      rw [List.getElem?_drop, h _ (by omega), ← List.getElem?_drop, h2]
    · have haa : a' = a := by
        rcases Nat.lt_trichotomy a' a with hlt | heq | hgt
        · exfalso
          refine h3 a' hlt ?_
          rw [List.getElem?_drop, ← h _ (by omega), ← List.getElem?_drop, g2]
        · exact heq
        · exfalso
          refine g3 a hgt ?_
          rw [List.getElem?_drop, h _ (by omega), ← List.getElem?_drop, h2]
      rw [g1, if_neg (by omega), haa]
      congr 1
theorem alike_val {l l' : List UInt8} {k i j : Nat} (h : Alike l l' k) (hv : valN l i = some j) (hj : j < k) : valN l' i = some j := by
  have hin := valN_in l i j hv
  unfold valN at hv ⊢
  split at hv
  · rename_i hlt
    have hg : l'[i]? = some l[i] := by rw [h i (by omega), List.getElem?_eq_getElem hlt]
    obtain ⟨hlt', hx⟩ := List.getElem?_eq_some_iff.1 hg
    rw [dif_pos hlt', hx]
    split at hv
    · rename_i hc
      rw [if_pos hc]
      exact alike_quote h hv (by omega)
    · rename_i hc
      rw [if_neg hc]
      unfold bareN at hv ⊢
      split at hv
      · cases hv
      · rename_i hne
        have e : run valP l i = j := Option.some.inj hv
        rw [alike_run h _ (by omega), if_neg hne, e]
  · cases hv
theorem pre_cond (l : List UInt8) (k : Nat) (c : UInt8) : Lib.hasPrefix (l.drop k) [c] = condL l (fun b => b == c) k := by
  unfold Lib.hasPrefix condL
  rcases Nat.lt_or_ge k l.length with h | h
  · rw [List.getElem?_eq_getElem h, List.drop_eq_getElem_cons h]
    show ((c == l[k]) && List.isPrefixOf [] _) = _
    rw [List.isPrefixOf_nil_left, Bool.and_true, Bool.beq_comm]
  · rw [List.getElem?_eq_none h, List.drop_eq_nil_of_le h]
    rfl
theorem alike_attr {l l' : List UInt8} {k i m : Nat} (h : Alike l l' k) (hi : i ≤ l.length) (ha : attrN l i = some m) (hm : m < k) (hg : gapN l m < k) : attrN l' i = some m := by
  have hlt := attrN_lt l i m hi ha
  unfold attrN at ha ⊢
  split at ha
  · cases ha
  · rename_i hne
    cases hw : wordN l ⟨#[95, 58]⟩ ⟨#[95, 46, 58, 45]⟩ (gapN l i) with
    | none => rw [hw] at ha; cases ha
    | some j0 =>
      rw [hw] at ha
      have h2 : attr2 l j0 = some m := ha
      have hwl := wordN_lt _ _ _ _ _ hw
      have hj : gapN l j0 < k ∧ attr2 l' j0 = some m := by
        unfold attr2 at h2 ⊢
        rw [pre_cond] at h2 ⊢
        split at h2
        · rename_i hc
          have hvi := valN_in _ _ _ h2
          have g1 := gapN_ge l (gapN l j0 + 1)
          have hjk : gapN l j0 < k := by omega
          refine ⟨hjk, ?_⟩
          rw [alike_gap h hjk, alike_cond h _ hjk, if_pos hc, alike_gap h (by omega)]
          exact alike_val h h2 hm
        · rename_i hc
          have e : j0 = m := Option.some.inj h2
          subst e
          refine ⟨hg, ?_⟩
          rw [alike_gap h hg, alike_cond h _ hg, if_neg hc]
      have hj0 := gapN_ge l j0
      have hgi : gapN l i < k := by omega
      rw [alike_gap h hgi, if_neg hne, alike_word h hw (by omega)]
      exact hj.2
theorem attrsF_fuel (l : List UInt8) : ∀ n n' i, i ≤ l.length → l.length - i < n → l.length - i < n' → attrsF l n i = attrsF l n' i
  | 0, _, _, _, h, _ => by omega
  | _ + 1, 0, _, _, _, h => by omega
  | n + 1, n' + 1, i, hi, h, h' => by
    rw [attrsF, attrsF]
    cases ha : attrN l i with
    | none => rfl
    | some m =>
      have := attrN_lt l i m hi ha
      exact attrsF_fuel l n n' m this.2 (by omega) (by omega)
theorem alike_attrs {l l' : List UInt8} {k : Nat} (h : Alike l l' k) : ∀ n i, i ≤ l.length → gapN l (attrsF l n i) < k → condL l (fun b => b == 62 || b == 47) (gapN l (attrsF l n i)) = true → l.length - i < n → gapN l i < k ∧ attrsF l' n i = attrsF l n i
  | 0, _, _, _, _, hn => by omega
  | n + 1, i, hi, hg, hc, hn => by
    rw [attrsF] at hg hc ⊢
    rw [attrsF]
    cases ha : attrN l i with
    | none =>
      rw [ha] at hg hc
      simp only at hg hc
      refine ⟨hg, ?_⟩
      have hn' : attrN l' i = none := by
        unfold attrN
        rw [alike_gap h hg]
        split
        · rfl
        · have hw : wordN l' ⟨#[95, 58]⟩ ⟨#[95, 46, 58, 45]⟩ (gapN l i) = none := by
            rw [wordN_cond, alike_cond h _ hg, if_neg]
            intro h1
            unfold condL at hc h1
            cases hx : l[gapN l i]? with
            | none => rw [hx] at hc; cases hc
            | some x =>
              rw [hx] at hc h1
              rcases (by simpa using hc : x = 62 ∨ x = 47) with rfl | rfl
              · exact absurd h1 (by decide)
              · exact absurd h1 (by decide)
          rw [hw]
          rfl
      rw [hn']
    | some m =>
      rw [ha] at hg hc
      simp only at hg hc
      have hml := attrN_lt l i m hi ha
      have ih := alike_attrs h n m hml.2 hg hc (by omega)
      have hgm := gapN_ge l m
      have ha' := alike_attr h hi ha (by omega) ih.1
      rw [ha']
      refine ⟨?_, ih.2⟩
      have : gapN l i < m := by
        unfold attrN at ha
        split at ha
        · cases ha
        · cases hw : wordN l ⟨#[95, 58]⟩ ⟨#[95, 46, 58, 45]⟩ (gapN l i) with
          | none => rw [hw] at ha; cases ha
          | some j0 =>
            rw [hw] at ha
            have h2 : attr2 l j0 = some m := ha
            have hwl := wordN_lt _ _ _ _ _ hw
            have hjm : j0 ≤ m := by
              unfold attr2 at h2
              split at h2
              · have hvi := valN_in _ _ _ h2
                have g1 := gapN_ge l (gapN l j0 + 1)
                have g2 := gapN_ge l j0
                omega
              · have e : j0 = m := Option.some.inj h2
                omega
            omega
      omega
theorem pre_cond2 (l : List UInt8) (k : Nat) (c d : UInt8) : Lib.hasPrefix (l.drop k) [c, d] = (condL l (fun b => b == c) k && condL l (fun b => b == d) (k + 1)) := by
  rw [← pre_cond l (k + 1)]
  unfold Lib.hasPrefix condL
  rcases Nat.lt_or_ge k l.length with h | h
  · rw [List.getElem?_eq_getElem h, List.drop_eq_getElem_cons h]
    show ((c == l[k]) && List.isPrefixOf [d] (l.drop (k + 1))) = _
    rw [Bool.beq_comm]
  · rw [List.getElem?_eq_none h, List.drop_eq_nil_of_le h]
    rfl
theorem condL_only {l : List UInt8} {k : Nat} {c d : UInt8} (h : condL l (fun b => b == c) k = true) (hne : c ≠ d) : condL l (fun b => b == d) k = false := by
  unfold condL at h ⊢
  cases hx : l[k]? with
  | none => rfl
  | some x =>
    rw [hx] at h
    have e : x = c := by simpa using h
    rw [e]
    simpa using hne
theorem closed_shut (l : List UInt8) (k : Nat) : closedN l k [⟨#[62]⟩] = if condL l (fun b => b == 62) k = true then k + 1 else 0 := by
  unfold closedN
  rw [show (⟨#[62]⟩ : ByteArray).data.toList = [62] from rfl, pre_cond]
  rfl
theorem closed_open (l : List UInt8) (k : Nat) : closedN l k [⟨#[47, 62]⟩, ⟨#[62]⟩] = if (condL l (fun b => b == 47) k && condL l (fun b => b == 62) (k + 1)) = true then k + 2 else (if condL l (fun b => b == 62) k = true then k + 1 else 0) := by
  rw [closedN, closed_shut, show (⟨#[47, 62]⟩ : ByteArray).data.toList = [47, 62] from rfl, pre_cond2]
  rfl
/-- THE LAW: alike up to its end, the same tag. -/
theorem alike_tag {l l' : List UInt8} (ht : 0 < tagN l) (h : Alike l l' (tagN l)) : tagN l' = tagN l := by
  obtain ⟨k, hk⟩ : ∃ k, tagN l = k := ⟨_, rfl⟩
  have h3 := tagN_ends l ht
  rw [hk] at h ht h3 ⊢
  have hp1 : Lib.hasPrefix l' [60] = Lib.hasPrefix l [60] := by
    have e1 := pre_cond l 0 60
    have e2 := pre_cond l' 0 60
    rw [List.drop_zero] at e1 e2
    rw [e1, e2, alike_cond h _ (by omega)]
  have hp2 : Lib.hasPrefix l' [60, 47] = Lib.hasPrefix l [60, 47] := by
    have e1 := pre_cond2 l 0 60 47
    have e2 := pre_cond2 l' 0 60 47
    rw [List.drop_zero] at e1 e2
    rw [e1, e2, alike_cond h _ (by omega), alike_cond h _ (by omega)]
  unfold tagN at hk ⊢
  rw [hp1, hp2]
  split at hk
  · rename_i hp
    rw [if_pos hp]
    cases hw : wordN l ⟨#[]⟩ ⟨#[45]⟩ (if Lib.hasPrefix l [60, 47] = true then 2 else 1) with
    | none => rw [hw] at hk; simp only at hk; omega
    | some j =>
      rw [hw] at hk
      have hk : tagEnd l (Lib.hasPrefix l [60, 47]) j = k := hk
      have hjl := wordN_le _ _ _ _ _ hw
      have key : j < k ∧ tagEnd l' (Lib.hasPrefix l [60, 47]) j = k := by
        unfold tagEnd at hk ⊢
        cases hs : Lib.hasPrefix l [60, 47] with
        | true =>
          rw [hs, if_pos rfl, closed_shut] at hk
          rw [if_pos rfl, closed_shut]
          have hgj := gapN_ge l j
          split at hk
          · rename_i hc
            have hgk : gapN l j < k := by omega
            rw [alike_gap h hgk, alike_cond h _ hgk, if_pos hc]
            exact ⟨by omega, hk⟩
          · omega
        | false =>
          rw [hs, if_neg (by simp), closed_open] at hk
          rw [if_neg (by simp), closed_open]
          have hge := attrsF_ge l (l.length + 1) j hjl
          have hgE := gapN_ge l (attrsN l j)
          unfold attrsN at hk hgE ⊢
          have main : gapN l (attrsF l (l.length + 1) j) < k → condL l (fun b => b == 62 || b == 47) (gapN l (attrsF l (l.length + 1) j)) = true → attrsF l' (l'.length + 1) j = attrsF l (l.length + 1) j := fun hgk hcc => by
            have hl' : k ≤ l'.length := by
              have := h (k - 1) (by omega)
              rw [List.getElem?_eq_getElem (show k - 1 < l.length by omega)] at this
              have := (List.getElem?_eq_some_iff.1 this).1
              omega
            have hm := alike_attrs h (l.length + l'.length + 2) j hjl (by rw [attrsF_fuel l _ (l.length + 1) j hjl (by omega) (by omega)]; exact hgk) (by rw [attrsF_fuel l _ (l.length + 1) j hjl (by omega) (by omega)]; exact hcc) (by omega)
            rw [attrsF_fuel l' (l'.length + 1) (l.length + l'.length + 2) j (by omega) (by omega) (by omega), hm.2]
            exact attrsF_fuel l _ _ j hjl (by omega) (by omega)
          have both : ∀ c : UInt8, c = 62 ∨ c = 47 → condL l (fun b => b == c) (gapN l (attrsF l (l.length + 1) j)) = true → condL l (fun b => b == 62 || b == 47) (gapN l (attrsF l (l.length + 1) j)) = true := fun c hc hcd => by
            unfold condL at hcd ⊢
            cases hx : l[gapN l (attrsF l (l.length + 1) j)]? with
            | none => rw [hx] at hcd; cases hcd
            | some x =>
              rw [hx] at hcd
              have e : x = c := by simpa using hcd
              rw [e]
              rcases hc with rfl | rfl <;> rfl
          split at hk
          · rename_i hc
            have hcl : condL l (fun b => b == 47) (gapN l (attrsF l (l.length + 1) j)) = true ∧ condL l (fun b => b == 62) (gapN l (attrsF l (l.length + 1) j) + 1) = true := by simpa using hc
            have hgk : gapN l (attrsF l (l.length + 1) j) < k := by omega
            rw [main hgk (both 47 (.inr rfl) hcl.1), alike_gap h hgk, alike_cond h _ hgk, alike_cond h _ (by omega), if_pos hc]
            exact ⟨by omega, hk⟩
          · split at hk
            · rename_i hn hc
              have hgk : gapN l (attrsF l (l.length + 1) j) < k := by omega
              rw [main hgk (both 62 (.inl rfl) hc), alike_gap h hgk, alike_cond h (fun b => b == 47) hgk, condL_only hc (by decide), Bool.false_and, if_neg (by simp), alike_cond h _ hgk, if_pos hc]
              exact ⟨by omega, hk⟩
            · omega
      rw [alike_word h hw key.1]
      exact key.2
  · omega
theorem tag_again (l m : List UInt8) (ht : 0 < tagN l) : tagN (l.take (tagN l) ++ m) = tagN l :=
  alike_tag ht fun j hj => by
    have := (tagN_ends l ht).2.1
    rw [List.getElem?_append_left (by rw [List.length_take]; omega), List.getElem?_take, if_pos hj]
end Go.Proofs.YtjhfmdfihbkcaaaGreatDoor
