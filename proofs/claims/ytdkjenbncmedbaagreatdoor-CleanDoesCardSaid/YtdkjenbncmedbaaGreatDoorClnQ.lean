/- What stays is right, and stays, plainly. What stays with a policy of nothing, plainly: one text. -/
import Derived.Test.YtdkjenbncmedbaaGreatDoorClnP
namespace Go.Proofs.YtdkjenbncmedbaaGreatDoor
open Go.RowKit

/-! ### an address with newlines of one kind -/
theorem filter_drop {p q : UInt8 → Bool} (h : ∀ b, q b = false → p b = true) : ∀ l : List UInt8, (l.dropWhile p).filter q = (l.filter q).dropWhile p
  | [] => rfl
  | b :: l => by
    rw [List.dropWhile_cons]
    cases hp : p b with
    | true =>
      rw [if_pos rfl, filter_drop h l]
      cases hq : q b with
      | true => rw [List.filter_cons, if_pos hq, List.dropWhile_cons, if_pos hp]
      | false => rw [List.filter_cons, if_neg (by rw [hq]; decide)]
    | false =>
      rw [if_neg (by decide)]
      have hq : q b = true := by
        cases hq : q b with
        | true => rfl
        | false => rw [h b hq] at hp; cases hp
      rw [List.filter_cons, if_pos hq, List.dropWhile_cons, if_neg (by rw [hp]; decide)]
theorem keep_sp (b : UInt8) (h : keep3 b = false) : sp b = true := by
  have h9 : b = 9 ∨ b = 10 ∨ b = 13 := by
    unfold keep3 at h
    simp only [Bool.not_eq_false', Bool.or_eq_true, beq_iff_eq] at h
    rcases h with (h | h) | h
    · exact .inl h
    · exact .inr (.inl h)
    · exact .inr (.inr h)
  rcases h9 with rfl | rfl | rfl <;> rfl
theorem strip_filter (l : List UInt8) : strip l = rcut (lcut (l.filter keep3)) := by
  unfold strip rcut lcut
  rw [← filter_drop keep_sp l, List.filter_reverse, filter_drop keep_sp, List.filter_reverse]
theorem nlS_filter : ∀ (l : List UInt8) (p : Bool), (nlS p l).filter keep3 = l.filter keep3
  | [], p => by cases p <;> rfl
  | b :: l, p => by
    by_cases h13 : b = 13
    · subst h13
      rw [nlS_13, List.filter_cons, if_neg (by decide), nlS_filter l true, List.filter_cons, if_neg (by decide)]
    · by_cases h10 : p = true ∧ b = 10
      · obtain ⟨rfl, rfl⟩ := h10
        rw [nlS_10, nlS_filter l false, List.filter_cons, if_neg (by decide)]
      · rw [nlS_else h13 (by cases p with | false => exact .inl rfl | true => exact .inr (fun e => h10 ⟨rfl, e⟩)), List.filter_cons, List.filter_cons, nlS_filter l false]
theorem safe_nl (l : List UInt8) (S : List ByteArray) : safe (nlL l) S = safe l S := by
  have : strip (nlL l) = strip l := by rw [strip_filter, strip_filter]; unfold nlL; rw [nlS_filter]
  unfold safe scheme
  rw [this]
theorem keeps_nl (E : List ByteArray) (A : Prs) (S : List ByteArray) (el nm v : ByteArray) : keepsB E A S el nm ⟨(nlL v.data.toList).toArray⟩ = keepsB E A S el nm v := by
  unfold keepsB
  rw [show ((⟨(nlL v.data.toList).toArray⟩ : ByteArray).data.toList) = nlL v.data.toList from rfl, safe_nl]
theorem nlL_two (l : List UInt8) : nlL (nlL l) = nlL l := nlL_id (nlL_no l)

/-! ### what is right -/
def rightR {K : Type} (E : List ByteArray) (A : Prs) (S : List ByteArray) (f : K → Bool) (l : List (NodeD K)) : Bool := l.all fun y => y.kind == 2 || (y.kind == 1 && (y.space == 0 && (hasS E y.name && ((y.attrs.all fun a => keepsB E A S y.name a.name a.value) && f y.kids))))
def rightN (E : List ByteArray) (A : Prs) (S : List ByteArray) : (n : Nat) → List (NT n) → Bool
  | 0, _ => true
  | n + 1, l => rightR (K := List (NT n)) E A S (rightN E A S n) l
theorem bareStep_right (E : List ByteArray) (A : Prs) (S : List ByteArray) (el : ByteArray) : ∀ (l out : List AttrD), (out.all fun a => keepsB E A S el a.name a.value) = true → ((l.foldl (bareStep E A S el) out).all fun a => keepsB E A S el a.name a.value) = true
  | [], out, h => h
  | a :: l, out, h => by
    rw [List.foldl_cons]
    refine bareStep_right E A S el l _ ?_
    unfold bareStep
    split
    · next hc =>
      rw [List.all_append, h, Bool.true_and, List.all_cons, List.all_nil, Bool.and_true]
      show keepsB E A S el a.name ⟨(nlL a.value.data.toList).toArray⟩ = true
      rw [keeps_nl]
      rw [Bool.and_eq_true] at hc
      exact hc.2
    · exact h
theorem rightR_snoc {K : Type} {E : List ByteArray} {A : Prs} {S : List ByteArray} {f : K → Bool} {l : List (NodeD K)} {y : NodeD K} (h : rightR E A S f l = true) (hy : (y.kind == 2 || (y.kind == 1 && (y.space == 0 && (hasS E y.name && ((y.attrs.all fun a => keepsB E A S y.name a.name a.value) && f y.kids))))) = true) : rightR E A S f (l ++ [y]) = true := by
  unfold rightR at h ⊢
  rw [List.all_append, h, List.all_cons, hy]
  rfl
theorem rightR_init {K : Type} {E : List ByteArray} {A : Prs} {S : List ByteArray} {f : K → Bool} {l : List (NodeD K)} (h : rightR E A S f l = true) : rightR E A S f l.dropLast = true := by
  unfold rightR at h ⊢
  exact List.all_eq_true.2 fun x hx => List.all_eq_true.1 h x (List.dropLast_subset l hx)
theorem txtP_right {K : Type} (E : List ByteArray) (A : Prs) (S : List ByteArray) (f : K → Bool) (nil : K) (acc : List (NodeD K)) (t : List UInt8) (h : rightR E A S f acc = true) : rightR E A S f (txtP nil acc t) = true := by
  unfold txtP
  split
  · exact h
  · split
    · exact rightR_snoc h rfl
    · next x hx =>
      split
      · next hk => exact rightR_snoc (rightR_init h) (by simp [hk])
      · exact rightR_snoc h rfl
theorem stepA_right {K K' : Type} (E : List ByteArray) (A : Prs) (S : List ByteArray) (f' : K' → Bool) (nil : K') (hn : f' nil = true) (g : Nat) (x : Pl) (flat : List (NodeD K') → K → List (NodeD K')) (kids : Nat → Pl → K → K')
    (hf : ∀ acc k, rightR E A S f' acc = true → rightR E A S f' (flat acc k) = true) (hk : ∀ g x k, f' (kids g x k) = true) (acc : List (NodeD K')) (y : NodeD K) (h : rightR E A S f' acc = true) : rightR E A S f' (stepA nil E A S g x flat kids acc y) = true := by
  have hel : ∀ k', hasS E y.name = true → f' k' = true → rightR E A S f' (acc ++ [⟨1, 0, y.name, bareA E A S y.name y.attrs, ByteArray.empty, k'⟩]) = true := fun k' h2 h3 => by
    have hb : ((bareA E A S y.name y.attrs).all fun a => keepsB E A S y.name a.name a.value) = true := bareStep_right E A S y.name y.attrs [] rfl
    refine rightR_snoc h ?_
    show ((1 : Nat) == 2 || ((1 : Nat) == 1 && ((0 : Nat) == 0 && (hasS E y.name && (((bareA E A S y.name y.attrs).all fun a => keepsB E A S y.name a.name a.value) && f' k'))))) = true
    rw [h2, h3, hb]
    rfl
  unfold stepA
  split
  · unfold stepN
    split
    · exact txtP_right E A S f' nil acc _ h
    · split
      · exact h
      · split
        · next hc =>
          rw [Bool.and_eq_true] at hc
          refine hel _ hc.1 ?_
          split
          · exact hn
          · split
            · exact hk _ _ _
            · exact hk _ _ _
        · exact hf acc _ h
  · unfold stepG
    split
    · split
      · exact txtP_right E A S f' nil acc _ h
      · exact h
    · split
      · exact h
      · next hc =>
        have h2 : hasS E y.name = true := by
          cases hh : hasS E y.name with
          | true => rfl
          | false => exact absurd (.inr (.inr (.inr hh))) hc
        refine hel _ h2 ?_
        split
        · exact hk _ _ _
        · exact hk _ _ _
theorem fold_right {α β : Type} {P : β → Prop} {st : β → α → β} (h : ∀ b a, P b → P (st b a)) : ∀ (l : List α) (b : β), P b → P (l.foldl st b)
  | [], _, hb => hb
  | a :: l, b, hb => fold_right h l _ (h b a hb)
theorem cl_right (E : List ByteArray) (A : Prs) (S : List ByteArray) : ∀ (n D g : Nat) (x : Pl) (l : List (NT n)) (acc : List (NT (D + 1))), rightN E A S (D + 1) acc = true → rightN E A S (D + 1) (cl E A S n D g x l acc) = true
  | 0, D, g, x, l, acc, h => h
  | n + 1, D, g, x, l, acc, h => by
    rw [cl_succ]
    refine fold_right (P := fun acc => rightN E A S (D + 1) acc = true) (fun acc y hacc => ?_) l acc h
    exact stepA_right (K := List (NT n)) (K' := List (NT D)) E A S (rightN E A S D) [] (by cases D <;> rfl) g x _ _ (fun acc k h => cl_right E A S n D 0 x k acc h) (fun g x k => by
      cases D with
      | zero => rfl
      | succ D => exact cl_right E A S n D g x k [] rfl) acc y hacc
theorem kids_right (E : List ByteArray) (A : Prs) (S : List ByteArray) (n D g : Nat) (x : Pl) (l : List (NT n)) : rightN E A S D (kidsN E A S n D g x l) = true := by
  cases D with
  | zero => rfl
  | succ D => exact cl_right E A S n D g x l [] rfl

/-! ### what stays, stays -/
/-- Each stands behind what is ahead of it, whatever step put it there. -/
def GoodL {α : Type} (st : List α → α → List α) (l : List α) : Prop := ∀ p z q, l = p ++ z :: q → st p z = p ++ [z]
theorem GoodL.nil {α : Type} (st : List α → α → List α) : GoodL st [] := fun p z q h => by cases p <;> cases h
theorem GoodL.snoc {α : Type} {st : List α → α → List α} {l : List α} (h : GoodL st l) {z : α} (hz : st l z = l ++ [z]) : GoodL st (l ++ [z]) := fun p y q e => by
  rcases List.eq_nil_or_concat q with rfl | ⟨q', u, rfl⟩
  · have e2 := List.append_inj' e rfl
    obtain ⟨rfl, e3⟩ := e2
    cases e3
    exact hz
  · have e2 : l ++ [z] = (p ++ y :: q') ++ [u] := by simpa using e
    exact h p y q' (List.append_inj' e2 rfl).1
theorem GoodL.init {α : Type} {st : List α → α → List α} {l : List α} {z : α} (h : GoodL st (l ++ [z])) : GoodL st l := fun p y q e => h p y (q ++ [z]) (by rw [e]; simp)
theorem GoodL.last {α : Type} {st : List α → α → List α} {l : List α} {z : α} (h : GoodL st (l ++ [z])) : st l z = l ++ [z] := h l z [] rfl
theorem GoodL.fold {α : Type} {st : List α → α → List α} : ∀ (q p : List α), GoodL st (p ++ q) → q.foldl st p = p ++ q
  | [], p, _ => by simp
  | z :: q, p, h => by
    rw [List.foldl_cons, h p z q rfl]
    have e : p ++ z :: q = (p ++ [z]) ++ q := by simp
    rw [e] at h ⊢
    exact GoodL.fold q (p ++ [z]) h
theorem GoodL.same {α : Type} {st : List α → α → List α} {l : List α} (h : GoodL st l) : l.foldl st [] = l := GoodL.fold l [] h

theorem bare_good (E : List ByteArray) (A : Prs) (S : List ByteArray) (el : ByteArray) : ∀ (l out : List AttrD), GoodL (bareStep E A S el) out → GoodL (bareStep E A S el) (l.foldl (bareStep E A S el) out)
  | [], out, h => h
  | a :: l, out, h => by
    rw [List.foldl_cons]
    refine bare_good E A S el l _ ?_
    by_cases hc : (!(out.any fun x => isT x.name a.name) && keepsB E A S el a.name a.value) = true
    · have e : bareStep E A S el out a = out ++ [⟨a.name, ⟨(nlL a.value.data.toList).toArray⟩⟩] := by unfold bareStep; rw [if_pos hc]
      rw [e]
      refine h.snoc ?_
      unfold bareStep
      rw [if_pos]
      · show out ++ [⟨a.name, ⟨(nlL (nlL a.value.data.toList)).toArray⟩⟩] = _
        rw [nlL_two]
      · show (!(out.any fun x => isT x.name a.name) && keepsB E A S el a.name ⟨(nlL a.value.data.toList).toArray⟩) = true
        rw [keeps_nl]
        exact hc
    · have e : bareStep E A S el out a = out := by unfold bareStep; rw [if_neg hc]
      rw [e]
      exact h
theorem bare_two (E : List ByteArray) (A : Prs) (S : List ByteArray) (el : ByteArray) (l : List AttrD) : bareA E A S el (bareA E A S el l) = bareA E A S el l := (bare_good E A S el l [] (GoodL.nil _)).same

theorem drop_two {α : Type} (p : α → Bool) : ∀ l : List α, (l.dropWhile p).dropWhile p = l.dropWhile p
  | [] => rfl
  | a :: l => by
    rw [List.dropWhile_cons]
    split
    · exact drop_two p l
    · next h => rw [List.dropWhile_cons, if_neg h]
theorem cut_two (b : Bool) (l : List UInt8) : cutNl b (cutNl b l) = cutNl b l := by
  unfold cutNl
  cases b with
  | true => exact drop_two _ l
  | false => rfl
theorem drop_app {α : Type} {p : α → Bool} {l : List α} (h : l.dropWhile p = l) (h0 : l ≠ []) (t : List α) : (l ++ t).dropWhile p = l ++ t := by
  cases l with
  | nil => exact absurd rfl h0
  | cons a l =>
    rw [List.dropWhile_cons] at h
    cases hp : p a with
    | true =>
      rw [if_pos hp] at h
      have h1 := (List.dropWhile_suffix p (l := l)).length_le
      rw [h] at h1
      have h2 : l.length + 1 ≤ l.length := h1
      omega
    | false => rw [List.cons_append, List.dropWhile_cons, if_neg (by rw [hp]; decide)]
theorem cut_app {b : Bool} {l : List UInt8} (h : cutNl b l = l) (h0 : l ≠ []) (t : List UInt8) : cutNl b (l ++ t) = l ++ t := by
  cases b with
  | true => exact drop_app (p := (· == 10)) h h0 t
  | false => rfl
theorem cut_mem {b : Bool} {l : List UInt8} {x : UInt8} (h : x ∈ cutNl b l) : x ∈ l := by
  unfold cutNl at h
  split at h
  · exact (List.dropWhile_suffix _).subset h
  · exact h
/-- A text whose newlines are of one kind, that begins as it may, is put as it is. -/
theorem txt_new {K : Type} (nil : K) (pre : Bool) (acc : List (NodeD K)) (t : List UInt8) (h13 : (13 : UInt8) ∉ t) (hc : cutNl (pre && acc.isEmpty) t = t) (h0 : t ≠ []) (hl : ∀ y, acc.getLast? = some y → y.kind ≠ 2) : txt nil pre acc ⟨t.toArray⟩ = acc ++ [txtN nil t] := by
  unfold txt
  rw [show ((⟨t.toArray⟩ : ByteArray).data.toList) = t from rfl, nlL_id h13, hc]
  unfold txtP
  have hne : t.isEmpty = false := by cases t with | nil => exact absurd rfl h0 | cons => rfl
  rw [if_neg (by rw [hne]; decide)]
  split
  · rfl
  · next x hx => rw [if_neg (hl x hx)]
/-- What a text that stands as it was put says of itself. -/
theorem txt_said {K : Type} {nil : K} {pre : Bool} {p : List (NodeD K)} {y : NodeD K} (h : txt nil pre p y.text = p ++ [y]) : (13 : UInt8) ∉ y.text.data.toList ∧ cutNl (pre && p.isEmpty) y.text.data.toList = y.text.data.toList ∧ y.text.data.toList ≠ [] ∧ (∀ z, p.getLast? = some z → z.kind ≠ 2) ∧ y = txtN nil y.text.data.toList := by
  unfold txt at h
  obtain ⟨t, ht⟩ : ∃ t, cutNl (pre && p.isEmpty) (nlL y.text.data.toList) = t := ⟨_, rfl⟩
  rw [ht] at h
  have h13 : (13 : UInt8) ∉ t := fun hm => nlL_no y.text.data.toList (cut_mem (by rw [ht]; exact hm))
  have hct : cutNl (pre && p.isEmpty) t = t := by rw [← ht, cut_two]
  have key : ∀ q, p ++ [txtN nil t] = p ++ [y] → t ≠ [] → (∀ z, p.getLast? = some z → z.kind ≠ 2) → q = 0 → (13 : UInt8) ∉ y.text.data.toList ∧ cutNl (pre && p.isEmpty) y.text.data.toList = y.text.data.toList ∧ y.text.data.toList ≠ [] ∧ (∀ z, p.getLast? = some z → z.kind ≠ 2) ∧ y = txtN nil y.text.data.toList := fun q e h0 hl _ => by
    have e2 : txtN nil t = y := by simpa using e
    subst e2
    exact ⟨h13, hct, h0, hl, rfl⟩
  unfold txtP at h
  split at h
  · exact absurd (congrArg List.length h) (by simp)
  · next h0 =>
    have h0' : t ≠ [] := fun e => h0 (by rw [e]; rfl)
    split at h
    · next hn => exact key 0 h h0' (fun z hz => by rw [hn] at hz; cases hz) rfl
    · next x hx =>
      split at h
      · have := congrArg List.length h
        simp at this
        have h3 : p ≠ [] := fun e => by rw [e] at hx; cases hx
        have h4 : p.length ≠ 0 := fun e => h3 (List.eq_nil_of_length_eq_zero e)
        omega
      · next hk => exact key 0 h h0' (fun z hz => by rw [hx] at hz; cases hz; exact hk) rfl
theorem nl_blank {s : ByteArray} (h : blankB s = true) : ∀ x ∈ nlL s.data.toList, (x == 32 || x == 9 || x == 10 || x == 12 || x == 13) = true := fun x hx => by
  rcases nlS_mem _ _ _ hx with rfl | hm
  · rfl
  · exact List.all_eq_true.1 h x hm
theorem blank_mk (t : List UInt8) (h : ∀ x ∈ t, (x == 32 || x == 9 || x == 10 || x == 12 || x == 13) = true) : blankB ⟨t.toArray⟩ = true := List.all_eq_true.2 fun x hx => h x hx
theorem blank_list {s : ByteArray} (h : blankB s = true) : ∀ x ∈ s.data.toList, (x == 32 || x == 9 || x == 10 || x == 12 || x == 13) = true := fun x hx => List.all_eq_true.1 h x hx
/-- What a step puts there stands as it is, if the kids do. -/
theorem txt_good {K : Type} (nil : K) (pre : Bool) (st : List (NodeD K) → NodeD K → List (NodeD K)) (B : ByteArray → Prop) (hst : ∀ acc y, y.kind = 2 → B y.text → st acc y = txt nil pre acc y.text) (hB : ∀ acc y, y.kind = 2 → ¬ B y.text → st acc y = acc) (hcat : ∀ a b : List UInt8, B ⟨a.toArray⟩ → (∀ s : ByteArray, B s → b = cutNl false (nlL s.data.toList) ∨ b = cutNl true (nlL s.data.toList) → B ⟨(a ++ b).toArray⟩))
    (hone : ∀ (s : ByteArray) (p : Bool), B s → B ⟨(cutNl p (nlL s.data.toList)).toArray⟩) (acc : List (NodeD K)) (s : ByteArray) (hs : B s) (h : GoodL st acc) : GoodL st (txt nil pre acc s) := by
  obtain ⟨p, hp⟩ : ∃ p, (pre && acc.isEmpty) = p := ⟨_, rfl⟩
  have h13 : (13 : UInt8) ∉ cutNl p (nlL s.data.toList) := fun hm => nlL_no _ (cut_mem hm)
  have hone' := hone s p hs
  have hct : cutNl p (cutNl p (nlL s.data.toList)) = cutNl p (nlL s.data.toList) := cut_two _ _
  have hsel : cutNl p (nlL s.data.toList) = cutNl false (nlL s.data.toList) ∨ cutNl p (nlL s.data.toList) = cutNl true (nlL s.data.toList) := by cases p with | true => exact .inr rfl | false => exact .inl rfl
  unfold txt
  rw [hp]
  obtain ⟨t, ht⟩ : ∃ t, cutNl p (nlL s.data.toList) = t := ⟨_, rfl⟩
  rw [ht] at h13 hone' hct hsel ⊢
  unfold txtP
  split
  · exact h
  · next h0 =>
    have h0' : t ≠ [] := fun e => h0 (by rw [e]; rfl)
    have hnew : (∀ y, acc.getLast? = some y → y.kind ≠ 2) → GoodL st (acc ++ [txtN nil t]) := fun hl => h.snoc (by
      rw [hst acc (txtN nil t) rfl hone']
      exact txt_new nil pre acc t h13 (by rw [hp]; exact hct) h0' hl)
    split
    · next hn => exact hnew fun y hy => by rw [hn] at hy; cases hy
    · next x hx =>
      split
      · next hk =>
        have e := dropLast_last hx
        rw [e] at h
        have hg := h.init
        have hlast := h.last
        have hBx : B x.text := Classical.byContradiction fun hn => by
          rw [hB _ x hk hn] at hlast
          exact absurd (congrArg List.length hlast) (by simp)
        rw [hst _ x hk hBx] at hlast
        obtain ⟨u1, u2, u3, u4, u5⟩ := txt_said hlast
        refine hg.snoc ?_
        have hb2 : B ⟨(x.text.data.toList ++ t).toArray⟩ := hcat _ _ hBx s hs hsel
        rw [hst acc.dropLast ⟨x.kind, x.space, x.name, x.attrs, ⟨(x.text.data.toList ++ t).toArray⟩, x.kids⟩ hk hb2]
        have hr := txt_new nil pre acc.dropLast (x.text.data.toList ++ t) (fun hm => by
          rcases List.mem_append.1 hm with hm | hm
          · exact u1 hm
          · exact h13 hm) (cut_app u2 u3 t) (fun e => u3 (List.append_eq_nil_iff.1 e).1) u4
        refine hr.trans ?_
        rw [u5]
        rfl
      · next hk => exact hnew fun y hy => by rw [hx] at hy; cases hy; exact hk
theorem stepA_good {K K' : Type} (E : List ByteArray) (A : Prs) (S : List ByteArray) (nil : K') (g : Nat) (x : Pl) (flat : List (NodeD K') → K → List (NodeD K')) (kids : Nat → Pl → K → K') (flat' : List (NodeD K') → K' → List (NodeD K')) (kids' : Nat → Pl → K' → K') (st : List (NodeD K') → NodeD K' → List (NodeD K')) (hst : st = stepA nil E A S g x flat' kids')
    (hf : g = 0 → ∀ acc k, GoodL st acc → GoodL st (flat acc k)) (hk : ∀ g x k, kids' g x (kids g x k) = kids g x k) (acc : List (NodeD K')) (y : NodeD K) (h : GoodL st acc) : GoodL st (stepA nil E A S g x flat kids acc y) := by
  by_cases h0 : g = 0
  · subst h0
    have hs1 : ∀ acc y, st acc y = stepN nil E A S x flat' kids' acc y := fun acc y => by rw [hst]; rfl
    show GoodL st (stepN nil E A S x flat kids acc y)
    unfold stepN
    split
    · refine txt_good nil x.pre st (fun _ => True) (fun acc y hy _ => ?_) (fun _ _ _ h => absurd trivial h) (fun _ _ _ _ _ _ => trivial) (fun _ _ _ => trivial) acc y.text trivial h
      rw [hs1]
      unfold stepN
      rw [if_pos hy]
    · split
      · exact h
      · next hc2 =>
        split
        · next hc =>
          refine h.snoc ?_
          rw [hs1]
          unfold stepN
          have hg : ¬ ((1 : Nat) ≠ 1 ∨ (0 : Nat) ≠ 0 ∨ hasS goneL y.name = true) := fun e => by
            rcases e with e | e | e
            · exact e rfl
            · exact e rfl
            · exact hc2 (.inr (.inr e))
          rw [if_neg (by show ¬ (1 : Nat) = 2; decide), if_neg hg, if_pos hc]
          obtain ⟨K0, hK0⟩ : ∃ K0, (if hasS voidL y.name then nil else if isT y.name ⟨#[116, 97, 98, 108, 101]⟩ then kids 3 x y.kids else kids 0 (x.into y.name) y.kids) = K0 := ⟨_, rfl⟩
          rw [hK0]
          have hK1 : (if hasS voidL y.name then nil else if isT y.name ⟨#[116, 97, 98, 108, 101]⟩ then kids' 3 x K0 else kids' 0 (x.into y.name) K0) = K0 := by
            rw [← hK0]
            by_cases v : hasS voidL y.name = true
            · simp only [if_pos v]
            · by_cases u : isT y.name ⟨#[116, 97, 98, 108, 101]⟩ = true
              · simp only [if_neg v, if_pos u, hk]
              · simp only [if_neg v, if_neg u, hk]
          show acc ++ [⟨1, 0, y.name, bareA E A S y.name (bareA E A S y.name y.attrs), ByteArray.empty, if hasS voidL y.name then nil else if isT y.name ⟨#[116, 97, 98, 108, 101]⟩ then kids' 3 x K0 else kids' 0 (x.into y.name) K0⟩] = _
          rw [bare_two, hK1]
        · exact hf rfl acc _ h
  · have hs1 : ∀ acc y, st acc y = stepG nil E A S g x kids' acc y := fun acc y => by rw [hst]; unfold stepA; rw [if_neg h0]
    have e0 : stepA nil E A S g x flat kids acc y = stepG nil E A S g x kids acc y := by unfold stepA; rw [if_neg h0]
    rw [e0]
    unfold stepG
    split
    · split
      · next hb =>
        refine txt_good nil false st (fun s => blankB s = true) (fun acc y hy hb => ?_) (fun acc y hy hb => ?_) (fun a b ha s hs hsel => ?_) (fun s p hs => ?_) acc y.text hb h
        · rw [hs1]; unfold stepG; rw [if_pos hy, if_pos hb]
        · rw [hs1]; unfold stepG; rw [if_pos hy, if_neg hb]
        · refine blank_mk _ fun u hu => ?_
          rcases List.mem_append.1 hu with hu | hu
          · exact List.all_eq_true.1 ha u hu
          · rcases hsel with e | e
            · rw [e] at hu; exact nl_blank hs u (cut_mem hu)
            · rw [e] at hu; exact nl_blank hs u (cut_mem hu)
        · exact blank_mk _ fun u hu => nl_blank hs u (cut_mem hu)
      · exact h
    · split
      · exact h
      · next hc2 =>
        refine h.snoc ?_
        rw [hs1]
        unfold stepG
        have hg : ¬ ((1 : Nat) ≠ 1 ∨ (0 : Nat) ≠ 0 ∨ hasS (rowL g) y.name = false ∨ hasS E y.name = false) := fun e => by
          rcases e with e | e | e
          · exact e rfl
          · exact e rfl
          · exact hc2 (.inr (.inr e))
        rw [if_neg (by show ¬ (1 : Nat) = 2; decide), if_neg hg]
        obtain ⟨K0, hK0⟩ : ∃ K0, (if 1 < g then kids (g - 1) x y.kids else kids 0 (linkPl x.link) y.kids) = K0 := ⟨_, rfl⟩
        rw [hK0]
        have hK1 : (if 1 < g then kids' (g - 1) x K0 else kids' 0 (linkPl x.link) K0) = K0 := by
          rw [← hK0]
          by_cases v : 1 < g
          · simp only [if_pos v, hk]
          · simp only [if_neg v, hk]
        show acc ++ [⟨1, 0, y.name, bareA E A S y.name (bareA E A S y.name y.attrs), ByteArray.empty, if 1 < g then kids' (g - 1) x K0 else kids' 0 (linkPl x.link) K0⟩] = _
        rw [bare_two, hK1]
theorem cl_good (E : List ByteArray) (A : Prs) (S : List ByteArray) : ∀ (n D g : Nat) (x : Pl) (l : List (NT n)) (acc : List (NT (D + 1))), GoodL (stepC E A S D D g x) acc → GoodL (stepC E A S D D g x) (cl E A S n D g x l acc)
  | 0, D, g, x, l, acc, h => h
  | n + 1, D, g, x, l, acc, h => by
    rw [cl_succ]
    refine fold_right (P := fun acc => GoodL (stepC E A S D D g x) acc) (fun acc y hacc => ?_) l acc h
    refine stepA_good (K := List (NT n)) (K' := List (NT D)) E A S [] g x _ _ _ _ (stepC E A S D D g x) rfl (fun e acc k h => ?_) (fun g x k => ?_) acc y hacc
    · subst e
      exact cl_good E A S n D 0 x k acc h
    · cases D with
      | zero => rfl
      | succ D =>
        show cl E A S (D + 1) D g x (cl E A S n D g x k []) [] = cl E A S n D g x k []
        rw [cl_succ]
        exact (cl_good E A S n D g x k [] (GoodL.nil _)).same
theorem kids_two (E : List ByteArray) (A : Prs) (S : List ByteArray) (n D g : Nat) (x : Pl) (l : List (NT n)) : kidsN E A S D D g x (kidsN E A S n D g x l) = kidsN E A S n D g x l := by
  cases D with
  | zero => rfl
  | succ D =>
    show cl E A S (D + 1) D g x (cl E A S n D g x l []) [] = cl E A S n D g x l []
    rw [cl_succ]
    exact (cl_good E A S n D g x l [] (GoodL.nil _)).same

def flatO {K : Type} (f : K → List UInt8) (y : NodeD K) : List UInt8 := if y.kind = 2 then nlL y.text.data.toList else if y.kind ≠ 1 ∨ y.space ≠ 0 ∨ hasS goneL y.name = true then [] else f y.kids
/-- The texts that are not within what is gone, with newlines of one kind. -/
def flatL : (n : Nat) → List (NT n) → List UInt8
  | 0, _ => []
  | n + 1, l => (List.map (α := NodeD (List (NT n))) (flatO (flatL n)) l).flatten
def one0 {K : Type} (nil : K) (u : List UInt8) : List (NodeD K) := if u.isEmpty then [] else [txtN nil u]
def tacc : (D : Nat) → List UInt8 → List (NT D)
  | 0, _ => []
  | D + 1, u => one0 (K := List (NT D)) [] u
theorem txt_one {K : Type} (nil : K) (u : List UInt8) (s : ByteArray) : txt nil false (one0 nil u) s = one0 nil (u ++ nlL s.data.toList) := by
  unfold txt
  rw [Bool.false_and]
  show txtP nil (one0 nil u) (nlL s.data.toList) = _
  obtain ⟨t, ht⟩ : ∃ t, nlL s.data.toList = t := ⟨_, rfl⟩
  rw [ht]
  unfold txtP one0
  cases t with
  | nil => simp
  | cons b t =>
    rw [if_neg (by simp)]
    cases u with
    | nil => rfl
    | cons c u => rfl
theorem stepN_none {K K' : Type} (nil : K') (A : Prs) (S : List ByteArray) (x : Pl) (hx : x.pre = false) (f : K → List UInt8) (flat : List (NodeD K') → K → List (NodeD K')) (kids : Nat → Pl → K → K') (hf : ∀ u k, flat (one0 nil u) k = one0 nil (u ++ f k)) (u : List UInt8) (y : NodeD K) : stepA nil [] A S 0 x flat kids (one0 nil u) y = one0 nil (u ++ flatO f y) := by
  show stepN nil [] A S x flat kids (one0 nil u) y = _
  unfold stepN flatO
  by_cases h2 : y.kind = 2
  · rw [if_pos h2, if_pos h2, hx, txt_one]
  · rw [if_neg h2, if_neg h2]
    by_cases h1 : y.kind ≠ 1 ∨ y.space ≠ 0 ∨ hasS goneL y.name = true
    · rw [if_pos h1, if_pos h1, List.append_nil]
    · rw [if_neg h1, if_neg h1]
      have h0 : (hasS [] y.name && (knownB y.name && x.takes y.name)) = false := rfl
      rw [if_neg (by rw [h0]; decide), hf]
theorem cl_none (A : Prs) (S : List ByteArray) : ∀ (n D : Nat) (x : Pl) (l : List (NT n)) (u : List UInt8), x.pre = false → cl [] A S n D 0 x l (tacc (D + 1) u) = tacc (D + 1) (u ++ flatL n l)
  | 0, D, x, l, u, hx => by
    show tacc (D + 1) u = tacc (D + 1) (u ++ [])
    rw [List.append_nil]
  | n + 1, D, x, l, u, hx => by
    rw [cl_succ]
    have hs : ∀ (y : NT (n + 1)) (u : List UInt8), stepC [] A S n D 0 x (tacc (D + 1) u) y = tacc (D + 1) (u ++ flatO (K := List (NT n)) (flatL n) y) := fun y u =>
      stepN_none (K := List (NT n)) (K' := List (NT D)) [] A S x hx (flatL n) _ _ (fun u k => cl_none A S n D x k u hx) u y
    have hall : ∀ (l : List (NT (n + 1))) (u : List UInt8), l.foldl (stepC [] A S n D 0 x) (tacc (D + 1) u) = tacc (D + 1) (u ++ flatL (n + 1) l) := fun l => by
      induction l with
      | nil => intro u; show tacc (D + 1) u = tacc (D + 1) (u ++ []); rw [List.append_nil]
      | cons a l ih =>
        intro u
        rw [List.foldl_cons, hs, ih, List.append_assoc]
        rfl
    exact hall l u
theorem kids_nothing (A : Prs) (S : List ByteArray) (n D : Nat) (x : Pl) (l : List (NT n)) (hx : x.pre = false) : kidsN [] A S n D 0 x l = tacc D (flatL n l) := by
  cases D with
  | zero => rfl
  | succ D =>
    have := cl_none A S n D x l [] hx
    rw [List.nil_append] at this
    exact this

/-! ### what stays has no more text -/
theorem nlS_app_len : ∀ (a b : List UInt8) (p : Bool), (nlS p (a ++ b)).length ≤ (nlS p a).length + b.length
  | [], b, p => by
    rw [List.nil_append]
    have := nlS_len b p
    omega
  | c :: a, b, p => by
    rw [List.cons_append]
    by_cases h13 : c = 13
    · subst h13
      rw [nlS_13, nlS_13, List.length_cons, List.length_cons]
      have := nlS_app_len a b true
      omega
    · by_cases h10 : p = true ∧ c = 10
      · obtain ⟨rfl, rfl⟩ := h10
        rw [nlS_10, nlS_10]
        exact nlS_app_len a b false
      · have hq : p = false ∨ c ≠ 10 := by
          cases p with
          | false => exact .inl rfl
          | true => exact .inr (fun e => h10 ⟨rfl, e⟩)
        rw [nlS_else h13 hq, nlS_else h13 hq, List.length_cons, List.length_cons]
        have := nlS_app_len a b false
        omega
def flatN {K : Type} (f : K → List UInt8) (l : List (NodeD K)) : Nat := (l.map (flatO f)).flatten.length
theorem flatN_app {K : Type} (f : K → List UInt8) (a b : List (NodeD K)) : flatN f (a ++ b) = flatN f a + flatN f b := by
  unfold flatN
  rw [List.map_append, List.flatten_append, List.length_append]
theorem flatN_one {K : Type} (f : K → List UInt8) (y : NodeD K) : flatN f [y] = (flatO f y).length := by
  unfold flatN
  simp
theorem flatN_cons {K : Type} (f : K → List UInt8) (y : NodeD K) (l : List (NodeD K)) : flatN f (y :: l) = (flatO f y).length + flatN f l := by
  unfold flatN
  simp
theorem txtP_flat {K : Type} (f : K → List UInt8) (nil : K) (acc : List (NodeD K)) (t : List UInt8) : flatN f (txtP nil acc t) ≤ flatN f acc + t.length := by
  have hnew : flatN f (acc ++ [txtN nil t]) ≤ flatN f acc + t.length := by
    rw [flatN_app, flatN_one]
    have := nlL_len t
    show flatN f acc + (nlL t).length ≤ _
    omega
  unfold txtP
  split
  · omega
  · split
    · exact hnew
    · next x hx =>
      split
      · next hk =>
        conv => rhs; rw [dropLast_last hx]
        rw [flatN_app, flatN_app, flatN_one, flatN_one]
        have e1 : flatO f { x with text := ⟨(x.text.data.toList ++ t).toArray⟩ } = nlL (x.text.data.toList ++ t) := by unfold flatO; rw [if_pos hk]
        have e2 : flatO f x = nlL x.text.data.toList := by unfold flatO; rw [if_pos hk]
        rw [e1, e2]
        have := nlS_app_len x.text.data.toList t false
        show _ + (nlS false (x.text.data.toList ++ t)).length ≤ _ + (nlS false x.text.data.toList).length + _
        omega
      · exact hnew
theorem rows_stay : ([⟨#[116, 98, 111, 100, 121]⟩, ⟨#[116, 102, 111, 111, 116]⟩, ⟨#[116, 104, 101, 97, 100]⟩, ⟨#[116, 114]⟩, ⟨#[116, 100]⟩, ⟨#[116, 104]⟩].all fun x => !hasS goneL x) = true := by decide +kernel
theorem row_stays {g : Nat} {s : ByteArray} (h : hasS (rowL g) s = true) : hasS goneL s = false := by
  have hm := (hasS_iff _ _).1 h
  have hall : s ∈ [⟨#[116, 98, 111, 100, 121]⟩, ⟨#[116, 102, 111, 111, 116]⟩, ⟨#[116, 104, 101, 97, 100]⟩, ⟨#[116, 114]⟩, ⟨#[116, 100]⟩, ⟨#[116, 104]⟩] := by
    unfold rowL at hm
    split at hm
    · simp only [List.mem_cons, List.not_mem_nil, or_false] at hm ⊢
      rcases hm with h | h | h <;> simp [h]
    · split at hm
      · simp only [List.mem_cons, List.not_mem_nil, or_false] at hm ⊢
        simp [hm]
      · simp only [List.mem_cons, List.not_mem_nil, or_false] at hm ⊢
        rcases hm with h | h <;> simp [h]
  simpa using List.all_eq_true.1 rows_stay s hall
theorem stepA_flat {K K' : Type} (f : K → List UInt8) (f' : K' → List UInt8) (nil : K') (hn : (f' nil).length = 0) (E : List ByteArray) (A : Prs) (S : List ByteArray) (g : Nat) (x : Pl) (flat : List (NodeD K') → K → List (NodeD K')) (kids : Nat → Pl → K → K')
    (hf : ∀ acc k, flatN f' (flat acc k) ≤ flatN f' acc + (f k).length) (hk : ∀ g x k, (f' (kids g x k)).length ≤ (f k).length) (acc : List (NodeD K')) (y : NodeD K) : flatN f' (stepA nil E A S g x flat kids acc y) ≤ flatN f' acc + (flatO f y).length := by
  have htx : ∀ p, y.kind = 2 → flatN f' (txt nil p acc y.text) ≤ flatN f' acc + (flatO f y).length := fun p h2 => by
    have e : flatO f y = nlL y.text.data.toList := by unfold flatO; rw [if_pos h2]
    rw [e]
    unfold txt
    have h1 := txtP_flat f' nil acc (cutNl (p && acc.isEmpty) (nlL y.text.data.toList))
    have h3 := cutNl_len (p && acc.isEmpty) (nlL y.text.data.toList)
    omega
  have hel : ∀ k', hasS goneL y.name = false → y.kind = 1 → y.space = 0 → (f' k').length ≤ (f y.kids).length → flatN f' (acc ++ [⟨1, 0, y.name, bareA E A S y.name y.attrs, ByteArray.empty, k'⟩]) ≤ flatN f' acc + (flatO f y).length := fun k' hg h1 h0 hle => by
    have hc : ¬ (y.kind ≠ 1 ∨ y.space ≠ 0 ∨ hasS goneL y.name = true) := by rw [hg]; simp [h1, h0]
    have hc' : ¬ ((1 : Nat) ≠ 1 ∨ (0 : Nat) ≠ 0 ∨ hasS goneL y.name = true) := by rw [hg]; simp
    have e : flatO f y = f y.kids := by unfold flatO; rw [if_neg (by omega), if_neg hc]
    have e' : flatO f' ⟨1, 0, y.name, bareA E A S y.name y.attrs, ByteArray.empty, k'⟩ = f' k' := by
      unfold flatO
      rw [if_neg (by show ¬ (1 : Nat) = 2; decide), if_neg hc']
    rw [flatN_app, flatN_one, e, e']
    omega
  unfold stepA
  split
  · unfold stepN
    split
    · next h2 => exact htx _ h2
    · next h2 =>
      split
      · omega
      · next hc =>
        have h1 : y.kind = 1 := Classical.byContradiction fun h => hc (.inl h)
        have h0 : y.space = 0 := Classical.byContradiction fun h => hc (.inr (.inl h))
        have hg : hasS goneL y.name = false := by
          cases hg : hasS goneL y.name with
          | false => rfl
          | true => exact absurd (.inr (.inr hg)) hc
        split
        · refine hel _ hg h1 h0 ?_
          split
          · rw [hn]; exact Nat.zero_le _
          · split
            · exact hk _ _ _
            · exact hk _ _ _
        · have e : flatO f y = f y.kids := by unfold flatO; rw [if_neg h2, if_neg hc]
          rw [e]
          exact hf acc y.kids
  · unfold stepG
    split
    · next h2 =>
      split
      · exact htx _ h2
      · omega
    · split
      · omega
      · next hc =>
        have h1 : y.kind = 1 := Classical.byContradiction fun h => hc (.inl h)
        have h0 : y.space = 0 := Classical.byContradiction fun h => hc (.inr (.inl h))
        have hr : hasS (rowL g) y.name = true := by
          cases hr : hasS (rowL g) y.name with
          | true => rfl
          | false => exact absurd (.inr (.inr (.inl hr))) hc
        refine hel _ (row_stays hr) h1 h0 ?_
        split
        · exact hk _ _ _
        · exact hk _ _ _
theorem cl_flat (E : List ByteArray) (A : Prs) (S : List ByteArray) : ∀ (n D g : Nat) (x : Pl) (l : List (NT n)) (acc : List (NT (D + 1))), (flatL (D + 1) (cl E A S n D g x l acc)).length ≤ (flatL (D + 1) acc).length + (flatL n l).length
  | 0, D, g, x, l, acc => by
    show (flatL (D + 1) acc).length ≤ _
    omega
  | n + 1, D, g, x, l, acc => by
    rw [cl_succ]
    refine fold_wt _ (fun acc => (flatL (D + 1) acc).length) (fun l => (flatL (n + 1) l).length) (fun b a l => ?_) rfl l acc
    have := stepA_flat (K := List (NT n)) (K' := List (NT D)) (flatL n) (flatL D) [] (by cases D <;> rfl) E A S g x (fun acc k => cl E A S n D 0 x k acc) (kidsN E A S n D) (fun acc k => cl_flat E A S n D 0 x k acc) (fun g' x' k => by
      cases D with
      | zero => exact Nat.zero_le _
      | succ D =>
        have := cl_flat E A S n D g' x' k []
        have h0 : (flatL (D + 1) []).length = 0 := rfl
        show (flatL (D + 1) (cl E A S n D g' x' k [])).length ≤ _
        omega) b a
    have e1 : (flatL (n + 1) (a :: l)).length = (flatO (flatL n) a).length + (flatL (n + 1) l).length := flatN_cons (K := List (NT n)) (flatL n) a l
    have e2 : (flatL (D + 1) (stepC E A S n D g x b a)).length ≤ (flatL (D + 1) b).length + (flatO (flatL n) a).length := this
    show (flatL (D + 1) (stepC E A S n D g x b a)).length + (flatL (n + 1) l).length ≤ (flatL (D + 1) b).length + (flatL (n + 1) (a :: l)).length
    omega
theorem kids_flat (E : List ByteArray) (A : Prs) (S : List ByteArray) (n D g : Nat) (x : Pl) (l : List (NT n)) : (flatL D (kidsN E A S n D g x l)).length ≤ (flatL n l).length := by
  cases D with
  | zero => exact Nat.zero_le _
  | succ D =>
    have := cl_flat E A S n D g x l []
    have h0 : (flatL (D + 1) []).length = 0 := rfl
    show (flatL (D + 1) (cl E A S n D g x l [])).length ≤ _
    omega
end Go.Proofs.YtdkjenbncmedbaaGreatDoor
