/- The plain laws of policies: what Check and Keeps answer hangs on what stands in the lists; with less, less is kept. -/
import Derived.Test.YtdkjenbncmedbaaGreatDoorLentP
namespace Go.Proofs.YtdkjenbncmedbaaGreatDoor
open Go.RowKit

theorem hasP_iff (l : Prs) (x : ByteArray × ByteArray) : hasP l x = true ↔ x ∈ l := by
  unfold hasP
  rw [List.any_eq_true]
  constructor
  · rintro ⟨y, hy, e⟩
    rw [Bool.and_eq_true] at e
    have : y = x := Prod.ext (bytes_eq (beq_iff_eq.1 e.1)) (bytes_eq (beq_iff_eq.1 e.2))
    rw [← this]
    exact hy
  · exact fun h => ⟨x, h, by simp⟩
/-- Each may be, and none is there twice, up to k. -/
def upTo {α : Type} (may : α → Bool) (has : List α → α → Bool) (l : List α) (k : Nat) : Bool := (List.range k).all fun i => match l[i]? with
  | none => true
  | some x => may x && !has (l.take i) x
theorem upTo_snoc {α : Type} (may : α → Bool) (has : List α → α → Bool) (l : List α) (x : α) : upTo may has (l ++ [x]) (l.length + 1) = (upTo may has l l.length && (may x && !has l x)) := by
  unfold upTo
  rw [List.range_succ, List.all_append, List.all_cons, List.all_nil, Bool.and_true]
  congr 1
  · rw [Bool.eq_iff_iff, List.all_eq_true, List.all_eq_true]
    refine forall_congr' fun i => forall_congr' fun hi => ?_
    have hi := List.mem_range.1 hi
    rw [List.getElem?_append_left hi, List.take_append_of_le_length (by omega)]
  · rw [List.getElem?_append_right (Nat.le_refl _), Nat.sub_self]
    simp
theorem upTo_iff {α : Type} (may : α → Bool) (has : List α → α → Bool) (hh : ∀ l x, has l x = true ↔ x ∈ l) : ∀ (n : Nat) (l : List α), l.length = n → (upTo may has l l.length = true ↔ (∀ x ∈ l, may x = true) ∧ l.Nodup)
  | 0, l, h => by
    obtain rfl := List.eq_nil_of_length_eq_zero h
    simp [upTo]
  | n + 1, l, h => by
    obtain ⟨r, y, rfl⟩ : ∃ r y, l = r ++ [y] := ⟨l.dropLast, l.getLast (by intro e; rw [e] at h; cases h), (List.dropLast_concat_getLast _).symm⟩
    have hr : r.length = n := by simpa using h
    rw [List.length_append, List.length_singleton, upTo_snoc, Bool.and_eq_true, upTo_iff may has hh n r hr, Bool.and_eq_true, Bool.not_eq_true', ← Bool.not_eq_true, hh, List.nodup_append]
    constructor
    · rintro ⟨⟨h1, h2⟩, h3, h4⟩
      refine ⟨fun x hx => ?_, h2, by simp, fun a ha b hb => ?_⟩
      · rcases List.mem_append.1 hx with h5 | h5
        · exact h1 x h5
        · rw [List.mem_singleton.1 h5]; exact h3
      · rw [List.mem_singleton.1 hb]
        rintro rfl
        exact h4 ha
    · rintro ⟨h1, h2, _, h4⟩
      exact ⟨⟨fun x hx => h1 x (List.mem_append_left _ hx), h2⟩, h1 y (by simp), fun hy => h4 y hy y (by simp) rfl⟩
theorem onceSF_up (may : ByteArray → Bool) (l : List ByteArray) (k : Nat) : onceSF may l k = upTo may hasS l k := by
  unfold onceSF upTo
  congr 1
  funext i
  cases l[i]? <;> rfl
theorem oncePF_up (may : ByteArray × ByteArray → Bool) (l : Prs) (k : Nat) : oncePF may l k = upTo may hasP l k := by
  unfold oncePF upTo
  congr 1
  funext i
  cases l[i]? <;> rfl
theorem onceS_iff (may : ByteArray → Bool) (l : List ByteArray) : onceS may l = true ↔ l.length ≤ 400 ∧ (∀ x ∈ l, may x = true) ∧ l.Nodup := by
  unfold onceS
  rw [onceSF_up, Bool.and_eq_true, decide_eq_true_eq]
  exact and_congr Iff.rfl (upTo_iff may hasS hasS_iff _ l rfl)
theorem onceP_iff (may : ByteArray × ByteArray → Bool) (l : Prs) : onceP may l = true ↔ l.length ≤ 400 ∧ (∀ x ∈ l, may x = true) ∧ l.Nodup := by
  unfold onceP
  rw [oncePF_up, Bool.and_eq_true, decide_eq_true_eq]
  exact and_congr Iff.rfl (upTo_iff may hasP hasP_iff _ l rfl)
theorem check_iff (E : List ByteArray) (A : Prs) (S : List ByteArray) : checkB E A S = true ↔ onceS knownB E = true ∧ onceP (allowB E) A = true ∧ onceS schB S = true ∧ (gridN E = 0 ∨ gridN E = 7) := by
  unfold checkB fineP
  simp only [Bool.and_eq_true, Bool.or_eq_true, decide_eq_true_eq, and_assoc]
theorem check_sub {E : List ByteArray} {A A' : Prs} {S S' : List ByteArray} (h : checkB E A S = true) (hA : A'.Sublist A) (hS : S'.Sublist S) : checkB E A' S' = true := by
  rw [check_iff, onceP_iff, onceS_iff schB] at h ⊢
  obtain ⟨h1, ⟨a1, a2, a3⟩, ⟨s1, s2, s3⟩, h4⟩ := h
  exact ⟨h1, ⟨Nat.le_trans hA.length_le a1, fun x hx => a2 x (hA.subset hx), a3.sublist hA⟩, ⟨Nat.le_trans hS.length_le s1, fun x hx => s2 x (hS.subset hx), s3.sublist hS⟩, h4⟩
theorem safe_mono {l : List UInt8} {S S' : List ByteArray} (h : ∀ x ∈ S', x ∈ S) (hs : safe l S' = true) : safe l S = true := by
  unfold safe at hs ⊢
  cases hsc : scheme l with
  | none => rfl
  | some x =>
    rw [hsc] at hs
    exact (hasS_iff _ _).2 (h _ ((hasS_iff _ _).1 hs))
theorem keeps_mono {E : List ByteArray} {A A' : Prs} {S S' : List ByteArray} {el nm val : ByteArray} (_ : ∀ x ∈ E, x ∈ E) (hA : ∀ x ∈ A', x ∈ A) (hS : ∀ x ∈ S', x ∈ S) (h : keepsB E A' S' el nm val = true) : keepsB E A S el nm val = true := by
  unfold keepsB at h ⊢
  simp only [Bool.and_eq_true, Bool.or_eq_true, hasP_iff] at h ⊢
  exact ⟨h.1, hA _ h.2.1, h.2.2.imp id (safe_mono hS)⟩
theorem keeps_mem {E E' : List ByteArray} {A A' : Prs} {S S' : List ByteArray} {el nm val : ByteArray} (hE : ∀ x, x ∈ E' → x ∈ E) (hA : ∀ x, x ∈ A' → x ∈ A) (hS : ∀ x, x ∈ S' → x ∈ S) (h : keepsB E' A' S' el nm val = true) : keepsB E A S el nm val = true := by
  unfold keepsB at h ⊢
  simp only [Bool.and_eq_true, Bool.or_eq_true, hasP_iff, hasS_iff] at h ⊢
  exact ⟨hE _ h.1, hA _ h.2.1, h.2.2.imp id (safe_mono hS)⟩
theorem keeps_perm {E E' : List ByteArray} {A A' : Prs} {S S' : List ByteArray} {el nm val : ByteArray} (hE : E'.Perm E) (hA : A'.Perm A) (hS : S'.Perm S) : keepsB E A S el nm val = keepsB E' A' S' el nm val := by
  rw [Bool.eq_iff_iff]
  exact ⟨keeps_mem (fun x => hE.mem_iff.2) (fun x => hA.mem_iff.2) (fun x => hS.mem_iff.2), keeps_mem (fun x => hE.mem_iff.1) (fun x => hA.mem_iff.1) (fun x => hS.mem_iff.1)⟩
theorem hasS_perm {E E' : List ByteArray} (h : E'.Perm E) (x : ByteArray) : hasS E x = hasS E' x := by
  rw [Bool.eq_iff_iff, hasS_iff, hasS_iff]
  exact h.mem_iff.symm
theorem check_perm1 {E E' : List ByteArray} {A A' : Prs} {S S' : List ByteArray} (hE : E'.Perm E) (hA : A'.Perm A) (hS : S'.Perm S) (h : checkB E A S = true) : checkB E' A' S' = true := by
  rw [check_iff, onceP_iff, onceS_iff schB, onceS_iff knownB] at h ⊢
  obtain ⟨⟨e1, e2, e3⟩, ⟨a1, a2, a3⟩, ⟨s1, s2, s3⟩, h4⟩ := h
  have hg : gridN E' = gridN E := by unfold gridN; congr 1; apply List.filter_congr; intro g _; rw [hasS_perm hE]
  refine ⟨⟨by rw [hE.length_eq]; exact e1, fun x hx => e2 x (hE.mem_iff.1 hx), hE.nodup_iff.2 e3⟩, ⟨by rw [hA.length_eq]; exact a1, fun x hx => ?_, hA.nodup_iff.2 a3⟩, ⟨by rw [hS.length_eq]; exact s1, fun x hx => s2 x (hS.mem_iff.1 hx), hS.nodup_iff.2 s3⟩, by rw [hg]; exact h4⟩
  have := a2 x (hA.mem_iff.1 hx)
  unfold allowB at this ⊢
  rw [← hasS_perm hE]
  exact this
theorem check_perm {E E' : List ByteArray} {A A' : Prs} {S S' : List ByteArray} (hE : E'.Perm E) (hA : A'.Perm A) (hS : S'.Perm S) : checkB E A S = checkB E' A' S' := by
  rw [Bool.eq_iff_iff]
  exact ⟨check_perm1 hE hA hS, check_perm1 hE.symm hA.symm hS.symm⟩
theorem cut_sub {α : Type} (l : List α) (i : Nat) : (l.take i ++ l.drop (i + 1)).Sublist l := by
  have h := List.take_append_drop i l
  conv => rhs; rw [← h]
  exact List.Sublist.append (List.Sublist.refl _) (by rw [← List.drop_drop]; exact List.drop_sublist _ _)
end Go.Proofs.YtdkjenbncmedbaaGreatDoor
