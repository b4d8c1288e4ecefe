/- What stays, but for its attributes, hangs on a policy's elements alone; what is right with fewer pairs is right with more. -/
import Derived.Test.YtdkjenbncmedbaaGreatDoorBare
import Derived.Test.YtdkjenbncmedbaaGreatDoorRuleP
namespace Go.Proofs.YtdkjenbncmedbaaGreatDoor
open Go.RowKit

def offO {K : Type} (f : K → K) (y : NodeD K) : NodeD K := ⟨y.kind, y.space, y.name, [], y.text, f y.kids⟩
def offR {K : Type} (f : K → K) (l : List (NodeD K)) : List (NodeD K) := l.map (offO f)
/-- Without attributes. -/
def offN : (n : Nat) → List (NT n) → List (NT n)
  | 0, l => l
  | n + 1, l => offR (K := List (NT n)) (offN n) l
theorem offR_app {K : Type} (f : K → K) (a b : List (NodeD K)) : offR f (a ++ b) = offR f a ++ offR f b := List.map_append
theorem off_txt {K : Type} (f : K → K) (nil : K) (acc : List (NodeD K)) (t : List UInt8) : offR f (txtP nil acc t) = txtP (f nil) (offR f acc) t := by
  have hnew : offR f (acc ++ [txtN nil t]) = offR f acc ++ [txtN (f nil) t] := by rw [offR_app]; rfl
  unfold txtP
  split
  · rfl
  · have hlast : (offR f acc).getLast? = acc.getLast?.map (offO f) := by unfold offR; rw [List.getLast?_map]
    rw [hlast]
    cases hl : acc.getLast? with
    | none => exact hnew
    | some x =>
      show offR f (if x.kind = 2 then acc.dropLast ++ [{ x with text := ⟨(x.text.data.toList ++ t).toArray⟩ }] else acc ++ [txtN nil t]) = if x.kind = 2 then (offR f acc).dropLast ++ [{ offO f x with text := ⟨(x.text.data.toList ++ t).toArray⟩ }] else offR f acc ++ [txtN (f nil) t]
      split
      · rw [offR_app]
        unfold offR
        rw [List.map_dropLast]
        rfl
      · exact hnew
theorem off_txt2 {K : Type} {f : K → K} {nil : K} {p : Bool} {acc acc' : List (NodeD K)} {s : ByteArray} (h : offR f acc = offR f acc') : offR f (txt nil p acc s) = offR f (txt nil p acc' s) := by
  have he : acc.isEmpty = acc'.isEmpty := by
    have := congrArg List.length h
    unfold offR at this
    rw [List.length_map, List.length_map] at this
    cases acc <;> cases acc' <;> simp_all
  unfold txt
  rw [off_txt, off_txt, h, he]
theorem stepA_off {K K' : Type} (f : K' → K') (nil : K') (E : List ByteArray) (A A2 : Prs) (S S2 : List ByteArray) (g : Nat) (x : Pl) (flat flat2 : List (NodeD K') → K → List (NodeD K')) (kids kids2 : Nat → Pl → K → K')
    (hf : ∀ acc acc' k, offR f acc = offR f acc' → offR f (flat acc k) = offR f (flat2 acc' k)) (hk : ∀ g x k, f (kids g x k) = f (kids2 g x k)) (acc acc' : List (NodeD K')) (y : NodeD K) (h : offR f acc = offR f acc') : offR f (stepA nil E A S g x flat kids acc y) = offR f (stepA nil E A2 S2 g x flat2 kids2 acc' y) := by
  have hel : ∀ (b b' : List AttrD) (k1 k2 : K'), f k1 = f k2 → offR f (acc ++ [⟨1, 0, y.name, b, ByteArray.empty, k1⟩]) = offR f (acc' ++ [⟨1, 0, y.name, b', ByteArray.empty, k2⟩]) := fun b b' k1 k2 e => by
    rw [offR_app, offR_app, h]
    show _ ++ [(⟨1, 0, y.name, [], ByteArray.empty, f k1⟩ : NodeD K')] = _ ++ [⟨1, 0, y.name, [], ByteArray.empty, f k2⟩]
    rw [e]
  unfold stepA
  split
  · unfold stepN
    split
    · exact off_txt2 h
    · split
      · exact h
      · split
        · refine hel _ _ _ _ ?_
          split
          · rfl
          · split
            · exact hk _ _ _
            · exact hk _ _ _
        · exact hf _ _ _ h
  · unfold stepG
    split
    · split
      · exact off_txt2 h
      · exact h
    · split
      · exact h
      · refine hel _ _ _ _ ?_
        split
        · exact hk _ _ _
        · exact hk _ _ _
theorem cl_off (E : List ByteArray) (A A2 : Prs) (S S2 : List ByteArray) : ∀ (n D g : Nat) (x : Pl) (l : List (NT n)) (acc acc' : List (NT (D + 1))), offN (D + 1) acc = offN (D + 1) acc' → offN (D + 1) (cl E A S n D g x l acc) = offN (D + 1) (cl E A2 S2 n D g x l acc')
  | 0, D, g, x, l, acc, acc', h => h
  | n + 1, D, g, x, l, acc, acc', h => by
    rw [cl_succ, cl_succ]
    have hst : ∀ (acc acc' : List (NT (D + 1))) (y : NT (n + 1)), offN (D + 1) acc = offN (D + 1) acc' → offN (D + 1) (stepC E A S n D g x acc y) = offN (D + 1) (stepC E A2 S2 n D g x acc' y) := fun acc acc' y h =>
      stepA_off (K := List (NT n)) (K' := List (NT D)) (offN D) [] E A A2 S S2 g x _ _ _ _ (fun acc acc' k h => cl_off E A A2 S S2 n D 0 x k acc acc' h) (fun g x k => by
        cases D with
        | zero => rfl
        | succ D => exact cl_off E A A2 S S2 n D g x k [] [] rfl) acc acc' y h
    have hall : ∀ (l : List (NT (n + 1))) (acc acc' : List (NT (D + 1))), offN (D + 1) acc = offN (D + 1) acc' → offN (D + 1) (l.foldl (stepC E A S n D g x) acc) = offN (D + 1) (l.foldl (stepC E A2 S2 n D g x) acc') := fun l => by
      induction l with
      | nil => exact fun _ _ h => h
      | cons a l ih => exact fun acc acc' h => ih _ _ (hst acc acc' a h)
    exact hall l acc acc' h
theorem kids_off (E : List ByteArray) (A A2 : Prs) (S S2 : List ByteArray) (n D g : Nat) (x : Pl) (l : List (NT n)) : offN D (kidsN E A S n D g x l) = offN D (kidsN E A2 S2 n D g x l) := by
  cases D with
  | zero => rfl
  | succ D => exact cl_off E A A2 S S2 n D g x l [] [] rfl
theorem bareB_off : ∀ (n : Nat) (l : List (NT n)), bareB n (offN n l) = bareB n l
  | 0, _ => rfl
  | n + 1, l => by
    have key : ∀ (l : List (NodeD (List (NT n)))) (s : ByteArray), (offR (offN n) l).foldl (bareO (bareB n)) s = l.foldl (bareO (bareB n)) s := fun l => by
      induction l with
      | nil => exact fun _ => rfl
      | cons a l ih =>
        intro s
        have e : bareO (bareB n) s (offO (offN n) a) = bareO (bareB n) s a := by
          show s ++ ⟨#[60]⟩ ++ a.name ++ ⟨#[62]⟩ ++ a.text ++ bareB n (offN n a.kids) ++ ⟨#[60, 47, 62]⟩ = _
          rw [bareB_off n a.kids]
          rfl
        show (offR (offN n) l).foldl (bareO (bareB n)) (bareO (bareB n) s (offO (offN n) a)) = l.foldl (bareO (bareB n)) (bareO (bareB n) s a)
        rw [e]
        exact ih _
    exact key l ⟨#[]⟩
theorem bareB_same (E : List ByteArray) (A A2 : Prs) (S S2 : List ByteArray) (n D g : Nat) (x : Pl) (l : List (NT n)) : bareB D (kidsN E A S n D g x l) = bareB D (kidsN E A2 S2 n D g x l) := by
  rw [← bareB_off, kids_off E A A2 S S2, bareB_off]
theorem right_more {E : List ByteArray} {A A' : Prs} {S : List ByteArray} (hA : ∀ x ∈ A', x ∈ A) : ∀ (n : Nat) (l : List (NT n)), rightN E A' S n l = true → rightN E A S n l = true
  | 0, _, h => h
  | n + 1, l, h => by
    refine List.all_eq_true.2 fun y hy => ?_
    have h1 := List.all_eq_true.1 h y hy
    rcases Bool.or_eq_true_iff.1 h1 with h2 | h2
    · rw [h2]; rfl
    · rw [Bool.and_eq_true, Bool.and_eq_true, Bool.and_eq_true, Bool.and_eq_true] at h2
      obtain ⟨e1, e2, e3, e4, e5⟩ := h2
      have e4' : ((NodeD.attrs y).all fun a => keepsB E A S (NodeD.name y) a.name a.value) = true := List.all_eq_true.2 fun a ha => keeps_mono (fun _ h => h) hA (fun _ h => h) (List.all_eq_true.1 e4 a ha)
      have e5' := right_more hA n (NodeD.kids y) e5
      refine Bool.or_eq_true_iff.2 (.inr ?_)
      rw [Bool.and_eq_true, Bool.and_eq_true, Bool.and_eq_true, Bool.and_eq_true]
      exact ⟨e1, e2, e3, e4', e5'⟩
end Go.Proofs.YtdkjenbncmedbaaGreatDoor
