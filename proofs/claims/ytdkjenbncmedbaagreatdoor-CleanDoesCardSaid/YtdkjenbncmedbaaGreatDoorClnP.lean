/- What stays of a tree, plainly. -/
import Derived.Test.YtdkjenbncmedbaaGreatDoorNlP
import Derived.Test.YtdkjenbncmedbaaGreatDoorNodLent
import Derived.Test.YtdkjenbncmedbaaGreatDoorKeeps
import Derived.Lib.SlTrimSet
namespace Go.Proofs.YtdkjenbncmedbaaGreatDoor
open Go.RowKit

def goneL : List ByteArray := [⟨#[97, 112, 112, 108, 101, 116]⟩, ⟨#[102, 114, 97, 109, 101, 115, 101, 116]⟩, ⟨#[105, 102, 114, 97, 109, 101]⟩, ⟨#[109, 97, 116, 104]⟩, ⟨#[110, 111, 101, 109, 98, 101, 100]⟩, ⟨#[110, 111, 102, 114, 97, 109, 101, 115]⟩, ⟨#[110, 111, 115, 99, 114, 105, 112, 116]⟩, ⟨#[111, 98, 106, 101, 99, 116]⟩, ⟨#[112, 108, 97, 105, 110, 116, 101, 120, 116]⟩, ⟨#[115, 99, 114, 105, 112, 116]⟩, ⟨#[115, 101, 108, 101, 99, 116]⟩, ⟨#[115, 116, 121, 108, 101]⟩, ⟨#[115, 118, 103]⟩, ⟨#[116, 101, 109, 112, 108, 97, 116, 101]⟩, ⟨#[116, 101, 120, 116, 97, 114, 101, 97]⟩, ⟨#[116, 105, 116, 108, 101]⟩, ⟨#[120, 109, 112]⟩]
def closL : List ByteArray := [⟨#[98, 108, 111, 99, 107, 113, 117, 111, 116, 101]⟩, ⟨#[100, 100]⟩, ⟨#[100, 105, 118]⟩, ⟨#[100, 108]⟩, ⟨#[100, 116]⟩, ⟨#[104, 49]⟩, ⟨#[104, 50]⟩, ⟨#[104, 51]⟩, ⟨#[104, 52]⟩, ⟨#[104, 53]⟩, ⟨#[104, 54]⟩, ⟨#[104, 114]⟩, ⟨#[108, 105]⟩, ⟨#[111, 108]⟩, ⟨#[112]⟩, ⟨#[112, 114, 101]⟩, ⟨#[116, 97, 98, 108, 101]⟩, ⟨#[117, 108]⟩]
def apartL : List ByteArray := [⟨#[98, 108, 111, 99, 107, 113, 117, 111, 116, 101]⟩, ⟨#[100, 108]⟩, ⟨#[104, 49]⟩, ⟨#[104, 50]⟩, ⟨#[104, 51]⟩, ⟨#[104, 52]⟩, ⟨#[104, 53]⟩, ⟨#[104, 54]⟩, ⟨#[111, 108]⟩, ⟨#[112, 114, 101]⟩, ⟨#[116, 97, 98, 108, 101]⟩, ⟨#[116, 98, 111, 100, 121]⟩, ⟨#[116, 100]⟩, ⟨#[116, 102, 111, 111, 116]⟩, ⟨#[116, 104]⟩, ⟨#[116, 104, 101, 97, 100]⟩, ⟨#[116, 114]⟩, ⟨#[117, 108]⟩]
def headsL : List ByteArray := [⟨#[104, 49]⟩, ⟨#[104, 50]⟩, ⟨#[104, 51]⟩, ⟨#[104, 52]⟩, ⟨#[104, 53]⟩, ⟨#[104, 54]⟩]
def partsL : List ByteArray := [⟨#[116, 98, 111, 100, 121]⟩, ⟨#[116, 100]⟩, ⟨#[116, 102, 111, 111, 116]⟩, ⟨#[116, 104]⟩, ⟨#[116, 104, 101, 97, 100]⟩, ⟨#[116, 114]⟩]
def voidL : List ByteArray := [⟨#[98, 114]⟩, ⟨#[104, 114]⟩, ⟨#[105, 109, 103]⟩]
def pairL : List ByteArray := [⟨#[100, 100]⟩, ⟨#[100, 116]⟩]
def rowL (g : Nat) : List ByteArray := if g = 3 then [⟨#[116, 98, 111, 100, 121]⟩, ⟨#[116, 102, 111, 111, 116]⟩, ⟨#[116, 104, 101, 97, 100]⟩] else if g = 2 then [⟨#[116, 114]⟩] else [⟨#[116, 100]⟩, ⟨#[116, 104]⟩]
/-- A place. -/
structure Pl where
  para : Bool
  link : Bool
  item : Bool
  pair : Bool
  head : Bool
  pre : Bool

def Pl.into (x : Pl) (s : ByteArray) : Pl :=
  { para := x.para || isT s ⟨#[112]⟩, link := x.link || isT s ⟨#[97]⟩
    item := if hasS apartL s then false else if isT s ⟨#[108, 105]⟩ then true else if hasS pairL s then false else x.item
    pair := if hasS apartL s then false else if isT s ⟨#[108, 105]⟩ then false else if hasS pairL s then true else x.pair
    head := hasS headsL s, pre := isT s ⟨#[112, 114, 101]⟩ }
def Pl.takes (x : Pl) (s : ByteArray) : Bool :=
  !(x.para && hasS closL s || x.head && hasS headsL s || hasS partsL s) && !(x.link && isT s ⟨#[97]⟩) && !(x.item && isT s ⟨#[108, 105]⟩) && !(x.pair && hasS pairL s)
def linkPl (b : Bool) : Pl := ⟨false, b, false, false, false, false⟩

/-- The attributes that stay. -/
def bareStep (E : List ByteArray) (A : Prs) (S : List ByteArray) (el : ByteArray) (out : List AttrD) (a : AttrD) : List AttrD :=
  if !(out.any fun x => isT x.name a.name) && keepsB E A S el a.name a.value then out ++ [⟨a.name, ⟨(nlL a.value.data.toList).toArray⟩⟩] else out
def bareA (E : List ByteArray) (A : Prs) (S : List ByteArray) (el : ByteArray) (l : List AttrD) : List AttrD := l.foldl (bareStep E A S el) []
/-- A text behind what there is. -/
def cutNl (pre : Bool) (l : List UInt8) : List UInt8 := if pre then l.dropWhile (· == 10) else l
def txtN {K : Type} (nil : K) (l : List UInt8) : NodeD K := ⟨2, 0, ByteArray.empty, [], ⟨l.toArray⟩, nil⟩
def txtP {K : Type} (nil : K) (acc : List (NodeD K)) (t : List UInt8) : List (NodeD K) :=
  if t.isEmpty then acc else match acc.getLast? with
    | none => acc ++ [txtN nil t]
    | some x => if x.kind = 2 then acc.dropLast ++ [{ x with text := ⟨(x.text.data.toList ++ t).toArray⟩ }] else acc ++ [txtN nil t]
def txt {K : Type} (nil : K) (pre : Bool) (acc : List (NodeD K)) (s : ByteArray) : List (NodeD K) := txtP nil acc (cutNl (pre && acc.isEmpty) (nlL s.data.toList))
def blankB (s : ByteArray) : Bool := s.data.toList.all fun b => b == 32 || b == 9 || b == 10 || b == 12 || b == 13
/-- One node behind what there is. -/
def stepN {K K' : Type} (nil : K') (E : List ByteArray) (A : Prs) (S : List ByteArray) (x : Pl) (flat : List (NodeD K') → K → List (NodeD K')) (kids : Nat → Pl → K → K') (acc : List (NodeD K')) (y : NodeD K) : List (NodeD K') :=
  if y.kind = 2 then txt nil x.pre acc y.text
  else if y.kind ≠ 1 ∨ y.space ≠ 0 ∨ hasS goneL y.name = true then acc
  else if hasS E y.name && (knownB y.name && x.takes y.name) then
    acc ++ [⟨1, 0, y.name, bareA E A S y.name y.attrs, ByteArray.empty, if hasS voidL y.name then nil else if isT y.name ⟨#[116, 97, 98, 108, 101]⟩ then kids 3 x y.kids else kids 0 (x.into y.name) y.kids⟩]
  else flat acc y.kids
def stepG {K K' : Type} (nil : K') (E : List ByteArray) (A : Prs) (S : List ByteArray) (g : Nat) (x : Pl) (kids : Nat → Pl → K → K') (acc : List (NodeD K')) (y : NodeD K) : List (NodeD K') :=
  if y.kind = 2 then (if blankB y.text then txt nil false acc y.text else acc)
  else if y.kind ≠ 1 ∨ y.space ≠ 0 ∨ hasS (rowL g) y.name = false ∨ hasS E y.name = false then acc
  else acc ++ [⟨1, 0, y.name, bareA E A S y.name y.attrs, ByteArray.empty, if 1 < g then kids (g - 1) x y.kids else kids 0 (linkPl x.link) y.kids⟩]
def stepA {K K' : Type} (nil : K') (E : List ByteArray) (A : Prs) (S : List ByteArray) (g : Nat) (x : Pl) (flat : List (NodeD K') → K → List (NodeD K')) (kids : Nat → Pl → K → K') (acc : List (NodeD K')) (y : NodeD K) : List (NodeD K') :=
  if g = 0 then stepN nil E A S x flat kids acc y else stepG nil E A S g x kids acc y
/-- What stays, behind what there is: g = 0 in a place, else in a table's parts of that rank. -/
def cl (E : List ByteArray) (A : Prs) (S : List ByteArray) : (n D : Nat) → Nat → Pl → List (NT n) → List (NT (D + 1)) → List (NT (D + 1))
  | 0, _, _, _, _, acc => acc
  | n + 1, D, g, x, l, acc => List.foldl (stepA (K := List (NT n)) (K' := List (NT D)) [] E A S g x (fun acc k => cl E A S n D 0 x k acc) (fun g' x' k => match D with | 0 => [] | D' + 1 => cl E A S n D' g' x' k [])) acc l
def kidsN (E : List ByteArray) (A : Prs) (S : List ByteArray) (n : Nat) : (D : Nat) → Nat → Pl → List (NT n) → List (NT D)
  | 0, _, _, _ => []
  | D + 1, g, x, k => cl E A S n D g x k []
def stepC (E : List ByteArray) (A : Prs) (S : List ByteArray) (n D g : Nat) (x : Pl) : List (NT (D + 1)) → NT (n + 1) → List (NT (D + 1)) :=
  stepA (K := List (NT n)) (K' := List (NT D)) [] E A S g x (fun acc k => cl E A S n D 0 x k acc) (kidsN E A S n D)
theorem cl_succ (E : List ByteArray) (A : Prs) (S : List ByteArray) (n D g : Nat) (x : Pl) (l : List (NT (n + 1))) (acc : List (NT (D + 1))) : cl E A S (n + 1) D g x l acc = l.foldl (stepC E A S n D g x) acc := by
  cases D <;> rfl
theorem cl_take (E : List ByteArray) (A : Prs) (S : List ByteArray) (n D g : Nat) (x : Pl) (l : List (NT (n + 1))) (acc : List (NT (D + 1))) (k : Nat) (hk : k < l.length) : cl E A S (n + 1) D g x (l.take (k + 1)) acc = stepC E A S n D g x (cl E A S (n + 1) D g x (l.take k) acc) l[k] := by
  rw [cl_succ, cl_succ, List.take_succ_eq_append_getElem hk, List.foldl_append]
  rfl
theorem bareA_take (E : List ByteArray) (A : Prs) (S : List ByteArray) (el : ByteArray) (l : List AttrD) (k : Nat) (hk : k < l.length) : bareA E A S el (l.take (k + 1)) = bareStep E A S el (bareA E A S el (l.take k)) l[k] := by
  unfold bareA
  rw [List.take_succ_eq_append_getElem hk, List.foldl_append]
  rfl

/-! ### how much stays -/
theorem attrsWt_app (a b : List AttrD) : attrsWt (a ++ b) = attrsWt a + attrsWt b := by
  unfold attrsWt
  rw [List.map_append, List.sum_append]
theorem rowWt_app {K : Type} (f : K → Nat) (a b : List (NodeD K)) : rowWt f (a ++ b) = rowWt f a + rowWt f b := by
  unfold rowWt
  rw [List.map_append, List.sum_append]
theorem rowWt_one {K : Type} (f : K → Nat) (x : NodeD K) : rowWt f [x] = 1 + x.text.size / 8 + x.name.size / 8 + attrsWt x.attrs + f x.kids := by
  unfold rowWt
  simp
theorem size_list (l : List UInt8) : (⟨l.toArray⟩ : ByteArray).size = l.length := by
  show l.toArray.size = _
  simp
theorem bare_wt (E : List ByteArray) (A : Prs) (S : List ByteArray) (el : ByteArray) : ∀ (l out : List AttrD), attrsWt (l.foldl (bareStep E A S el) out) ≤ attrsWt out + attrsWt l
  | [], out => by simp [attrsWt]
  | a :: l, out => by
    rw [List.foldl_cons]
    refine Nat.le_trans (bare_wt E A S el l _) ?_
    have h1 : attrsWt (a :: l) = 1 + a.name.size / 8 + a.value.size / 8 + attrsWt l := by unfold attrsWt; simp
    have h2 : attrsWt (bareStep E A S el out a) ≤ attrsWt out + (1 + a.name.size / 8 + a.value.size / 8) := by
      unfold bareStep
      split
      · rw [attrsWt_app]
        have := nlL_len a.value.data.toList
        have hs : a.value.data.toList.length = a.value.size := Array.length_toList
        unfold attrsWt
        simp only [List.map_cons, List.map_nil, List.sum_cons, List.sum_nil, size_list]
        omega
      · omega
    omega
theorem dropLast_last {α : Type} {l : List α} {x : α} (h : l.getLast? = some x) : l = l.dropLast ++ [x] := by
  obtain ⟨ys, rfl⟩ := List.getLast?_eq_some_iff.1 h
  simp
theorem cutNl_len (p : Bool) (l : List UInt8) : (cutNl p l).length ≤ l.length := by
  unfold cutNl
  split
  · exact (List.dropWhile_suffix _).length_le
  · exact Nat.le_refl _
theorem txt_wt {K : Type} (f : K → Nat) (nil : K) (hn : f nil = 0) (acc : List (NodeD K)) (t : List UInt8) : rowWt f (txtP nil acc t) ≤ rowWt f acc + (1 + t.length / 8) := by
  unfold txtP
  split
  · omega
  · have hnew : rowWt f (acc ++ [txtN nil t]) ≤ rowWt f acc + (1 + t.length / 8) := by
      rw [rowWt_app, rowWt_one]
      unfold txtN
      simp only [size_list, hn]
      show _ + (1 + t.length / 8 + 0 / 8 + attrsWt [] + 0) ≤ _
      simp [attrsWt]
    split
    · exact hnew
    · next x hx =>
      split
      · conv => rhs; rw [dropLast_last hx]
        rw [rowWt_app, rowWt_app, rowWt_one, rowWt_one]
        simp only [size_list, List.length_append]
        have hs : x.text.data.toList.length = x.text.size := Array.length_toList
        omega
      · exact hnew
theorem txt_wt2 {K : Type} (f : K → Nat) (nil : K) (hn : f nil = 0) (p : Bool) (acc : List (NodeD K)) (s : ByteArray) : rowWt f (txt nil p acc s) ≤ rowWt f acc + (1 + s.size / 8) := by
  unfold txt
  have h1 := txt_wt f nil hn acc (cutNl (p && acc.isEmpty) (nlL s.data.toList))
  have h2 := cutNl_len (p && acc.isEmpty) (nlL s.data.toList)
  have h3 := nlL_len s.data.toList
  have hs : s.data.toList.length = s.size := Array.length_toList
  omega
theorem stepA_wt {K K' : Type} (f : K → Nat) (f' : K' → Nat) (nil : K') (hn : f' nil = 0) (E : List ByteArray) (A : Prs) (S : List ByteArray) (g : Nat) (x : Pl) (flat : List (NodeD K') → K → List (NodeD K')) (kids : Nat → Pl → K → K')
    (hf : ∀ acc k, rowWt f' (flat acc k) ≤ rowWt f' acc + f k) (hk : ∀ g x k, f' (kids g x k) ≤ f k) (acc : List (NodeD K')) (y : NodeD K) : rowWt f' (stepA nil E A S g x flat kids acc y) ≤ rowWt f' acc + (1 + y.text.size / 8 + y.name.size / 8 + attrsWt y.attrs + f y.kids) := by
  have hb := bare_wt E A S y.name y.attrs []
  have he : ∀ k', f' k' ≤ f y.kids → rowWt f' (acc ++ [⟨1, 0, y.name, bareA E A S y.name y.attrs, ByteArray.empty, k'⟩]) ≤ rowWt f' acc + (1 + y.text.size / 8 + y.name.size / 8 + attrsWt y.attrs + f y.kids) := fun k' h => by
    rw [rowWt_app, rowWt_one]
    show _ + (1 + 0 / 8 + y.name.size / 8 + attrsWt (bareA E A S y.name y.attrs) + f' k') ≤ _
    have : attrsWt (bareA E A S y.name y.attrs) ≤ attrsWt [] + attrsWt y.attrs := hb
    have h0 : attrsWt [] = 0 := rfl
    omega
  unfold stepA
  split
  · unfold stepN
    split
    · have := txt_wt2 f' nil hn x.pre acc y.text
      omega
    · split
      · omega
      · split
        · refine he _ ?_
          split
          · rw [hn]; exact Nat.zero_le _
          · split
            · exact hk _ _ _
            · exact hk _ _ _
        · have := hf acc y.kids
          omega
  · unfold stepG
    split
    · split
      · have := txt_wt2 f' nil hn false acc y.text
        omega
      · omega
    · split
      · omega
      · refine he _ ?_
        split
        · exact hk _ _ _
        · exact hk _ _ _
theorem fold_wt {α β : Type} (st : β → α → β) (F : β → Nat) (G : List α → Nat) (h : ∀ b a l, F (st b a) + G l ≤ F b + G (a :: l)) (h0 : G [] = 0) : ∀ (l : List α) (b : β), F (l.foldl st b) ≤ F b + G l
  | [], b => by rw [h0]; exact Nat.le_refl _
  | a :: l, b => by
    rw [List.foldl_cons]
    have h1 := fold_wt st F G h h0 l (st b a)
    have h2 := h b a l
    omega
theorem rowWt_cons {K : Type} (f : K → Nat) (a : NodeD K) (l : List (NodeD K)) : rowWt f (a :: l) = 1 + a.text.size / 8 + a.name.size / 8 + attrsWt a.attrs + f a.kids + rowWt f l := by
  unfold rowWt
  simp
theorem wt_cons (n : Nat) (a : NT (n + 1)) (l : List (NT (n + 1))) : wt (n + 1) (a :: l) = 1 + (NodeD.text a).size / 8 + (NodeD.name a).size / 8 + attrsWt (NodeD.attrs a) + wt n (NodeD.kids a) + wt (n + 1) l := by
  exact rowWt_cons (K := List (NT n)) (wt n) a l
theorem cl_wt (E : List ByteArray) (A : Prs) (S : List ByteArray) : ∀ (n D g : Nat) (x : Pl) (l : List (NT n)) (acc : List (NT (D + 1))), wt (D + 1) (cl E A S n D g x l acc) ≤ wt (D + 1) acc + wt n l
  | 0, D, g, x, l, acc => by
    show wt (D + 1) acc ≤ _
    omega
  | n + 1, D, g, x, l, acc => by
    rw [cl_succ]
    refine fold_wt _ (wt (D + 1)) (wt (n + 1)) (fun b a l => ?_) rfl l acc
    have := stepA_wt (K := List (NT n)) (K' := List (NT D)) (wt n) (wt D) [] (by cases D <;> rfl) E A S g x (fun acc k => cl E A S n D 0 x k acc) (kidsN E A S n D) (fun acc k => cl_wt E A S n D 0 x k acc) (fun g' x' k => by
      cases D with
      | zero => exact Nat.zero_le _
      | succ D =>
        have := cl_wt E A S n D g' x' k []
        have h0 : wt (D + 1) [] = 0 := rfl
        show wt (D + 1) (cl E A S n D g' x' k []) ≤ _
        omega) b a
    rw [wt_cons]
    have h2 : wt (D + 1) (stepC E A S n D g x b a) ≤ wt (D + 1) b + (1 + (NodeD.text a).size / 8 + (NodeD.name a).size / 8 + attrsWt (NodeD.attrs a) + wt n (NodeD.kids a)) := this
    omega
end Go.Proofs.YtdkjenbncmedbaaGreatDoor
