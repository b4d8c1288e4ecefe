/- Inlines as HTML: what the writer's parts come to, and how long; title, and a name around. -/
import Derived.Test.YtibaoocklempnaaGreatDoorIPlain2
import Derived.Test.YtibaoocklempnaaGreatDoorEscape
namespace Go.Proofs.YtibaoocklempnaaGreatDoor
open Go.RowKit

def cs (l : List UInt8) : ByteArray := ⟨l.toArray⟩
theorem cs_list (l : List UInt8) : (cs l).data.toList = l := rfl
def titleOut (t : ByteArray) : List UInt8 := if t.data.toList = [] then [] else cat [⟨#[32, 116, 105, 116, 108, 101, 61, 34]⟩, cs (lowT t.data.toList), ⟨#[34]⟩]
def aroundOut (name : ByteArray) (k : List UInt8) : List UInt8 := cat [⟨#[60]⟩, name, ⟨#[62]⟩] ++ k ++ cat [⟨#[60, 47]⟩, name, ⟨#[62]⟩]
def linkOut (dest title : ByteArray) (k : List UInt8) : List UInt8 :=
  cat [⟨#[60, 97, 32, 104, 114, 101, 102, 61, 34]⟩, cs (lowT (escape dest.data.toList)), ⟨#[34]⟩] ++ titleOut title ++ cat [⟨#[62]⟩] ++ k ++ cat [⟨#[60, 47, 97, 62]⟩]
def imageOut (dest title : ByteArray) (p : List UInt8) : List UInt8 :=
  cat [⟨#[60, 105, 109, 103, 32, 115, 114, 99, 61, 34]⟩, cs (lowT (escape dest.data.toList)), ⟨#[34, 32, 97, 108, 116, 61, 34]⟩, cs (lowT p), ⟨#[34]⟩] ++ titleOut title ++ cat [⟨#[32, 47, 62]⟩]
def inl1 {K : Type} (f p : K → List UInt8) (x : InlD K) : List UInt8 :=
  if x.kind = 1 then cat [cs (lowT x.text.data.toList)]
  else if x.kind = 2 then cat [⟨#[60, 99, 111, 100, 101, 62]⟩, cs (lowT x.text.data.toList), ⟨#[60, 47, 99, 111, 100, 101, 62]⟩]
  else if x.kind = 3 then aroundOut ⟨#[101, 109]⟩ (f x.kids)
  else if x.kind = 4 then aroundOut ⟨#[115, 116, 114, 111, 110, 103]⟩ (f x.kids)
  else if x.kind = 5 then linkOut x.dest x.title (f x.kids)
  else if x.kind = 6 then imageOut x.dest x.title (p x.kids)
  else if x.kind = 7 then cat [x.text]
  else if x.kind = 8 then cat [⟨#[10]⟩]
  else if x.kind = 9 then cat [⟨#[60, 98, 114, 32, 47, 62, 10]⟩]
  else []
def rowInl {K : Type} (f p : K → List UInt8) (l : List (InlD K)) : List UInt8 := (l.map (inl1 f p)).flatten
def inlOut : (n : Nat) → List (IT n) → List UInt8
  | 0, _ => []
  | n + 1, l => rowInl (inlOut n) (plainOut n) l
theorem rowInl_take {K : Type} (f p : K → List UInt8) (l : List (InlD K)) (k : Nat) (hk : k < l.length) : rowInl f p (l.take (k + 1)) = rowInl f p (l.take k) ++ inl1 f p l[k] := by
  unfold rowInl
  rw [List.take_succ_eq_append_getElem hk, List.map_append, List.flatten_append]
  simp
theorem inlOut_take (n : Nat) (l : List (IT (n + 1))) (k : Nat) (hk : k < l.length) : inlOut (n + 1) (l.take (k + 1)) = inlOut (n + 1) (l.take k) ++ inl1 (inlOut n) (plainOut n) l[k] :=
  rowInl_take (K := List (IT n)) (inlOut n) (plainOut n) l k hk
theorem cat_len1 (a : ByteArray) : (cat [a]).length = a.size := by simp [cat]
theorem cat_len3 (a b c : ByteArray) : (cat [a, b, c]).length = a.size + b.size + c.size := by simp [cat]; omega
theorem cat_len5 (a b c d e : ByteArray) : (cat [a, b, c, d, e]).length = a.size + b.size + c.size + d.size + e.size := by simp [cat]; omega
theorem cs_size (l : List UInt8) : (cs l).size = l.length := by rw [← len_list]; rfl
theorem low_cs (s : ByteArray) : (cs (lowT s.data.toList)).size ≤ 6 * s.size := by
  rw [cs_size, ← len_list]
  exact lowT_le _
theorem lowesc_cs (s : ByteArray) : (cs (lowT (escape s.data.toList))).size ≤ 18 * s.size := by
  have h1 := lowT_le (escape s.data.toList)
  have h2 := escape_le s.data.toList
  rw [cs_size]
  rw [len_list] at h2
  omega
theorem titleOut_le (t : ByteArray) : (titleOut t).length ≤ 6 * t.size + 9 := by
  unfold titleOut
  split
  · simp
  · have h := low_cs t
    rw [cat_len3]
    have e1 : (⟨#[32, 116, 105, 116, 108, 101, 61, 34]⟩ : ByteArray).size = 8 := rfl
    have e2 : (⟨#[34]⟩ : ByteArray).size = 1 := rfl
    omega
theorem aroundOut_le (name : ByteArray) (k : List UInt8) : (aroundOut name k).length = 2 * name.size + 5 + k.length := by
  unfold aroundOut
  rw [List.length_append, List.length_append, cat_len3, cat_len3]
  have e1 : (⟨#[60]⟩ : ByteArray).size = 1 := rfl
  have e2 : (⟨#[62]⟩ : ByteArray).size = 1 := rfl
  have e3 : (⟨#[60, 47]⟩ : ByteArray).size = 2 := rfl
  omega
theorem linkOut_le (d t : ByteArray) (k : List UInt8) : (linkOut d t k).length ≤ 18 * d.size + 6 * t.size + 30 + k.length := by
  unfold linkOut
  have h1 := titleOut_le t
  have h2 := lowesc_cs d
  rw [List.length_append, List.length_append, List.length_append, List.length_append, cat_len3, cat_len1, cat_len1]
  have e1 : (⟨#[60, 97, 32, 104, 114, 101, 102, 61, 34]⟩ : ByteArray).size = 9 := rfl
  have e2 : (⟨#[34]⟩ : ByteArray).size = 1 := rfl
  have e3 : (⟨#[62]⟩ : ByteArray).size = 1 := rfl
  have e4 : (⟨#[60, 47, 97, 62]⟩ : ByteArray).size = 4 := rfl
  omega
theorem imageOut_le (d t : ByteArray) (p : List UInt8) : (imageOut d t p).length ≤ 18 * d.size + 6 * t.size + 40 + 6 * p.length := by
  unfold imageOut
  have h1 := titleOut_le t
  have h2 := lowesc_cs d
  have h3 : (cs (lowT p)).size ≤ 6 * p.length := by rw [cs_size]; exact lowT_le _
  rw [List.length_append, List.length_append, cat_len5, cat_len1]
  have e1 : (⟨#[60, 105, 109, 103, 32, 115, 114, 99, 61, 34]⟩ : ByteArray).size = 10 := rfl
  have e2 : (⟨#[34]⟩ : ByteArray).size = 1 := rfl
  have e3 : (⟨#[34, 32, 97, 108, 116, 61, 34]⟩ : ByteArray).size = 7 := rfl
  have e4 : (⟨#[32, 47, 62]⟩ : ByteArray).size = 3 := rfl
  omega
theorem inl1_le {K : Type} (f p : K → List UInt8) (g : K → Nat) (x : InlD K) (h : (f x.kids).length ≤ 300 * g x.kids) (hp : (p x.kids).length ≤ 8 * g x.kids) : (inl1 f p x).length ≤ 300 * (1 + x.text.size / 8 + x.dest.size / 8 + x.title.size / 8 + g x.kids) := by
  have h1 := low_cs x.text
  have h2 := aroundOut_le ⟨#[101, 109]⟩ (f x.kids)
  have h3 := aroundOut_le ⟨#[115, 116, 114, 111, 110, 103]⟩ (f x.kids)
  have h4 := linkOut_le x.dest x.title (f x.kids)
  have h5 := imageOut_le x.dest x.title (p x.kids)
  have e1 : (⟨#[101, 109]⟩ : ByteArray).size = 2 := rfl
  have e2 : (⟨#[115, 116, 114, 111, 110, 103]⟩ : ByteArray).size = 6 := rfl
  have e3 : (⟨#[60, 99, 111, 100, 101, 62]⟩ : ByteArray).size = 6 := rfl
  have e4 : (⟨#[60, 47, 99, 111, 100, 101, 62]⟩ : ByteArray).size = 7 := rfl
  have e5 : (⟨#[10]⟩ : ByteArray).size = 1 := rfl
  have e6 : (⟨#[60, 98, 114, 32, 47, 62, 10]⟩ : ByteArray).size = 7 := rfl
  unfold inl1
  repeat' split
  all_goals (try rw [cat_len1]); (try rw [cat_len3])
  all_goals first | omega | (rw [List.length_nil]; omega)
theorem rowInl_le {K : Type} (f p : K → List UInt8) (g : K → Nat) (h : ∀ k, (f k).length ≤ 300 * g k) (hp : ∀ k, (p k).length ≤ 8 * g k) : ∀ l : List (InlD K), (rowInl f p l).length ≤ 300 * rowIwt g l
  | [] => by simp [rowInl]
  | x :: l => by
    have h1 := rowInl_le f p g h hp l
    have h2 := inl1_le f p g x (h _) (hp _)
    unfold rowInl rowIwt at *
    rw [List.map_cons, List.flatten_cons, List.length_append, List.map_cons, List.sum_cons]
    omega
theorem inlOut_le : ∀ (n : Nat) (l : List (IT n)), (inlOut n l).length ≤ 300 * iwt n l
  | 0, _ => by simp [inlOut]
  | n + 1, l => rowInl_le (K := List (IT n)) (inlOut n) (plainOut n) (iwt n) (inlOut_le n) (plainOut_le n) l

/-- puts of texts that were laid out just ahead of it. -/
theorem puts_new (B b : Nat) (acc : List UInt8) (ss : List ByteArray) (w : World) (hB : Bld 83 B b acc w) (hn : ss.length ≤ 1000) (hlen : acc.length + (cat ss).length ≤ 140737488355328) :
    Calls Tryz.prog 101 #[.pointer (some ⟨b, 0, none⟩), .slice (some ⟨w.heap.size, 0, none⟩) ss.length ss.length] (w.alloc (.cells (ss.map Value.string).toArray 9)) (WrR w B b (acc ++ cat ss)) := by
  have hBw : B ≤ w.heap.size := Nat.le_trans hB.le (Nat.le_of_lt hB.lt)
  have hb := hB.lt
  refine Calls.mono (puts_any B b w.heap.size acc ss _ (hB.alloc _) (Box.new w 9 _) (by omega) hn hlen) ?_
  rintro e w' ⟨rfl, h1, b1, k1⟩
  exact ⟨rfl, h1, ((Below.refl B w).alloc hBw _).trans b1, ((Kept.refl b w).alloc _).trans k1⟩
theorem WrR.on {w w0 w' : World} {B b : Nat} {l : List UInt8} {e : Ending} (h : WrR w0 B b l e w') (hb : Below B w w0) (hk : Kept b w w0) : WrR w B b l e w' := ⟨h.1, h.2.1, hb.trans h.2.2.1, hk.trans h.2.2.2⟩

set_option maxHeartbeats 1000000 in
set_option maxRecDepth 100000 in
theorem title_any (B b : Nat) (acc : List UInt8) (t : ByteArray) (w : World) (hB : Bld 83 B b acc w) (hlen : acc.length + 6 * t.size + 9 ≤ 1099511627776) :
    Calls Tryz.prog 143 #[.pointer (some ⟨b, 0, none⟩), .string t] w (WrR w B b (acc ++ titleOut t)) := by
  have hBw : B ≤ w.heap.size := Nat.le_trans hB.le (Nat.le_of_lt hB.lt)
  have hle := titleOut_le t
  by_cases h0 : t.data.toList = []
  · have ht : titleOut t = [] := by unfold titleOut; rw [if_pos h0]
    rw [ht, List.append_nil]
    have hs1 : t.toList = [] := by rw [ByteArray.toList_eq]; exact h0
    have hs2 : t.toList.isEmpty = true := by rw [hs1]; rfl
    have HB := Lib.hid hB
    clear hB hle ht h0
    go_enter Tryz.func143, Tryz.ntmps143
    go_wp2
    go_end0
    exact ⟨rfl, HB.out, Below.refl _ _, Kept.refl _ _⟩
  · have ht : titleOut t = cat [⟨#[32, 116, 105, 116, 108, 101, 61, 34]⟩, cs (lowT t.data.toList), ⟨#[34]⟩] := by unfold titleOut; rw [if_neg h0]
    have hs1 : ¬ t.toList = [] := by rw [ByteArray.toList_eq]; exact h0
    have hs2 : t.toList.isEmpty = false := by
      cases h : t.toList with
      | nil => exact absurd h hs1
      | cons a r => rfl
    rw [ht] at hle ⊢
    have HB := Lib.hid hB
    have HLE := Lib.hid hle
    clear hB hle ht h0
    go_enter Tryz.func143, Tryz.ntmps143
    go_wp2_with fail
    refine Calls.mono (lowText_any t _ (by omega)) ?_
    rintro e w1 ⟨rfl, b1⟩
    have HB1 := Lib.hid b1
    clear b1
    go_wp2_with fail
    refine Calls.mono ((puts_new B b acc [⟨#[32, 116, 105, 116, 108, 101, 61, 34]⟩, cs (lowT t.data.toList), ⟨#[34]⟩] w1 (HB.out.below HB1.out) (by simp) (by have := HLE.out; omega))) ?_
    rintro e w2 ⟨rfl, h2, b2, k2⟩
    have H2 := Lib.hid h2
    have HB2 := Lib.hid b2
    have HK2 := Lib.hid k2
    clear h2 b2 k2
    go_wp2
    go_end0
    exact ⟨rfl, H2.out, (HB1.out.mono hBw).trans HB2.out, (Kept.of_below HB1.out).trans HK2.out⟩
end Go.Proofs.YtibaoocklempnaaGreatDoor
