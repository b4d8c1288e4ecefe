/- Lines, plainly. -/
import Derived.Test.YtebfjlfkofibpaaGreatDoorBkLs
namespace Go.Proofs.YtebfjlfkofibpaaGreatDoor
open Go.RowKit
def flatN : List ByteArray -> List UInt8
 | [] => []
 | l :: r => l.data.toList ++ 10 :: flatN r
def Flat1 (l : ByteArray) : Prop := ∀ b ∈ l.data.toList, b ≠ 10 ∧ b ≠ 13
theorem flatN_append (a b : List ByteArray) : flatN (a ++ b) = flatN a ++ flatN b := by
 induction a with
 | nil => rfl
 | cons x a ih => simp [flatN, ih]
theorem idx_hit : ∀ (l r : List UInt8), (∀ b ∈ l, b ≠ 10) -> Lib.indexByte (l ++ 10 :: r) 10 = (l.length : Int)
 | [], r, _ => rfl
 | b :: l, r, h => by
  have h1 : (b == 10) = false := by simpa using h b (by simp)
  have ih := idx_hit l r fun x hx => h x (by simp [hx]);rw [List.cons_append, Lib.indexByte, h1, ih];have h2 : (((l.length : Int)) == -1) = false := by rw [beq_eq_false_iff_ne]; omega
  simp [h2]
theorem idx_miss : ∀ (l : List UInt8), (∀ b ∈ l, b ≠ 10) -> Lib.indexByte l 10 = -1
 | [], _ => rfl
 | b :: l, h => by
  have h1 : (b == 10) = false := by simpa using h b (by simp)
  rw [Lib.indexByte, h1, idx_miss l fun x hx => h x (by simp [hx])];simp
theorem ba_list {s : ByteArray} {l : List UInt8} (h : s.data.toList = l) : s = ⟨l.toArray⟩ := by
 rw [<- h]
theorem ext_to (s : ByteArray) (a b : Nat) : (s.extract a b).data.toList = (s.data.toList.take b).drop a := by simp [ByteArray.data_extract, List.drop_take]
theorem cut_hit {s : ByteArray} {l r : List UInt8} (h : s.data.toList = l ++ 10 :: r) (hl : ∀ b ∈ l, b ≠ 10) : (cutS s 10).1 = ⟨l.toArray⟩ := by
 have hi := idx_hit l r hl;unfold cutS;rw [h, hi, if_neg (by omega)];refine ba_list ?_;rw [ext_to, h];simp
theorem cut_miss {s : ByteArray} (hl : ∀ b ∈ s.data.toList, b ≠ 10) : (cutS s 10).1 = s := by
 unfold cutS;rw [idx_miss _ hl, if_pos (by decide)]
theorem ext_rest (s : ByteArray) (k : Nat) : (s.extract k s.size).data.toList = s.data.toList.drop k := by
 rw [ext_to, List.take_of_length_le];have : s.data.toList.length = s.size := lTq;omega
theorem lnF_none (f : Nat) {s : ByteArray} {k : Nat} (h : s.size ≤ k) : lnF f s k = [] := by
 cases f with
 | zero => rfl
 | succ f => unfold lnF; rw [if_pos h]
theorem lnF_flat : ∀ (ls : List ByteArray) (cur : ByteArray) (f : Nat) (s : ByteArray) (k : Nat), (∀ l ∈ ls, Flat1 l) -> Flat1 cur -> s.data.toList.drop k = flatN ls ++ cur.data.toList -> s.size + 1 ≤ k + f -> lnF f s k = ls ++ (if cur.size = 0 then [] else [cur])
 | [], cur, f, s, k, _, hc, hd, hf => by
  have hsl : s.data.toList.length = s.size := lTq;have hcl : cur.data.toList.length = cur.size := lTq;have hdl := congrArg List.length hd;simp only [flatN, List.nil_append, List.length_drop, hsl, hcl] at hdl
  by_cases h0 : cur.size = 0
  ·rw [if_pos h0, lnF_none _ (by omega)];rfl
  ·rw [if_neg h0];obtain ⟨f, rfl⟩ : ∃ f', f = f' + 1 := ⟨f - 1, by omega⟩;have he : s.extract k s.size = cur := by
    rw [ba_list (s := s.extract k s.size) ((ext_rest s k).trans hd)];rfl
   unfold lnF;rw [if_neg (by omega), he, cut_miss fun b hb => (hc b hb).1, lnF_none _ (by omega)];rfl
 | l :: r, cur, f, s, k, hl, hc, hd, hf => by
  have hsl : s.data.toList.length = s.size := lTq;have hll : l.data.toList.length = l.size := lTq;have hd2 : s.data.toList.drop k = l.data.toList ++ 10 :: (flatN r ++ cur.data.toList) := by rw [hd, flatN]; simp
  have hdl := congrArg List.length hd2;simp only [List.length_append, List.length_cons, List.length_drop, hsl, hll] at hdl;obtain ⟨f, rfl⟩ : ∃ f', f = f' + 1 := ⟨f - 1, by omega⟩;have hcut : (cutS (s.extract k s.size) 10).1 = l := by
   rw [cut_hit ((ext_rest s k).trans hd2) fun b hb => (hl l (by simp) b hb).1]
  unfold lnF;rw [if_neg (by omega), hcut, lnF_flat r cur f s (k + l.size + 1) (fun x hx => hl x (by simp [hx])) hc ?_ (by omega)]
  ·rfl
  ·rw [show k + l.size + 1 = k + (l.size + 1) by omega, <- List.drop_drop, hd2];rw [show l.size + 1 = l.data.toList.length + 1 by omega, List.drop_append];simp
theorem nlS_plain : ∀ l : List UInt8, (∀ b ∈ l, b ≠ 13) -> nlS false l = l
 | [], _ => rfl
 | b :: l, h => by
  rw [nlS_else (h b (by simp)) (.inl rfl), nlS_plain l fun x hx => h x (by simp [hx])]
theorem nlB_plain {s : ByteArray} (h : ∀ b ∈ s.data.toList, b ≠ 13) : nlB s = s := by
 unfold nlB nlL;rw [nlS_plain _ h]
theorem flatN_no13 : ∀ (ls : List ByteArray), (∀ l ∈ ls, Flat1 l) -> ∀ b ∈ flatN ls, b ≠ 13
 | [], _, b, hb => by cases hb
 | l :: r, h, b, hb => by
  rw [flatN, List.mem_append, List.mem_cons] at hb;rcases hb with hb | rfl | hb
  ·exact (h l (by simp) b hb).2
  ·decide
  ·exact flatN_no13 r (fun x hx => h x (by simp [hx])) b hb
theorem lines_flat {s : ByteArray} {ls : List ByteArray} {cur : ByteArray} (h : s.data.toList = flatN ls ++ cur.data.toList) (hl : ∀ l ∈ ls, Flat1 l) (hc : Flat1 cur) : linesL s = ls ++ (if cur.size = 0 then [] else [cur]) := by
 have h13 : ∀ b ∈ s.data.toList, b ≠ 13 := fun b hb => by
  rw [h, List.mem_append] at hb;rcases hb with hb | hb
  ·exact flatN_no13 ls hl b hb
  ·exact (hc b hb).2
 unfold linesL;rw [nlB_plain h13];exact lnF_flat ls cur _ s 0 hl hc (by rw [List.drop_zero, h]) (by omega)
theorem nlS_no13 : ∀ (l : List UInt8) (p : Bool), ∀ b ∈ nlS p l, b ≠ 13
 | [], _, b, hb => by cases hb
 | c :: l, p, b, hb => by
  unfold nlS at hb;split at hb
  ·rcases List.mem_cons.1 hb with rfl | hb
   ·decide
   ·exact nlS_no13 l _ b hb
  ·rename_i h13;split at hb
   ·exact nlS_no13 l _ b hb
   ·rcases List.mem_cons.1 hb with rfl | hb
    ·exact h13
    ·exact nlS_no13 l _ b hb
