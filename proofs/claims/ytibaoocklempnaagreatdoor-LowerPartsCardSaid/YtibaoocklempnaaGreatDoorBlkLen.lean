/- How long blocks are as HTML. -/
import Derived.Test.YtibaoocklempnaaGreatDoorBlk
namespace Go.Proofs.YtibaoocklempnaaGreatDoor
open Go.RowKit

theorem idxOut_le {T : Type} (f : Nat → T → List UInt8) (g : T → Nat) (c : Nat) (h : ∀ i x, (f i x).length ≤ c * g x) : ∀ l : List T, (idxOut f l).length ≤ c * rowB g l := by
  have key : ∀ (l : List T) (f : Nat → T → List UInt8), (∀ i x, (f i x).length ≤ c * g x) → (idxOut f l).length ≤ c * rowB g l := by
    intro l
    induction l with
    | nil => intro f h; simp [idxOut]
    | cons x r ih =>
      intro f h
      have h1 := ih (fun i => f (i + 1)) (fun i x => h _ x)
      have h2 := h 0 x
      unfold idxOut rowB at *
      rw [List.mapIdx_cons, List.flatten_cons, List.length_append, List.map_cons, List.sum_cons, Nat.mul_add]
      exact Nat.add_le_add h2 h1
  exact fun l => key l f h
theorem decDigits_len : ∀ (k u : Nat), u < 10 ^ (k + 1) → (Lib.decDigits u).length ≤ k + 1
  | 0, u, h => by rw [Lib.decDigits, dif_pos (by simpa using h)]; simp
  | k + 1, u, h => by
    rw [Lib.decDigits]
    split
    · simp
    · rw [List.length_append, List.length_singleton]
      have := decDigits_len k (u / 10) (by rw [Nat.pow_succ] at h; omega)
      omega
theorem itoa_len (n : Int) (h : I64 n) : (Lib.itoa n).length ≤ 20 := by
  obtain ⟨h1, h2⟩ := h
  unfold Lib.itoa
  split
  · have := decDigits_len 18 n.natAbs (by show n.natAbs < 10000000000000000000; omega)
    rw [List.length_cons]
    omega
  · have := decDigits_len 18 n.toNat (by show n.toNat < 10000000000000000000; omega)
    omega
theorem field_le (p : Nat → Bool) (s a : ByteArray) (h : a ∈ Lib.goFieldsP p s) : a.size ≤ s.size := by
  unfold Lib.goFieldsP at h
  obtain ⟨x, _, rfl⟩ := List.mem_map.1 h
  rw [ByteArray.size_extract]
  omega
theorem langOut_le (inf : ByteArray) : (langOut inf).length ≤ 6 * inf.size + 20 := by
  unfold langOut
  split
  · simp
  · next a r e =>
    have h1 := field_le blankP inf a (by rw [e]; exact List.mem_cons_self)
    have h2 := low_cs a
    rw [cat_len3]
    have e1 : (⟨#[32, 99, 108, 97, 115, 115, 61, 34, 108, 97, 110, 103, 117, 97, 103, 101, 45]⟩ : ByteArray).size = 17 := rfl
    have e2 : (⟨#[34]⟩ : ByteArray).size = 1 := rfl
    omega
theorem ite_nil {p : Prop} [Decidable p] (a : List UInt8) (n : Nat) (h : a.length ≤ n) : (if p then a else []).length ≤ n := by
  split
  · exact h
  · simp
theorem listName_size (mk : Nat) : (listName mk).size = 2 := by unfold listName; split <;> rfl
theorem listStart_size (mk : Nat) (st : Int) (h : I64 st) : (listStart mk st).size ≤ 29 := by
  have h1 := itoa_len st h
  have h2 := cs_size (Lib.itoa st)
  unfold listStart
  split
  · split
    · exact Nat.zero_le _
    · rw [ByteArray.size_append, ByteArray.size_append]
      have e1 : (⟨#[32, 115, 116, 97, 114, 116, 61, 34]⟩ : ByteArray).size = 8 := rfl
      have e2 : (⟨#[34]⟩ : ByteArray).size = 1 := rfl
      omega
  · exact Nat.zero_le _
theorem placeOut_le (al : List UInt8) (i : Nat) : (placeOut al i).length ≤ 20 := by
  unfold placeOut
  split
  · simp
  · split
    · decide
    · split
      · decide
      · split
        · decide
        · simp
theorem cat_len2 (a b : ByteArray) : (cat [a, b]).length = a.size + b.size := by simp [cat]
theorem cat_len4 (a b c d : ByteArray) : (cat [a, b, c, d]).length = a.size + b.size + c.size + d.size := by simp [cat]; omega

/-- What is asked of a level's outs, that the next level's be short. -/
structure Short {T : Type} (o : Outs T) (g : T → Nat) (io : T → List UInt8) : Prop where
  blk : ∀ x, (o.blk x).length + 60 ≤ 400 * g x
  cls : ∀ x, (o.cls x).length ≤ 400 * g x
  row : ∀ name al x, name.size = 2 → (o.row name al x).length ≤ 400 * g x
  io : ∀ x, (io x).length + 60 ≤ 400 * g x
theorem rowsOut_le {T : Type} (f : T → List UInt8) (g : T → Nat) (h : ∀ x, (f x).length ≤ 400 * g x) (l : List T) : (rowsOut f l).length ≤ 400 * rowB g l := idxOut_le (fun _ => f) g 400 (fun _ x => h x) l
theorem listKid_le {T : Type} {o : Outs T} {g : T → Nat} {io : T → List UInt8} (h : Short o g io) (kd : T → Nat) (tg : Bool) (x : T) : (listKid o kd tg x).length ≤ 400 * g x := by
  unfold listKid
  split
  · exact h.cls x
  · have := h.blk x; omega
theorem closeKid_le {T : Type} {o : Outs T} {g : T → Nat} {io : T → List UInt8} (h : Short o g io) (kd : T → Nat) (n i : Nat) (x : T) : (closeKid o kd io n i x).length ≤ 400 * g x := by
  have h1 := h.blk x
  have h2 := h.io x
  unfold closeKid
  split
  · rw [List.length_append]
    have := ite_nil (p := i + 1 < n) (cat [⟨#[10]⟩]) 1 (by decide)
    omega
  · rw [List.length_append]
    have := ite_nil (p := i = 0) (cat [⟨#[10]⟩]) 1 (by decide)
    omega
theorem cellOut_le {T : Type} {o : Outs T} {g : T → Nat} {io : T → List UInt8} (h : Short o g io) (kd : T → Nat) (name : ByteArray) (hn : name.size = 2) (al : List UInt8) (i : Nat) (x : T) : (cellOut kd io name al i x).length ≤ 400 * g x := by
  have h2 := h.io x
  have h3 := placeOut_le al i
  unfold cellOut
  split
  · rw [List.length_append, List.length_append, List.length_append, List.length_append, cat_len2, cat_len1, cat_len3]
    have e1 : (⟨#[60]⟩ : ByteArray).size = 1 := rfl
    have e2 : (⟨#[62]⟩ : ByteArray).size = 1 := rfl
    have e3 : (⟨#[60, 47]⟩ : ByteArray).size = 2 := rfl
    have e4 : (⟨#[62, 10]⟩ : ByteArray).size = 2 := rfl
    omega
  · simp
theorem rowOut_le {T : Type} {o : Outs T} {g : T → Nat} {io : T → List UInt8} (h : Short o g io) (kd : T → Nat) (name : ByteArray) (hn : name.size = 2) (al : List UInt8) (k : Nat) (l : List T) : (rowOut kd io name al k l).length ≤ 400 * (1 + rowB g l) := by
  have h1 := idxOut_le (cellOut kd io name al) g 400 (fun i x => cellOut_le h kd name hn al i x) l
  unfold rowOut
  split
  · rw [List.length_append, List.length_append, cat_len1, cat_len1]
    have e1 : (⟨#[60, 116, 114, 62, 10]⟩ : ByteArray).size = 5 := rfl
    have e2 : (⟨#[60, 47, 116, 114, 62, 10]⟩ : ByteArray).size = 6 := rfl
    omega
  · simp
theorem closeOut_le {T : Type} {o : Outs T} {g : T → Nat} {io : T → List UInt8} (h : Short o g io) (kd : T → Nat) (l : List T) : (closeOut o kd io l).length ≤ 400 * (1 + rowB g l) := by
  have h1 := idxOut_le (closeKid o kd io l.length) g 400 (fun i x => closeKid_le h kd l.length i x) l
  unfold closeOut
  rw [List.length_append, List.length_append, cat_len1, cat_len1]
  have e1 : (⟨#[60, 108, 105, 62]⟩ : ByteArray).size = 4 := rfl
  have e2 : (⟨#[60, 47, 108, 105, 62, 10]⟩ : ByteArray).size = 6 := rfl
  omega
theorem tableOut_le {T : Type} {o : Outs T} {g : T → Nat} {io : T → List UInt8} (h : Short o g io) (al : List UInt8) (l : List T) : (tableOut o al l).length + 60 ≤ 400 * (1 + rowB g l) := by
  have h1 := rowsOut_le (o.row ⟨#[116, 104]⟩ al) g (fun x => h.row _ al x rfl) (l.take 1)
  have h2 := rowsOut_le (o.row ⟨#[116, 100]⟩ al) g (fun x => h.row _ al x rfl) (l.drop 1)
  have h3 := rowB_split g l 1
  have h4 := ite_nil (p := 1 < l.length) (cat [⟨#[60, 116, 98, 111, 100, 121, 62, 10]⟩] ++ rowsOut (o.row ⟨#[116, 100]⟩ al) (l.drop 1) ++ cat [⟨#[60, 47, 116, 98, 111, 100, 121, 62, 10]⟩]) (8 + (rowsOut (o.row ⟨#[116, 100]⟩ al) (l.drop 1)).length + 9) (by
    rw [List.length_append, List.length_append, cat_len1, cat_len1]; exact Nat.le_refl _)
  unfold tableOut
  rw [List.length_append, List.length_append, List.length_append, List.length_append, cat_len1, cat_len1, cat_len1]
  have e1 : (⟨#[60, 116, 97, 98, 108, 101, 62, 10, 60, 116, 104, 101, 97, 100, 62, 10]⟩ : ByteArray).size = 16 := rfl
  have e2 : (⟨#[60, 47, 116, 104, 101, 97, 100, 62, 10]⟩ : ByteArray).size = 9 := rfl
  have e3 : (⟨#[60, 47, 116, 97, 98, 108, 101, 62, 10]⟩ : ByteArray).size = 9 := rfl
  omega
theorem listOut_le {T : Type} {o : Outs T} {g : T → Nat} {io : T → List UInt8} (h : Short o g io) (kd : T → Nat) (mk : Nat) (st : Int) (hst : I64 st) (tg : Bool) (l : List T) : (listOut o kd mk st tg l).length + 60 ≤ 400 * (1 + rowB g l) := by
  have h1 := rowsOut_le (listKid o kd tg) g (listKid_le h kd tg) l
  have h2 := listName_size mk
  have h3 := listStart_size mk st hst
  unfold listOut
  rw [List.length_append, List.length_append, cat_len4, cat_len3]
  have e1 : (⟨#[60]⟩ : ByteArray).size = 1 := rfl
  have e2 : (⟨#[62, 10]⟩ : ByteArray).size = 2 := rfl
  have e3 : (⟨#[60, 47]⟩ : ByteArray).size = 2 := rfl
  omega
theorem blkK_le {T : Type} {o : Outs T} {g : T → Nat} {io : T → List UInt8} (h : Short o g io) (kd : T → Nat) (x : BlkD (List T)) (io1 : List UInt8) (hio : io1.length ≤ 300 * iwt x.dep x.inl) : (blkK o kd io1 x).length + 60 ≤ 400 * bwt1 (rowB g) x := by
  have k1 := rowsOut_le o.blk g (fun x => by have := h.blk x; omega) x.kids
  have k2 := listOut_le h kd x.mark x.start x.st64 x.tight x.kids
  have k3 := tableOut_le h x.align x.kids
  have k4 : (quoteOut (rowsOut o.blk x.kids)).length ≤ 400 * rowB g x.kids + 27 := by
    unfold quoteOut
    rw [List.length_append, List.length_append, cat_len1, cat_len1]
    have e1 : (⟨#[60, 98, 108, 111, 99, 107, 113, 117, 111, 116, 101, 62, 10]⟩ : ByteArray).size = 13 := rfl
    have e2 : (⟨#[60, 47, 98, 108, 111, 99, 107, 113, 117, 111, 116, 101, 62, 10]⟩ : ByteArray).size = 14 := rfl
    omega
  have k5 : (itemOut o x.kids).length ≤ 400 * rowB g x.kids + 11 := by
    unfold itemOut
    have := ite_nil (p := 0 < x.kids.length) (cat [⟨#[10]⟩]) 1 (by decide)
    rw [List.length_append, List.length_append, List.length_append, cat_len1, cat_len1]
    have e1 : (⟨#[60, 108, 105, 62]⟩ : ByteArray).size = 4 := rfl
    have e2 : (⟨#[60, 47, 108, 105, 62, 10]⟩ : ByteArray).size = 6 := rfl
    omega
  have k6 : (paraOut io1).length ≤ io1.length + 8 := by
    unfold paraOut
    rw [List.length_append, aroundOut_le, cat_len1]
    have e1 : (⟨#[112]⟩ : ByteArray).size = 1 := rfl
    have e2 : (⟨#[10]⟩ : ByteArray).size = 1 := rfl
    omega
  have k7 : (headOut x.level io1).length ≤ io1.length + 48 := by
    unfold headOut
    have e0 := cs_size (104 :: Lib.itoa x.level)
    have e3 := itoa_len x.level x.lv64
    rw [List.length_cons] at e0
    rw [List.length_append, aroundOut_le, cat_len1]
    have e2 : (⟨#[10]⟩ : ByteArray).size = 1 := rfl
    omega
  have k8 : (codeOut x.info x.text).length ≤ 6 * x.info.size + 6 * x.text.size + 45 := by
    unfold codeOut
    have e0 := langOut_le x.info
    have e3 := low_cs x.text
    rw [List.length_append, List.length_append, cat_len1, cat_len3]
    have e1 : (⟨#[60, 112, 114, 101, 62, 60, 99, 111, 100, 101]⟩ : ByteArray).size = 10 := rfl
    have e2 : (⟨#[62]⟩ : ByteArray).size = 1 := rfl
    have e4 : (⟨#[60, 47, 99, 111, 100, 101, 62, 60, 47, 112, 114, 101, 62, 10]⟩ : ByteArray).size = 14 := rfl
    omega
  have k9 : (cat [x.text, ⟨#[10]⟩]).length = x.text.size + 1 := by rw [cat_len2]; rfl
  have k10 : (cat [⟨#[60, 104, 114, 32, 47, 62, 10]⟩]).length = 7 := rfl
  have k11 : ([] : List UInt8).length = 0 := rfl
  unfold blkK bwt1
  repeat' split
  all_goals omega

theorem outs_short : ∀ n : Nat, Short (outs n) (bw1 n) (ioOf n)
  | 0 => ⟨fun x => Empty.elim x, fun x => Empty.elim x, fun _ _ x => Empty.elim x, fun x => Empty.elim x⟩
  | n + 1 => by
    have ih := outs_short n
    have hio : ∀ x : BT (n + 1), (inlOut (BlkD.dep x) (BlkD.inl x)).length ≤ 300 * iwt (BlkD.dep x) (BlkD.inl x) := fun x => inlOut_le _ _
    have hw : ∀ x : BT (n + 1), bw1 (n + 1) x = bwt1 (K := List (BT n)) (rowB (bw1 n)) x := fun x => rfl
    refine ⟨fun x => ?_, fun x => ?_, fun name al x hn => ?_, fun x => ?_⟩
    · rw [hw]
      exact blkK_le (T := BT n) ih (kdOf n) x _ (hio x)
    · have h := closeOut_le (T := BT n) ih (kdOf n) (BlkD.kids x)
      rw [hw]
      unfold bwt1
      refine Nat.le_trans h ?_
      omega
    · have h := rowOut_le (T := BT n) ih (kdOf n) name hn al (BlkD.kind x) (BlkD.kids x)
      rw [hw]
      unfold bwt1
      refine Nat.le_trans h ?_
      omega
    · have h := hio x
      rw [hw]
      unfold bwt1
      show (inlOut (BlkD.dep x) (BlkD.inl x)).length + 60 ≤ _
      omega
theorem blk_le (n : Nat) (x : BT n) : ((outs n).blk x).length ≤ 400 * bw1 n x := by have := (outs_short n).blk x; omega
theorem blksOut_le (n : Nat) (l : List (BT n)) : (blksOut n l).length ≤ 400 * bwt n l := rowsOut_le (outs n).blk (bw1 n) (blk_le n) l
end Go.Proofs.YtibaoocklempnaaGreatDoor
