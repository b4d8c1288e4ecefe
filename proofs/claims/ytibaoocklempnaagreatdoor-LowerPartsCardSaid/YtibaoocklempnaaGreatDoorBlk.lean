/- Trees of blocks: as data of a depth, and how they lie in memory; what they come to as HTML, and how long. -/
import Derived.Test.YtibaoocklempnaaGreatDoorLowInl
import Derived.Shelf.Strings.FieldsFuncAny
import Derived.Lib.ItoaNum
namespace Go.Proofs.YtibaoocklempnaaGreatDoor
open Go.RowKit

def I64 (n : Int) : Prop := -9223372036854775808 ≤ n ∧ n ≤ 9223372036854775807
structure BlkD (K : Type) where
  kind : Nat
  level : Int
  mark : Nat
  start : Int
  lv64 : I64 level
  st64 : I64 start
  tight : Bool
  info : ByteArray
  text : ByteArray
  align : List UInt8
  kids : K
  dep : Nat
  inl : List (IT dep)
/-- Blocks of a depth of at most n. -/
def BT : Nat → Type
  | 0 => Empty
  | n + 1 => BlkD (List (BT n))
def OneByte (_ : World) (_ : Nat → Prop) (vs : List Value) (b : UInt8) : Prop := vs = [u8c b]
/-- A slice's length lies within its capacity. -/
def CapOk (v : Value) : Prop := ∀ A m c, v = .slice A m c → m ≤ c ∧ c ≤ 9223372036854775807 ∧ (A = none → c = 0)
def BlkIs {K : Type} (E : World → (Nat → Prop) → Value → K → Prop) (w : World) (S : Nat → Prop) (vs : List Value) (x : BlkD K) : Prop :=
  ∃ va vk vi, vs = [.int .u8 x.kind, .int .i64 x.level, .int .u8 x.mark, .int .i64 x.start, .bool x.tight, .string x.info, .string x.text, va, vk, vi] ∧ Row 1 OneByte w S va x.align ∧ E w S vk x.kids ∧ InlsAt x.dep w S vi x.inl ∧
    x.info.size ≤ 9223372036854775807 ∧ x.text.size ≤ 9223372036854775807 ∧ x.kind < 256 ∧ x.mark < 256 ∧ CapOk vk ∧ x.align.length ≤ 140737488355328
def BlksAt : (n : Nat) → World → (Nat → Prop) → Value → List (BT n) → Prop
  | 0 => fun w S v l => Row (α := Empty) 10 (fun _ _ _ _ => False) w S v l
  | n + 1 => fun w S v l => Row (α := BlkD (List (BT n))) 10 (BlkIs (BlksAt n)) w S v l
def BlkAt : (n : Nat) → World → (Nat → Prop) → List Value → BT n → Prop
  | 0 => fun _ _ _ x => Empty.elim x
  | n + 1 => fun w S vs x => BlkIs (K := List (BT n)) (BlksAt n) w S vs x
theorem bytes_keep {w w' : World} {S : Nat → Prop} {v : Value} {l : List UInt8} (h : Row 1 OneByte w S v l) (hb : ∀ k, S k → w'.heap[k]? = w.heap[k]?) : Row 1 OneByte w' S v l := h.keep hb fun _ _ h => h
theorem bytes_mono {w : World} {S S' : Nat → Prop} {v : Value} {l : List UInt8} (h : Row 1 OneByte w S v l) (hB : ∀ k, S k → S' k) : Row 1 OneByte w S' v l := h.mono hB fun _ _ h => h

theorem bytes_nil_ (W : World) (S : Nat → Prop) (c : Nat) : Row 1 OneByte W S (.slice none 0 c) [] := ⟨none, c, rfl, Nat.zero_le _, fun h => absurd h (Nat.lt_irrefl 0), fun i x hx => by simp at hx⟩
theorem BlksAt.keep {w w' : World} {S : Nat → Prop} (hb : ∀ k, S k → w'.heap[k]? = w.heap[k]?) : ∀ (n : Nat) {v : Value} {l : List (BT n)}, BlksAt n w S v l → BlksAt n w' S v l
  | 0, _, _, h => Row.keep (α := Empty) (size := 10) (E := fun _ _ _ _ => False) h hb fun _ x _ => x.elim
  | n + 1, _, _, h => Row.keep (α := BlkD (List (BT n))) (size := 10) (E := BlkIs (BlksAt n)) h hb fun _ _ ⟨va, vk, vi, e, ha, hk, hi, r⟩ => ⟨va, vk, vi, e, bytes_keep ha hb, BlksAt.keep hb n hk, InlsAt.keep hb _ hi, r⟩
theorem BlksAt.mono {w : World} {S S' : Nat → Prop} (hB : ∀ k, S k → S' k) : ∀ (n : Nat) {v : Value} {l : List (BT n)}, BlksAt n w S v l → BlksAt n w S' v l
  | 0, _, _, h => Row.mono (α := Empty) (size := 10) (E := fun _ _ _ _ => False) h hB fun _ x _ => x.elim
  | n + 1, _, _, h => Row.mono (α := BlkD (List (BT n))) (size := 10) (E := BlkIs (BlksAt n)) h hB fun _ _ ⟨va, vk, vi, e, ha, hk, hi, r⟩ => ⟨va, vk, vi, e, bytes_mono ha hB, BlksAt.mono hB n hk, InlsAt.mono hB _ hi, r⟩
theorem BlkAt.keep {w w' : World} {S : Nat → Prop} (hb : ∀ k, S k → w'.heap[k]? = w.heap[k]?) : ∀ (n : Nat) {vs : List Value} {x : BT n}, BlkAt n w S vs x → BlkAt n w' S vs x
  | 0, _, x, _ => Empty.elim x
  | n + 1, _, _, ⟨va, vk, vi, e, ha, hk, hi, r⟩ => ⟨va, vk, vi, e, bytes_keep ha hb, BlksAt.keep hb n hk, InlsAt.keep hb _ hi, r⟩
theorem BlkAt.mono {w : World} {S S' : Nat → Prop} (hB : ∀ k, S k → S' k) : ∀ (n : Nat) {vs : List Value} {x : BT n}, BlkAt n w S vs x → BlkAt n w S' vs x
  | 0, _, x, _ => Empty.elim x
  | n + 1, _, _, ⟨va, vk, vi, e, ha, hk, hi, r⟩ => ⟨va, vk, vi, e, bytes_mono ha hB, BlksAt.mono hB n hk, InlsAt.mono hB _ hi, r⟩
theorem BlksAt.none_ {w : World} {S : Nat → Prop} {v : Value} {l : List (BT 0)} (h : BlksAt 0 w S v l) : ∃ A c, v = .slice A 0 c := by
  obtain ⟨A, c, rfl, _⟩ := h
  match l with
  | [] => exact ⟨A, c, rfl⟩
  | x :: _ => exact Empty.elim x
theorem BlksAt.shape {w : World} {S : Nat → Prop} {v : Value} : ∀ {n : Nat} {l : List (BT n)}, BlksAt n w S v l → ∃ A c, v = .slice A l.length c ∧ l.length ≤ 9223372036854775807
  | 0, _, ⟨A, c, e, h, _⟩ => ⟨A, c, e, h⟩
  | _ + 1, _, ⟨A, c, e, h, _⟩ => ⟨A, c, e, h⟩
theorem Row.shape {α : Type} {size : Nat} {E : World → (Nat → Prop) → List Value → α → Prop} {w : World} {S : Nat → Prop} {v : Value} {l : List α} (h : Row size E w S v l) : ∃ A c, v = .slice A l.length c ∧ l.length ≤ 9223372036854775807 := by
  obtain ⟨A, c, e, hl, _⟩ := h
  exact ⟨A, c, e, hl⟩

/-- What a round over blocks asks for. -/
theorem BlksAt.get : ∀ {n : Nat} {w : World} {S : Nat → Prop} {v : Value} {l : List (BT n)}, BlksAt n w S v l →
    ∃ A c, v = .slice A l.length c ∧ l.length ≤ 9223372036854775807 ∧ ∀ (k : Nat) (hk : k < l.length), ∃ ad vs, A = some ad ∧ S ad.block ∧ Lie w (ad.add (k * 10)) vs ∧ BlkAt n w S vs l[k]
  | 0, w, S, v, l, h => by
    obtain ⟨A, c, rfl, hl, h0, h1⟩ := h
    refine ⟨A, c, rfl, hl, fun k hk => ?_⟩
    match l with
    | [] => simp at hk
    | x :: _ => exact Empty.elim x
  | n + 1, w, S, v, l, h => by
    obtain ⟨A, c, hv, hl, h0, h1⟩ := h
    refine ⟨A, c, hv, hl, fun k hk => ?_⟩
    obtain ⟨ad, vs, hA, hlie, hE⟩ := h1 k l[k] (List.getElem?_eq_getElem hk)
    obtain ⟨ad', hA', hb'⟩ := h0 (Nat.lt_of_le_of_lt (Nat.zero_le k) hk)
    rw [hA] at hA'
    cases hA'
    exact ⟨ad, vs, hA, hb', hlie, hE⟩
/-- A block's ten cells. -/
theorem BlkAt.cells {n : Nat} {w : World} {S : Nat → Prop} {vs : List Value} {x : BT n} (h : BlkAt n w S vs x) :
    ∃ (kd mk : Nat) (lv st : Int) (tg : Bool) (inf tx : ByteArray) (A1 A2 A3 : Option Addr) (m1 m2 m3 c1 c2 c3 : Nat), vs = [.int .u8 kd, .int .i64 lv, .int .u8 mk, .int .i64 st, .bool tg, .string inf, .string tx, .slice A1 m1 c1, .slice A2 m2 c2, .slice A3 m3 c3] := by
  match n, x, h with
  | 0, x, _ => exact Empty.elim x
  | n + 1, x, ⟨va, vk, vi, e, ha, hk, hi, r⟩ =>
    obtain ⟨A1, c1, rfl, _⟩ := ha.shape
    obtain ⟨A2, c2, rfl, _⟩ := hk.shape
    obtain ⟨A3, m3, c3, rfl⟩ := hi.shape
    exact ⟨_, _, _, _, _, _, _, _, _, _, _, _, _, _, _, _, e⟩

/-- What a round over blocks asks for, the ten cells laid open. -/
theorem BlksAt.get2 {n : Nat} {w : World} {S : Nat → Prop} {v : Value} {l : List (BT n)} (h : BlksAt n w S v l) :
    ∃ A c, v = .slice A l.length c ∧ l.length ≤ 9223372036854775807 ∧ ∀ (k : Nat) (hk : k < l.length), ∃ (ad : Addr) (kd mk : Nat) (lv st : Int) (tg : Bool) (inf tx : ByteArray) (A1 A2 A3 : Option Addr) (m1 m2 m3 c1 c2 c3 : Nat), A = some ad ∧ S ad.block ∧
      BlkAt n w S [.int .u8 kd, .int .i64 lv, .int .u8 mk, .int .i64 st, .bool tg, .string inf, .string tx, .slice A1 m1 c1, .slice A2 m2 c2, .slice A3 m3 c3] l[k] ∧
      w.cell? (ad.add (k * 10)) = some (.int .u8 kd) ∧ w.cell? ⟨(ad.add (k * 10)).block, (ad.add (k * 10)).off + 1, none⟩ = some (.int .i64 lv) ∧ w.cell? ⟨(ad.add (k * 10)).block, (ad.add (k * 10)).off + 2, none⟩ = some (.int .u8 mk) ∧
      w.cell? ⟨(ad.add (k * 10)).block, (ad.add (k * 10)).off + 3, none⟩ = some (.int .i64 st) ∧ w.cell? ⟨(ad.add (k * 10)).block, (ad.add (k * 10)).off + 4, none⟩ = some (.bool tg) ∧ w.cell? ⟨(ad.add (k * 10)).block, (ad.add (k * 10)).off + 5, none⟩ = some (.string inf) ∧
      w.cell? ⟨(ad.add (k * 10)).block, (ad.add (k * 10)).off + 6, none⟩ = some (.string tx) ∧ w.cell? ⟨(ad.add (k * 10)).block, (ad.add (k * 10)).off + 7, none⟩ = some (.slice A1 m1 c1) ∧ w.cell? ⟨(ad.add (k * 10)).block, (ad.add (k * 10)).off + 8, none⟩ = some (.slice A2 m2 c2) ∧
      w.cell? ⟨(ad.add (k * 10)).block, (ad.add (k * 10)).off + 9, none⟩ = some (.slice A3 m3 c3) := by
  obtain ⟨A, c, hv, hl, hg⟩ := h.get
  refine ⟨A, c, hv, hl, fun k hk => ?_⟩
  obtain ⟨ad, vs, hA, hS, hlie, hat⟩ := hg k hk
  obtain ⟨kd, mk, lv, st, tg, inf, tx, A1, A2, A3, m1, m2, m3, c1, c2, c3, rfl⟩ := hat.cells
  exact ⟨ad, kd, mk, lv, st, tg, inf, tx, A1, A2, A3, m1, m2, m3, c1, c2, c3, hA, hS, hat, hlie.fst, hlie.nth 0 _ rfl, hlie.nth 1 _ rfl, hlie.nth 2 _ rfl, hlie.nth 3 _ rfl, hlie.nth 4 _ rfl, hlie.nth 5 _ rfl, hlie.nth 6 _ rfl, hlie.nth 7 _ rfl, hlie.nth 8 _ rfl⟩

/-! ### what they come to -/
def idxOut {T : Type} (f : Nat → T → List UInt8) (l : List T) : List UInt8 := (l.mapIdx f).flatten
theorem idxOut_append {T : Type} (f : Nat → T → List UInt8) (a b : List T) : idxOut f (a ++ b) = idxOut f a ++ idxOut (fun i => f (i + a.length)) b := by
  unfold idxOut
  rw [List.mapIdx_append, List.flatten_append]
theorem idxOut_take {T : Type} (f : Nat → T → List UInt8) (l : List T) (k : Nat) (hk : k < l.length) : idxOut f (l.take (k + 1)) = idxOut f (l.take k) ++ f k l[k] := by
  rw [List.take_succ_eq_append_getElem hk, idxOut_append]
  unfold idxOut
  simp [Nat.min_eq_left (Nat.le_of_lt hk)]
theorem idxOut_split {T : Type} (f : Nat → T → List UInt8) (l : List T) (k : Nat) (hk : k < l.length) : (idxOut f (l.take k)).length + (f k l[k]).length ≤ (idxOut f l).length := by
  have h1 := idxOut_take f l k hk
  have h2 : idxOut f l = idxOut f (l.take (k + 1)) ++ idxOut (fun i => f (i + (l.take (k + 1)).length)) (l.drop (k + 1)) := by
    rw [← idxOut_append, List.take_append_drop]
  rw [h2, h1, List.length_append, List.length_append]
  omega

structure Outs (T : Type) where
  blk : T → List UInt8
  cls : T → List UInt8
  row : ByteArray → List UInt8 → T → List UInt8
def kdOf : (n : Nat) → BT n → Nat
  | 0, x => Empty.elim x
  | _ + 1, x => BlkD.kind x
def ioOf : (n : Nat) → BT n → List UInt8
  | 0, x => Empty.elim x
  | _ + 1, x => inlOut (BlkD.dep x) (BlkD.inl x)
def rowsOut {T : Type} (f : T → List UInt8) (l : List T) : List UInt8 := idxOut (fun _ => f) l
def quoteOut (k : List UInt8) : List UInt8 := cat [⟨#[60, 98, 108, 111, 99, 107, 113, 117, 111, 116, 101, 62, 10]⟩] ++ k ++ cat [⟨#[60, 47, 98, 108, 111, 99, 107, 113, 117, 111, 116, 101, 62, 10]⟩]
def listName (mk : Nat) : ByteArray := if mk = 46 ∨ mk = 41 then ⟨#[111, 108]⟩ else ⟨#[117, 108]⟩
def listStart (mk : Nat) (st : Int) : ByteArray := if mk = 46 ∨ mk = 41 then (if st = 1 then ⟨#[]⟩ else ⟨#[32, 115, 116, 97, 114, 116, 61, 34]⟩ ++ cs (Lib.itoa st) ++ ⟨#[34]⟩) else ⟨#[]⟩
def listKid {T : Type} (o : Outs T) (kd : T → Nat) (tg : Bool) (x : T) : List UInt8 := if kd x = 4 ∧ tg = true then o.cls x else o.blk x
def listOut {T : Type} (o : Outs T) (kd : T → Nat) (mk : Nat) (st : Int) (tg : Bool) (l : List T) : List UInt8 :=
  cat [⟨#[60]⟩, listName mk, listStart mk st, ⟨#[62, 10]⟩] ++ rowsOut (listKid o kd tg) l ++ cat [⟨#[60, 47]⟩, listName mk, ⟨#[62, 10]⟩]
def closeKid {T : Type} (o : Outs T) (kd : T → Nat) (io : T → List UInt8) (n i : Nat) (x : T) : List UInt8 :=
  if kd x = 5 then io x ++ (if i + 1 < n then cat [⟨#[10]⟩] else []) else (if i = 0 then cat [⟨#[10]⟩] else []) ++ o.blk x
def closeOut {T : Type} (o : Outs T) (kd : T → Nat) (io : T → List UInt8) (l : List T) : List UInt8 :=
  cat [⟨#[60, 108, 105, 62]⟩] ++ idxOut (closeKid o kd io l.length) l ++ cat [⟨#[60, 47, 108, 105, 62, 10]⟩]
def itemOut {T : Type} (o : Outs T) (l : List T) : List UInt8 := cat [⟨#[60, 108, 105, 62]⟩] ++ (if 0 < l.length then cat [⟨#[10]⟩] else []) ++ rowsOut o.blk l ++ cat [⟨#[60, 47, 108, 105, 62, 10]⟩]
def paraOut (io : List UInt8) : List UInt8 := aroundOut ⟨#[112]⟩ io ++ cat [⟨#[10]⟩]
def headOut (lv : Int) (io : List UInt8) : List UInt8 := aroundOut (cs (104 :: Lib.itoa lv)) io ++ cat [⟨#[10]⟩]
def blankP (r : Nat) : Bool := r == 32 || r == 9
def langOut (inf : ByteArray) : List UInt8 := match Lib.goFieldsP blankP inf with
  | [] => []
  | a :: _ => cat [⟨#[32, 99, 108, 97, 115, 115, 61, 34, 108, 97, 110, 103, 117, 97, 103, 101, 45]⟩, cs (lowT a.data.toList), ⟨#[34]⟩]
def codeOut (inf tx : ByteArray) : List UInt8 := cat [⟨#[60, 112, 114, 101, 62, 60, 99, 111, 100, 101]⟩] ++ langOut inf ++ cat [⟨#[62]⟩, cs (lowT tx.data.toList), ⟨#[60, 47, 99, 111, 100, 101, 62, 60, 47, 112, 114, 101, 62, 10]⟩]
def placeOut (al : List UInt8) (i : Nat) : List UInt8 := match al[i]? with
  | none => []
  | some a => if a = 1 then cat [⟨#[32, 97, 108, 105, 103, 110, 61, 34]⟩, ⟨#[108, 101, 102, 116]⟩, ⟨#[34]⟩] else if a = 2 then cat [⟨#[32, 97, 108, 105, 103, 110, 61, 34]⟩, ⟨#[99, 101, 110, 116, 101, 114]⟩, ⟨#[34]⟩] else if a = 3 then cat [⟨#[32, 97, 108, 105, 103, 110, 61, 34]⟩, ⟨#[114, 105, 103, 104, 116]⟩, ⟨#[34]⟩] else []
def cellOut {T : Type} (kd : T → Nat) (io : T → List UInt8) (name : ByteArray) (al : List UInt8) (i : Nat) (x : T) : List UInt8 :=
  if kd x = 12 then cat [⟨#[60]⟩, name] ++ placeOut al i ++ cat [⟨#[62]⟩] ++ io x ++ cat [⟨#[60, 47]⟩, name, ⟨#[62, 10]⟩] else []
def rowOut {T : Type} (kd : T → Nat) (io : T → List UInt8) (name : ByteArray) (al : List UInt8) (k : Nat) (l : List T) : List UInt8 :=
  if k = 11 then cat [⟨#[60, 116, 114, 62, 10]⟩] ++ idxOut (cellOut kd io name al) l ++ cat [⟨#[60, 47, 116, 114, 62, 10]⟩] else []
def tableOut {T : Type} (o : Outs T) (al : List UInt8) (l : List T) : List UInt8 :=
  cat [⟨#[60, 116, 97, 98, 108, 101, 62, 10, 60, 116, 104, 101, 97, 100, 62, 10]⟩] ++ rowsOut (o.row ⟨#[116, 104]⟩ al) (l.take 1) ++ cat [⟨#[60, 47, 116, 104, 101, 97, 100, 62, 10]⟩] ++ (if 1 < l.length then cat [⟨#[60, 116, 98, 111, 100, 121, 62, 10]⟩] ++ rowsOut (o.row ⟨#[116, 100]⟩ al) (l.drop 1) ++ cat [⟨#[60, 47, 116, 98, 111, 100, 121, 62, 10]⟩] else []) ++ cat [⟨#[60, 47, 116, 97, 98, 108, 101, 62, 10]⟩]
def blkK {T : Type} (o : Outs T) (kd : T → Nat) (io : List UInt8) (x : BlkD (List T)) : List UInt8 :=
  if x.kind = 1 then rowsOut o.blk x.kids
  else if x.kind = 2 then quoteOut (rowsOut o.blk x.kids)
  else if x.kind = 3 then listOut o kd x.mark x.start x.tight x.kids
  else if x.kind = 4 then itemOut o x.kids
  else if x.kind = 5 then paraOut io
  else if x.kind = 6 then headOut x.level io
  else if x.kind = 7 then codeOut x.info x.text
  else if x.kind = 8 then cat [x.text, ⟨#[10]⟩]
  else if x.kind = 9 then cat [⟨#[60, 104, 114, 32, 47, 62, 10]⟩]
  else if x.kind = 10 then tableOut o x.align x.kids
  else []
def outs : (n : Nat) → Outs (BT n)
  | 0 => ⟨fun x => Empty.elim x, fun x => Empty.elim x, fun _ _ x => Empty.elim x⟩
  | n + 1 => { blk := fun x => blkK (outs n) (kdOf n) (inlOut (BlkD.dep x) (BlkD.inl x)) x, cls := fun x => closeOut (outs n) (kdOf n) (ioOf n) (BlkD.kids x), row := fun name al x => rowOut (kdOf n) (ioOf n) name al (BlkD.kind x) (BlkD.kids x) }
def blksOut (n : Nat) (l : List (BT n)) : List UInt8 := rowsOut (outs n).blk l

def bwt1 {K : Type} (f : K → Nat) (x : BlkD K) : Nat := 1 + x.text.size / 8 + x.info.size / 8 + x.align.length + iwt x.dep x.inl + f x.kids
def rowB {T : Type} (f : T → Nat) (l : List T) : Nat := (l.map f).sum
def bw1 : (n : Nat) → BT n → Nat
  | 0, x => Empty.elim x
  | n + 1, x => bwt1 (K := List (BT n)) (rowB (bw1 n)) x
def bwt (n : Nat) (l : List (BT n)) : Nat := rowB (bw1 n) l
theorem rowB_take {T : Type} (f : T → Nat) (l : List T) (k : Nat) (hk : k < l.length) : rowB f (l.take (k + 1)) = rowB f (l.take k) + f l[k] := by
  unfold rowB
  rw [List.take_succ_eq_append_getElem hk, List.map_append, List.sum_append]
  simp
theorem rowB_split {T : Type} (f : T → Nat) (l : List T) (k : Nat) : rowB f l = rowB f (l.take k) + rowB f (l.drop k) := by
  unfold rowB
  rw [← List.sum_append, ← List.map_append, List.take_append_drop]
theorem rowB_upto {T : Type} (f : T → Nat) (l : List T) (k : Nat) (hk : k < l.length) : rowB f (l.take k) + f l[k] ≤ rowB f l := by
  have h1 := rowB_take f l k hk
  have h2 := rowB_split f l (k + 1)
  omega
theorem rowB_len {T : Type} (f : T → Nat) (hf : ∀ x, 1 ≤ f x) (l : List T) : l.length ≤ rowB f l := by
  unfold rowB
  induction l with
  | nil => simp
  | cons x r ih => have := hf x; simp only [List.map_cons, List.sum_cons, List.length_cons]; omega
theorem bw1_pos : ∀ (n : Nat) (x : BT n), 1 ≤ bw1 n x
  | 0, x => Empty.elim x
  | n + 1, x => by show 1 ≤ bwt1 _ _; unfold bwt1; omega
theorem bwt_len (n : Nat) (l : List (BT n)) : l.length ≤ bwt n l := rowB_len _ (bw1_pos n) l
end Go.Proofs.YtibaoocklempnaaGreatDoor
