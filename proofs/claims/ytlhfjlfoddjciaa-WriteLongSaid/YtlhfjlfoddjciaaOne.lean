/- The reference's 'one', walked. -/
import Derived.Test.YtlhfjlfoddjciaaRef
namespace Go.Proofs.Ytlhfjlfoddjciaa
open Go.RowKit

/-- What a node comes to, its kids' text handed in. -/
def outF (F : Bool → List UInt8) (raw : Bool) (kind space : Nat) (name text : ByteArray) (attrs : List AttrD) : List UInt8 :=
  if kind = 2 then (if raw = true then text.data.toList else esc false text.data.toList)
  else if kind = 3 then [60, 33, 45, 45] ++ text.data.toList ++ [45, 45, 62]
  else if kind = 1 then
    [60] ++ name.data.toList ++ attrsOut attrs ++ [62] ++
      (if isVoid space name = true then [] else F (isBare space name) ++ [60, 47] ++ name.data.toList ++ [62])
  else []
theorem nodeOut_eq {K : Type} (f : Bool → K → List UInt8) (raw : Bool) (x : NodeD K) : nodeOut f raw x = outF (fun b => f b x.kids) raw x.kind x.space x.name x.text x.attrs := rfl

def elemOut (F : Bool → List UInt8) (space : Nat) (name : ByteArray) (attrs : List AttrD) : List UInt8 :=
  [60] ++ name.data.toList ++ attrsOut attrs ++ [62] ++
      (if isVoid space name = true then [] else F (isBare space name) ++ [60, 47] ++ name.data.toList ++ [62])
def textOut (raw : Bool) (text : ByteArray) : List UInt8 := if raw = true then text.data.toList else esc false text.data.toList
def OneR (w : World) (l : List UInt8) (e : Ending) (w' : World) : Prop := e = .returned (.string ⟨l.toArray⟩) ∧ Below w.heap.size w w'

theorem ret_bytes {s : ByteArray} {l : List UInt8} (h : s.data.toList = l) : Ending.returned (.string s) = Ending.returned (.string ⟨l.toArray⟩) := by
  subst h; rfl

theorem u8ne {k : Nat} (j : Nat) (h : k ≠ j) : ((k : Int) == (j : Int)) = false := by simp; omega

set_option maxHeartbeats 1000000 in
theorem one_text (space : Nat) (name text : ByteArray) (w : World) (A2 A3 : Option Addr) (m2 m3 c2 c3 : Nat) (ht : text.size ≤ 1099511627776) (raw : Bool) :
    Calls Try.prog 20 #[.agg #[.int .u8 (2 : Nat), .int .u8 space, .string name, .slice A2 m2 c2, .string text, .slice A3 m3 c3], .bool raw] w (OneR w (textOut raw text)) := by
  cases raw
  · go_enter Try.func20, Try.ntmps20
    go_wp2_with (go_at_call 14; refine (reftext_any _ _ ht).mono ?_; rintro e w' ⟨rfl, rfl⟩)
    go_ret
    exact ⟨rfl, (Below.refl _ _).alloc (Nat.le_refl _) _⟩
  · go_enter Try.func20, Try.ntmps20
    go_wp2
    go_ret
    exact ⟨rfl, (Below.refl _ _).alloc (Nat.le_refl _) _⟩

set_option maxHeartbeats 1000000 in
theorem one_note (space : Nat) (name text : ByteArray) (w : World) (A2 A3 : Option Addr) (m2 m3 c2 c3 : Nat) (ht : text.size ≤ 1099511627776) (raw : Bool) :
    Calls Try.prog 20 #[.agg #[.int .u8 (3 : Nat), .int .u8 space, .string name, .slice A2 m2 c2, .string text, .slice A3 m3 c3], .bool raw] w (OneR w ([60, 33, 45, 45] ++ text.data.toList ++ [45, 45, 62])) := by
  go_enter Try.func20, Try.ntmps20
  go_wp2
  go_ret
  refine ⟨?_, (Below.refl _ _).alloc (Nat.le_refl _) _⟩
  refine ret_bytes ?_
  simp [ByteArray.data_append]

set_option maxHeartbeats 1000000 in
theorem one_else (kind space : Nat) (name text : ByteArray) (w : World) (A2 A3 : Option Addr) (m2 m3 c2 c3 : Nat) (h1 : kind ≠ 1) (h2 : kind ≠ 2) (h3 : kind ≠ 3) (raw : Bool) :
    Calls Try.prog 20 #[.agg #[.int .u8 kind, .int .u8 space, .string name, .slice A2 m2 c2, .string text, .slice A3 m3 c3], .bool raw] w (OneR w []) := by
  have e1 := u8ne 1 h1
  have e2 := u8ne 2 h2
  have e3 := u8ne 3 h3
  go_enter Try.func20, Try.ntmps20
  go_wp2
  go_ret
  exact ⟨rfl, (Below.refl _ _).alloc (Nat.le_refl _) _⟩

theorem quiet_left {P : Program} {f : FuncId} {args : Array Value} {w : World} {n : Nat} {v : Value}
    (h : Calls P f args (w.drewN n) fun e w' => e = .returned v ∧ w.drewN n = w') : Calls P f args (w.drewN n) fun e w'' => e = .returned v ∧ ∃ m, w'' = w.drewN m :=
  h.mono fun _ _ ⟨he, hm⟩ => ⟨he, n, hm.symm⟩
theorem quiet_add_left {P : Program} {f : FuncId} {args : Array Value} {w : World} {a n : Nat} {v : Value}
    (h : Calls P f args (w.drewN (a + n)) fun e w' => e = .returned v ∧ w.drewN (a + n) = w') :
    Calls P f args (w.drewN (a + n)) fun e w'' => e = .returned v ∧ ∃ m, w'' = w.drewN (a + m) :=
  h.mono fun _ _ ⟨he, hm⟩ => ⟨he, n, hm.symm⟩

/-- The kids' text, out of each kid's. -/
def FT (o : Nat → Bool → List UInt8) (b : Bool) (k : Nat) : List UInt8 := ((List.range k).map fun j => o j b).flatten
theorem FT_succ (o : Nat → Bool → List UInt8) (b : Bool) (k : Nat) : FT o b (k + 1) = FT o b k ++ o k b := by
  unfold FT; rw [List.range_succ]; simp

/-- The kids of a node, as a round asks for them: of each its cells, and that 'one' writes it. -/
def Kids (S : Nat → Prop) (w : World) (f : FuncId) (A : Option Addr) (m : Nat) (o : Nat → Bool → List UInt8) : Prop :=
  ∀ k, k < m → ∃ ad u0 u1 u2 u3 u4 u5, A = some ad ∧ S ad.block ∧ w.cell? (ad.add (k * 6)) = some u0 ∧ w.cell? ⟨(ad.add (k * 6)).block, (ad.add (k * 6)).off + 1, none⟩ = some u1 ∧ w.cell? ⟨(ad.add (k * 6)).block, (ad.add (k * 6)).off + 2, none⟩ = some u2 ∧
      w.cell? ⟨(ad.add (k * 6)).block, (ad.add (k * 6)).off + 3, none⟩ = some u3 ∧ w.cell? ⟨(ad.add (k * 6)).block, (ad.add (k * 6)).off + 4, none⟩ = some u4 ∧ w.cell? ⟨(ad.add (k * 6)).block, (ad.add (k * 6)).off + 5, none⟩ = some u5 ∧
      ∀ (wr : World) (b : Bool), (∀ j, S j → wr.heap[j]? = w.heap[j]?) → w.heap.size ≤ wr.heap.size → Calls Try.prog f #[.agg #[u0, u1, u2, u3, u4, u5], .bool b] wr (OneR wr (o k b))

def AttrLoop (s0 : ByteArray) (l : List AttrD) (W : World) (v i : Value) (wr : World) : Prop :=
  ∃ (k : Nat) (t : ByteArray), i = .int .i64 k ∧ k ≤ l.length ∧ v = .string t ∧ t.data.toList = s0.data.toList ++ attrsOut (l.take k) ∧ ∃ d, wr = W.drewN d

theorem in_cells (W : World) (l : List ByteArray) (g : Nat) (hg : W.heap.size = g) (cs : Array Value) (hcs : cs = (strVals l).toArray) : ∀ (j : Nat) (hj : j < l.length), (W.alloc (.cells cs 9)).cell? ⟨g, j, none⟩ = some (.string l[j]) := by
  intro j hj
  subst hg hcs
  rw [(Box.new W 9 _).cell j]
  simp [strVals, List.getElem?_eq_getElem hj]
theorem voids_eq : (#[.string ⟨#[97, 114, 101, 97]⟩, .string ⟨#[98, 97, 115, 101]⟩, .string ⟨#[98, 97, 115, 101, 102, 111, 110, 116]⟩, .string ⟨#[98, 103, 115, 111, 117, 110, 100]⟩, .string ⟨#[98, 114]⟩, .string ⟨#[99, 111, 108]⟩, .string ⟨#[101, 109, 98, 101, 100]⟩, .string ⟨#[102, 114, 97, 109, 101]⟩, .string ⟨#[104, 114]⟩, .string ⟨#[105, 109, 103]⟩, .string ⟨#[105, 110, 112, 117, 116]⟩, .string ⟨#[107, 101, 121, 103, 101, 110]⟩, .string ⟨#[108, 105, 110, 107]⟩, .string ⟨#[109, 101, 116, 97]⟩, .string ⟨#[112, 97, 114, 97, 109]⟩, .string ⟨#[115, 111, 117, 114, 99, 101]⟩, .string ⟨#[116, 114, 97, 99, 107]⟩, .string ⟨#[119, 98, 114]⟩] : Array Value) = (strVals voids).toArray := by kernel_rfl
theorem bares_eq : (#[.string ⟨#[115, 116, 121, 108, 101]⟩, .string ⟨#[115, 99, 114, 105, 112, 116]⟩, .string ⟨#[120, 109, 112]⟩, .string ⟨#[105, 102, 114, 97, 109, 101]⟩, .string ⟨#[110, 111, 101, 109, 98, 101, 100]⟩, .string ⟨#[110, 111, 102, 114, 97, 109, 101, 115]⟩, .string ⟨#[112, 108, 97, 105, 110, 116, 101, 120, 116]⟩] : Array Value) = (strVals bares).toArray := by kernel_rfl
theorem in_voids (g c : Nat) (s : ByteArray) (W : World) (cs : Array Value) (hg : W.heap.size = g) (hcs : cs = (strVals voids).toArray) :
    Calls Try.prog 24 #[.slice (some ⟨g, 0, none⟩) 18 c, .string s] (W.alloc (.cells cs 9)) fun e w' => e = .returned (.bool (inList voids s)) ∧ (W.alloc (.cells cs 9)) = w' :=
  in_any voids g c s _ (by decide) (in_cells W voids g hg _ hcs)
theorem in_bares (g c : Nat) (s : ByteArray) (W : World) (cs : Array Value) (hg : W.heap.size = g) (hcs : cs = (strVals bares).toArray) :
    Calls Try.prog 24 #[.slice (some ⟨g, 0, none⟩) 7 c, .string s] (W.alloc (.cells cs 9)) fun e w' => e = .returned (.bool (inList bares s)) ∧ (W.alloc (.cells cs 9)) = w' :=
  in_any bares g c s _ (by decide) (in_cells W bares g hg _ hcs)
theorem AttrLoop.step {s0 : ByteArray} {l : List AttrD} {W : World} {k d : Nat} {t : ByteArray} (hk : k < l.length) (ht : t.data.toList = s0.data.toList ++ attrsOut (l.take k)) :
    AttrLoop s0 l W (.string (t ++ ⟨#[32]⟩ ++ l[k].name ++ ⟨#[61, 34]⟩ ++ ⟨(esc true l[k].value.data.toList).toArray⟩ ++ ⟨#[34]⟩)) (.int .i64 ((k : Int) + 1)) (W.drewN d) := by
  refine ⟨k + 1, _, by go_num, by omega, rfl, ?_, d, rfl⟩
  rw [attrsOut_take _ _ hk]
  simp [ByteArray.data_append, ht, attrOut]
theorem PLEN (attrs : List AttrD) (name : ByteArray) (hw : attrsWt attrs ≤ 1000000) : ([60] ++ name.data.toList ++ attrsOut attrs ++ [62]).length ≤ 1000000000 + name.size := by
  have := attrsOut_le attrs
  have h3 : name.data.toList.length = name.size := Array.length_toList
  simp only [List.length_append, List.length_cons, List.length_nil]
  omega
def KidLoop (p0 : List UInt8) (F : Nat → List UInt8) (m B : Nat) (W : World) (v i : Value) (wr : World) : Prop :=
  ∃ (k : Nat) (t : ByteArray), i = .int .i64 k ∧ k ≤ m ∧ v = .string t ∧ t.data.toList = p0 ++ F k ∧ Below B W wr
theorem size_toList (s : ByteArray) : s.data.toList.length = s.size := Array.length_toList

set_option maxHeartbeats 4000000 in
set_option maxRecDepth 100000 in
theorem one_elem (space : Nat) (name text : ByteArray) (attrs : List AttrD) (va : Value) (S : Nat → Prop) (w : World) (A3 : Option Addr) (m3 c3 : Nat) (o : Nat → Bool → List UInt8) (hS : ∀ k, S k → k < w.heap.size)
    (ha : AttrsAt w S va attrs) (hk : Kids S w 20 A3 m3 o) (hw : attrsWt attrs ≤ 1000000) (hnm : name.size ≤ 1099511627776) (hm3 : m3 ≤ 1000000) (hFT : ∀ b k, k ≤ m3 → (FT o b k).length ≤ 1000000000) (raw : Bool) :
    Calls Try.prog 20 #[.agg #[.int .u8 (1 : Nat), .int .u8 space, .string name, va, .string text, .slice A3 m3 c3], .bool raw] w (OneR w (elemOut (fun b => FT o b m3) space name attrs)) := by
  obtain ⟨A2, c2, rfl, hl2, hget⟩ := ha.get
  have hbx := Box.new w 35 #[.int .u8 (1 : Nat), .int .u8 space, .string name, .slice A2 attrs.length c2, .string text, .slice A3 m3 c3]
  have HG := Lib.hid hget
  have HBX := Lib.hid hbx
  have HK := Lib.hid hk
  have HFT := Lib.hid hFT
  clear hget hbx ha hk hFT
  have hlw := attrs_len_le attrs
  go_enter Try.func20, Try.ntmps20
  go_wp2
  go_loopw [5, 6] (fun v i wr => AttrLoop (⟨#[60]⟩ ++ name) attrs (w.alloc (.cells #[.int .u8 (1 : Nat), .int .u8 space, .string name, .slice A2 attrs.length c2, .string text, .slice A3 m3 c3] 35)) v i wr) (fun _ i _ => attrs.length - (intOf i).toNat)
  case atStart => exact ⟨0, _, rfl, Nat.zero_le _, rfl, by simp [attrsOut], 0, rfl⟩
  case round =>
    obtain ⟨k, t, rfl, hk, rfl, ht, d, rfl⟩ := hrel
    have htl : t.size ≤ 1 + name.size + 100 * attrsWt (attrs.take k) := by
      have h1 := congrArg List.length ht
      have h2 := attrsOut_le (attrs.take k)
      rw [size_toList, List.length_append, size_toList, ByteArray.size_append] at h1
      have : (⟨#[60]⟩ : ByteArray).size = 1 := rfl
      omega
    have HT := Lib.hid ht
    clear ht
    by_cases hlt : k < attrs.length
    · obtain ⟨ad, hA, hn, hv, hbl, c0, c1⟩ := HG.out k hlt
      subst hA
      have hb := hS _ hbl
      have hwg := attrsWt_get attrs k hlt
      have d0 := fun o : Obj => (World.cell?_alloc_lt w o (ad.add (k * 2)) (by rw [block_of_add]; omega)).trans c0
      have d1 := fun o : Obj => (World.cell?_alloc_lt w o ⟨(ad.add (k * 2)).block, (ad.add (k * 2)).off + 1, none⟩ (by simp [block_of_add]; omega)).trans c1
      have hvl : attrs[k].value.size ≤ 109951162777 := by omega
      have hnl : attrs[k].name.size ≤ 109951162777 := by omega
      have hel := escLen attrs[k].value true attrs[k].value.data.toList (Nat.le_of_eq (size_toList _))
      have HEL := Lib.hid hel
      have hel2 : (esc true attrs[k].value.data.toList).length ≤ 6 * attrs[k].value.size := HEL.out
      have hms := attrsWt_mono attrs k
      clear c0 c1 hel
      go_wp2
      go_quiet ((go_at_call 16; first | exact quiet_add_left (refvalue_any _ _ hvl) | exact quiet_left (refvalue_any _ _ hvl)))
      go_wp2
      go_roundw
      case rel => exact AttrLoop.step hlt HT.out
      case measure => simp [intOf]; omega
    · have hka : attrs.take k = attrs := List.take_of_length_le (by omega)
      rw [hka] at htl
      have hka2 : t.data.toList = [60] ++ name.data.toList ++ attrsOut attrs := by
        have := HT.out
        rw [hka] at this
        rw [this]
        simp [ByteArray.data_append]
      have HKA := Lib.hid hka2
      clear hka2
      have hwl : attrsWt attrs ≤ 1000000 := hw
      clear hka
      by_cases hs0 : space = 0
      · have e0 : ((space : Int) == 0) = true := by simp [hs0]
        by_cases hvo : inList voids name = true
        · have HVO := Lib.hid (show isVoid space name = true by simp [isVoid, hs0, hvo])
          clear hs0
          go_wp2_with fail
          refine Calls.mono (in_voids (w.heap.size + 1) 18 name _ _ ?_ voids_eq) ?_
          · simp
          rintro e w' ⟨rfl, rfl⟩
          go_wp2
          go_ret
          refine ⟨ret_bytes ?_, below_drewN (((Below.refl _ w).alloc (Nat.le_refl _) _).alloc (by simp) _) d⟩
          simp only [elemOut]
          rw [HVO.out, if_pos rfl]
          simp [ByteArray.data_append, HKA.out]
        · have hvo2 : inList voids name = false := by simpa using hvo
          have HVO := Lib.hid (show isVoid space name = false by simp [isVoid, hvo2])
          have HBA := Lib.hid (show isBare space name = inList bares name by simp [isBare, hs0])
          clear hs0 hvo
          have HPL := Lib.hid (PLEN attrs name hwl)
          have HPRE := Lib.hid (show (t ++ ⟨#[62]⟩).data.toList = ([60] ++ name.data.toList ++ attrsOut attrs ++ [62]) ++ FT o (inList bares name) 0 by simp [ByteArray.data_append, HKA.out, FT])
          go_wp2_with fail
          refine Calls.mono (in_voids (w.heap.size + 1) 18 name _ _ ?_ voids_eq) ?_
          · simp
          rintro e w' ⟨rfl, rfl⟩
          go_wp2_with fail
          refine Calls.mono (in_bares (w.heap.size + 1 + 1) 7 name _ _ ?_ bares_eq) ?_
          · simp
          rintro e w' ⟨rfl, rfl⟩
          go_wp2
          go_loopw [5, 9] (fun v i wr => KidLoop ([60] ++ name.data.toList ++ attrsOut attrs ++ [62]) (FT o (inList bares name)) m3 (w.heap.size + 1) (w.alloc (.cells #[.int .u8 (1 : Nat), .int .u8 space, .string name, .slice A2 attrs.length c2, .string text, .slice A3 m3 c3] 35)) v i wr) (fun _ i _ => m3 - (intOf i).toNat)
          case atStart => exact ⟨0, _, rfl, Nat.zero_le _, rfl, HPRE.out, (((below_drewN (Below.refl _ _) d).alloc (by simp) _).alloc (by simp) _)⟩
          case round =>
            obtain ⟨k2, t2, rfl, hk2, rfl, ht2, hbw⟩ := hrel
            have hbxr := (HBX.out.below hbw (Nat.lt_succ_self _))
            have bx5 := hbxr.cell 5
            have bx2 := hbxr.cell 2
            have hbsz := hbw.size
            have htl2 : t2.size ≤ 2000000000 + name.size := by
              have h1 := congrArg List.length ht2
              have h2 := HFT.out (inList bares name) k2 hk2
              have h3 := HPL.out
              rw [size_toList, List.length_append] at h1
              omega
            simp only [List.getElem?_toArray, List.getElem?_cons_succ, List.getElem?_cons_zero, World.size_alloc] at bx2 bx5 hbsz
            have HT2 := Lib.hid ht2
            have HBXR := Lib.hid hbxr
            clear ht2 hbxr
            by_cases hlt2 : k2 < m3
            · obtain ⟨ad, u0, u1, u2, u3, u4, u5, hA, hbl, c0, c1, c2', c3', c4, c5, hcall⟩ := HK.out k2 hlt2
              subst hA
              have hb := hS _ hbl
              have hq : ∀ p : Addr, p.block < w.heap.size → wr.cell? p = w.cell? p := fun p hp => (hbw.cell (by omega)).trans (World.cell?_alloc_lt w _ p hp)
              have d0 := (hq _ (by rw [block_of_add]; exact hb)).trans c0
              have d1 := (hq ⟨(ad.add (k2 * 6)).block, (ad.add (k2 * 6)).off + 1, none⟩ (by rw [block_of_add]; exact hb)).trans c1
              have d2 := (hq ⟨(ad.add (k2 * 6)).block, (ad.add (k2 * 6)).off + 2, none⟩ (by rw [block_of_add]; exact hb)).trans c2'
              have d3 := (hq ⟨(ad.add (k2 * 6)).block, (ad.add (k2 * 6)).off + 3, none⟩ (by rw [block_of_add]; exact hb)).trans c3'
              have d4 := (hq ⟨(ad.add (k2 * 6)).block, (ad.add (k2 * 6)).off + 4, none⟩ (by rw [block_of_add]; exact hb)).trans c4
              have d5 := (hq ⟨(ad.add (k2 * 6)).block, (ad.add (k2 * 6)).off + 5, none⟩ (by rw [block_of_add]; exact hb)).trans c5
              have hc := hcall wr (inList bares name) (fun j hj => by have := hS j hj; exact (hbw.block j (by omega)).trans (Below.heap_alloc w _ j this)) (by omega)
              have HC := Lib.hid hc
              have hfl : (FT o (inList bares name) (k2 + 1)).length ≤ 1000000000 := HFT.out (inList bares name) (k2 + 1) (by omega)
              have hol : (o k2 (inList bares name)).length ≤ 1000000000 := by rw [FT_succ, List.length_append] at hfl; omega
              clear c0 c1 c2' c3' c4 c5 hq hcall hc hfl
              go_wp2_with fail
              refine HC.out.mono ?_
              rintro e w3 ⟨rfl, hb3⟩
              have hol2 : (⟨(o k2 (inList bares name)).toArray⟩ : ByteArray).size ≤ 1000000000 := hol
              go_wp2
              go_roundw
              case rel => exact ⟨k2 + 1, _, by go_num, by omega, rfl, by rw [FT_succ]; simp [ByteArray.data_append, HT2.out], hbw.trans (hb3.mono (by omega))⟩
              case measure => simp [intOf]; omega
            · have hke2 : k2 = m3 := by omega
              have HKE2 := Lib.hid hke2
              clear hke2
              go_wp2
              go_ret
              refine ⟨ret_bytes ?_, (((Below.refl _ w).alloc (Nat.le_refl _) _)).trans (hbw.mono (by omega))⟩
              simp only [elemOut]
              rw [HVO.out, if_neg (by decide), HBA.out]
              simp [ByteArray.data_append, HT2.out, HKE2.out]
      · have e0 : ((space : Int) == 0) = false := by simp; omega
        have HVO := Lib.hid (show isVoid space name = false by simp [isVoid, hs0])
        have HBA := Lib.hid (show isBare space name = false by simp [isBare, hs0])
        clear hs0
        have HPL := Lib.hid (PLEN attrs name hwl)
        have HPRE := Lib.hid (show (t ++ ⟨#[62]⟩).data.toList = ([60] ++ name.data.toList ++ attrsOut attrs ++ [62]) ++ FT o false 0 by simp [ByteArray.data_append, HKA.out, FT])
        go_wp2
        go_loopw [5, 9] (fun v i wr => KidLoop ([60] ++ name.data.toList ++ attrsOut attrs ++ [62]) (FT o false) m3 (w.heap.size + 1) (w.alloc (.cells #[.int .u8 (1 : Nat), .int .u8 space, .string name, .slice A2 attrs.length c2, .string text, .slice A3 m3 c3] 35)) v i wr) (fun _ i _ => m3 - (intOf i).toNat)
        case atStart => exact ⟨0, _, rfl, Nat.zero_le _, rfl, HPRE.out, (below_drewN (Below.refl _ _) d)⟩
        case round =>
          obtain ⟨k2, t2, rfl, hk2, rfl, ht2, hbw⟩ := hrel
          have hbxr := (HBX.out.below hbw (Nat.lt_succ_self _))
          have bx5 := hbxr.cell 5
          have bx2 := hbxr.cell 2
          have hbsz := hbw.size
          have htl2 : t2.size ≤ 2000000000 + name.size := by
            have h1 := congrArg List.length ht2
            have h2 := HFT.out false k2 hk2
            have h3 := HPL.out
            rw [size_toList, List.length_append] at h1
            omega
          simp only [List.getElem?_toArray, List.getElem?_cons_succ, List.getElem?_cons_zero, World.size_alloc] at bx2 bx5 hbsz
          have HT2 := Lib.hid ht2
          have HBXR := Lib.hid hbxr
          clear ht2 hbxr
          by_cases hlt2 : k2 < m3
          · obtain ⟨ad, u0, u1, u2, u3, u4, u5, hA, hbl, c0, c1, c2', c3', c4, c5, hcall⟩ := HK.out k2 hlt2
            subst hA
            have hb := hS _ hbl
            have hq : ∀ p : Addr, p.block < w.heap.size → wr.cell? p = w.cell? p := fun p hp => (hbw.cell (by omega)).trans (World.cell?_alloc_lt w _ p hp)
            have d0 := (hq _ (by rw [block_of_add]; exact hb)).trans c0
            have d1 := (hq ⟨(ad.add (k2 * 6)).block, (ad.add (k2 * 6)).off + 1, none⟩ (by rw [block_of_add]; exact hb)).trans c1
            have d2 := (hq ⟨(ad.add (k2 * 6)).block, (ad.add (k2 * 6)).off + 2, none⟩ (by rw [block_of_add]; exact hb)).trans c2'
            have d3 := (hq ⟨(ad.add (k2 * 6)).block, (ad.add (k2 * 6)).off + 3, none⟩ (by rw [block_of_add]; exact hb)).trans c3'
            have d4 := (hq ⟨(ad.add (k2 * 6)).block, (ad.add (k2 * 6)).off + 4, none⟩ (by rw [block_of_add]; exact hb)).trans c4
            have d5 := (hq ⟨(ad.add (k2 * 6)).block, (ad.add (k2 * 6)).off + 5, none⟩ (by rw [block_of_add]; exact hb)).trans c5
            have hc := hcall wr false (fun j hj => by have := hS j hj; exact (hbw.block j (by omega)).trans (Below.heap_alloc w _ j this)) (by omega)
            have HC := Lib.hid hc
            have hfl : (FT o false (k2 + 1)).length ≤ 1000000000 := HFT.out false (k2 + 1) (by omega)
            have hol : (o k2 false).length ≤ 1000000000 := by rw [FT_succ, List.length_append] at hfl; omega
            clear c0 c1 c2' c3' c4 c5 hq hcall hc hfl
            go_wp2_with fail
            refine HC.out.mono ?_
            rintro e w3 ⟨rfl, hb3⟩
            have hol2 : (⟨(o k2 false).toArray⟩ : ByteArray).size ≤ 1000000000 := hol
            go_wp2
            go_roundw
            case rel =>
              have HK3 : Hid (KidLoop ([60] ++ name.data.toList ++ attrsOut attrs ++ [62]) (FT o false) m3 (w.heap.size + 1) (w.alloc (.cells #[.int .u8 (1 : Nat), .int .u8 space, .string name, .slice A2 attrs.length c2, .string text, .slice (some ad) m3 c3] 35)) (.string (t2 ++ ⟨(o k2 false).toArray⟩)) (.int .i64 ((k2 : Int) + 1)) w3) :=
                ⟨k2 + 1, _, by go_num, by omega, rfl, by rw [FT_succ]; simp [ByteArray.data_append, HT2.out], hbw.trans (hb3.mono (by omega))⟩
              (repeat apply Exists.intro)
              exact ⟨HK3.out, rfl⟩
            case measure => simp [intOf]; omega
          · have hke2 : k2 = m3 := by omega
            have HKE2 := Lib.hid hke2
            clear hke2
            go_wp2
            go_ret
            refine ⟨ret_bytes ?_, (((Below.refl _ w).alloc (Nat.le_refl _) _)).trans (hbw.mono (by omega))⟩
            simp only [elemOut]
            rw [HVO.out, if_neg (by decide), HBA.out]
            simp [ByteArray.data_append, HT2.out, HKE2.out]
end Go.Proofs.Ytlhfjlfoddjciaa
