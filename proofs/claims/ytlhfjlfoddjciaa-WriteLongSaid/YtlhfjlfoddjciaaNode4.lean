/- Package write's 'nodes' and 'node' together, and its Fragment. -/
import Derived.Test.YtlhfjlfoddjciaaNode3
namespace Go.Proofs.Ytlhfjlfoddjciaa
open Go.RowKit

/-- 'nodes' writes nodes of a depth of at most n. -/
def NodesC (n : Nat) : Prop := ∀ (B b : Nat) (acc : List UInt8) (l : List (NT n)) (v : Value) (S : Nat → Prop) (w : World) (raw : Bool), Bld 45 B b acc w → Glob w → 0 < B → (∀ k, S k → k < B) → NodesAt n w S v l → wt n l ≤ 1000000 →
  acc.length + 200 * wt n l ≤ 274877906944 → Calls Try.prog 18 #[.pointer (some ⟨b, 0, none⟩), v, .bool raw] w (NodeR w B b (acc ++ frag n raw l))
/-- 'node' writes a node whose kids are of a depth of at most n. -/
def NodeC (n : Nat) : Prop := ∀ (B b : Nat) (acc : List UInt8) (x : NodeD (List (NT n))) (va vk : Value) (S : Nat → Prop) (w : World) (raw : Bool), Bld 45 B b acc w → Glob w → 0 < B → (∀ k, S k → k < B) → AttrsAt w S va x.attrs → NodesAt n w S vk x.kids →
  1 + x.text.size / 8 + x.name.size / 8 + attrsWt x.attrs + wt n x.kids ≤ 1000000 → acc.length + 200 * (1 + x.text.size / 8 + x.name.size / 8 + attrsWt x.attrs + wt n x.kids) ≤ 274877906944 →
  Calls Try.prog 23 #[.pointer (some ⟨b, 0, none⟩), .agg #[.int .u8 x.kind, .int .u8 x.space, .string x.name, va, .string x.text, vk], .bool raw] w (NodeR w B b (acc ++ nodeOut (frag n) raw x))

theorem node_of_nodes {n : Nat} (h : NodesC n) : NodeC n := by
  intro B b acc x va vk S w raw hB hG hB0 hS ha hk hw hlen
  obtain ⟨A2, m2, c2, hva⟩ := ha.shape
  obtain ⟨A3, m3, c3, rfl⟩ := hk.shape
  rw [nodeOut_eq]
  unfold outF
  by_cases h2 : x.kind = 2
  · rw [if_pos h2, h2, hva]
    cases raw
    · exact node_text B b acc x.space x.name x.text w A2 A3 m2 m3 c2 c3 hB (by omega)
    · exact node_raw B b acc x.space x.name x.text w A2 A3 m2 m3 c2 c3 hB (by omega)
  · rw [if_neg h2]
    by_cases h3 : x.kind = 3
    · rw [if_pos h3, h3, hva]
      exact node_note B b acc x.space x.name x.text w A2 A3 m2 m3 c2 c3 raw hB (by omega)
    · rw [if_neg h3]
      by_cases h1 : x.kind = 1
      · rw [if_pos h1, h1]
        exact node_elem B b acc x.space x.name x.text x.attrs va S w A3 m3 c3 raw (fun b => frag n b x.kids) hB hG hB0 hS ha (by omega) (fun bb => by have := frag_le n bb x.kids; omega) (by omega)
          (fun wr acc' bb hB' hG' hh hl => h B b acc' x.kids _ S wr bb hB' hG' hB0 hS (NodesAt.keep hh n hk) (by omega) (by omega))
      · rw [if_neg h1, List.append_nil, hva]
        exact node_else B b acc x.kind x.space x.name x.text w A2 A3 m2 m3 c2 c3 h1 h2 h3 raw hB

def NodesW (acc0 : List UInt8) (F : Nat → List UInt8) (m B b : Nat) (w : World) (i : Value) (wr : World) : Prop :=
  ∃ (k : Nat), i = .int .i64 k ∧ k ≤ m ∧ Bld 45 B b (acc0 ++ F k) wr ∧ Below B w wr ∧ Kept b w wr

theorem FT_wt (n : Nat) (l : List (NT (n + 1))) (b : Bool) (k : Nat) (hk : k ≤ l.length) : (FT (outs (K := List (NT n)) (frag n) l) b k).length ≤ 100 * wt (n + 1) (l.take k) := by
  rw [FT_outs (K := List (NT n)) (frag n) l b k hk]
  exact rowOut_le (K := List (NT n)) (frag n) (wt n) (frag_le n) b (l.take k)
theorem wt_sum (n : Nat) (l : List (NT (n + 1))) (k : Nat) (hk : k < l.length) : wt (n + 1) (l.take k) + (1 + (NodeD.text l[k]).size / 8 + (NodeD.name l[k]).size / 8 + attrsWt (NodeD.attrs l[k]) + wt n (NodeD.kids l[k])) ≤ wt (n + 1) l := by
  have h1 := wt_take n l k hk
  have h2 : wt (n + 1) (l.take (k + 1)) ≤ wt (n + 1) l := rowWt_mono (K := List (NT n)) (wt n) l (k + 1)
  omega

theorem nodes_zeroC : NodesC 0 := by
  intro B b acc l v S w raw hB hG hB0 hS h hw hlen
  obtain ⟨A, c, rfl⟩ := h.none_
  have HB := Lib.hid hB
  clear hB h
  go_enter Try.func18, Try.ntmps18
  go_wp2
  refine wp_loop_rounds 1 ?_
  rw [rounds_succ]
  go_wp2
  go_end0
  refine ⟨rfl, ?_, Below.refl _ _, Kept.refl _ _⟩
  simpa [frag] using HB.out

set_option maxHeartbeats 4000000 in
set_option maxRecDepth 100000 in
theorem nodes_of_node {n : Nat} (h : NodeC n) : NodesC (n + 1) := by
  intro B b acc l v S w raw hB hG hB0 hS hat hw hlen
  obtain ⟨A, c, rfl, hl, hget⟩ := hat.get
  have hlw := wt_len n l
  have HG := Lib.hid hget
  have HN := Lib.hid h
  have HB := Lib.hid hB
  have HGL := Lib.hid hG
  have HFF : Hid (FT (outs (K := List (NT n)) (frag n) l) raw l.length = frag (n + 1) raw l) := Lib.hid (FT_frag n l raw)
  have hbw := hB.lt
  clear hget h hB hG hat
  go_enter Try.func18, Try.ntmps18
  go_wp2
  go_loopw [10] (fun i wr => NodesW acc (FT (outs (K := List (NT n)) (frag n) l) raw) l.length B b w i wr) (fun i _ => l.length - (intOf i).toNat)
  case atStart => exact ⟨0, rfl, Nat.zero_le _, by simpa [FT] using HB.out, Below.refl _ _, Kept.refl _ _⟩
  case round =>
    obtain ⟨k, rfl, hk, hbr, hbwr, hkr⟩ := hrel
    have hzr := hbr.lt
    have hle := hbr.le
    have HBR := Lib.hid hbr; have HBW := Lib.hid hbwr; have HKR := Lib.hid hkr
    clear hbr hbwr hkr
    by_cases hlt : k < l.length
    · obtain ⟨ad, va, vk, hA, hatt, hkids, hnm, htx, hki, hsp, hbl, c0, c1, c2, c3, c4, c5⟩ := HG.out k hlt
      subst hA
      obtain ⟨A2, m2, c2x, rfl⟩ := hatt.shape
      obtain ⟨A3, m3, c3x, rfl⟩ := hkids.shape
      have hbd := hS _ hbl
      have hwk := wt_get n l k hlt
      have d0 := (HBW.out.cell (p := ad.add (k * 6)) (by rw [block_of_add]; exact hbd)).trans c0
      have d1 := (HBW.out.cell (p := ⟨(ad.add (k * 6)).block, (ad.add (k * 6)).off + 1, none⟩) (by rw [block_of_add]; exact hbd)).trans c1
      have d2 := (HBW.out.cell (p := ⟨(ad.add (k * 6)).block, (ad.add (k * 6)).off + 2, none⟩) (by rw [block_of_add]; exact hbd)).trans c2
      have d3 := (HBW.out.cell (p := ⟨(ad.add (k * 6)).block, (ad.add (k * 6)).off + 3, none⟩) (by rw [block_of_add]; exact hbd)).trans c3
      have d4 := (HBW.out.cell (p := ⟨(ad.add (k * 6)).block, (ad.add (k * 6)).off + 4, none⟩) (by rw [block_of_add]; exact hbd)).trans c4
      have d5 := (HBW.out.cell (p := ⟨(ad.add (k * 6)).block, (ad.add (k * 6)).off + 5, none⟩) (by rw [block_of_add]; exact hbd)).trans c5
      have hfl := FT_wt n l raw k (by omega)
      have hwl := wt_sum n l k hlt
      have hal : (acc ++ FT (outs (K := List (NT n)) (frag n) l) raw k).length ≤ acc.length + 100 * wt (n + 1) (l.take k) := by rw [List.length_append]; omega
      have hold := old_alloc HBW.out (by omega : B ≤ wr.heap.size) (.cells #[.int .u8 (NodeD.kind l[k]), .int .u8 (NodeD.space l[k]), .string (NodeD.name l[k]), .slice A2 m2 c2x, .string (NodeD.text l[k]), .slice A3 m3 c3x] 35)
      have hat1 := AttrsAt.keep hatt fun j hj => hold j (hS j hj)
      have hkd1 := NodesAt.keep (fun j hj => hold j (hS j hj)) n hkids
      have hc := HN.out B b _ (l[k] : NodeD (List (NT n))) _ _ S _ raw (HBR.out.alloc _) ((HGL.out.below HBW.out hB0).alloc _) hB0 hS hat1 hkd1 (by exact Nat.le_trans hwk hw) (by omega)
      have HC := Lib.hid hc
      have HO : Hid (outs (K := List (NT n)) (frag n) l k raw = nodeOut (frag n) raw (l[k] : NodeD (List (NT n)))) := Lib.hid (outs_get (K := List (NT n)) (frag n) l k raw hlt)
      clear c0 c1 c2 c3 c4 c5 hold hat1 hkd1 hc hatt hkids hfl
      go_wp2_with fail
      refine Calls.mono HC.out ?_
      rintro e w2 ⟨rfl, h2, b2, k2⟩
      have HR : Hid (NodesW acc (FT (outs (K := List (NT n)) (frag n) l) raw) l.length B b w (.int .i64 ((k : Int) + 1)) w2) :=
        ⟨k + 1, by go_num, by omega, by rw [FT_succ, HO.out, ← List.append_assoc]; exact h2, (HBW.out.alloc (by omega) _).trans b2, (HKR.out.alloc _).trans k2⟩
      clear h2 b2 k2
      go_wp2
      go_roundw
      case rel => first | exact HR.out | ((repeat apply Exists.intro); exact ⟨HR.out, rfl⟩)
      case measure => simp [intOf]; omega
    · have hke : k = l.length := by omega
      have HKE := Lib.hid hke
      clear hke
      go_wp2
      go_end0
      refine ⟨rfl, ?_, HBW.out, HKR.out⟩
      have := HBR.out
      rw [HKE.out, HFF.out] at this
      exact this

theorem nodes_all : ∀ n, NodesC n
  | 0 => nodes_zeroC
  | n + 1 => nodes_of_node (node_of_nodes (nodes_all n))

set_option maxHeartbeats 1000000 in
theorem fragment_any (n : Nat) (v : Value) (l : List (NT n)) (S : Nat → Prop) (w : World) (hS : ∀ k, S k → k < w.heap.size) (hG : Glob w) (h : NodesAt n w S v l) (hw : wt n l ≤ 1000000) :
    Calls Try.prog 9 #[v] w (OneR w (frag n false l)) := by
  obtain ⟨A, m, c, rfl⟩ := h.shape
  have hfl := frag_le n false l
  have hpos := hG.pos
  have hcall := nodes_all n w.heap.size w.heap.size [] l _ S (w.alloc (.cells #[.pointer none, .slice none 0 0] 45)) false (Bld.fresh 45 w) (hG.alloc _) hpos hS (NodesAt.keep (fun j hj => Below.heap_alloc w _ j (hS j hj)) n h) hw (by simp; omega)
  have HC := Lib.hid hcall
  clear hcall h hG
  go_enter Try.func9, Try.ntmps9
  go_wp2_with fail
  refine Calls.mono HC.out ?_
  rintro e w1 ⟨rfl, h1, b1, k1⟩
  have hz1 := b1.size
  simp at hz1
  go_wp2_with fail
  refine Calls.mono (bld_String 45 _ _ _ _ h1 (by omega)) ?_
  rintro e w2 ⟨rfl, h2, b2, k2⟩
  go_wp2
  go_ret
  refine ⟨?_, (((Below.refl _ w).alloc (Nat.le_refl _) _).trans b1).trans b2⟩
  rfl
end Go.Proofs.Ytlhfjlfoddjciaa
