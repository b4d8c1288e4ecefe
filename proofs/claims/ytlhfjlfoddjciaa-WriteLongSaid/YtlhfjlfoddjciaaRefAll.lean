/- The reference's 'one' at every node, and its Fragment. -/
import Derived.Test.YtlhfjlfoddjciaaOne
namespace Go.Proofs.Ytlhfjlfoddjciaa
open Go.RowKit

def OneC (f : FuncId) (n : Nat) : Prop := ∀ (x : NodeD (List (NT n))) (va vk : Value) (S : Nat → Prop) (w : World) (raw : Bool), (∀ k, S k → k < w.heap.size) → AttrsAt w S va x.attrs → NodesAt n w S vk x.kids →
  1 + x.text.size / 8 + x.name.size / 8 + attrsWt x.attrs + wt n x.kids ≤ 1000000 → Calls Try.prog f #[.agg #[.int .u8 x.kind, .int .u8 x.space, .string x.name, va, .string x.text, vk], .bool raw] w (OneR w (nodeOut (frag n) raw x))

def outs {K : Type} (f : Bool → K → List UInt8) (l : List (NodeD K)) (k : Nat) (b : Bool) : List UInt8 := match l[k]? with | some x => nodeOut f b x | none => []
theorem FT_outs {K : Type} (f : Bool → K → List UInt8) (l : List (NodeD K)) (b : Bool) : ∀ k, k ≤ l.length → FT (outs f l) b k = rowOut f b (l.take k)
  | 0, _ => rfl
  | k + 1, h => by
    rw [FT_succ, FT_outs f l b k (by omega), rowOut_take f b l k (by omega)]
    simp [outs, List.getElem?_eq_getElem (show k < l.length by omega)]
theorem FT_full {K : Type} (f : Bool → K → List UInt8) (l : List (NodeD K)) (b : Bool) : FT (outs f l) b l.length = rowOut f b l := by
  have := FT_outs f l b l.length (Nat.le_refl _)
  rw [List.take_length] at this
  exact this
theorem outs_get {K : Type} (f : Bool → K → List UInt8) (l : List (NodeD K)) (k : Nat) (b : Bool) (hk : k < l.length) : outs f l k b = nodeOut f b l[k] := by
  simp [outs, List.getElem?_eq_getElem hk]
theorem FT_frag (n : Nat) (l : List (NT (n + 1))) (b : Bool) : FT (outs (K := List (NT n)) (frag n) l) b l.length = frag (n + 1) b l := FT_full (K := List (NT n)) (frag n) l b
theorem FT_len (n : Nat) (l : List (NT (n + 1))) (b : Bool) (k : Nat) (hk : k ≤ l.length) : (FT (outs (K := List (NT n)) (frag n) l) b k).length ≤ 100 * wt (n + 1) l := by
  rw [FT_outs (K := List (NT n)) (frag n) l b k hk]
  have h1 := rowOut_le (K := List (NT n)) (frag n) (wt n) (frag_le n) b (l.take k)
  have h2 := rowWt_mono (K := List (NT n)) (wt n) l k
  have h3 : wt (n + 1) l = rowWt (K := List (NT n)) (wt n) l := rfl
  omega

theorem kids_of {f : FuncId} {n : Nat} (hC : OneC f n) {w : World} {S : Nat → Prop} {A : Option Addr} {c : Nat} {l : List (NT (n + 1))} (hS : ∀ k, S k → k < w.heap.size) (h : NodesAt (n + 1) w S (.slice A l.length c) l) (hw : wt (n + 1) l ≤ 1000000) :
    Kids S w f A l.length (outs (K := List (NT n)) (frag n) l) := by
  obtain ⟨A', c', hv, _, hget⟩ := h.get
  cases hv
  intro k hk
  obtain ⟨ad, va, vk, hA, ha, hkk, hn, ht, hki, hsp, hbl, c0, c1, c2, c3, c4, c5⟩ := hget k hk
  refine ⟨ad, _, _, _, _, _, _, hA, hbl, c0, c1, c2, c3, c4, c5, fun wr b hh hz => ?_⟩
  have hwk := wt_get n l k hk
  have := hC (l[k] : NodeD (List (NT n))) va vk S wr b (fun j hj => Nat.lt_of_lt_of_le (hS j hj) hz) (ha.keep hh) (NodesAt.keep hh n hkk) (by exact Nat.le_trans hwk hw)
  have e : outs (K := List (NT n)) (frag n) l k b = nodeOut (frag n) b (l[k] : NodeD (List (NT n))) := outs_get (K := List (NT n)) (frag n) l k b hk
  rw [e]
  exact this

theorem one_step (kind space : Nat) (name text : ByteArray) (attrs : List AttrD) (va : Value) (S : Nat → Prop) (w : World) (A3 : Option Addr) (m3 c3 : Nat) (o : Nat → Bool → List UInt8) (hS : ∀ k, S k → k < w.heap.size)
    (ha : AttrsAt w S va attrs) (hk : Kids S w 20 A3 m3 o) (hw : 1 + text.size / 8 + name.size / 8 + attrsWt attrs ≤ 1000000) (hm3 : m3 ≤ 1000000) (hFT : ∀ b k, k ≤ m3 → (FT o b k).length ≤ 1000000000) (raw : Bool) :
    Calls Try.prog 20 #[.agg #[.int .u8 kind, .int .u8 space, .string name, va, .string text, .slice A3 m3 c3], .bool raw] w (OneR w (outF (fun b => FT o b m3) raw kind space name text attrs)) := by
  obtain ⟨A2, m2, c2, hva⟩ := ha.shape
  by_cases h2 : kind = 2
  · subst h2 hva
    exact (one_text space name text w A2 A3 m2 m3 c2 c3 (by omega) raw).mono fun e w' h => h
  · by_cases h3 : kind = 3
    · subst h3 hva
      exact (one_note space name text w A2 A3 m2 m3 c2 c3 (by omega) raw).mono fun e w' h => h
    · by_cases h1 : kind = 1
      · subst h1
        exact (one_elem space name text attrs va S w A3 m3 c3 o hS ha hk (by omega) (by omega) hm3 hFT raw).mono fun e w' h => h
      · subst hva
        refine (one_else kind space name text w A2 A3 m2 m3 c2 c3 h1 h2 h3 raw).mono fun e w' h => ?_
        simpa [outF, h1, h2, h3] using h

theorem one_all : ∀ n, OneC 20 n := by
  intro n
  induction n with
  | zero =>
    intro x va vk S w raw hS ha hk hw
    obtain ⟨A, c, rfl⟩ := hk.none_
    have := one_step x.kind x.space x.name x.text x.attrs va S w A 0 c (fun _ _ => []) hS ha (fun k hk => absurd hk (by omega)) (by omega) (by omega) (fun b k hk => by rw [show k = 0 by omega]; simp [FT]) raw
    exact this
  | succ n ih =>
    intro x va vk S w raw hS ha hk hw
    obtain ⟨A, c, rfl, hl, _⟩ := hk.get
    have hlw := wt_len n x.kids
    have := one_step x.kind x.space x.name x.text x.attrs va S w A x.kids.length c _ hS ha (kids_of ih hS hk (by omega)) (by omega) (by omega) (fun b k hk => by have := FT_len n x.kids b k hk; omega) raw
    refine this.mono fun e w' h => ?_
    rw [nodeOut_eq]
    have e2 : (fun b => FT (outs (K := List (NT n)) (frag n) x.kids) b x.kids.length) = fun b => frag (n + 1) b x.kids := funext fun b => FT_frag n x.kids b
    rw [e2] at h
    exact h

def FragLoop (F : Nat → List UInt8) (m : Nat) (W : World) (v i : Value) (wr : World) : Prop :=
  ∃ (k : Nat) (t : ByteArray), i = .int .i64 k ∧ k ≤ m ∧ v = .string t ∧ t.data.toList = F k ∧ Below W.heap.size W wr

set_option maxHeartbeats 2000000 in
set_option maxRecDepth 100000 in
theorem reffrag_kids (S : Nat → Prop) (w : World) (A : Option Addr) (m c : Nat) (o : Nat → Bool → List UInt8) (hS : ∀ k, S k → k < w.heap.size) (hk : Kids S w 20 A m o) (hm : m ≤ 1000000) (hFT : ∀ b k, k ≤ m → (FT o b k).length ≤ 1000000000) :
    Calls Try.prog 11 #[.slice A m c] w (OneR w (FT o false m)) := by
  have HK := Lib.hid hk
  have HFT := Lib.hid hFT
  clear hk hFT
  go_enter Try.func11, Try.ntmps11
  go_wp2
  go_loopw [3, 4] (fun v i wr => FragLoop (FT o false) m w v i wr) (fun _ i _ => m - (intOf i).toNat)
  case atStart => exact ⟨0, _, rfl, Nat.zero_le _, rfl, by simp [FT], Below.refl _ _⟩
  case round =>
    obtain ⟨k2, t2, rfl, hk2, rfl, ht2, hbw⟩ := hrel
    have hbsz := hbw.size
    have htl2 : t2.size ≤ 1000000000 := by
      have h1 := congrArg List.length ht2
      have h2 := HFT.out false k2 hk2
      rw [size_toList] at h1
      omega
    have HT2 := Lib.hid ht2
    clear ht2
    by_cases hlt2 : k2 < m
    · obtain ⟨ad, u0, u1, u2, u3, u4, u5, hA, hbl, c0, c1, c2', c3', c4, c5, hcall⟩ := HK.out k2 hlt2
      subst hA
      have hb := hS _ hbl
      have hq : ∀ p : Addr, p.block < w.heap.size → wr.cell? p = w.cell? p := fun p hp => hbw.cell hp
      have d0 := (hq _ (by rw [block_of_add]; exact hb)).trans c0
      have d1 := (hq ⟨(ad.add (k2 * 6)).block, (ad.add (k2 * 6)).off + 1, none⟩ (by rw [block_of_add]; exact hb)).trans c1
      have d2 := (hq ⟨(ad.add (k2 * 6)).block, (ad.add (k2 * 6)).off + 2, none⟩ (by rw [block_of_add]; exact hb)).trans c2'
      have d3 := (hq ⟨(ad.add (k2 * 6)).block, (ad.add (k2 * 6)).off + 3, none⟩ (by rw [block_of_add]; exact hb)).trans c3'
      have d4 := (hq ⟨(ad.add (k2 * 6)).block, (ad.add (k2 * 6)).off + 4, none⟩ (by rw [block_of_add]; exact hb)).trans c4
      have d5 := (hq ⟨(ad.add (k2 * 6)).block, (ad.add (k2 * 6)).off + 5, none⟩ (by rw [block_of_add]; exact hb)).trans c5
      have hc := hcall wr false (fun j hj => hbw.block j (hS j hj)) hbsz
      have HC := Lib.hid hc
      have hfl : (FT o false (k2 + 1)).length ≤ 1000000000 := HFT.out false (k2 + 1) (by omega)
      have hol : (o k2 false).length ≤ 1000000000 := by rw [FT_succ, List.length_append] at hfl; omega
      clear c0 c1 c2' c3' c4 c5 hq hcall hc hfl
      go_wp2_with fail
      refine HC.out.mono ?_
      rintro e w3 ⟨rfl, hb3⟩
      have hol2 : (⟨(o k2 false).toArray⟩ : ByteArray).size ≤ 1000000000 := hol
      go_wp2
      go_roundw
      case rel => exact ⟨k2 + 1, _, by go_num, by omega, rfl, by rw [FT_succ]; simp [ByteArray.data_append, HT2.out], hbw.trans (hb3.mono (by omega))⟩
      case measure => simp [intOf]; omega
    · have hke2 : k2 = m := by omega
      have HKE2 := Lib.hid hke2
      clear hke2
      go_wp2
      go_ret
      refine ⟨ret_bytes ?_, hbw⟩
      rw [HT2.out, HKE2.out]

theorem reffrag_all (n : Nat) (v : Value) (l : List (NT n)) (S : Nat → Prop) (w : World) (hS : ∀ k, S k → k < w.heap.size) (h : NodesAt n w S v l) (hw : wt n l ≤ 1000000) : Calls Try.prog 11 #[v] w (OneR w (frag n false l)) := by
  cases n with
  | zero =>
    obtain ⟨A, c, rfl⟩ := h.none_
    exact reffrag_kids S w A 0 c (fun _ _ => []) hS (fun k hk => absurd hk (by omega)) (by omega) (fun b k hk => by rw [show k = 0 by omega]; simp [FT])
  | succ n =>
    obtain ⟨A, c, rfl, hl, _⟩ := h.get
    have hlw := wt_len n l
    have := reffrag_kids S w A l.length c _ hS (kids_of (one_all n) hS h hw) (by omega) (fun b k hk => by have := FT_len n l b k hk; omega)
    rw [FT_frag n l false] at this
    exact this
end Go.Proofs.Ytlhfjlfoddjciaa
