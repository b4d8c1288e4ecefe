/- Trees of inlines: as data of a depth, and how they lie in memory; tympanref00.Inlines counts them. -/
import Derived.Test.YtibaoocklempnaaGreatDoorRow
import Derived.RegionTactic
import Derived.IntWalk
namespace Go.Proofs.YtibaoocklempnaaGreatDoor
open Go.RowKit

structure InlD (K : Type) where
  kind : Nat
  text : ByteArray
  dest : ByteArray
  title : ByteArray
  kids : K
/-- Inlines of a depth of at most n. -/
def IT : Nat → Type
  | 0 => Empty
  | n + 1 => InlD (List (IT n))

def InlIs {K : Type} (E : World → (Nat → Prop) → Value → K → Prop) (w : World) (S : Nat → Prop) (vs : List Value) (x : InlD K) : Prop :=
  ∃ vk, vs = [.int .u8 x.kind, .string x.text, .string x.dest, .string x.title, vk] ∧ E w S vk x.kids ∧ x.text.size ≤ 9223372036854775807 ∧ x.dest.size ≤ 9223372036854775807 ∧ x.title.size ≤ 9223372036854775807 ∧ x.kind < 256
def InlsAt : (n : Nat) → World → (Nat → Prop) → Value → List (IT n) → Prop
  | 0 => fun w S v l => Row (α := Empty) 5 (fun _ _ _ _ => False) w S v l
  | n + 1 => fun w S v l => Row (α := InlD (List (IT n))) 5 (InlIs (InlsAt n)) w S v l

theorem InlsAt.keep {w w' : World} {S : Nat → Prop} (hb : ∀ k, S k → w'.heap[k]? = w.heap[k]?) : ∀ (n : Nat) {v : Value} {l : List (IT n)}, InlsAt n w S v l → InlsAt n w' S v l
  | 0, _, _, h => Row.keep (α := Empty) (size := 5) (E := fun _ _ _ _ => False) h hb fun _ x _ => x.elim
  | n + 1, _, _, h => Row.keep (α := InlD (List (IT n))) (size := 5) (E := InlIs (InlsAt n)) h hb fun _ _ ⟨vk, e, hk, r⟩ => ⟨vk, e, InlsAt.keep hb n hk, r⟩
theorem InlsAt.mono {w : World} {S S' : Nat → Prop} (hB : ∀ k, S k → S' k) : ∀ (n : Nat) {v : Value} {l : List (IT n)}, InlsAt n w S v l → InlsAt n w S' v l
  | 0, _, _, h => Row.mono (α := Empty) (size := 5) (E := fun _ _ _ _ => False) h hB fun _ x _ => x.elim
  | n + 1, _, _, h => Row.mono (α := InlD (List (IT n))) (size := 5) (E := InlIs (InlsAt n)) h hB fun _ _ ⟨vk, e, hk, r⟩ => ⟨vk, e, InlsAt.mono hB n hk, r⟩
theorem InlsAt.none_ {w : World} {S : Nat → Prop} {v : Value} {l : List (IT 0)} (h : InlsAt 0 w S v l) : ∃ A c, v = .slice A 0 c := by
  obtain ⟨A, c, rfl, _⟩ := h
  match l with
  | [] => exact ⟨A, c, rfl⟩
  | x :: _ => exact Empty.elim x
theorem InlsAt.drewN {w : World} {S : Nat → Prop} {n : Nat} {v : Value} {l : List (IT n)} (h : InlsAt n w S v l) (d : Nat) : InlsAt n (w.drewN d) S v l := InlsAt.keep (w := w) (w' := w.drewN d) (fun _ _ => rfl) n h

/-- What a round over inlines asks for. -/
theorem InlsAt.get {n : Nat} {w : World} {S : Nat → Prop} {v : Value} {l : List (IT (n + 1))} (h : InlsAt (n + 1) w S v l) :
    ∃ A c, v = .slice A l.length c ∧ l.length ≤ 9223372036854775807 ∧ ∀ (k : Nat) (hk : k < l.length), ∃ ad vk, A = some ad ∧ InlsAt n w S vk (InlD.kids l[k]) ∧
      (InlD.text l[k]).size ≤ 9223372036854775807 ∧ (InlD.dest l[k]).size ≤ 9223372036854775807 ∧ (InlD.title l[k]).size ≤ 9223372036854775807 ∧ (InlD.kind l[k]) < 256 ∧ S ad.block ∧
      w.cell? (ad.add (k * 5)) = some (.int .u8 (InlD.kind l[k])) ∧ w.cell? ⟨(ad.add (k * 5)).block, (ad.add (k * 5)).off + 1, none⟩ = some (.string (InlD.text l[k])) ∧ w.cell? ⟨(ad.add (k * 5)).block, (ad.add (k * 5)).off + 2, none⟩ = some (.string (InlD.dest l[k])) ∧
      w.cell? ⟨(ad.add (k * 5)).block, (ad.add (k * 5)).off + 3, none⟩ = some (.string (InlD.title l[k])) ∧ w.cell? ⟨(ad.add (k * 5)).block, (ad.add (k * 5)).off + 4, none⟩ = some vk := by
  obtain ⟨A, c, hv, hl, h0, h1⟩ := h
  refine ⟨A, c, hv, hl, fun k hk => ?_⟩
  obtain ⟨ad, vs, hA, hlie, vk, hvs, hkk, ht, hd, hti, hki⟩ := h1 k l[k] (List.getElem?_eq_getElem hk)
  obtain ⟨ad', hA', hb'⟩ := h0 (Nat.lt_of_le_of_lt (Nat.zero_le k) hk)
  rw [hA] at hA'
  cases hA'
  subst hvs
  exact ⟨ad, vk, hA, hkk, ht, hd, hti, hki, hb', hlie.fst, hlie.nth 0 _ rfl, hlie.nth 1 _ rfl, hlie.nth 2 _ rfl, hlie.nth 3 _ rfl⟩

def rowIwt {K : Type} (f : K → Nat) (l : List (InlD K)) : Nat := (l.map fun x => 1 + x.text.size / 8 + x.dest.size / 8 + x.title.size / 8 + f x.kids).sum
def iwt : (n : Nat) → List (IT n) → Nat
  | 0, _ => 0
  | n + 1, l => rowIwt (iwt n) l
theorem rowIwt_take {K : Type} (f : K → Nat) (l : List (InlD K)) (k : Nat) (hk : k < l.length) : rowIwt f (l.take (k + 1)) = rowIwt f (l.take k) + (1 + l[k].text.size / 8 + l[k].dest.size / 8 + l[k].title.size / 8 + f l[k].kids) := by
  unfold rowIwt; rw [List.take_succ_eq_append_getElem hk]; simp only [List.map_append, List.sum_append, List.map_cons, List.map_nil, List.sum_cons, List.sum_nil, Nat.add_zero]
theorem iwt_take (n : Nat) (l : List (IT (n + 1))) (k : Nat) (hk : k < l.length) : iwt (n + 1) (l.take (k + 1)) = iwt (n + 1) (l.take k) + (1 + (InlD.text l[k]).size / 8 + (InlD.dest l[k]).size / 8 + (InlD.title l[k]).size / 8 + iwt n (InlD.kids l[k])) :=
  rowIwt_take (K := List (IT n)) (iwt n) l k hk

set_option maxHeartbeats 4000000 in
set_option maxRecDepth 100000 in
theorem inls_cnt (n : Nat) : ∀ (v : Value) (l : List (IT n)) (a most : Int) (S : Nat → Prop) (w : World), InlsAt n w S v l → 0 ≤ a → a ≤ 4611686018427387904 → 0 ≤ most → most ≤ 1000000 →
    Calls Tryz.prog 25 #[v, .int .i64 a, .int .i64 most] w fun e w' => ∃ r : Int, e = .returned (.int .i64 r) ∧ Counted a most r (iwt n l) ∧ ∃ d, w' = w.drewN d := by
  induction n with
  | zero =>
    intro v l a most S w h ha0 ha hm0 hm
    obtain ⟨A, c, rfl⟩ := h.none_
    go_enter Tryz.func25, Tryz.ntmps25
    go_wp2
    refine wp_loop_rounds 1 ?_
    rw [rounds_succ]
    go_wp2
    go_ret
    exact ⟨a, rfl, Counted.refl ha, 0, rfl⟩
  | succ n ih =>
    intro v l a most S w h ha0 ha hm0 hm
    obtain ⟨A, c, rfl, hl, hget⟩ := h.get
    have HG := Lib.hid hget
    clear hget h
    have IH := Lib.hid ih
    clear ih
    go_enter Tryz.func25, Tryz.ntmps25
    go_wp2
    go_loopw [1, 7] (fun va i wr => ∃ (k : Nat) (r : Int), i = .int .i64 k ∧ va = .int .i64 r ∧ k ≤ l.length ∧ Counted a most r (iwt (n + 1) (l.take k)) ∧ ∃ d, wr = w.drewN d) (fun _ i _ => l.length - (intOf i).toNat)
    case atStart => exact ⟨0, a, rfl, rfl, Nat.zero_le _, Counted.refl ha, 0, rfl⟩
    case round =>
      obtain ⟨k, r, rfl, rfl, hk, hc, d, rfl⟩ := hrel
      have HC := Lib.hid hc
      have hr0 : 0 ≤ r := by have := hc.1; omega
      have hr1 := hc.2.1
      clear hc
      by_cases hlt : k < l.length
      · by_cases hrm : r ≤ most
        · obtain ⟨ad, vk, hA, hkids, htx, hds, htl, hki, hbl, c0, c1, c2, c3, c4⟩ := HG.out k hlt
          subst hA
          clear c0 hki hbl
          have HK := Lib.hid hkids
          clear hkids
          have hs := Counted.step3 _ _ _ hrm hm htx hds htl
          have HS := Lib.hid hs
          clear hs
          go_wp2
          go_quiet (fail)
          go_wp2_with (go_at_call 25; refine (IH.out _ (InlD.kids l[k]) _ _ S _ (HK.out.drewN _) (by omega) (by omega) hm0 hm).mono ?_; rintro e w' ⟨r3, rfl, hc3, d3, rfl⟩; have HC3 := Lib.hid hc3; clear hc3)
          go_wp2
          go_roundw
          case rel => exact ⟨k + 1, _, by go_num, rfl, by omega, by rw [iwt_take _ _ _ hlt]; exact HC.out.trans (HS.out.trans HC3.out), _, rfl⟩
          case measure => simp [intOf]; omega
        · have hrf : decide (r ≤ most) = false := by simpa using hrm
          go_wp2
          go_ret
          exact ⟨r, rfl, HC.out.over _ (by omega), _, rfl⟩
      · go_wp2
        go_ret
        have := HC.out
        rw [List.take_of_length_le (by omega)] at this
        exact ⟨r, rfl, this, _, rfl⟩
end Go.Proofs.YtibaoocklempnaaGreatDoor
