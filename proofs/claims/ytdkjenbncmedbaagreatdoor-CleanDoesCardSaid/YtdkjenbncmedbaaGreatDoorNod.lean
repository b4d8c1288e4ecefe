/- Trees of nodes: as data of a depth, and how they lie in memory. -/
import Derived.Test.YtdkjenbncmedbaaGreatDoorRow
import Derived.Shelf.Strings.Builder2
import Derived.BigQuiet
import Derived.Deep.QuietTactic
import Derived.Deep.Draws
namespace Go.Proofs.YtdkjenbncmedbaaGreatDoor
open Go.RowKit

structure AttrD where
  name : ByteArray
  value : ByteArray
structure NodeD (K : Type) where
  kind : Nat
  space : Nat
  name : ByteArray
  attrs : List AttrD
  text : ByteArray
  kids : K
/-- Nodes of a depth of at most n. -/
def NT : Nat → Type
  | 0 => Empty
  | n + 1 => NodeD (List (NT n))

def attrCells (x : AttrD) : List Value := [.string x.name, .string x.value]
def AttrIs (_ : World) (_ : Nat → Prop) (vs : List Value) (x : AttrD) : Prop := vs = attrCells x ∧ x.name.size ≤ 9223372036854775807 ∧ x.value.size ≤ 9223372036854775807
def AttrsAt : World → (Nat → Prop) → Value → List AttrD → Prop := Row 2 AttrIs

def NodeIs {K : Type} (E : World → (Nat → Prop) → Value → K → Prop) (w : World) (S : Nat → Prop) (vs : List Value) (x : NodeD K) : Prop :=
  ∃ va vk, vs = [.int .u8 x.kind, .int .u8 x.space, .string x.name, va, .string x.text, vk] ∧ AttrsAt w S va x.attrs ∧ E w S vk x.kids ∧ x.name.size ≤ 9223372036854775807 ∧ x.text.size ≤ 9223372036854775807 ∧ x.kind < 256 ∧ x.space < 256

def NodesAt : (n : Nat) → World → (Nat → Prop) → Value → List (NT n) → Prop
  | 0 => fun w S v l => Row (α := Empty) 6 (fun _ _ _ _ => False) w S v l
  | n + 1 => fun w S v l => Row (α := NodeD (List (NT n))) 6 (NodeIs (NodesAt n)) w S v l

theorem AttrsAt.keep {w w' : World} {S : Nat → Prop} {v : Value} {l : List AttrD} (h : AttrsAt w S v l) (hb : ∀ k, S k → w'.heap[k]? = w.heap[k]?) : AttrsAt w' S v l := Row.keep h hb fun _ _ h => h
theorem AttrsAt.mono {w : World} {S S' : Nat → Prop} {v : Value} {l : List AttrD} (h : AttrsAt w S v l) (hB : ∀ k, S k → S' k) : AttrsAt w S' v l := Row.mono h hB fun _ _ h => h
theorem NodesAt.keep {w w' : World} {S : Nat → Prop} (hb : ∀ k, S k → w'.heap[k]? = w.heap[k]?) : ∀ (n : Nat) {v : Value} {l : List (NT n)}, NodesAt n w S v l → NodesAt n w' S v l
  | 0, _, _, h => Row.keep (α := Empty) (size := 6) (E := fun _ _ _ _ => False) h hb fun _ x _ => x.elim
  | n + 1, _, _, h => Row.keep (α := NodeD (List (NT n))) (size := 6) (E := NodeIs (NodesAt n)) h hb fun _ _ ⟨va, vk, e, ha, hk, r⟩ => ⟨va, vk, e, ha.keep hb, NodesAt.keep hb n hk, r⟩
theorem NodesAt.mono {w : World} {S S' : Nat → Prop} (hB : ∀ k, S k → S' k) : ∀ (n : Nat) {v : Value} {l : List (NT n)}, NodesAt n w S v l → NodesAt n w S' v l
  | 0, _, _, h => Row.mono (α := Empty) (size := 6) (E := fun _ _ _ _ => False) h hB fun _ x _ => x.elim
  | n + 1, _, _, h => Row.mono (α := NodeD (List (NT n))) (size := 6) (E := NodeIs (NodesAt n)) h hB fun _ _ ⟨va, vk, e, ha, hk, r⟩ => ⟨va, vk, e, ha.mono hB, NodesAt.mono hB n hk, r⟩

theorem NodesAt.none_ {w : World} {S : Nat → Prop} {v : Value} {l : List (NT 0)} (h : NodesAt 0 w S v l) : ∃ A c, v = .slice A 0 c := by
  obtain ⟨A, c, rfl, _⟩ := h
  match l with
  | [] => exact ⟨A, c, rfl⟩
  | x :: _ => exact Empty.elim x

theorem NodesAt.drewN {w : World} {S : Nat → Prop} {n : Nat} {v : Value} {l : List (NT n)} (h : NodesAt n w S v l) (d : Nat) : NodesAt n (w.drewN d) S v l := NodesAt.keep (w := w) (w' := w.drewN d) (fun _ _ => rfl) n h

/-- What a round over nodes asks for. -/
theorem NodesAt.get {n : Nat} {w : World} {S : Nat → Prop} {v : Value} {l : List (NT (n + 1))} (h : NodesAt (n + 1) w S v l) :
    ∃ A c, v = .slice A l.length c ∧ l.length ≤ 9223372036854775807 ∧ ∀ (k : Nat) (hk : k < l.length), ∃ ad va vk, A = some ad ∧ AttrsAt w S va (NodeD.attrs l[k]) ∧ NodesAt n w S vk (NodeD.kids l[k]) ∧
      (NodeD.name l[k]).size ≤ 9223372036854775807 ∧ (NodeD.text l[k]).size ≤ 9223372036854775807 ∧ (NodeD.kind l[k]) < 256 ∧ (NodeD.space l[k]) < 256 ∧ S ad.block ∧
      w.cell? (ad.add (k * 6)) = some (.int .u8 (NodeD.kind l[k])) ∧ w.cell? ⟨(ad.add (k * 6)).block, (ad.add (k * 6)).off + 1, none⟩ = some (.int .u8 (NodeD.space l[k])) ∧ w.cell? ⟨(ad.add (k * 6)).block, (ad.add (k * 6)).off + 2, none⟩ = some (.string (NodeD.name l[k])) ∧
      w.cell? ⟨(ad.add (k * 6)).block, (ad.add (k * 6)).off + 3, none⟩ = some va ∧ w.cell? ⟨(ad.add (k * 6)).block, (ad.add (k * 6)).off + 4, none⟩ = some (.string (NodeD.text l[k])) ∧ w.cell? ⟨(ad.add (k * 6)).block, (ad.add (k * 6)).off + 5, none⟩ = some vk := by
  obtain ⟨A, c, hv, hl, h0, h1⟩ := h
  refine ⟨A, c, hv, hl, fun k hk => ?_⟩
  obtain ⟨ad, vs, hA, hlie, va, vk, hvs, ha, hkk, hn, ht, hki, hsp⟩ := h1 k l[k] (List.getElem?_eq_getElem hk)
  obtain ⟨ad', hA', hb'⟩ := h0 (Nat.lt_of_le_of_lt (Nat.zero_le k) hk)
  rw [hA] at hA'
  cases hA'
  subst hvs
  exact ⟨ad, va, vk, hA, ha, hkk, hn, ht, hki, hsp, hb', hlie.fst, hlie.nth 0 _ rfl, hlie.nth 1 _ rfl, hlie.nth 2 _ rfl, hlie.nth 3 _ rfl, hlie.nth 4 _ rfl⟩
theorem AttrsAt.get {w : World} {S : Nat → Prop} {v : Value} {l : List AttrD} (h : AttrsAt w S v l) :
    ∃ A c, v = .slice A l.length c ∧ l.length ≤ 9223372036854775807 ∧ ∀ (k : Nat) (hk : k < l.length), ∃ ad, A = some ad ∧ (l[k].name).size ≤ 9223372036854775807 ∧ (l[k].value).size ≤ 9223372036854775807 ∧ S ad.block ∧
      w.cell? (ad.add (k * 2)) = some (.string l[k].name) ∧ w.cell? ⟨(ad.add (k * 2)).block, (ad.add (k * 2)).off + 1, none⟩ = some (.string l[k].value) := by
  obtain ⟨A, c, hv, hl, h0, h1⟩ := h
  refine ⟨A, c, hv, hl, fun k hk => ?_⟩
  obtain ⟨ad, vs, hA, hlie, hvs, hn, ht⟩ := h1 k l[k] (List.getElem?_eq_getElem hk)
  obtain ⟨ad', hA', hb'⟩ := h0 (Nat.lt_of_le_of_lt (Nat.zero_le k) hk)
  rw [hA] at hA'
  cases hA'
  subst hvs
  exact ⟨ad, hA, hn, ht, hb', hlie.fst, hlie.nth 0 _ rfl⟩

/-! ### how much there is -/
def attrsWt (l : List AttrD) : Nat := (l.map fun a => 1 + a.name.size / 8 + a.value.size / 8).sum
def rowWt {K : Type} (f : K → Nat) (l : List (NodeD K)) : Nat := (l.map fun x => 1 + x.text.size / 8 + x.name.size / 8 + attrsWt x.attrs + f x.kids).sum
def wt : (n : Nat) → List (NT n) → Nat
  | 0, _ => 0
  | n + 1, l => rowWt (wt n) l

theorem attrsWt_take (l : List AttrD) (k : Nat) (hk : k < l.length) : attrsWt (l.take (k + 1)) = attrsWt (l.take k) + (1 + l[k].name.size / 8 + l[k].value.size / 8) := by
  unfold attrsWt; rw [List.take_succ_eq_append_getElem hk]; simp only [List.map_append, List.sum_append, List.map_cons, List.map_nil, List.sum_cons, List.sum_nil, Nat.add_zero]
theorem rowWt_take {K : Type} (f : K → Nat) (l : List (NodeD K)) (k : Nat) (hk : k < l.length) : rowWt f (l.take (k + 1)) = rowWt f (l.take k) + (1 + l[k].text.size / 8 + l[k].name.size / 8 + attrsWt l[k].attrs + f l[k].kids) := by
  unfold rowWt; rw [List.take_succ_eq_append_getElem hk]; simp only [List.map_append, List.sum_append, List.map_cons, List.map_nil, List.sum_cons, List.sum_nil, Nat.add_zero]
theorem wt_take (n : Nat) (l : List (NT (n + 1))) (k : Nat) (hk : k < l.length) : wt (n + 1) (l.take (k + 1)) = wt (n + 1) (l.take k) + (1 + (NodeD.text l[k]).size / 8 + (NodeD.name l[k]).size / 8 + attrsWt (NodeD.attrs l[k]) + wt n (NodeD.kids l[k])) :=
  rowWt_take (K := List (NT n)) (wt n) l k hk

theorem below_drewN {B : Nat} {a w : World} (h : Below B a w) (n : Nat) : Below B a (w.drewN n) := ⟨h.os, h.tape, h.output, h.size, h.block⟩

set_option maxHeartbeats 4000000 in
set_option maxRecDepth 100000 in
theorem nodes_cnt (n : Nat) : ∀ (v : Value) (l : List (NT n)) (a most : Int) (S : Nat → Prop) (w : World), NodesAt n w S v l → 0 ≤ a → a ≤ 4611686018427387904 → 0 ≤ most → most ≤ 1000000 →
    Calls Tryz.prog 39 #[v, .int .i64 a, .int .i64 most] w fun e w' => ∃ r : Int, e = .returned (.int .i64 r) ∧ Counted a most r (wt n l) ∧ ∃ d, w' = w.drewN d := by
  induction n with
  | zero =>
    intro v l a most S w h ha0 ha hm0 hm
    obtain ⟨A, c, rfl⟩ := h.none_
    go_enter Tryz.func39, Tryz.ntmps39
    go_wp2
    refine wp_loop_rounds 1 ?_
    rw [rounds_succ]
    go_wp2
    go_ret
    exact ⟨a, rfl, Counted.refl ha, 0, rfl⟩
  | succ n ih =>
    intro v l a most S w h ha0 ha hm0 hm
    obtain ⟨A, c, rfl, hl, hget⟩ := h.get
    have HG := Lib.hid hget
    clear hget h
    have IH := Lib.hid ih
    clear ih
    go_enter Tryz.func39, Tryz.ntmps39
    go_wp2
    go_loopw [1, 7] (fun va i wr => ∃ (k : Nat) (r : Int), i = .int .i64 k ∧ va = .int .i64 r ∧ k ≤ l.length ∧ Counted a most r (wt (n + 1) (l.take k)) ∧ ∃ d, wr = w.drewN d) (fun _ i _ => l.length - (intOf i).toNat)
    case atStart => exact ⟨0, a, rfl, rfl, Nat.zero_le _, Counted.refl ha, 0, rfl⟩
    case round =>
      obtain ⟨k, r, rfl, rfl, hk, hc, d, rfl⟩ := hrel
      have HC := Lib.hid hc
      have hr0 : 0 ≤ r := by have := hc.1; omega
      have hr1 := hc.2.1
      clear hc
      by_cases hlt : k < l.length
      · by_cases hrm : r ≤ most
        · obtain ⟨ad, va, vk, hA, hatt, hkids, hnm, htx, hki, hsp, hbl, c0, c1, c2, c3, c4, c5⟩ := HG.out k hlt
          subst hA
          clear c0 c1 hki hsp
          obtain ⟨A2, c2', hva, hl2, hget2⟩ := hatt.get
          subst hva
          have HG2 := Lib.hid hget2
          clear hget2 hatt
          have HK := Lib.hid hkids
          clear hkids
          have hs := Counted.step _ _ hrm hm htx hnm
          have HS := Lib.hid hs
          clear hs
          go_wp2
          go_quiet (fail)
          go_wp2
          go_loopw [1, 8] (fun va i wr => ∃ (j : Nat) (r2 : Int), i = .int .i64 j ∧ va = .int .i64 r2 ∧ j ≤ (NodeD.attrs l[k]).length ∧ Counted r most r2 (1 + (NodeD.text l[k]).size / 8 + (NodeD.name l[k]).size / 8 + attrsWt ((NodeD.attrs l[k]).take j)) ∧ ∃ d, wr = w.drewN d) (fun _ i _ => (NodeD.attrs l[k]).length - (intOf i).toNat)
          case atStart => exact ⟨0, _, rfl, rfl, Nat.zero_le _, HS.out, _, World.drewN_drewN _ _ _⟩
          case round =>
            obtain ⟨j, r2, rfl, rfl, hj, hc2, d2, rfl⟩ := hrel
            have HC2 := Lib.hid hc2
            have hr20 : 0 ≤ r2 := by have := hc2.1; omega
            have hr21 := hc2.2.1
            clear hc2
            by_cases hjl : j < (NodeD.attrs l[k]).length
            · by_cases hr2m : r2 ≤ most
              · obtain ⟨ad2, hA2, hnm2, hvl2, hbl2, e0, e1⟩ := HG2.out j hjl
                subst hA2
                have hs := Counted.step _ _ hr2m hm hnm2 hvl2
                have HS2 := Lib.hid hs
                clear hs
                go_wp2
                go_quiet (fail)
                go_wp2
                go_roundw
                case rel => exact ⟨j + 1, _, by go_num, rfl, by omega, by rw [attrsWt_take _ _ hjl, ← Nat.add_assoc]; exact HC2.out.trans HS2.out, _, rfl⟩
                case measure => simp [intOf]; omega
              · have hr2f : decide (r2 ≤ most) = false := by simpa using hr2m
                have HT := Lib.hid (HC2.out.over (1 + (NodeD.text l[k]).size / 8 + (NodeD.name l[k]).size / 8 + attrsWt (NodeD.attrs l[k])) (by omega))
                go_wp2_with (go_at_call 39; refine (IH.out _ (NodeD.kids l[k]) _ _ S _ (HK.out.drewN _) hr20 hr21 hm0 hm).mono ?_; rintro e w' ⟨r3, rfl, hc3, d3, rfl⟩; have HC3 := Lib.hid hc3; clear hc3)
                go_wp2
                go_roundw
                case rel => exact ⟨k + 1, _, by go_num, rfl, by omega, by rw [wt_take _ _ _ hlt]; exact HC.out.trans (HT.out.trans HC3.out), _, rfl⟩
                case measure => simp [intOf]; omega
            · have HT : Hid (Counted r most r2 (1 + (NodeD.text l[k]).size / 8 + (NodeD.name l[k]).size / 8 + attrsWt (NodeD.attrs l[k]))) := by
                have := HC2.out
                rw [List.take_of_length_le (by omega)] at this
                exact this
              go_wp2_with (go_at_call 39; refine (IH.out _ (NodeD.kids l[k]) _ _ S _ (HK.out.drewN _) hr20 hr21 hm0 hm).mono ?_; rintro e w' ⟨r3, rfl, hc3, d3, rfl⟩; have HC3 := Lib.hid hc3; clear hc3)
              go_wp2
              go_roundw
              case rel => exact ⟨k + 1, _, by go_num, rfl, by omega, by rw [wt_take _ _ _ hlt]; exact HC.out.trans (HT.out.trans HC3.out), _, rfl⟩
              case measure => simp [intOf]; omega
        · have hrf : decide (r ≤ most) = false := by simpa using hrm
          go_wp2
          go_ret
          exact ⟨r, rfl, HC.out.over _ (by omega), _, rfl⟩
      · go_wp2
        go_ret
        have := HC.out
        rw [List.take_of_length_le (by omega)] at this
        exact ⟨r, rfl, this, _, rfl⟩
end Go.Proofs.YtdkjenbncmedbaaGreatDoor
