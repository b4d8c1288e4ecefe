/- leaf.Tag: how long is the tag at a text's head? -/
import Derived.Test.YtjhfmdfihbkcaaaGreatDoorAtClosed
namespace Go.Proofs.YtjhfmdfihbkcaaaGreatDoor
open Go.RowKit

theorem run_ge (p : UInt8 → Bool) (l : List UInt8) (j : Nat) : j ≤ run p l j := by unfold run; omega
theorem wordN_lt (l : List UInt8) (f r : ByteArray) (i j : Nat) (h : wordN l f r i = some j) : i < j := by
  unfold wordN at h
  split at h
  · split at h
    · cases h
      exact run_ge _ l (i + 1)
    · cases h
  · cases h
theorem valN_in (l : List UInt8) (i j : Nat) (h : valN l i = some j) : i ≤ j ∧ j ≤ l.length := by
  unfold valN at h
  split at h
  · split at h
    · unfold quoteN at h
      rcases indexByte_spec (l.drop (i + 1)) l[i] with ⟨h1, _⟩ | ⟨a, h1, h2, _⟩
      · rw [h1, if_pos (by decide)] at h
        cases h
      · rw [h1, if_neg (by omega)] at h
        have h3 := (List.getElem?_eq_some_iff.1 h2).1
        rw [List.length_drop] at h3
        have h4 : i + (a : Int).toNat + 2 = j := Option.some.inj h
        omega
    · unfold bareN at h
      split at h
      · cases h
      · cases h
        exact ⟨run_ge _ l i, run_le _ l i (by omega)⟩
  · cases h
theorem attrN_lt (l : List UInt8) (i k : Nat) (_ : i ≤ l.length) (h : attrN l i = some k) : i < k ∧ k ≤ l.length := by
  unfold attrN at h
  split at h
  · cases h
  · have hge : i ≤ gapN l i := run_ge _ l i
    cases hw : wordN l ⟨#[95, 58]⟩ ⟨#[95, 46, 58, 45]⟩ (gapN l i) with
    | none => rw [hw] at h; cases h
    | some j2 =>
      rw [hw] at h
      have h2 : attr2 l j2 = some k := h
      have hl := wordN_lt _ _ _ _ _ hw
      have hle := wordN_le _ _ _ _ _ hw
      unfold attr2 at h2
      split at h2
      · have hv := valN_in _ _ _ h2
        have g1 : j2 ≤ gapN l j2 := run_ge _ l j2
        have g2 : gapN l j2 + 1 ≤ gapN l (gapN l j2 + 1) := run_ge _ l _
        exact ⟨by omega, hv.2⟩
      · cases h2
        exact ⟨by omega, hle⟩
/-- Where the attributes from i on end. -/
def attrsF (l : List UInt8) : Nat → Nat → Nat
  | 0, i => i
  | n + 1, i => match attrN l i with
    | none => i
    | some k => attrsF l n k
def attrsN (l : List UInt8) (i : Nat) : Nat := attrsF l (l.length + 1) i
theorem attrsF_le (l : List UInt8) : ∀ (n i : Nat), i ≤ l.length → attrsF l n i ≤ l.length
  | 0, _, h => h
  | n + 1, i, h => by
    unfold attrsF
    split
    · exact h
    · rename_i k hk
      exact attrsF_le l n k (attrN_lt l i k h hk).2
def tagEnd (l : List UInt8) (shut : Bool) (j : Nat) : Nat := if shut = true then closedN l (gapN l j) [⟨#[62]⟩] else closedN l (gapN l (attrsN l j)) [⟨#[47, 62]⟩, ⟨#[62]⟩]
def tagN (l : List UInt8) : Nat :=
  if Lib.hasPrefix l [60] = true then
    match wordN l ⟨#[]⟩ ⟨#[45]⟩ (if Lib.hasPrefix l [60, 47] = true then 2 else 1) with
    | none => 0
    | some j => tagEnd l (Lib.hasPrefix l [60, 47]) j
  else 0
def TagW (w : World) (l : List UInt8) (E : Nat) (v4 v5 : Value) (wr : World) : Prop := ∃ (i n : Nat), v4 = .int .i64 (i : Int) ∧ v5 = .int .i64 (optI (attrN l i)) ∧ i ≤ l.length ∧ l.length - i < n ∧ attrsF l n i = E ∧ Below w.heap.size w wr
theorem attrsF_none {l : List UInt8} {n i : Nat} (h : attrN l i = none) : attrsF l n i = i := by
  cases n with
  | zero => rfl
  | succ n => unfold attrsF; rw [h]
theorem attrsF_some {l : List UInt8} {n i k : Nat} (h : attrN l i = some k) : attrsF l (n + 1) i = attrsF l n k := by
  rw [attrsF, h]
set_option maxHeartbeats 4000000 in
set_option maxRecDepth 100000 in
theorem tag_none (s : ByteArray) (w : World) (h : Lib.hasPrefix s.data.toList [60] = false) : Calls Tryz.prog 9 #[.string s] w (RIb w (tagN s.data.toList : Nat)) := by
  have hv : tagN s.data.toList = 0 := by unfold tagN; rw [h]; rfl
  rw [hv]
  have H := Lib.hid h
  clear h hv
  go_enter Tryz.func9, Tryz.ntmps9
  go_wp2_with fail
  refine Calls.mono (Tryz.strings_HasPrefix s ⟨#[60]⟩ _) ?_
  rintro e w4 ⟨rfl, rfl⟩
  rw [show (⟨#[60]⟩ : ByteArray).data.toList = [60] from rfl, H.out]
  go_wp2
  go_ret
  exact ⟨rfl, Below.refl _ _⟩
set_option maxHeartbeats 4000000 in
set_option maxRecDepth 100000 in
theorem tag_shut (s : ByteArray) (w : World) (hs : s.size ≤ 1099511627) (h : Lib.hasPrefix s.data.toList [60] = true) (h2 : Lib.hasPrefix s.data.toList [60, 47] = true) : Calls Tryz.prog 9 #[.string s] w (RIb w (tagN s.data.toList : Nat)) := by
  have hsl : s.data.toList.length = s.size := Array.length_toList
  have h2l : 2 ≤ s.size := by
    rw [← hsl]
    cases hl : s.data.toList with
    | nil => rw [hl] at h; cases h
    | cons a r =>
      cases r with
      | nil => rw [hl] at h2; revert h2; unfold Lib.hasPrefix; simp
      | cons b r => simp
  have hv : tagN s.data.toList = match wordN s.data.toList ⟨#[]⟩ ⟨#[45]⟩ 2 with | none => 0 | some j => closedN s.data.toList (gapN s.data.toList j) [⟨#[62]⟩] := by unfold tagN tagEnd; rw [h, h2]; rfl
  rw [hv]
  have hN := fun w' => name_any s 2 ⟨#[]⟩ ⟨#[45]⟩ w' hs h2l
  have H := Lib.hid h
  have H2 := Lib.hid h2
  cases hw : wordN s.data.toList ⟨#[]⟩ ⟨#[45]⟩ 2 with
  | none =>
    rw [hw] at hN
    have HN := Lib.hid hN
    clear hN hw hv h h2
    go_enter Tryz.func9, Tryz.ntmps9
    go_wp2_with fail
    refine Calls.mono (Tryz.strings_HasPrefix s ⟨#[60]⟩ _) ?_
    rintro e w4 ⟨rfl, rfl⟩
    rw [show (⟨#[60]⟩ : ByteArray).data.toList = [60] from rfl, H.out]
    go_wp2_with fail
    refine Calls.mono (Tryz.strings_HasPrefix s ⟨#[60, 47]⟩ _) ?_
    rintro e w4 ⟨rfl, rfl⟩
    rw [show (⟨#[60, 47]⟩ : ByteArray).data.toList = [60, 47] from rfl, H2.out]
    go_wp2_with fail
    refine Calls.mono (HN.out _) ?_
    rintro e w2 ⟨rfl, rfl⟩
    rw [show optI none = -1 from rfl]
    go_wp2
    go_ret
    exact ⟨rfl, Below.refl _ _⟩
  | some j =>
    rw [hw] at hN
    have hj := wordN_le _ _ _ _ _ hw
    have hgl := gapN_le _ _ hj
    rw [hsl] at hj hgl
    have hop : optI (some j) = (j : Int) := rfl
    rw [hop] at hN
    have HG := Lib.hid fun w' => gap_any s j w' hs hj
    obtain ⟨k, hk⟩ : ∃ k, gapN s.data.toList j = k := ⟨_, rfl⟩
    rw [hk] at HG hgl
    have HC := Lib.hid fun g w' (hb : Box w' g 9 ([⟨#[62]⟩].map Value.string).toArray) => closed_any s k g [⟨#[62]⟩] w' hs hgl hb (by decide) (by decide)
    have HN := Lib.hid hN
    show Calls _ _ _ _ (RIb w (closedN s.data.toList (gapN s.data.toList j) [⟨#[62]⟩] : Nat))
    rw [hk]
    clear hN hw hv h h2 hop hk
    go_enter Tryz.func9, Tryz.ntmps9
    go_wp2_with fail
    refine Calls.mono (Tryz.strings_HasPrefix s ⟨#[60]⟩ _) ?_
    rintro e w4 ⟨rfl, rfl⟩
    rw [show (⟨#[60]⟩ : ByteArray).data.toList = [60] from rfl, H.out]
    go_wp2_with fail
    refine Calls.mono (Tryz.strings_HasPrefix s ⟨#[60, 47]⟩ _) ?_
    rintro e w4 ⟨rfl, rfl⟩
    rw [show (⟨#[60, 47]⟩ : ByteArray).data.toList = [60, 47] from rfl, H2.out]
    go_wp2_with fail
    refine Calls.mono (HN.out _) ?_
    rintro e w2 ⟨rfl, rfl⟩
    go_wp2_with fail
    refine Calls.mono (HG.out _) ?_
    rintro e w3 ⟨rfl, b3⟩
    have hz := b3.size
    go_wp2_with fail
    refine Calls.mono (HC.out _ _ (Box.new _ _ _)) ?_
    rintro e w5 ⟨rfl, rfl⟩
    go_wp2
    go_ret
    exact ⟨rfl, b3.alloc hz _⟩

set_option maxHeartbeats 4000000 in
set_option maxRecDepth 100000 in
theorem tag_open (s : ByteArray) (w : World) (hs : s.size ≤ 1099511627) (h : Lib.hasPrefix s.data.toList [60] = true) (h2 : Lib.hasPrefix s.data.toList [60, 47] = false) : Calls Tryz.prog 9 #[.string s] w (RIb w (tagN s.data.toList : Nat)) := by
  have hsl : s.data.toList.length = s.size := Array.length_toList
  have h1l : 1 ≤ s.size := by
    rw [← hsl]
    cases hl : s.data.toList with
    | nil => rw [hl] at h; cases h
    | cons a r => simp
  have hv : tagN s.data.toList = match wordN s.data.toList ⟨#[]⟩ ⟨#[45]⟩ 1 with | none => 0 | some j => closedN s.data.toList (gapN s.data.toList (attrsN s.data.toList j)) [⟨#[47, 62]⟩, ⟨#[62]⟩] := by unfold tagN tagEnd; rw [h, h2]; rfl
  rw [hv]
  have hN := fun w' => name_any s 1 ⟨#[]⟩ ⟨#[45]⟩ w' hs h1l
  have H := Lib.hid h
  have H2 := Lib.hid h2
  cases hw : wordN s.data.toList ⟨#[]⟩ ⟨#[45]⟩ 1 with
  | none =>
    rw [hw] at hN
    have HN := Lib.hid hN
    clear hN hw hv h h2
    go_enter Tryz.func9, Tryz.ntmps9
    go_wp2_with fail
    refine Calls.mono (Tryz.strings_HasPrefix s ⟨#[60]⟩ _) ?_
    rintro e w4 ⟨rfl, rfl⟩
    rw [show (⟨#[60]⟩ : ByteArray).data.toList = [60] from rfl, H.out]
    go_wp2_with fail
    refine Calls.mono (Tryz.strings_HasPrefix s ⟨#[60, 47]⟩ _) ?_
    rintro e w4 ⟨rfl, rfl⟩
    rw [show (⟨#[60, 47]⟩ : ByteArray).data.toList = [60, 47] from rfl, H2.out]
    go_wp2_with fail
    refine Calls.mono (HN.out _) ?_
    rintro e w2 ⟨rfl, rfl⟩
    rw [show optI none = -1 from rfl]
    go_wp2
    go_ret
    exact ⟨rfl, Below.refl _ _⟩
  | some j =>
    rw [hw] at hN
    have hj := wordN_le _ _ _ _ _ hw
    have hop : optI (some j) = (j : Int) := rfl
    rw [hop] at hN
    obtain ⟨E, hE⟩ : ∃ E, attrsN s.data.toList j = E := ⟨_, rfl⟩
    have hEl : E ≤ s.data.toList.length := by rw [← hE]; exact attrsF_le _ _ _ hj
    have hgl := gapN_le _ _ hEl
    show Calls _ _ _ _ (RIb w (closedN s.data.toList (gapN s.data.toList (attrsN s.data.toList j)) [⟨#[47, 62]⟩, ⟨#[62]⟩] : Nat))
    rw [hE]
    have hat : Hid (attrsF s.data.toList (s.data.toList.length + 1) j = E) := hE
    have hA := Lib.hid fun (i : Nat) w' (hi : i ≤ s.data.toList.length) => attr_any s i w' hs (by rw [← hsl]; exact hi)
    obtain ⟨l, hl⟩ : ∃ l, s.data.toList = l := ⟨_, rfl⟩
    rw [hl] at hA hEl hgl hat hj hsl ⊢
    obtain ⟨k, hk⟩ : ∃ k, gapN l E = k := ⟨_, rfl⟩
    rw [hk] at hgl ⊢
    have HG := Lib.hid (show ∀ w', Calls Tryz.prog 24 #[.string s, .int .i64 (E : Int)] w' (RIb w' (k : Nat)) from fun w' => by
      have := gap_any s E w' hs (by rw [← hsl]; exact hEl)
      rw [hl, hk] at this
      exact this)
    have HC := Lib.hid (show ∀ g w', Box w' g 9 ([⟨#[47, 62]⟩, ⟨#[62]⟩].map Value.string).toArray → Calls Tryz.prog 23 #[.string s, .int .i64 (k : Int), .slice (some ⟨g, 0, none⟩) 2 2] w' (RI w' (closedN l k [⟨#[47, 62]⟩, ⟨#[62]⟩] : Nat)) from fun g w' hb => by
      have := closed_any s k g [⟨#[47, 62]⟩, ⟨#[62]⟩] w' hs (by rw [← hsl]; exact hgl) hb (by decide) (by decide)
      rw [hl] at this
      exact this)
    have HN := Lib.hid hN
    have HSL := Lib.hid hsl
    have HL := Lib.hid hl
    have HJ := Lib.hid hj
    clear hN hw hv h h2 hop hk hE hl hsl hj hEl hgl
    go_enter Tryz.func9, Tryz.ntmps9
    go_wp2_with fail
    refine Calls.mono (Tryz.strings_HasPrefix s ⟨#[60]⟩ _) ?_
    rintro e w4 ⟨rfl, rfl⟩
    rw [show (⟨#[60]⟩ : ByteArray).data.toList = [60] from rfl, HL.out, ← HL.out, H.out]
    go_wp2_with fail
    refine Calls.mono (Tryz.strings_HasPrefix s ⟨#[60, 47]⟩ _) ?_
    rintro e w4 ⟨rfl, rfl⟩
    rw [show (⟨#[60, 47]⟩ : ByteArray).data.toList = [60, 47] from rfl, H2.out]
    go_wp2_with fail
    refine Calls.mono (HN.out _) ?_
    rintro e w2 ⟨rfl, rfl⟩
    go_wp2_with fail
    refine Calls.mono (hA.out j _ HJ.out) ?_
    rintro e w3 ⟨rfl, b3⟩
    have HB3 := Lib.hid b3
    clear b3
    go_wp2_with fail
    go_loopw [4, 5] (fun v4 v5 wr => TagW w4 l E v4 v5 wr) (fun v4 _ _ => s.size - (intOf v4).toNat)
    case atStart => exact ⟨j, l.length + 1, rfl, rfl, HJ.out, by omega, hat.out, HB3.out⟩
    case round =>
      obtain ⟨i, n, rfl, rfl, hi, hn, hE, hb⟩ := hrel
      have HB := Lib.hid hb
      have hz := hb.size
      clear hb
      cases ha : attrN l i with
      | none =>
        rw [attrsF_none ha] at hE
        subst hE
        rw [show optI none = -1 from rfl]
        clear ha hat
        go_wp2_with fail
        refine Calls.mono (HG.out _) ?_
        rintro e w5 ⟨rfl, b5⟩
        have hz5 := b5.size
        go_wp2_with fail
        refine Calls.mono (HC.out _ _ (Box.new _ _ _)) ?_
        rintro e w6 ⟨rfl, rfl⟩
        go_wp2
        go_ret
        exact ⟨rfl, (HB.out.trans (b5.mono hz)).alloc (by omega) _⟩
      | some m =>
        have hm := attrN_lt l i m hi ha
        rw [show optI (some m) = (m : Int) from rfl]
        have hs2 : i < s.size := by rw [← HSL.out]; omega
        obtain ⟨n', rfl⟩ : ∃ n', n = n' + 1 := ⟨n - 1, by omega⟩
        rw [attrsF_some ha] at hE
        have HE := Lib.hid hE
        clear hE ha
        go_wp2_with fail
        refine Calls.mono (hA.out m _ hm.2) ?_
        rintro e w5 ⟨rfl, b5⟩
        go_wp2
        go_roundw
        case rel => exact ⟨m, n', rfl, rfl, hm.2, by omega, HE.out, HB.out.trans (b5.mono hz)⟩
        case measure => simp [intOf]; omega
theorem tag_any (s : ByteArray) (w : World) (hs : s.size ≤ 1099511627) : Calls Tryz.prog 9 #[.string s] w (RIb w (tagN s.data.toList : Nat)) := by
  cases h : Lib.hasPrefix s.data.toList [60] with
  | false => exact tag_none s w h
  | true =>
    cases h2 : Lib.hasPrefix s.data.toList [60, 47] with
    | true => exact tag_shut s w hs h h2
    | false => exact tag_open s w hs h h2
end Go.Proofs.YtjhfmdfihbkcaaaGreatDoor
