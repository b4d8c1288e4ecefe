/- tympanref00.Blocks: how much there is; it stops past a bound. tympanlaw30.LowerParts answers true: inlines, and a document's blocks, one behind the other are written one behind the other. -/
import Derived.Test.YtibaoocklempnaaGreatDoorBlkD
import Derived.Test.YtibaoocklempnaaGreatDoorKnown30
import Derived.Test.YtibaoocklempnaaGreatDoorBlkG
import Derived.Deep.DeepCutAuto
import Derived.Deep.RegionWith
import Derived.Deep.RegionHeld3
namespace Go.Proofs.YtibaoocklempnaaGreatDoor
open Go.RowKit

theorem Counted.step4 {a most : Int} (x y z : Nat) (ha : a ≤ most) (hm : most ≤ 1000000) (hx : x ≤ 9223372036854775807) (hy : y ≤ 9223372036854775807) (hz : z ≤ 140737488355328) : Counted a most (a + (1 + (x : Int) / 8 + (y : Int) / 8 + (z : Int))) (1 + x / 8 + y / 8 + z) :=
  ⟨by omega, by omega, fun _ => by omega, fun h => by omega⟩
theorem BlksAt.drewN {w : World} {S : Nat → Prop} {n : Nat} {v : Value} {l : List (BT n)} (h : BlksAt n w S v l) (d : Nat) : BlksAt n (w.drewN d) S v l := BlksAt.keep (w := w) (w' := w.drewN d) (fun _ _ => rfl) n h
theorem blk_wt (n : Nat) (x : BlkD (List (BT n))) : bw1 (n + 1) x = 1 + x.text.size / 8 + x.info.size / 8 + x.align.length + iwt x.dep x.inl + bwt n x.kids := rfl

set_option maxHeartbeats 4000000 in
set_option maxRecDepth 100000 in
theorem blks_cnt (n : Nat) : ∀ (v : Value) (l : List (BT n)) (a most : Int) (S : Nat → Prop) (w : World), BlksAt n w S v l → 0 ≤ a → a ≤ 4611686018427387904 → 0 ≤ most → most ≤ 1000000 →
    Calls Tryz.prog 35 #[v, .int .i64 a, .int .i64 most] w fun e w' => ∃ r : Int, e = .returned (.int .i64 r) ∧ Counted a most r (bwt n l) ∧ ∃ d, w' = w.drewN d := by
  induction n with
  | zero =>
    intro v l a most S w h ha0 ha hm0 hm
    obtain ⟨A, c, rfl⟩ := h.none_
    have hl0 : bwt 0 l = 0 := by
      match l with
      | [] => rfl
      | x :: _ => exact Empty.elim x
    have HL0 := Lib.hid hl0
    clear hl0
    go_enter Tryz.func35, Tryz.ntmps35
    go_wp2
    refine wp_loop_rounds 1 ?_
    rw [rounds_succ]
    go_wp2
    go_ret
    exact ⟨a, rfl, by rw [HL0.out]; exact Counted.refl ha, 0, rfl⟩
  | succ n ih =>
    intro v l a most S w h ha0 ha hm0 hm
    obtain ⟨A, c, rfl, hl, hget⟩ := h.get2
    have HG := Lib.hid hget
    clear hget h
    have IH := Lib.hid ih
    clear ih
    go_enter Tryz.func35, Tryz.ntmps35
    go_wp2
    go_loopw [1, 7] (fun va i wr => ∃ (k : Nat) (r : Int), i = .int .i64 k ∧ va = .int .i64 r ∧ k ≤ l.length ∧ Counted a most r (bwt (n + 1) (l.take k)) ∧ ∃ d, wr = w.drewN d) (fun _ i _ => l.length - (intOf i).toNat)
    case atStart => exact ⟨0, a, rfl, rfl, Nat.zero_le _, Counted.refl ha, 0, rfl⟩
    case round =>
      obtain ⟨k, r, rfl, rfl, hk, hc, d, rfl⟩ := hrel
      have HC := Lib.hid hc
      have hr0 : 0 ≤ r := by have := hc.1; omega
      have hr1 := hc.2.1
      clear hc
      by_cases hlt : k < l.length
      · by_cases hrm : r ≤ most
        · obtain ⟨ad, kd, mk, lv, st, tg, inf, tx, A1, A2, A3, m1, m2, m3, c1, c2, c3, hA, hbl, hat, q0, q1, q2, q3, q4, q5, q6, q7, q8, q9⟩ := HG.out k hlt
          subst hA
          have p := BlkAt.parts (n := n) hat
          have htx := p.txs
          have hif := p.infs
          have hal := p.als
          rw [← p.tx] at htx
          rw [← p.inf] at hif
          rw [← p.m1e] at hal
          have hs := Counted.step4 tx.size inf.size m1 hrm hm htx hif hal
          have hwt := blk_wt n l[k]
          rw [← p.tx, ← p.inf, ← p.m1e] at hwt
          have htk := rowB_take (bw1 (n + 1)) l k hlt
          have HS := Lib.hid hs
          have HP := Lib.hid p
          have HWT := Lib.hid hwt
          have HTK := Lib.hid htk
          clear hs p hwt htk hat hbl q0 q1 q2 q3 q4
          go_wp2
          go_quiet (fail)
          go_wp2_with fail
          refine Calls.mono (inls_cnt (BlkD.dep l[k]) _ (BlkD.inl l[k]) _ _ S _ (HP.out.inl.drewN _) (by omega) (by omega) hm0 hm) ?_
          rintro e w' ⟨r3, rfl, hc3, d3, rfl⟩
          have hr3 := hc3.1
          have hr4 := hc3.2.1
          have HC3 := Lib.hid hc3
          clear hc3
          go_wp2_with fail
          refine Calls.mono (IH.out _ (BlkD.kids l[k]) _ _ S _ (HP.out.kids.drewN _) (by omega) (by omega) hm0 hm) ?_
          rintro e w' ⟨r4, rfl, hc4, d4, rfl⟩
          have HC4 := Lib.hid hc4
          clear hc4
          go_wp2
          go_roundw
          case rel => exact ⟨k + 1, _, by go_num, rfl, by omega, by unfold bwt; rw [HTK.out, HWT.out]; exact HC.out.trans ((HS.out.trans HC3.out).trans HC4.out), _, rfl⟩
          case measure => simp [intOf]; omega
        · have hrf : decide (r ≤ most) = false := by simpa using hrm
          go_wp2
          go_ret
          exact ⟨r, rfl, HC.out.over _ (by omega), _, rfl⟩
      · go_wp2
        go_ret
        have := HC.out
        rw [List.take_of_length_le (by omega)] at this
        exact ⟨r, rfl, this, _, rfl⟩

theorem below_on {w a b : World} (h : Below w.heap.size w a) (k : Below a.heap.size a b) : Below w.heap.size w b := h.trans (k.mono h.size)
theorem Pow.later {w w' : World} (h : Pow w) (hb : Below w.heap.size w w') : Pow w' := ((PowB.mk' h).on hb).1
theorem Row.none_ {α : Type} {size : Nat} {E : World → (Nat → Prop) → List Value → α → Prop} {w : World} {S : Nat → Prop} (A : Option Addr) (c : Nat) : Row size E w S (.slice A 0 c) [] :=
  ⟨A, c, rfl, Nat.zero_le _, fun h => absurd h (Nat.lt_irrefl 0), fun i x hx => by simp at hx⟩
theorem InlsAt.len {w : World} {S : Nat → Prop} {A : Option Addr} {m c : Nat} : ∀ {n : Nat} {l : List (IT n)}, InlsAt n w S (.slice A m c) l → m = l.length
  | 0, _, ⟨_, _, e, _⟩ => by cases e; rfl
  | _ + 1, _, ⟨_, _, e, _⟩ => by cases e; rfl
theorem InlsAt.take_ {n : Nat} {w : World} {S : Nat → Prop} {A : Option Addr} {m c : Nat} {l : List (IT n)} (h : InlsAt n w S (.slice A m c) l) (j : Nat) (hj : j ≤ m) : InlsAt n w S (.slice A j c) (l.take j) := by
  cases n with
  | zero => exact Row.take_ (α := Empty) (size := 5) (E := fun _ _ _ _ => False) h j hj
  | succ n => exact Row.take_ (α := InlD (List (IT n))) (size := 5) (E := InlIs (InlsAt n)) h j hj
theorem InlsAt.drop_ {n : Nat} {w : World} {S : Nat → Prop} {a : Addr} {m c : Nat} {l : List (IT n)} (h : InlsAt n w S (.slice (some a) m c) l) (j c' : Nat) (hj : j ≤ m) : InlsAt n w S (.slice (some (a.add (j * 5))) (m - j) c') (l.drop j) := by
  cases n with
  | zero => exact Row.drop_ (α := Empty) (size := 5) (E := fun _ _ _ _ => False) h j c' hj
  | succ n => exact Row.drop_ (α := InlD (List (IT n))) (size := 5) (E := InlIs (InlsAt n)) h j c' hj
theorem InlsAt.nil_ (n : Nat) {w : World} {S : Nat → Prop} (A : Option Addr) (c : Nat) : InlsAt n w S (.slice A 0 c) [] := by
  cases n with
  | zero => exact Row.none_ (α := Empty) (size := 5) (E := fun _ _ _ _ => False) A c
  | succ n => exact Row.none_ (α := InlD (List (IT n))) (size := 5) (E := InlIs (InlsAt n)) A c
theorem BlksAt.nil_ (n : Nat) {w : World} {S : Nat → Prop} (A : Option Addr) (c : Nat) : BlksAt n w S (.slice A 0 c) [] := by
  cases n with
  | zero => exact Row.none_ (α := Empty) (size := 10) (E := fun _ _ _ _ => False) A c
  | succ n => exact Row.none_ (α := BlkD (List (BT n))) (size := 10) (E := BlkIs (BlksAt n)) A c
theorem inlOut_parts (n : Nat) (l : List (IT n)) (j : Nat) : inlOut n (l.take j) ++ inlOut n (l.drop j) = inlOut n l := by
  cases n with
  | zero => rfl
  | succ n => exact (rowInl_split (K := List (IT n)) (inlOut n) (plainOut n) l j).symm
theorem iwt_parts (n : Nat) (l : List (IT n)) (j : Nat) : iwt n (l.take j) + iwt n (l.drop j) = iwt n l := by
  cases n with
  | zero => rfl
  | succ n => exact (rowIwt_split (K := List (IT n)) (iwt n) l j).symm
theorem iwt_nil (n : Nat) : iwt n [] = 0 := by cases n <;> rfl
theorem inlOut_nil (n : Nat) : inlOut n [] = [] := by cases n <;> rfl
theorem iwt_len' : ∀ (n : Nat) (l : List (IT n)), l.length ≤ iwt n l
  | 0, [] => Nat.zero_le _
  | 0, x :: _ => Empty.elim x
  | n + 1, l => iwt_len n l
theorem blksOut_parts (n : Nat) (l : List (BT n)) (j : Nat) : blksOut n (l.take j) ++ blksOut n (l.drop j) = blksOut n l := by
  have h := idxOut_append (fun _ => (outs n).blk) (l.take j) (l.drop j)
  rw [List.take_append_drop] at h
  exact h.symm
theorem bwt_parts (n : Nat) (l : List (BT n)) (j : Nat) : bwt n (l.take j) + bwt n (l.drop j) = bwt n l := (rowB_split (bw1 n) l j).symm
theorem bytes_add {a b c : List UInt8} (h : a ++ b = c) : (⟨a.toArray⟩ : ByteArray) ++ ⟨b.toArray⟩ = ⟨c.toArray⟩ := by
  subst h
  apply ByteArray.ext
  simp [ByteArray.data_append]
def docB {n : Nat} (l : List (BT n)) : BlkD (List (BT n)) := ⟨1, 0, 0, 0, i64z, i64z, false, ⟨#[]⟩, ⟨#[]⟩, [], l, 0, []⟩
theorem doc_any (n : Nat) (A : Option Addr) (m c : Nat) (l : List (BT n)) (S : Nat → Prop) (w : World) (h : BlksAt n w S (.slice A m c) l) (hc : CapOk (.slice A m c)) (hS : ∀ k, S k → k < w.heap.size) (hP : Pow w) (hw : bwt n l ≤ 999999) :
    Calls Tryz.prog 36 #[.agg #[.int .u8 1, .int .i64 0, .int .u8 0, .int .i64 0, .bool false, .string ⟨#[]⟩, .string ⟨#[]⟩, .slice none 0 0, .slice A m c, .slice none 0 0]] w (StrR w (blksOut n l)) := by
  have hb : BlkAt (n + 1) w S [.int .u8 ((1 : Nat) : Int), .int .i64 0, .int .u8 ((0 : Nat) : Int), .int .i64 0, .bool false, .string ⟨#[]⟩, .string ⟨#[]⟩, .slice none 0 0, .slice A m c, .slice none 0 0] (docB l) :=
    ⟨_, _, _, rfl, bytes_nil _ _ 0, h, inls_nil 0 _ _ 0, by show (0 : Nat) ≤ _; decide, by show (0 : Nat) ≤ _; decide, by show 1 < 256; decide, by show 0 < 256; decide, hc, by show (0 : Nat) ≤ _; decide⟩
  have hwt : bw1 (n + 1) (docB l) ≤ 1000000 := by
    have e : bw1 (n + 1) (docB l) = 1 + 0 / 8 + 0 / 8 + 0 + 0 + bwt n l := rfl
    rw [e]
    omega
  exact html_blk (n := n + 1) (docB l) (blk_does (n + 1) _) S w hb hS hP hwt

def OneS (w : World) (s : Value) (wx : World) : Prop := s = .bool true ∧ Below w.heap.size w wx
set_option maxHeartbeats 8000000 in
set_option maxRecDepth 100000 in
theorem parts_law (n : Nat) (A : Option Addr) (m c : Nat) (l : List (IT n)) (k : Int) (n2 : Nat) (A2 : Option Addr) (m2 c2 : Nat) (l2 : List (BT n2)) (w : World) (hP : Pow w) (h : InlsAt n w (fun k => k < w.heap.size) (.slice A m c) l) (hcap : CapOk (.slice A m c))
    (h2 : BlksAt n2 w (fun k => k < w.heap.size) (.slice A2 m2 c2) l2) (hcap2 : CapOk (.slice A2 m2 c2)) (hk : -9223372036854775808 ≤ k ∧ k ≤ 9223372036854775807) : Calls Tryz.prog 10 #[.slice A m c, .int .i64 k, .slice A2 m2 c2] w (Yes w) := by
  have HP := Lib.hid hP
  have H := Lib.hid h
  have H2 := Lib.hid h2
  have HCAP := Lib.hid hcap
  have HCAP2 := Lib.hid hcap2
  obtain ⟨hmc, hc, hA⟩ := hcap _ _ _ rfl
  obtain ⟨hmc2, hc2, hA2⟩ := hcap2 _ _ _ rfl
  clear h hP h2 hcap hcap2
  go_enter Tryz.func10, Tryz.ntmps10
  go_wp2_with fail
  refine Calls.mono (inls_cnt n _ l 0 400 _ _ H.out (by decide) (by decide) (by decide) (by decide)) ?_
  rintro e w1 ⟨r, rfl, ⟨x1, x2, x3, x4⟩, d, rfl⟩
  by_cases hr : 400 < r
  · go_wp2_with fail
    refine Calls.mono (known_any _ (HP.out.later (row_drewN (Below.refl _ w) d))) ?_
    rintro e w4 ⟨rfl, b4⟩
    go_wp2
    go_ret
    exact ⟨rfl, below_on (row_drewN (Below.refl _ w) d) b4⟩
  have hw : iwt n l ≤ 400 := by have := x3 (by omega); omega
  have hrd : decide (400 < r) = false := by simpa using hr
  clear x1 x2 x3 x4 hr
  go_wp2_with fail
  refine Calls.mono (blks_cnt n2 _ l2 0 400 _ _ (H2.out.drewN d) (by decide) (by decide) (by decide) (by decide)) ?_
  rintro e w1 ⟨r2, rfl, ⟨x1, x2, x3, x4⟩, d2, rfl⟩
  have hb0 : Below w.heap.size w (w.drewN (d + d2)) := row_drewN (Below.refl _ w) (d + d2)
  by_cases hr2 : 400 < r2
  · go_wp2_with fail
    refine Calls.mono (known_any _ (HP.out.later hb0)) ?_
    rintro e w4 ⟨rfl, b4⟩
    go_wp2
    go_ret
    exact ⟨rfl, below_on hb0 b4⟩
  have hw2 : bwt n2 l2 ≤ 400 := by have := x3 (by omega); omega
  have hrd2 : decide (400 < r2) = false := by simpa using hr2
  clear x1 x2 x3 x4 hr2
  have HB0 := Lib.hid hb0
  clear hb0
  go_wp2_with fail
  refine Calls.mono (known_any _ (HP.out.later HB0.out)) ?_
  rintro e w2 ⟨rfl, b2⟩
  have HB2 := Lib.hid (below_on HB0.out b2)
  clear b2
  have hm : m ≤ 1000000 := by have := H.out.len; have := iwt_len' n l; omega
  have hm2 : m2 ≤ 1000000 := by
    obtain ⟨_, _, e, _⟩ := H2.out.shape
    cases e
    have := bwt_len n2 l2
    omega
  have key : ∀ m : Nat, ∃ j : Nat, max k 0 % ((m : Int) + 1) = j ∧ j ≤ m := fun m => by
    have h1 := Int.emod_nonneg (max k 0) (show ((m : Int) + 1) ≠ 0 by omega)
    have h2 := Int.emod_lt_of_pos (max k 0) (show (0 : Int) < (m : Int) + 1 by omega)
    exact ⟨(max k 0 % ((m : Int) + 1)).toNat, by omega, by omega⟩
  obtain ⟨j, hj, hjm⟩ := key m
  obtain ⟨j2, hj2, hjm2⟩ := key m2
  clear key
  go_upto_region 5 with fail
  rw [hj, hj2]
  clear hj hj2
  go_cut [9] (fun s9 wx => OneS w s9 wx)
  case first =>
    have hb2 := HB2.out
    have hz2 : w.heap.size ≤ w2.heap.size := hb2.size
    have HA : ∀ W', Below w.heap.size w W' → Calls Tryz.prog 27 #[.slice A m c] W' (StrR W' (inlOut n l)) := fun W' hb => lowInlines_any n _ l _ _ (InlsAt.keep (fun k hk => hb.block k hk) n H.out) (fun k hk => Nat.lt_of_lt_of_le hk hb.size) (by omega)
    have HH := Lib.hid HA
    clear HA
    have hfp := inlOut_parts n l j
    have hwp := iwt_parts n l j
    have HB : ∀ W', Below w.heap.size w W' → Calls Tryz.prog 27 #[.slice A j c] W' (StrR W' (inlOut n (l.take j))) := fun W' hb => lowInlines_any n _ _ _ _ (InlsAt.keep (fun k hk => hb.block k hk) n (H.out.take_ j hjm)) (fun k hk => Nat.lt_of_lt_of_le hk hb.size) (by omega)
    have hlen : (inlOut n (l.take j)).length + (inlOut n (l.drop j)).length ≤ 9223372036854775807 := by have := inlOut_le n (l.take j); have := inlOut_le n (l.drop j); omega
    have HHB := Lib.hid HB
    clear HB
    have HB := Lib.hid (bytes_add hfp)
    clear hfp
    by_cases hcj : c = j
    · obtain rfl : j = m := by omega
      subst hcj
      clear HHB HB
      have hlen2 : (inlOut n l).length + (inlOut n []).length ≤ 9223372036854775807 := by have := inlOut_le n l; have := inlOut_le n []; have := iwt_nil n; omega
      have HB := Lib.hid (bytes_add (show inlOut n l ++ inlOut n [] = inlOut n l by rw [inlOut_nil, List.append_nil]))
      have HC : ∀ W', Below w.heap.size w W' → Calls Tryz.prog 27 #[.slice A 0 0] W' (StrR W' (inlOut n [])) := fun W' hb => lowInlines_any n _ _ (fun k => k < w.heap.size) _ (InlsAt.nil_ n A 0) (fun k hk => Nat.lt_of_lt_of_le hk hb.size) (by have := iwt_nil n; omega)
      have HHC := Lib.hid HC
      clear HC hwp
      go_region_with (go_at_call 27; first | (go_at_call_of 27 (0 : Nat); refine Calls.mono (HHC.out _ (b24.trans (b4.mono hz24))) ?_; rintro e w5 ⟨rfl, b5⟩) | (refine Calls.mono (HH.out _ hb2.drew) ?_; rintro e w3 ⟨rfl, b3⟩) | (refine Calls.mono (HH.out _ (hb2.drew.trans (b3.mono hz2))) ?_; rintro e w4 ⟨rfl, b4⟩; have b24 := hb2.drew.trans (b3.mono hz2); have hz24 := b24.size))
      all_goals
        rw [HB.out]
        go_wp2_with fail
        go_meet
        exact ⟨by simp, (b24.trans (b4.mono hz24)).trans (b5.mono (Nat.le_trans hz24 b4.size))⟩
    · rcases A with _ | a
      · have := hA rfl
        omega
      · have HC : ∀ W', Below w.heap.size w W' → Calls Tryz.prog 27 #[.slice (some (a.add (j * 5))) (m - j) (c - j)] W' (StrR W' (inlOut n (l.drop j))) := fun W' hb => lowInlines_any n _ _ _ _ (InlsAt.keep (fun k hk => hb.block k hk) n (H.out.drop_ j (c - j) hjm)) (fun k hk => Nat.lt_of_lt_of_le hk hb.size) (by omega)
        have HHC := Lib.hid HC
        clear HC hwp
        go_region_with (first | (go_at_call_of 27 (m - j); refine Calls.mono (HHC.out _ (b24.trans (b4.mono hz24))) ?_; rintro e w5 ⟨rfl, b5⟩) | (go_at_call_of 27 j; refine Calls.mono (HHB.out _ (hb2.drew.trans (b3.mono hz2))) ?_; rintro e w4 ⟨rfl, b4⟩; have b24 := hb2.drew.trans (b3.mono hz2); have hz24 := b24.size) | (go_at_call 27; refine Calls.mono (HH.out _ hb2.drew) ?_; rintro e w3 ⟨rfl, b3⟩))
        all_goals
          rw [HB.out]
          go_wp2_with fail
          go_meet
          exact ⟨by simp, (b24.trans (b4.mono hz24)).trans (b5.mono (Nat.le_trans hz24 b4.size))⟩
  obtain ⟨rfl, b3⟩ := hcut
  obtain ⟨w3, rfl⟩ : ∃ w3 : World, w3 = wc := ⟨_, rfl⟩
  have HB3 := Lib.hid b3
  clear b3
  go_wp2_with fail
  refine Calls.mono (doc_any n2 A2 m2 c2 l2 _ _ (BlksAt.keep (fun k hk => HB3.out.block k hk) n2 H2.out) HCAP2.out (fun k hk => Nat.lt_of_lt_of_le hk HB3.out.size) (HP.out.later HB3.out) (by omega)) ?_
  rintro e w4 ⟨rfl, b4⟩
  have HB4 := Lib.hid (below_on HB3.out b4)
  clear b4
  go_upto_region 7 with fail
  have hb4 := HB4.out
  have hb4d : Below w.heap.size w w4.drew := hb4.drew
  have hjc : j2 ≤ c2 := by omega
  have hfp := blksOut_parts n2 l2 j2
  have hwp := bwt_parts n2 l2 j2
  have hl1 := blksOut_le n2 (l2.take j2)
  have hl2 := blksOut_le n2 (l2.drop j2)
  obtain ⟨X1, hX1⟩ : ∃ X1 : ByteArray, (⟨(blksOut n2 (l2.take j2)).toArray⟩ : ByteArray) = X1 := ⟨_, rfl⟩
  obtain ⟨X2, hX2⟩ : ∃ X2 : ByteArray, (⟨(blksOut n2 (l2.drop j2)).toArray⟩ : ByteArray) = X2 := ⟨_, rfl⟩
  have hs1 : X1.size = (blksOut n2 (l2.take j2)).length := by rw [← hX1]; rfl
  have hs2 : X2.size = (blksOut n2 (l2.drop j2)).length := by rw [← hX2]; rfl
  have hsum : ¬ (9223372036854775807 < X1.size + X2.size) := by omega
  have hadd : X1 ++ X2 = (⟨(blksOut n2 l2).toArray⟩ : ByteArray) := by rw [← hX1, ← hX2]; exact bytes_add hfp
  have HX1 := Lib.hid hX1
  have HX2 := Lib.hid hX2
  have HADD := Lib.hid hadd
  have HB : ∀ W', Below w.heap.size w W' → Calls Tryz.prog 36 #[.agg #[.int .u8 1, .int .i64 0, .int .u8 0, .int .i64 0, .bool false, .string ⟨#[]⟩, .string ⟨#[]⟩, .slice none 0 0, .slice A2 j2 c2, .slice none 0 0]] W' (StrR W' (blksOut n2 (l2.take j2))) := fun W' hb =>
    doc_any n2 A2 j2 c2 _ _ _ (BlksAt.keep (fun k hk => hb.block k hk) n2 (H2.out.take_ j2 hjm2)) (fun A' m' c' e => by cases e; exact ⟨by omega, hc2, hA2⟩) (fun k hk => Nat.lt_of_lt_of_le hk hb.size) (HP.out.later hb) (by omega)
  have HHB := Lib.hid HB
  clear HB hfp hl1 hl2 hs1 hs2 hX1 hX2 hadd
  by_cases hcj : c2 = j2
  · obtain rfl : j2 = m2 := by omega
    subst hcj
    have hml : c2 = l2.length := by
      obtain ⟨_, _, e, _⟩ := H2.out.shape
      cases e
      rfl
    have hdr : l2.drop c2 = [] := by rw [hml]; exact List.drop_length
    have HC : ∀ W', Below w.heap.size w W' → Calls Tryz.prog 36 #[.agg #[.int .u8 1, .int .i64 0, .int .u8 0, .int .i64 0, .bool false, .string ⟨#[]⟩, .string ⟨#[]⟩, .slice none 0 0, .slice A2 0 0, .slice none 0 0]] W' (StrR W' (blksOut n2 (l2.drop c2))) := fun W' hb => by
      rw [hdr]
      exact doc_any n2 A2 0 0 _ (fun k => k < w.heap.size) _ (BlksAt.nil_ n2 A2 0) (fun A' m' c' e => by cases e; exact ⟨Nat.le_refl _, by decide, fun _ => rfl⟩) (fun k hk => Nat.lt_of_lt_of_le hk hb.size) (HP.out.later hb) (by show (0 : Nat) ≤ _; decide)
    have HHC := Lib.hid HC
    clear HC hwp hml hdr
    go_region_held3 (fun w' => Below w.heap.size w w') (first | assumption | exact Below.drew (by assumption) | exact below_on (by assumption) (by assumption)) (first
      | (go_at_call_of 36 c2; refine Calls.mono (HHB.out _ (by assumption)) ?_; rintro e w5 ⟨rfl, b5⟩; rw [HX1.out])
      | (go_at_call 36; refine Calls.mono (HHC.out _ (by assumption)) ?_; rintro e w6 ⟨rfl, b6⟩; rw [HX2.out]))
    all_goals
      rw [HADD.out]
      go_wp2
      go_ret
      refine ⟨?_, ?_⟩
      · go_simp
      · assumption
  · rcases A2 with _ | a2
    · have := hA2 rfl
      omega
    · have HC : ∀ W', Below w.heap.size w W' → Calls Tryz.prog 36 #[.agg #[.int .u8 1, .int .i64 0, .int .u8 0, .int .i64 0, .bool false, .string ⟨#[]⟩, .string ⟨#[]⟩, .slice none 0 0, .slice (some (a2.add (j2 * 10))) (m2 - j2) (c2 - j2), .slice none 0 0]] W' (StrR W' (blksOut n2 (l2.drop j2))) := fun W' hb =>
        doc_any n2 _ _ _ _ _ _ (BlksAt.keep (fun k hk => hb.block k hk) n2 (H2.out.drop_ j2 (c2 - j2) hjm2)) (fun A' m' c' e => by cases e; exact ⟨by omega, by omega, fun h => by cases h⟩) (fun k hk => Nat.lt_of_lt_of_le hk hb.size) (HP.out.later hb) (by omega)
      have HHC := Lib.hid HC
      clear HC hwp
      go_region_held3 (fun w' => Below w.heap.size w w') (first | assumption | exact Below.drew (by assumption) | exact below_on (by assumption) (by assumption)) (first
        | (go_at_call_of 36 (m2 - j2); refine Calls.mono (HHC.out _ (by assumption)) ?_; rintro e w6 ⟨rfl, b6⟩; rw [HX2.out])
        | (go_at_call 36; refine Calls.mono (HHB.out _ (by assumption)) ?_; rintro e w5 ⟨rfl, b5⟩; rw [HX1.out]))
      all_goals
        rw [HADD.out]
        go_wp2
        go_ret
        refine ⟨?_, ?_⟩
        · go_simp
        · assumption
end Go.Proofs.YtibaoocklempnaaGreatDoor
