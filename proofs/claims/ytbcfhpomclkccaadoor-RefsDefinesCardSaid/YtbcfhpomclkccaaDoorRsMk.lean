/- ent.Mark. -/
import Derived.Test.YtbcfhpomclkccaaDoorRsMk0
import Derived.Test.YtbcfhpomclkccaaDoorRsCut
import Derived.Test.YtbcfhpomclkccaaDoorRsLab
import Derived.Laws.Runes
import Derived.Deep.RegionWith
namespace Go.Proofs.YtbcfhpomclkccaaDoor
open Go.RowKit Go.Maps

/-- What the reference that a text begins with stands for, and how many bytes it has. -/
def markN (s : ByteArray) : ByteArray × Nat :=
  if 0 < (numericN s.data.toList).2.2 then
    (if (if x2 s.data.toList then 6 else 7) < (numericN s.data.toList).2.1 ∨ (s.data.toList[(numericN s.data.toList).2.2]? == some 59) = false then (⟨#[]⟩, 0)
     else (Utf8.encode (if charB (numericN s.data.toList).1 then ((numericN s.data.toList).1 : Int) else 65533), (numericN s.data.toList).2.2 + 1))
  else if (cutS s 59).2.2 = false ∨ ((cutS s 59).1.data.toList[0]? == some 38) = false then (⟨#[]⟩, 0)
  else match findN ((cutS s 59).1.data.toList.drop 1) with
    | none => (⟨#[]⟩, 0)
    | some x => (x.1, (cutS s 59).1.size + 1)
theorem ret_si {a b : ByteArray} {n m : Int} (h : a = b) (k : n = m) : Ending.returned (.tuple #[.string a, .int .i64 n]) = .returned (.tuple #[.string b, .int .i64 m]) := by rw [h, k]
theorem fffd : Utf8.encode 65533 = ⟨#[239, 191, 189]⟩ := by decide +kernel
theorem numF_n (l : List UInt8) (base : Nat) : ∀ f i n, n ≤ 16777216 → (numF l base f i n).1 ≤ 16777216
  | 0, i, n, h => h
  | f + 1, i, n, h => by
    rw [numF]
    split
    · exact h
    · split
      · exact h
      · exact numF_n l base f _ _ (Nat.min_le_right _ _)
theorem base_in (l : List UInt8) (h : Lib.hasPrefix l [38, 35] = true) : 2 ≤ (baseOf l).1 ∧ (baseOf l).1 ≤ l.length := by
  have h2 : 2 ≤ l.length := by
    have : ([38, 35] : List UInt8).isPrefixOf l = true := h
    exact (List.isPrefixOf_iff_prefix.1 this).length_le
  unfold baseOf
  cases hx : x2 l with
  | false => rw [if_neg (by decide)]; exact ⟨Nat.le_refl _, h2⟩
  | true =>
    rw [if_pos rfl]
    refine ⟨by show 2 ≤ 3; omega, ?_⟩
    unfold x2 at hx
    cases hg : l[2]? with
    | none => rw [hg] at hx; cases hx
    | some b => exact (List.getElem?_eq_some_iff.1 hg).1
theorem numericN_in (l : List UInt8) (h : 0 < (numericN l).2.2) : 2 < (numericN l).2.2 ∧ (numericN l).2.2 ≤ l.length ∧ (numericN l).2.1 ≤ l.length ∧ (numericN l).1 ≤ 16777216 := by
  unfold numericN at h ⊢
  by_cases hp : Lib.hasPrefix l [38, 35] = true
  · rw [if_pos hp] at h ⊢
    obtain ⟨b1, b2⟩ := base_in l hp
    obtain ⟨c1, c2⟩ := numF_in l (baseOf l).2 l.length (baseOf l).1 0 b2
    have c3 := numF_n l (baseOf l).2 l.length (baseOf l).1 0 (by omega)
    by_cases he : (numF l (baseOf l).2 l.length (baseOf l).1 0).2 = (baseOf l).1
    · rw [if_pos he] at h; cases h
    · rw [if_neg he]
      simp only
      omega
  · rw [if_neg hp] at h; cases h
set_option maxHeartbeats 4000000 in
set_option maxRecDepth 100000 in
theorem mark_num (s : ByteArray) (w : World) (hs : s.size ≤ 1099511627776) (h : 0 < (numericN s.data.toList).2.2) : Calls Tryd.prog 32 #[.string s] w (SIb w (markN s).1 ((markN s).2 : Nat)) := by
  have hl : s.data.toList.length = s.size := Array.length_toList
  obtain ⟨i1, i2, i3, i4⟩ := numericN_in _ h
  have hv : markN s = if (if x2 s.data.toList then 6 else 7) < (numericN s.data.toList).2.1 ∨ (s.data.toList[(numericN s.data.toList).2.2]? == some 59) = false then (⟨#[]⟩, 0)
     else (Utf8.encode (if charB (numericN s.data.toList).1 then ((numericN s.data.toList).1 : Int) else 65533), (numericN s.data.toList).2.2 + 1) := by unfold markN; rw [if_pos h]
  obtain ⟨x, hx⟩ : ∃ x, markN s = x := ⟨_, rfl⟩
  rw [hx] at hv ⊢
  have HN := Lib.hid (numeric_any s w hs)
  obtain ⟨⟨n, dg, en⟩, hn⟩ : ∃ y, numericN s.data.toList = y := ⟨_, rfl⟩
  rw [hn] at hv i1 i2 i3 i4 h HN
  simp only at hv i1 i2 i3 i4 h
  have h2 : 2 < s.size := by omega
  have hor := orb (s[2]'h2)
  obtain ⟨q, hq⟩ : ∃ q, x2 s.data.toList = q := ⟨_, rfl⟩
  have hxe : ((((s[2]'h2).toNat ||| 32 : Nat) : Int) == 120) = q := by
    rw [← hq]
    unfold x2
    rw [get_list s 2 h2]
    simp only
    unfold isX
    rw [Bool.eq_iff_iff, beq_iff_eq, decide_eq_true_iff]
    omega
  rw [hq] at hv
  have hen : en ≤ s.size := by omega
  have hei : (en : Int) ≤ (s.size : Int) := by omega
  have hpre := prefix_at s en 59 hen
  obtain ⟨sm, hsm⟩ : ∃ sm, (s.data.toList[en]? == some 59) = sm := ⟨_, rfl⟩
  rw [hsm] at hpre hv
  have HP := Lib.hid fun (w' : World) => Tryd.strings_HasPrefix (s.extract en s.size) ⟨#[59]⟩ w'
  have HPR := Lib.hid hpre
  have HCh := Lib.hid (char_any (n : Int))
  obtain ⟨ch, hch⟩ : ∃ ch, charB (n : Int) = ch := ⟨_, rfl⟩
  rw [hch] at HCh hv
  have HV := Lib.hid hv
  have hpos : (0 : Int) < (en : Int) := by omega
  have hnn : (n : Int) ≤ 16777216 := by omega
  clear hx hv hn hq hl hpre hsm hch h i1 i2
  have hmost : ∀ m : Nat, (if q then 6 else 7) = m → x = (if m < dg ∨ sm = false then (⟨#[]⟩, 0) else (Utf8.encode (if ch then (n : Int) else 65533), en + 1)) := fun m hm => by rw [HV.out, hm]
  have HMo := Lib.hid hmost
  clear hmost HV
  cases q with
  | true =>
    have hx6 := HMo.out 6 rfl
    by_cases hd : 6 < dg
    · have hdi : (6 : Int) < (dg : Int) := by omega
      have HX := Lib.hid (show x = (⟨#[]⟩, 0) by rw [hx6, if_pos (.inl hd)])
      clear hx6 HMo hd
      go_enter Tryd.func32, Tryd.ntmps32
      go_wp2_with fail
      refine Calls.mono HN.out ?_
      rintro e w1 ⟨rfl, hw1⟩
      rw [← hw1]
      clear hw1
      go_wp2
      go_ret2
      rw [HX.out]
      exact ⟨rfl, Below.refl _ _⟩
    · have hdi : ¬ (6 : Int) < (dg : Int) := by omega
      cases sm with
      | false =>
        have HX := Lib.hid (show x = (⟨#[]⟩, 0) by rw [hx6, if_pos (.inr rfl)])
        clear hx6 HMo hd
        go_enter Tryd.func32, Tryd.ntmps32
        go_wp2_with fail
        refine Calls.mono HN.out ?_
        rintro e w1 ⟨rfl, hw1⟩
        rw [← hw1]
        clear hw1
        go_wp2_with fail
        refine Calls.mono (HP.out _) ?_
        rintro e w2 ⟨rfl, hw2⟩
        rw [hw2, show Lib.hasPrefix (s.extract en s.size).data.toList (⟨#[59]⟩ : ByteArray).data.toList = _ from HPR.out]
        clear hw2
        go_wp2
        go_ret2
        rw [HX.out]
        exact ⟨rfl, Below.refl _ _⟩
      | true =>
        have hx7 : x = (Utf8.encode (if ch then (n : Int) else 65533), en + 1) := by rw [hx6, if_neg (by rintro (h | h); exact hd h; cases h)]
        clear hx6 HMo hd
        cases ch with
        | true =>
          have HX := Lib.hid (show x = (Utf8.encode (n : Int), en + 1) by rw [hx7]; rfl)
          clear hx7
          go_enter Tryd.func32, Tryd.ntmps32
          go_wp2_with fail
          refine Calls.mono HN.out ?_
          rintro e w1 ⟨rfl, hw1⟩
          rw [← hw1]
          clear hw1
          go_wp2_with fail
          refine Calls.mono (HP.out _) ?_
          rintro e w2 ⟨rfl, hw2⟩
          rw [hw2, show Lib.hasPrefix (s.extract en s.size).data.toList (⟨#[59]⟩ : ByteArray).data.toList = _ from HPR.out]
          clear hw2
          go_wp2_with fail
          refine Calls.mono (HCh.out _) ?_
          rintro e w3 ⟨rfl, hw3⟩
          rw [← hw3]
          clear hw3
          go_wp2
          go_ret2
          rw [HX.out]
          generalize Utf8.encode (n : Int) = E0
          exact ⟨rfl, Below.refl _ _⟩
        | false =>
          have HX := Lib.hid (show x = (⟨#[239, 191, 189]⟩, en + 1) by rw [hx7, ← fffd]; rfl)
          clear hx7
          go_enter Tryd.func32, Tryd.ntmps32
          go_wp2_with fail
          refine Calls.mono HN.out ?_
          rintro e w1 ⟨rfl, hw1⟩
          rw [← hw1]
          clear hw1
          go_wp2_with fail
          refine Calls.mono (HP.out _) ?_
          rintro e w2 ⟨rfl, hw2⟩
          rw [hw2, show Lib.hasPrefix (s.extract en s.size).data.toList (⟨#[59]⟩ : ByteArray).data.toList = _ from HPR.out]
          clear hw2
          go_wp2_with fail
          refine Calls.mono (HCh.out _) ?_
          rintro e w3 ⟨rfl, hw3⟩
          rw [← hw3]
          clear hw3
          go_wp2
          go_ret2
          rw [HX.out]
          exact ⟨ret_si fffd rfl, Below.refl _ _⟩
  | false =>
    have hx6 := HMo.out 7 rfl
    by_cases hd : 7 < dg
    · have hdi : (7 : Int) < (dg : Int) := by omega
      have HX := Lib.hid (show x = (⟨#[]⟩, 0) by rw [hx6, if_pos (.inl hd)])
      clear hx6 HMo hd
      go_enter Tryd.func32, Tryd.ntmps32
      go_wp2_with fail
      refine Calls.mono HN.out ?_
      rintro e w1 ⟨rfl, hw1⟩
      rw [← hw1]
      clear hw1
      go_wp2
      go_ret2
      rw [HX.out]
      exact ⟨rfl, Below.refl _ _⟩
    · have hdi : ¬ (7 : Int) < (dg : Int) := by omega
      cases sm with
      | false =>
        have HX := Lib.hid (show x = (⟨#[]⟩, 0) by rw [hx6, if_pos (.inr rfl)])
        clear hx6 HMo hd
        go_enter Tryd.func32, Tryd.ntmps32
        go_wp2_with fail
        refine Calls.mono HN.out ?_
        rintro e w1 ⟨rfl, hw1⟩
        rw [← hw1]
        clear hw1
        go_wp2_with fail
        refine Calls.mono (HP.out _) ?_
        rintro e w2 ⟨rfl, hw2⟩
        rw [hw2, show Lib.hasPrefix (s.extract en s.size).data.toList (⟨#[59]⟩ : ByteArray).data.toList = _ from HPR.out]
        clear hw2
        go_wp2
        go_ret2
        rw [HX.out]
        exact ⟨rfl, Below.refl _ _⟩
      | true =>
        have hx7 : x = (Utf8.encode (if ch then (n : Int) else 65533), en + 1) := by rw [hx6, if_neg (by rintro (h | h); exact hd h; cases h)]
        clear hx6 HMo hd
        cases ch with
        | true =>
          have HX := Lib.hid (show x = (Utf8.encode (n : Int), en + 1) by rw [hx7]; rfl)
          clear hx7
          go_enter Tryd.func32, Tryd.ntmps32
          go_wp2_with fail
          refine Calls.mono HN.out ?_
          rintro e w1 ⟨rfl, hw1⟩
          rw [← hw1]
          clear hw1
          go_wp2_with fail
          refine Calls.mono (HP.out _) ?_
          rintro e w2 ⟨rfl, hw2⟩
          rw [hw2, show Lib.hasPrefix (s.extract en s.size).data.toList (⟨#[59]⟩ : ByteArray).data.toList = _ from HPR.out]
          clear hw2
          go_wp2_with fail
          refine Calls.mono (HCh.out _) ?_
          rintro e w3 ⟨rfl, hw3⟩
          rw [← hw3]
          clear hw3
          go_wp2
          go_ret2
          rw [HX.out]
          generalize Utf8.encode (n : Int) = E0
          exact ⟨rfl, Below.refl _ _⟩
        | false =>
          have HX := Lib.hid (show x = (⟨#[239, 191, 189]⟩, en + 1) by rw [hx7, ← fffd]; rfl)
          clear hx7
          go_enter Tryd.func32, Tryd.ntmps32
          go_wp2_with fail
          refine Calls.mono HN.out ?_
          rintro e w1 ⟨rfl, hw1⟩
          rw [← hw1]
          clear hw1
          go_wp2_with fail
          refine Calls.mono (HP.out _) ?_
          rintro e w2 ⟨rfl, hw2⟩
          rw [hw2, show Lib.hasPrefix (s.extract en s.size).data.toList (⟨#[59]⟩ : ByteArray).data.toList = _ from HPR.out]
          clear hw2
          go_wp2_with fail
          refine Calls.mono (HCh.out _) ?_
          rintro e w3 ⟨rfl, hw3⟩
          rw [← hw3]
          clear hw3
          go_wp2
          go_ret2
          rw [HX.out]
          exact ⟨ret_si fffd rfl, Below.refl _ _⟩
def entO (is : ByteArray) (b : Bool) : Obj := .cells #[.string is, .bool b] 88
set_option maxHeartbeats 8000000 in
set_option maxRecDepth 100000 in
theorem mark_name (s : ByteArray) (w : World) (hs : s.size ≤ 1099511627776) (h : (numericN s.data.toList).2.2 = 0) : Calls Tryd.prog 32 #[.string s] w (SIb w (markN s).1 ((markN s).2 : Nat)) := by
  have hl : s.data.toList.length = s.size := Array.length_toList
  have HN := Lib.hid (numeric_any s w hs)
  obtain ⟨⟨n, dg, en⟩, hn⟩ : ∃ y, numericN s.data.toList = y := ⟨_, rfl⟩
  have hv : markN s = if (cutS s 59).2.2 = false ∨ ((cutS s 59).1.data.toList[0]? == some 38) = false then (⟨#[]⟩, 0)
    else match findN ((cutS s 59).1.data.toList.drop 1) with
      | none => (⟨#[]⟩, 0)
      | some x => (x.1, (cutS s 59).1.size + 1) := by unfold markN; rw [if_neg (by omega)]
  rw [hn] at h HN
  simp only at h
  subst h
  obtain ⟨x, hx⟩ : ∃ x, markN s = x := ⟨_, rfl⟩
  rw [hx] at hv ⊢
  have hns : (cutS s 59).1.size ≤ s.size := by
    unfold cutS
    split
    · exact Nat.le_refl _
    · rw [ByteArray.size_extract]; omega
  have HC := Lib.hid fun (w' : World) => cut_any s 59 w' hs
  obtain ⟨⟨nm, rs, fd⟩, hc⟩ : ∃ y, cutS s 59 = y := ⟨_, rfl⟩
  rw [hc] at hv hns HC
  simp only at hv hns
  have hpre := prefix_one nm.data.toList 38
  obtain ⟨am, ham⟩ : ∃ am, (nm.data.toList[0]? == some 38) = am := ⟨_, rfl⟩
  rw [ham] at hpre hv
  have HP := Lib.hid fun (w' : World) => Tryd.strings_HasPrefix nm ⟨#[38]⟩ w'
  have HPR := Lib.hid hpre
  have HAm := Lib.hid ham
  clear hx hn hc hpre ham hl
  cases fd with
  | false =>
    have HX := Lib.hid (show x = (⟨#[]⟩, 0) by rw [hv, if_pos (.inl rfl)])
    clear hv
    go_enter Tryd.func32, Tryd.ntmps32
    go_wp2_with fail
    refine Calls.mono HN.out ?_
    rintro e w1 ⟨rfl, hw1⟩
    rw [← hw1]
    clear hw1
    go_wp2_with fail
    refine Calls.mono (HC.out _) ?_
    rintro e w2 ⟨rfl, d2, hw2⟩
    rw [hw2]
    clear hw2
    go_wp2
    go_ret2
    rw [HX.out]
    exact ⟨rfl, row_drewN (Below.refl _ _) _⟩
  | true =>
    cases am with
    | false =>
      have HX := Lib.hid (show x = (⟨#[]⟩, 0) by rw [hv, if_pos (.inr rfl)])
      clear hv
      go_enter Tryd.func32, Tryd.ntmps32
      go_wp2_with fail
      refine Calls.mono HN.out ?_
      rintro e w1 ⟨rfl, hw1⟩
      rw [← hw1]
      clear hw1
      go_wp2_with fail
      refine Calls.mono (HC.out _) ?_
      rintro e w2 ⟨rfl, d2, hw2⟩
      rw [hw2]
      clear hw2
      go_wp2_with fail
      refine Calls.mono (HP.out _) ?_
      rintro e w3 ⟨rfl, hw3⟩
      rw [hw3, show Lib.hasPrefix nm.data.toList (⟨#[38]⟩ : ByteArray).data.toList = _ from HPR.out]
      clear hw3
      go_wp2
      go_ret2
      rw [HX.out]
      exact ⟨rfl, row_drewN (Below.refl _ _) _⟩
    | true =>
      have hv2 : x = (match findN (nm.data.toList.drop 1) with
        | none => (⟨#[]⟩, 0)
        | some x => (x.1, nm.size + 1)) := by rw [hv, if_neg (by rintro (h | h) <;> cases h)]
      have hn1 : 1 ≤ nm.size := by
        have h2 : nm.data.toList[0]? = some 38 := by simpa using HAm.out
        have := (List.getElem?_eq_some_iff.1 h2).1
        have hl2 : nm.data.toList.length = nm.size := Array.length_toList
        omega
      have hni : (1 : Int) ≤ (nm.size : Int) := by omega
      have hl2 : nm.data.toList.length = nm.size := Array.length_toList
      have hxd : (nm.extract 1 nm.size).data.toList = nm.data.toList.drop 1 := by rw [Lib.extract_data, List.take_of_length_le (by rw [List.length_drop]; omega)]
      have hxs : (nm.extract 1 nm.size).size ≤ maxLen := by rw [ByteArray.size_extract]; unfold maxLen; omega
      rw [← hxd] at hv2
      cases hf : findN (nm.extract 1 nm.size).data.toList with
      | none =>
        have HX := Lib.hid (show x = (⟨#[]⟩, 0) by rw [hv2, hf])
        have HL := Lib.hid fun (w' : World) (B : Nat) (ht : TabAt w' B) => look_none ht (nm.extract 1 nm.size) hxs hf
        clear hv hv2 hf hxd hxs hl2
        go_enter Tryd.func32, Tryd.ntmps32
        go_wp2_with fail
        refine Calls.mono HN.out ?_
        rintro e w1 ⟨rfl, hw1⟩
        rw [← hw1]
        clear hw1
        go_wp2_with fail
        refine Calls.mono (HC.out _) ?_
        rintro e w2 ⟨rfl, d2, hw2⟩
        rw [hw2]
        clear hw2
        go_wp2_with fail
        refine Calls.mono (HP.out _) ?_
        rintro e w3 ⟨rfl, hw3⟩
        rw [hw3, show Lib.hasPrefix nm.data.toList (⟨#[38]⟩ : ByteArray).data.toList = _ from HPR.out]
        clear hw3
        go_wp2_with fail
        go_region_with (first
          | (go_at_call 66; refine Calls.mono (table_any _) ?_; rintro e w3 ⟨B, rfl, ht, hB, hb3⟩; have r3 := HL.out w3 B ht; have r4 := fun (o : Obj) => HL.out (w3.alloc o) B (ht.later ((Below.refl _ _).alloc (Nat.le_refl _) _)); have HB3 := Lib.hid hb3; (first | (have hx3 : w3.heap[w.heap.size]? = some (.cells #[.string ⟨#[]⟩, .bool false] 88 (0, 0)) := (hb3.block w.heap.size (by simp)).trans (heap_alloc_new w _); have x3 := (fun i => cell_of_row w3 w.heap.size i _ _ _ hx3); have f3 : ∀ i, w3.frozen? ⟨w.heap.size, i, none⟩ = false := (fun i => by simp [World.frozen?, hx3]); clear hx3) | skip); clear hb3 ht))
        all_goals
          have hbw : Below w.heap.size w w3 := by
            first
              | exact below_on (row_drewN (Below.refl _ _) _) HB3.out
              | exact below_on (row_drewN ((Below.refl _ w).alloc (Nat.le_refl _) _) _) HB3.out
          have HBW := Lib.hid hbw
          clear hbw
          go_wp2
          go_ret2
          rw [HX.out]
          refine ⟨rfl, ?_⟩
          first
            | exact HBW.out
            | exact HBW.out.alloc HBW.out.size _
            | exact (HBW.out.setCell (p := ⟨w.heap.size, 0, none⟩) (Nat.le_refl _) _).setCell (p := ⟨w.heap.size, 1, none⟩) (Nat.le_refl _) _
      | some y =>
        obtain ⟨is, ba⟩ := y
        have HX := Lib.hid (show x = (is, nm.size + 1) by rw [hv2, hf])
        have HL := Lib.hid fun (w' : World) (B : Nat) (ht : TabAt w' B) => look_some ht (nm.extract 1 nm.size) hxs hf
        clear hv hv2 hf hxd hxs hl2
        go_enter Tryd.func32, Tryd.ntmps32
        go_wp2_with fail
        refine Calls.mono HN.out ?_
        rintro e w1 ⟨rfl, hw1⟩
        rw [← hw1]
        clear hw1
        go_wp2_with fail
        refine Calls.mono (HC.out _) ?_
        rintro e w2 ⟨rfl, d2, hw2⟩
        rw [hw2]
        clear hw2
        go_wp2_with fail
        refine Calls.mono (HP.out _) ?_
        rintro e w3 ⟨rfl, hw3⟩
        rw [hw3, show Lib.hasPrefix nm.data.toList (⟨#[38]⟩ : ByteArray).data.toList = _ from HPR.out]
        clear hw3
        go_wp2_with fail
        go_region_with (first
          | (go_at_call 66; refine Calls.mono (table_any _) ?_; rintro e w3 ⟨B, rfl, ht, hB, hb3⟩; have r3 := HL.out w3 B ht; have r4 := fun (o : Obj) => HL.out (w3.alloc o) B (ht.later ((Below.refl _ _).alloc (Nat.le_refl _) _)); have HB3 := Lib.hid hb3; (first | (have hx3 : w3.heap[w.heap.size]? = some (.cells #[.string ⟨#[]⟩, .bool false] 88 (0, 0)) := (hb3.block w.heap.size (by simp)).trans (heap_alloc_new w _); have x3 := (fun i => cell_of_row w3 w.heap.size i _ _ _ hx3); have f3 : ∀ i, w3.frozen? ⟨w.heap.size, i, none⟩ = false := (fun i => by simp [World.frozen?, hx3]); clear hx3) | skip); clear hb3 ht))
        all_goals
          have hbw : Below w.heap.size w w3 := by
            first
              | exact below_on (row_drewN (Below.refl _ _) _) HB3.out
              | exact below_on (row_drewN ((Below.refl _ w).alloc (Nat.le_refl _) _) _) HB3.out
          have HBW := Lib.hid hbw
          clear hbw
          go_wp2
          go_ret2
          rw [HX.out]
          refine ⟨rfl, ?_⟩
          first
            | exact HBW.out
            | exact HBW.out.alloc HBW.out.size _
            | exact (HBW.out.setCell (p := ⟨w.heap.size, 0, none⟩) (Nat.le_refl _) _).setCell (p := ⟨w.heap.size, 1, none⟩) (Nat.le_refl _) _
theorem mark_any (s : ByteArray) (w : World) (hs : s.size ≤ 1099511627776) : Calls Tryd.prog 32 #[.string s] w (SIb w (markN s).1 ((markN s).2 : Nat)) := by
  rcases Nat.eq_zero_or_pos (numericN s.data.toList).2.2 with h | h
  · exact mark_name s w hs h
  · exact mark_num s w hs h
end Go.Proofs.YtbcfhpomclkccaaDoor
