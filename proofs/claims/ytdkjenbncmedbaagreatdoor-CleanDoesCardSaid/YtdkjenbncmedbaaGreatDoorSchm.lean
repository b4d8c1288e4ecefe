/- rule.Known, rule.Has, rule.scheme. rule.once: may all in a list be there, and is none there twice? -/
import Derived.Test.YtdkjenbncmedbaaGreatDoorPol
import Derived.Shelf.Strings.SlTrimAscii
namespace Go.Proofs.YtdkjenbncmedbaaGreatDoor
open Go.RowKit

def elementsT : ByteArray := ⟨#[97, 32, 97, 98, 98, 114, 32, 98, 32, 98, 108, 111, 99, 107, 113, 117, 111, 116, 101, 32, 98, 114, 32, 99, 105, 116, 101, 32, 99, 111, 100, 101, 32, 100, 100, 32, 100, 101, 108, 32, 100, 105, 118, 32, 100, 108, 32, 100, 116, 32, 101, 109, 32, 104, 49, 32, 104, 50, 32, 104, 51, 32, 104, 52, 32, 104, 53, 32, 104, 54, 32, 104, 114, 32, 105, 32, 105, 109, 103, 32, 105, 110, 115, 32, 107, 98, 100, 32, 108, 105, 32, 111, 108, 32, 112, 32, 112, 114, 101, 32, 113, 32, 115, 32, 115, 97, 109, 112, 32, 115, 109, 97, 108, 108, 32, 115, 112, 97, 110, 32, 115, 116, 114, 111, 110, 103, 32, 115, 117, 98, 32, 115, 117, 112, 32, 116, 97, 98, 108, 101, 32, 116, 98, 111, 100, 121, 32, 116, 100, 32, 116, 102, 111, 111, 116, 32, 116, 104, 32, 116, 104, 101, 97, 100, 32, 116, 114, 32, 117, 32, 117, 108, 32, 118, 97, 114]⟩
def attrsT : ByteArray := ⟨#[97, 108, 105, 103, 110, 32, 97, 108, 116, 32, 99, 105, 116, 101, 32, 99, 108, 97, 115, 115, 32, 99, 111, 108, 115, 112, 97, 110, 32, 100, 105, 114, 32, 104, 101, 105, 103, 104, 116, 32, 104, 114, 101, 102, 32, 108, 97, 110, 103, 32, 114, 111, 119, 115, 112, 97, 110, 32, 115, 114, 99, 32, 115, 116, 97, 114, 116, 32, 116, 105, 116, 108, 101, 32, 119, 105, 100, 116, 104]⟩
def gridT : ByteArray := ⟨#[116, 97, 98, 108, 101, 32, 116, 98, 111, 100, 121, 32, 116, 100, 32, 116, 102, 111, 111, 116, 32, 116, 104, 32, 116, 104, 101, 97, 100, 32, 116, 114]⟩
def neverT : ByteArray := ⟨#[106, 97, 118, 97, 115, 99, 114, 105, 112, 116, 32, 118, 98, 115, 99, 114, 105, 112, 116, 32, 100, 97, 116, 97]⟩
theorem asc {t : ByteArray} (h : t.data.toList.all (fun b => decide (b.toNat < 128)) = true) : ∀ (j : Nat) b, t.data.toList[j]? = some b → b.toNat < 128 := ascii_of_all h
theorem shorts {l : List (List UInt8)} (h : l.all (fun x => decide (x.length ≤ 100)) = true) : ∀ x ∈ l, x.length ≤ 100 := fun x hx => by simpa using List.all_eq_true.1 h x hx
def elWs : List (List UInt8) := Lib.fields elementsT.data.toList
def atWs : List (List UInt8) := Lib.fields attrsT.data.toList
def grWs : List (List UInt8) := Lib.fields gridT.data.toList
def neWs : List (List UInt8) := Lib.fields neverT.data.toList
theorem set_el (w : World) (ht : SpTab w) : Calls Tryz.prog 32 #[.string elementsT] w (SetR w elWs) := set_any elementsT w (by decide +kernel) (asc (by decide +kernel)) (shorts (by decide +kernel)) (by decide +kernel) ht
theorem set_at (w : World) (ht : SpTab w) : Calls Tryz.prog 32 #[.string attrsT] w (SetR w atWs) := set_any attrsT w (by decide +kernel) (asc (by decide +kernel)) (shorts (by decide +kernel)) (by decide +kernel) ht
theorem set_gr (w : World) (ht : SpTab w) : Calls Tryz.prog 32 #[.string gridT] w (SetR w grWs) := set_any gridT w (by decide +kernel) (asc (by decide +kernel)) (shorts (by decide +kernel)) (by decide +kernel) ht
theorem set_ne (w : World) (ht : SpTab w) : Calls Tryz.prog 32 #[.string neverT] w (SetR w neWs) := set_any neverT w (by decide +kernel) (asc (by decide +kernel)) (shorts (by decide +kernel)) (by decide +kernel) ht
def knownB (x : ByteArray) : Bool := elWs.contains x.data.toList
set_option maxHeartbeats 1000000 in
set_option maxRecDepth 100000 in
theorem known_el (x : ByteArray) (w : World) (ht : SpTab w) (hx : x.size ≤ maxLen) : Calls Tryz.prog 27 #[.string x] w (BoolR w (knownB x)) := by
  have HS := Lib.hid (set_el w ht)
  clear ht
  go_enter Tryz.func27, Tryz.ntmps27
  go_wp2_with fail
  refine Calls.mono HS.out ?_
  rintro e w1 ⟨B, rfl, hset, _, b1⟩
  have hl := hset.look x hx
  rw [show elWs.contains x.data.toList = knownB x from rfl] at hl
  have HB := Lib.hid b1
  clear b1 hset
  go_wp2
  go_ret
  exact ⟨rfl, HB.out⟩
set_option maxHeartbeats 1000000 in
set_option maxRecDepth 100000 in
theorem has_any (vE vA vS : Value) (E : List ByteArray) (x : ByteArray) (w : World) (hE : SlS w vE E) (hl : E.length ≤ 9223372036854775807) : Calls Tryz.prog 28 #[.agg #[vE, vA, vS], .string x] w (BoolR w (hasS E x)) := by
  obtain ⟨A, c, rfl, _, _⟩ := hE.open
  have hb0 : Below w.heap.size w (w.alloc (.cells #[.slice A E.length c, vA, vS] 25)) := (Below.refl _ w).alloc (Nat.le_refl _) _
  have HC := Lib.hid (has_call E x _ _ (hE.later hb0) hl)
  have HB0 := Lib.hid hb0
  clear hE hb0
  go_enter Tryz.func28, Tryz.ntmps28
  go_wp2_with fail
  refine Calls.mono HC.out ?_
  rintro e w1 ⟨rfl, rfl⟩
  go_wp2
  go_ret
  exact ⟨rfl, HB0.out⟩
def cutT : ByteArray := ⟨#[97, 98, 99, 100, 101, 102, 103, 104, 105, 106, 107, 108, 109, 110, 111, 112, 113, 114, 115, 116, 117, 118, 119, 120, 121, 122, 48, 49, 50, 51, 52, 53, 54, 55, 56, 57, 43, 45, 46]⟩
def neverB (x : ByteArray) : Bool := neWs.contains x.data.toList
def headLet (l : List UInt8) : Bool := match l with
  | [] => false
  | b :: _ => letter b
/-- May it be a scheme? -/
def schB (x : ByteArray) : Bool := !x.data.toList.isEmpty && (decide (x.size ≤ 64) && (!neverB x && ((x.data.toList == lowerL x.data.toList) && (headLet x.data.toList && (Lib.trimS x.data.toList cutT.data.toList).isEmpty))))
theorem trim_cut (s : ByteArray) (w : World) (hs : s.size ≤ 64) : Calls Tryz.prog 58 #[.string s, .string cutT] w fun e w' => e = .returned (.string ⟨(Lib.trimS s.data.toList cutT.data.toList).toArray⟩) ∧ Below w.heap.size w w' :=
  Any.strings_Trim_laid Tryz.lays160 (by kernel_rfl) s cutT w (by omega) (by decide +kernel) (ascii_of_all (by decide +kernel))
set_option maxHeartbeats 2000000 in
set_option maxRecDepth 100000 in
theorem scheme_may (s : ByteArray) (w : World) (ht : SpTab w) : Calls Tryz.prog 38 #[.string s] w (BoolR w (schB s)) := by
  by_cases h0 : s.size = 0
  · obtain rfl : s = ⟨#[]⟩ := by
      have : s.data = #[] := Array.eq_empty_of_size_eq_zero h0
      rw [← Lib.mk_data s, this]
    clear ht
    go_enter Tryz.func38, Tryz.ntmps38
    go_wp2
    go_ret
    exact ⟨rfl, Below.refl _ _⟩
  · have hpos : 0 < s.size := by omega
    obtain ⟨b, r, hl⟩ : ∃ b r, s.data.toList = b :: r := by
      cases hl : s.data.toList with
      | nil => have := congrArg List.length hl; rw [Array.length_toList] at this; exact absurd this h0
      | cons b r => exact ⟨b, r, rfl⟩
    have hb : s[0] = b := by
      have h1 : s.data.toList[0]? = some b := by rw [hl]; rfl
      have h2 : s.data.toList[0]? = some s[0] := by rw [List.getElem?_eq_getElem (by rw [Array.length_toList]; exact hpos)]; rfl
      rw [h1] at h2
      exact (Option.some.inj h2).symm
    have t1 : ¬ s.toList = [] := by rw [Lib.toList_data, hl]; simp
    have t2 : s.toList.isEmpty = false := by rw [Lib.toList_data, hl]; rfl
    have hv : schB s = (decide (s.size ≤ 64) && (!neverB s && ((s.data.toList == lowerL s.data.toList) && (letter b && (Lib.trimS s.data.toList cutT.data.toList).isEmpty)))) := by
      unfold schB headLet
      rw [hl]
      rfl
    rw [hv]
    have HB := Lib.hid hb
    clear hv hl hb
    by_cases h64 : s.size ≤ 64
    · have y1 : ¬ (64 : Int) < (s.size : Int) := by omega
      rw [show decide (s.size ≤ 64) = true by simpa using h64, Bool.true_and]
      have HS := Lib.hid (set_ne w ht)
      have HTR := Lib.hid fun w' => trim_cut s w' h64
      have HLO := Lib.hid fun w' => lower_any s w' (by omega)
      have HLE := Lib.hid fun w' => letter_any b w'
      obtain ⟨nb, hnb⟩ : ∃ nb, neverB s = nb := ⟨_, rfl⟩
      have HNB := Lib.hid hnb
      rw [hnb]
      have hmx : s.size ≤ maxLen := by unfold maxLen; omega
      clear ht hnb
      cases nb with
      | true =>
        go_enter Tryz.func38, Tryz.ntmps38
        go_wp2_with fail
        refine Calls.mono HS.out ?_
        rintro e w1 ⟨B, rfl, hset, _, b1⟩
        have hlk := hset.look s hmx
        rw [show neWs.contains s.data.toList = true from HNB.out] at hlk
        have HB1 := Lib.hid b1
        clear b1 hset
        go_wp2
        go_ret
        exact ⟨rfl, HB1.out⟩
      | false =>
        obtain ⟨L, hLe⟩ : ∃ L : ByteArray, (⟨(lowerL s.data.toList).toArray⟩ : ByteArray) = L := ⟨_, rfl⟩
        have hLd : lowerL s.data.toList = L.toList := by rw [← hLe, Lib.toList_data]
        unfold StrR at HLO
        rw [hLe] at HLO
        rw [hLd, ← Lib.toList_data s]
        clear hLe hLd
        by_cases hlow : s.toList = L.toList
        · have t3 : (s.toList == L.toList) = true := by simpa using hlow
          rw [t3, Bool.true_and]
          have hlow2 : L.toList = s.toList := hlow.symm
          clear t3 hlow
          obtain ⟨lb, hlb⟩ : ∃ lb, letter b = lb := ⟨_, rfl⟩
          rw [hlb] at HLE ⊢
          clear hlb
          cases lb with
          | true =>
            obtain ⟨Y, hY⟩ : ∃ Y : ByteArray, (⟨(Lib.trimS s.data.toList cutT.data.toList).toArray⟩ : ByteArray) = Y := ⟨_, rfl⟩
            have hYd : Lib.trimS s.toList cutT.data.toList = Y.toList := by rw [← hY, Lib.toList_data, Lib.toList_data]
            rw [hY] at HTR
            rw [hYd]
            clear hY hYd
            by_cases hye : Y.toList = []
            · have t5 : Y.toList.isEmpty = true := by rw [hye]; rfl
              have HV := Lib.hid t5
              go_enter Tryz.func38, Tryz.ntmps38
              go_wp2_with fail
              refine Calls.mono HS.out ?_
              rintro e w1 ⟨B, rfl, hset, _, b1⟩
              have hlk := hset.look s hmx
              rw [show neWs.contains s.data.toList = false from HNB.out] at hlk
              have HB1 := Lib.hid b1
              clear b1 hset
              go_wp2_with fail
              refine Calls.mono (HLO.out _) ?_
              rintro e w2 ⟨rfl, b2⟩
              have HB2 := Lib.hid (HB1.out.trans (b2.mono HB1.out.size))
              clear b2
              go_wp2_with fail
              rw [HB.out]
              refine Calls.mono (HLE.out _) ?_
              rintro e w3 ⟨rfl, rfl⟩
              go_wp2_with fail
              refine Calls.mono (HTR.out _) ?_
              rintro e w4 ⟨rfl, b4⟩
              have HB4 := Lib.hid (HB2.out.trans (b4.mono HB2.out.size))
              clear b4
              go_wp2
              go_ret
              rw [HV.out]
              exact ⟨rfl, HB4.out⟩
            · have t5 : Y.toList.isEmpty = false := by cases hq : Y.toList with | nil => exact absurd hq hye | cons _ _ => rfl
              have HV := Lib.hid t5
              go_enter Tryz.func38, Tryz.ntmps38
              go_wp2_with fail
              refine Calls.mono HS.out ?_
              rintro e w1 ⟨B, rfl, hset, _, b1⟩
              have hlk := hset.look s hmx
              rw [show neWs.contains s.data.toList = false from HNB.out] at hlk
              have HB1 := Lib.hid b1
              clear b1 hset
              go_wp2_with fail
              refine Calls.mono (HLO.out _) ?_
              rintro e w2 ⟨rfl, b2⟩
              have HB2 := Lib.hid (HB1.out.trans (b2.mono HB1.out.size))
              clear b2
              go_wp2_with fail
              rw [HB.out]
              refine Calls.mono (HLE.out _) ?_
              rintro e w3 ⟨rfl, rfl⟩
              go_wp2_with fail
              refine Calls.mono (HTR.out _) ?_
              rintro e w4 ⟨rfl, b4⟩
              have HB4 := Lib.hid (HB2.out.trans (b4.mono HB2.out.size))
              clear b4
              go_wp2
              go_ret
              rw [HV.out]
              exact ⟨rfl, HB4.out⟩
          | false =>
            go_enter Tryz.func38, Tryz.ntmps38
            go_wp2_with fail
            refine Calls.mono HS.out ?_
            rintro e w1 ⟨B, rfl, hset, _, b1⟩
            have hlk := hset.look s hmx
            rw [show neWs.contains s.data.toList = false from HNB.out] at hlk
            have HB1 := Lib.hid b1
            clear b1 hset
            go_wp2_with fail
            refine Calls.mono (HLO.out _) ?_
            rintro e w2 ⟨rfl, b2⟩
            have HB2 := Lib.hid (HB1.out.trans (b2.mono HB1.out.size))
            clear b2
            go_wp2_with fail
            rw [HB.out]
            refine Calls.mono (HLE.out _) ?_
            rintro e w3 ⟨rfl, rfl⟩
            go_wp2
            go_ret
            exact ⟨rfl, HB2.out⟩
        · have t3 : (s.toList == L.toList) = false := by simpa using hlow
          have HV := Lib.hid t3
          rw [t3, Bool.false_and]
          go_enter Tryz.func38, Tryz.ntmps38
          go_wp2_with fail
          refine Calls.mono HS.out ?_
          rintro e w1 ⟨B, rfl, hset, _, b1⟩
          have hlk := hset.look s hmx
          rw [show neWs.contains s.data.toList = false from HNB.out] at hlk
          have HB1 := Lib.hid b1
          clear b1 hset
          go_wp2_with fail
          refine Calls.mono (HLO.out _) ?_
          rintro e w2 ⟨rfl, b2⟩
          have HB2 := Lib.hid (HB1.out.trans (b2.mono HB1.out.size))
          clear b2
          go_wp2
          go_ret
          exact ⟨rfl, HB2.out⟩
    · have y1 : (64 : Int) < (s.size : Int) := by omega
      rw [show decide (s.size ≤ 64) = false by simpa using h64, Bool.false_and]
      clear ht
      go_enter Tryz.func38, Tryz.ntmps38
      go_wp2
      go_ret
      exact ⟨rfl, Below.refl _ _⟩

def onceSF (may : ByteArray → Bool) (l : List ByteArray) (k : Nat) : Bool := (List.range k).all fun i => match l[i]? with
  | none => true
  | some x => may x && !hasS (l.take i) x
def onceS (may : ByteArray → Bool) (l : List ByteArray) : Bool := decide (l.length ≤ 400) && onceSF may l l.length
theorem onceSF_succ (may : ByteArray → Bool) (l : List ByteArray) (k : Nat) (hk : k < l.length) : onceSF may l (k + 1) = (onceSF may l k && (may l[k] && !hasS (l.take k) l[k])) := by
  unfold onceSF
  rw [List.range_succ, List.all_append, List.all_cons, List.all_nil, Bool.and_true, List.getElem?_eq_getElem hk]
theorem onceSF_no (may : ByteArray → Bool) (l : List ByteArray) (k : Nat) (hk : k < l.length) (h : (may l[k] && !hasS (l.take k) l[k]) = false) : onceSF may l l.length = false := by
  rw [← Bool.not_eq_true]
  intro ht
  have := List.all_eq_true.1 ht k (List.mem_range.2 hk)
  rw [List.getElem?_eq_getElem hk] at this
  simp only at this
  rw [h] at this
  cases this
def OnceSW (w : World) (l : List ByteArray) (may : ByteArray → Bool) (i : Value) (wr : World) : Prop := ∃ k : Nat, i = .int .i64 k ∧ k ≤ l.length ∧ onceSF may l k = true ∧ Below w.heap.size w wr
set_option maxHeartbeats 2000000 in
set_option maxRecDepth 100000 in
theorem once_el (l : List ByteArray) (may : ByteArray → Bool) (v : Value) (g : Nat) (w : World) (hv : SlS w v l) (hl : l.length ≤ 9223372036854775807)
    (hm : ∀ x ∈ l, ∀ w', Below w.heap.size w w' → Calls Tryz.prog 34 #[.string x, .pointer (some ⟨g, 0, none⟩)] w' (BoolR w' (may x))) : Calls Tryz.prog 33 #[v, (.func (.func 34) #[] #[.pointer (some ⟨g, 0, none⟩)])] w (BoolR w (onceS may l)) := by
  obtain ⟨A, c, rfl, hc, hk⟩ := hv.open
  have HK := Lib.hid hk
  have HV := Lib.hid hv
  have HM := Lib.hid hm
  clear hk hv hm
  have hon : onceS may l = (decide (l.length ≤ 400) && onceSF may l l.length) := rfl
  rw [hon]
  clear hon
  by_cases h4 : l.length ≤ 400
  · have y1 : ¬ (400 : Int) < (l.length : Int) := by omega
    rw [show decide (l.length ≤ 400) = true by simpa using h4, Bool.true_and]
    go_enter Tryz.func33, Tryz.ntmps33
    go_wp2_with fail
    go_loopw [12] (fun v wr => OnceSW w l may v wr) (fun v _ => l.length - (intOf v).toNat)
    case atStart => exact ⟨0, rfl, Nat.zero_le _, rfl, Below.refl _ _⟩
    case round =>
      obtain ⟨k, rfl, hk, hu, hb⟩ := hrel
      have HU := Lib.hid hu
      have HB := Lib.hid hb
      clear hu hb
      by_cases hlt : k < l.length
      · have hki : (k : Int) < (l.length : Int) := by omega
        have hkc : (k : Int) ≤ (c : Int) := by omega
        obtain ⟨b, off, hA, hbl, c0, c0'⟩ := HK.out k hlt
        subst hA
        have d0 := cell_later HB.out c0
        have d0' := cell_later HB.out c0'
        clear c0 c0'
        have ht := onceSF_succ may l k hlt
        rw [HU.out, Bool.true_and] at ht
        have HNo := Lib.hid (onceSF_no may l k hlt)
        have hmem : l[k] ∈ l := List.getElem_mem hlt
        obtain ⟨x, hx⟩ : ∃ x, l[k] = x := ⟨_, rfl⟩
        rw [hx] at ht HNo hmem d0 d0'
        clear hx
        obtain ⟨mb, hmb⟩ : ∃ mb, may x = mb := ⟨_, rfl⟩
        have HMx := Lib.hid fun w' hw' => HM.out x hmem w' hw'
        rw [hmb] at HMx ht HNo
        clear hmb hmem
        cases mb with
        | false =>
          have HN2 := Lib.hid (HNo.out (Bool.false_and _))
          clear ht HNo
          go_wp2_with fail
          refine Calls.mono (HMx.out _ HB.out) ?_
          rintro e w1 ⟨rfl, b1⟩
          have HB1 := Lib.hid (HB.out.trans (b1.mono HB.out.size))
          clear b1
          go_wp2
          go_ret
          rw [HN2.out]
          exact ⟨rfl, HB1.out⟩
        | true =>
          have HTk := Lib.hid fun w' hw' => has_call (l.take k) x _ w' ((SlS.later HV.out hw').take k hk) (by rw [List.length_take]; omega)
          obtain ⟨hb, hhb⟩ : ∃ hb, hasS (l.take k) x = hb := ⟨_, rfl⟩
          rw [hhb] at HTk ht HNo
          clear hhb
          cases hb with
          | true =>
            have HN2 := Lib.hid (HNo.out rfl)
            clear ht HNo
            go_wp2_with fail
            refine Calls.mono (HMx.out _ HB.out) ?_
            rintro e w1 ⟨rfl, b1⟩
            have HB1 := Lib.hid (HB.out.trans (b1.mono HB.out.size))
            clear b1
            go_wp2_with fail
            refine Calls.mono (HTk.out _ HB1.out) ?_
            rintro e w2 ⟨rfl, rfl⟩
            go_wp2
            go_ret
            rw [HN2.out]
            exact ⟨rfl, HB1.out⟩
          | false =>
            have HT := Lib.hid ht
            clear ht HNo
            go_wp2_with fail
            refine Calls.mono (HMx.out _ HB.out) ?_
            rintro e w1 ⟨rfl, b1⟩
            have HB1 := Lib.hid (HB.out.trans (b1.mono HB.out.size))
            clear b1
            go_wp2_with fail
            refine Calls.mono (HTk.out _ HB1.out) ?_
            rintro e w2 ⟨rfl, rfl⟩
            go_wp2
            go_roundw
            case rel => exact ⟨k + 1, by go_num, hlt, HT.out, HB1.out⟩
            case measure => simp [intOf]; omega
      · obtain rfl : k = l.length := by omega
        go_wp2
        go_ret
        rw [HU.out]
        exact ⟨rfl, HB.out⟩
  · have y1 : (400 : Int) < (l.length : Int) := by omega
    rw [show decide (l.length ≤ 400) = false by simpa using h4, Bool.false_and]
    go_enter Tryz.func33, Tryz.ntmps33
    go_wp2
    go_ret
    exact ⟨rfl, Below.refl _ _⟩
set_option maxHeartbeats 2000000 in
set_option maxRecDepth 100000 in
theorem once_sch (l : List ByteArray) (may : ByteArray → Bool) (v : Value) (w : World) (hv : SlS w v l) (hl : l.length ≤ 9223372036854775807)
    (hm : ∀ x ∈ l, ∀ w', Below w.heap.size w w' → Calls Tryz.prog 38 #[.string x] w' (BoolR w' (may x))) : Calls Tryz.prog 33 #[v, (.func (.func 38) #[] #[])] w (BoolR w (onceS may l)) := by
  obtain ⟨A, c, rfl, hc, hk⟩ := hv.open
  have HK := Lib.hid hk
  have HV := Lib.hid hv
  have HM := Lib.hid hm
  clear hk hv hm
  have hon : onceS may l = (decide (l.length ≤ 400) && onceSF may l l.length) := rfl
  rw [hon]
  clear hon
  by_cases h4 : l.length ≤ 400
  · have y1 : ¬ (400 : Int) < (l.length : Int) := by omega
    rw [show decide (l.length ≤ 400) = true by simpa using h4, Bool.true_and]
    go_enter Tryz.func33, Tryz.ntmps33
    go_wp2_with fail
    go_loopw [12] (fun v wr => OnceSW w l may v wr) (fun v _ => l.length - (intOf v).toNat)
    case atStart => exact ⟨0, rfl, Nat.zero_le _, rfl, Below.refl _ _⟩
    case round =>
      obtain ⟨k, rfl, hk, hu, hb⟩ := hrel
      have HU := Lib.hid hu
      have HB := Lib.hid hb
      clear hu hb
      by_cases hlt : k < l.length
      · have hki : (k : Int) < (l.length : Int) := by omega
        have hkc : (k : Int) ≤ (c : Int) := by omega
        obtain ⟨b, off, hA, hbl, c0, c0'⟩ := HK.out k hlt
        subst hA
        have d0 := cell_later HB.out c0
        have d0' := cell_later HB.out c0'
        clear c0 c0'
        have ht := onceSF_succ may l k hlt
        rw [HU.out, Bool.true_and] at ht
        have HNo := Lib.hid (onceSF_no may l k hlt)
        have hmem : l[k] ∈ l := List.getElem_mem hlt
        obtain ⟨x, hx⟩ : ∃ x, l[k] = x := ⟨_, rfl⟩
        rw [hx] at ht HNo hmem d0 d0'
        clear hx
        obtain ⟨mb, hmb⟩ : ∃ mb, may x = mb := ⟨_, rfl⟩
        have HMx := Lib.hid fun w' hw' => HM.out x hmem w' hw'
        rw [hmb] at HMx ht HNo
        clear hmb hmem
        cases mb with
        | false =>
          have HN2 := Lib.hid (HNo.out (Bool.false_and _))
          clear ht HNo
          go_wp2_with fail
          refine Calls.mono (HMx.out _ HB.out) ?_
          rintro e w1 ⟨rfl, b1⟩
          have HB1 := Lib.hid (HB.out.trans (b1.mono HB.out.size))
          clear b1
          go_wp2
          go_ret
          rw [HN2.out]
          exact ⟨rfl, HB1.out⟩
        | true =>
          have HTk := Lib.hid fun w' hw' => has_call (l.take k) x _ w' ((SlS.later HV.out hw').take k hk) (by rw [List.length_take]; omega)
          obtain ⟨hb, hhb⟩ : ∃ hb, hasS (l.take k) x = hb := ⟨_, rfl⟩
          rw [hhb] at HTk ht HNo
          clear hhb
          cases hb with
          | true =>
            have HN2 := Lib.hid (HNo.out rfl)
            clear ht HNo
            go_wp2_with fail
            refine Calls.mono (HMx.out _ HB.out) ?_
            rintro e w1 ⟨rfl, b1⟩
            have HB1 := Lib.hid (HB.out.trans (b1.mono HB.out.size))
            clear b1
            go_wp2_with fail
            refine Calls.mono (HTk.out _ HB1.out) ?_
            rintro e w2 ⟨rfl, rfl⟩
            go_wp2
            go_ret
            rw [HN2.out]
            exact ⟨rfl, HB1.out⟩
          | false =>
            have HT := Lib.hid ht
            clear ht HNo
            go_wp2_with fail
            refine Calls.mono (HMx.out _ HB.out) ?_
            rintro e w1 ⟨rfl, b1⟩
            have HB1 := Lib.hid (HB.out.trans (b1.mono HB.out.size))
            clear b1
            go_wp2_with fail
            refine Calls.mono (HTk.out _ HB1.out) ?_
            rintro e w2 ⟨rfl, rfl⟩
            go_wp2
            go_roundw
            case rel => exact ⟨k + 1, by go_num, hlt, HT.out, HB1.out⟩
            case measure => simp [intOf]; omega
      · obtain rfl : k = l.length := by omega
        go_wp2
        go_ret
        rw [HU.out]
        exact ⟨rfl, HB.out⟩
  · have y1 : (400 : Int) < (l.length : Int) := by omega
    rw [show decide (l.length ≤ 400) = false by simpa using h4, Bool.false_and]
    go_enter Tryz.func33, Tryz.ntmps33
    go_wp2
    go_ret
    exact ⟨rfl, Below.refl _ _⟩
end Go.Proofs.YtdkjenbncmedbaaGreatDoor
