/- class.Hex; ent.character, numeric. -/
import Derived.Test.YtbcfhpomclkccaaDoorRsGap
namespace Go.Proofs.YtbcfhpomclkccaaDoor
open Go.RowKit

def hexT : ByteArray := ⟨#[48, 49, 50, 51, 52, 53, 54, 55, 56, 57, 97, 98, 99, 100, 101, 102]⟩
def hexI (b : UInt8) : Int := Lib.indexByte hexT.data.toList (small b)
theorem hexI_all : ∀ n : Fin 256, -1 ≤ hexI (UInt8.ofNat n.val) ∧ hexI (UInt8.ofNat n.val) ≤ 15 := by decide +kernel
theorem hexI_in (b : UInt8) : -1 ≤ hexI b ∧ hexI b ≤ 15 := by
  have := hexI_all ⟨b.toNat, UInt8.toNat_lt b⟩
  simpa using this
theorem hex_any (b : UInt8) (w : World) : Calls Tryd.prog 92 #[.int .u8 (b.toNat : Int)] w (IntR w (hexI b)) := by
  have HI := Lib.hid (indexByte_any hexT (small b) w)
  unfold hexT at HI
  go_enter Tryd.func92, Tryd.ntmps92
  go_wp2_with fail
  refine Calls.mono (small_any b _) ?_
  rintro e w1 ⟨rfl, rfl⟩
  go_wp2_with fail
  refine Calls.mono HI.out ?_
  rintro e w2 ⟨rfl, rfl⟩
  go_wp2
  go_ret
  exact ⟨rfl, rfl⟩
def charB (n : Int) : Bool := decide (0 < n) && decide (n ≤ 1114111) && (decide (n < 55296) || decide (57343 < n))
theorem char_any (n : Int) (w : World) : Calls Tryd.prog 64 #[.int .i64 n] w (RB w (charB n)) := by
  obtain ⟨q, hq⟩ : ∃ q, charB n = q := ⟨_, rfl⟩
  rw [hq]
  unfold charB at hq
  by_cases h1 : 0 < n
  · by_cases h2 : n ≤ 1114111
    · by_cases h3 : n < 55296
      · have : q = true := by rw [← hq, decide_eq_true h1, decide_eq_true h2, decide_eq_true h3]; rfl
        subst this
        clear hq
        go_enter Tryd.func64, Tryd.ntmps64
        go_wp2
        go_ret
        exact ⟨rfl, rfl⟩
      · by_cases h4 : 57343 < n
        · have : q = true := by rw [← hq, decide_eq_true h1, decide_eq_true h2, decide_eq_false h3, decide_eq_true h4]; rfl
          subst this
          clear hq
          go_enter Tryd.func64, Tryd.ntmps64
          go_wp2
          go_ret
          exact ⟨rfl, rfl⟩
        · have : q = false := by rw [← hq, decide_eq_true h1, decide_eq_true h2, decide_eq_false h3, decide_eq_false h4]; rfl
          subst this
          clear hq
          go_enter Tryd.func64, Tryd.ntmps64
          go_wp2
          go_ret
          exact ⟨rfl, rfl⟩
    · have : q = false := by rw [← hq, decide_eq_true h1, decide_eq_false h2]; rfl
      subst this
      clear hq
      go_enter Tryd.func64, Tryd.ntmps64
      go_wp2
      go_ret
      exact ⟨rfl, rfl⟩
  · have : q = false := by rw [← hq, decide_eq_false h1]; rfl
    subst this
    clear hq
    go_enter Tryd.func64, Tryd.ntmps64
    go_wp2
    go_ret
    exact ⟨rfl, rfl⟩
def isX (b : UInt8) : Bool := decide (b.toNat ||| 32 = 120)
/-- Digits from a place on: the number so far, and where they end. -/
def numF (l : List UInt8) (base : Nat) : Nat → Nat → Nat → Nat × Nat
  | 0, i, n => (n, i)
  | f + 1, i, n => match l[i]? with
    | none => (n, i)
    | some b => if hexI b < 0 ∨ (base : Int) ≤ hexI b then (n, i) else numF l base f (i + 1) (min (n * base + (hexI b).toNat) 16777216)
theorem numF_in (l : List UInt8) (base : Nat) : ∀ f i n, i ≤ l.length → i ≤ (numF l base f i n).2 ∧ (numF l base f i n).2 ≤ l.length
  | 0, i, n, h => ⟨Nat.le_refl _, h⟩
  | f + 1, i, n, h => by
    rw [numF]
    cases hg : l[i]? with
    | none => exact ⟨Nat.le_refl _, h⟩
    | some b =>
      have hlt := (List.getElem?_eq_some_iff.1 hg).1
      simp only
      split
      · exact ⟨Nat.le_refl _, h⟩
      · have := numF_in l base f (i + 1) (min (n * base + (hexI b).toNat) 16777216) (by omega)
        omega
def x2 (l : List UInt8) : Bool := match l[2]? with
  | some b => isX b
  | none => false
def baseOf (l : List UInt8) : Nat × Nat := if x2 l then (3, 16) else (2, 10)
def numericN (l : List UInt8) : Nat × Nat × Nat :=
  if Lib.hasPrefix l [38, 35] then (if (numF l (baseOf l).2 l.length (baseOf l).1 0).2 = (baseOf l).1 then (0, 0, 0) else ((numF l (baseOf l).2 l.length (baseOf l).1 0).1, (numF l (baseOf l).2 l.length (baseOf l).1 0).2 - (baseOf l).1, (numF l (baseOf l).2 l.length (baseOf l).1 0).2)) else (0, 0, 0)
def TriR (w : World) (x : Nat × Nat × Nat) (e : Ending) (w' : World) : Prop := e = .returned (.tuple #[.int .i64 (x.1 : Int), .int .i64 (x.2.1 : Int), .int .i64 (x.2.2 : Int)]) ∧ w = w'
theorem tri_eq {a b c x y z : Int} (h : a = x) (k : b = y) (m : c = z) : Ending.returned (.tuple #[.int .i64 a, .int .i64 b, .int .i64 c]) = .returned (.tuple #[.int .i64 x, .int .i64 y, .int .i64 z]) := by rw [h, k, m]
def NumW (l : List UInt8) (base : Nat) (E : Nat × Nat) (w : World) (v2 v4 : Value) (wr : World) : Prop := wr = w ∧ ∃ k n f : Nat, v4 = .int .i64 (k : Int) ∧ v2 = .int .i64 (n : Int) ∧ k ≤ l.length ∧ l.length ≤ k + f ∧ n ≤ 16777216 ∧ numF l base f k n = E
set_option maxHeartbeats 2000000 in
set_option maxRecDepth 100000 in
theorem numeric_loop (s : ByteArray) (at' base : Nat) (w : World) (hs : s.size ≤ 1099511627776) (hb : Lib.hasPrefix s.data.toList [38, 35] = true) (hbo : baseOf s.data.toList = (at', base)) (ha : at' ≤ s.size) : Calls Tryd.prog 63 #[.string s] w (TriR w (numericN s.data.toList)) := by
  have hl : s.data.toList.length = s.size := Array.length_toList
  have hv : numericN s.data.toList = if (numF s.data.toList base s.size at' 0).2 = at' then (0, 0, 0) else ((numF s.data.toList base s.size at' 0).1, (numF s.data.toList base s.size at' 0).2 - at', (numF s.data.toList base s.size at' 0).2) := by unfold numericN; rw [hb, if_pos rfl, hbo, hl]
  rw [hv]
  obtain ⟨⟨en, ee⟩, hE⟩ : ∃ E, numF s.data.toList base s.size at' 0 = E := ⟨_, rfl⟩
  have hei := numF_in s.data.toList base s.size at' 0 (by omega)
  rw [hE] at hei ⊢
  simp only at hei ⊢
  obtain ⟨xv, hxv⟩ : ∃ xv, (if ee = at' then (0, 0, 0) else (en, ee - at', ee)) = xv := ⟨_, rfl⟩
  rw [hxv]
  have HXV := Lib.hid hxv
  have HP := Lib.hid (Tryd.strings_HasPrefix s ⟨#[38, 35]⟩ w)
  rw [show Lib.hasPrefix s.data.toList (⟨#[38, 35]⟩ : ByteArray).data.toList = true from hb] at HP
  have H0 := Lib.hid (show NumW s.data.toList base (en, ee) w (.int .i64 (0 : Nat)) (.int .i64 (at' : Int)) w from ⟨rfl, at', 0, s.size, rfl, rfl, by omega, by omega, by omega, hE⟩)
  have hx : (2 < s.size ∧ x2 s.data.toList = true ∧ at' = 3 ∧ base = 16) ∨ (2 < s.size ∧ x2 s.data.toList = false ∧ at' = 2 ∧ base = 10) ∨ (¬ 2 < s.size ∧ at' = 2 ∧ base = 10) := by
    unfold baseOf at hbo
    by_cases h2 : 2 < s.size
    · cases hq : x2 s.data.toList with
      | true => rw [hq, if_pos rfl] at hbo; cases hbo; exact .inl ⟨h2, rfl, rfl, rfl⟩
      | false => rw [hq, if_neg (by decide)] at hbo; cases hbo; exact .inr (.inl ⟨h2, rfl, rfl, rfl⟩)
    · have hq : x2 s.data.toList = false := by unfold x2; rw [get_none s 2 h2]
      rw [hq, if_neg (by decide)] at hbo
      cases hbo
      exact .inr (.inr ⟨h2, rfl, rfl⟩)
  have hxe : ∀ h2 : 2 < s.size, ∀ q, x2 s.data.toList = q → ((((s[2]'h2).toNat ||| 32 : Nat) : Int) == 120) = q := fun h2 q h => by
    rw [← h]
    unfold x2
    rw [get_list s 2 h2]
    simp only
    unfold isX
    rw [Bool.eq_iff_iff, beq_iff_eq, decide_eq_true_iff]
    omega
  have HXE := Lib.hid hxe
  have hat : at' ≤ 3 := by rcases hx with h | h | h <;> omega
  clear hv hE hb hbo hl hxe hxv
  rcases hx with ⟨h2, hq, rfl, rfl⟩ | ⟨h2, hq, rfl, rfl⟩ | ⟨h2, rfl, rfl⟩
  · have he := HXE.out h2 _ hq
    have ho := orb (s[2]'h2)
    clear hq
    go_enter Tryd.func63, Tryd.ntmps63
    go_wp2_with fail
    refine Calls.mono HP.out ?_
    rintro e w1 ⟨rfl, hw1⟩
    rw [hw1]
    clear hw1
    go_wp2_with fail
    go_loopw [2, 4] (fun v2 v4 wr => NumW s.data.toList 16 (en, ee) w v2 v4 wr) (fun _ v4 _ => s.size - (intOf v4).toNat)
    case atStart => exact H0.out
    case round =>
      obtain ⟨hww, k, n, f, rfl, rfl, hk, hf, hn, hu⟩ := hrel
      obtain ⟨wo, hwo⟩ : ∃ wo : World, wo = wr := ⟨_, rfl⟩
      subst hwo
      have HWW := Lib.hid hww
      have hl2 : s.data.toList.length = s.size := Array.length_toList
      have HU := Lib.hid hu; have HK := Lib.hid hk; have HF := Lib.hid hf
      clear hu hww H0
      by_cases hlt : k < s.size
      · have hki : (k : Int) < (s.size : Int) := by omega
        have hu := HU.out
        obtain ⟨f', rfl⟩ : ∃ f', f = f' + 1 := ⟨f - 1, by omega⟩
        rw [numF, get_list s k hlt] at hu
        simp only at hu
        obtain ⟨b, hb⟩ : ∃ b, s[k] = b := ⟨_, rfl⟩
        rw [hb] at hu
        have hxin := hexI_in b
        have HHx := Lib.hid (hex_any b)
        obtain ⟨d, hd⟩ : ∃ d, hexI b = d := ⟨_, rfl⟩
        rw [hd] at hu hxin HHx
        have HU2 := Lib.hid hu
        have hf2 : s.size ≤ k + 1 + f' := by omega
        clear hu hd HU hf hk hl2 HF
        by_cases hbad : d < 0 ∨ 16 ≤ d
        · have HE := Lib.hid (show (n, k) = (en, ee) by have := HU2.out; rw [if_pos (show d < 0 ∨ ((16 : Nat) : Int) ≤ d by omega)] at this; exact this)
          clear HU2
          by_cases hd0 : d < 0
          · clear hbad
            go_wp2_with fail
            refine Calls.mono (HHx.out _) ?_
            rintro e w2 ⟨rfl, rfl⟩
            obtain ⟨rfl, rfl⟩ : n = en ∧ k = ee := by have := HE.out; simpa using this
            clear HE
            by_cases hee : k = 3
            · subst hee
              have HXf := Lib.hid (show (0, 0, 0) = xv by rw [← HXV.out, if_pos rfl])
              clear HXV
              first
                | (exfalso; omega)
                | (go_wp2; go_ret3; rw [← HXf.out, HWW.out]; exact ⟨rfl, rfl⟩)
            · have hz : ((k : Int) == 3) = false := by simp; omega
              have hk3 : 3 ≤ k := by omega
              have HXf := Lib.hid (show (n, k - 3, k) = xv by rw [← HXV.out, if_neg hee])
              have HK3 := Lib.hid (show (k : Int) - 3 = ((k - 3 : Nat) : Int) by omega)
              clear HXV hee
              go_wp2
              go_ret3
              rw [← HXf.out, HWW.out]
              exact ⟨tri_eq rfl HK3.out rfl, rfl⟩
          · have hd1 : 16 ≤ d := by omega
            clear hbad
            go_wp2_with fail
            refine Calls.mono (HHx.out _) ?_
            rintro e w2 ⟨rfl, rfl⟩
            obtain ⟨rfl, rfl⟩ : n = en ∧ k = ee := by have := HE.out; simpa using this
            clear HE
            by_cases hee : k = 3
            · subst hee
              have HXf := Lib.hid (show (0, 0, 0) = xv by rw [← HXV.out, if_pos rfl])
              clear HXV
              first
                | (exfalso; omega)
                | (go_wp2; go_ret3; rw [← HXf.out, HWW.out]; exact ⟨rfl, rfl⟩)
            · have hz : ((k : Int) == 3) = false := by simp; omega
              have hk3 : 3 ≤ k := by omega
              have HXf := Lib.hid (show (n, k - 3, k) = xv by rw [← HXV.out, if_neg hee])
              have HK3 := Lib.hid (show (k : Int) - 3 = ((k - 3 : Nat) : Int) by omega)
              clear HXV hee
              go_wp2
              go_ret3
              rw [← HXf.out, HWW.out]
              exact ⟨tri_eq rfl HK3.out rfl, rfl⟩
        · have hd0 : ¬ d < 0 := by omega
          have hd1 : ¬ 16 ≤ d := by omega
          obtain ⟨m, rfl⟩ : ∃ m : Nat, d = m := ⟨d.toNat, by omega⟩
          have hm : m ≤ 15 := by omega
          have HE := Lib.hid (show numF s.data.toList 16 f' (k + 1) (min (n * 16 + m) 16777216) = (en, ee) by have := HU2.out; rw [if_neg (by omega), Int.toNat_natCast] at this; exact this)
          clear HU2 hbad
          go_wp2_with fail
          refine Calls.mono (HHx.out _) ?_
          rintro e w2 ⟨rfl, rfl⟩
          go_wp2
          go_roundw
          case rel => exact ⟨HWW.out, k + 1, min (n * 16 + m) 16777216, f', by go_num, by first | rfl | (congr 1; omega), by have := HK.out; have hl2 : s.data.toList.length = s.size := Array.length_toList; omega, by have hl2 : s.data.toList.length = s.size := Array.length_toList; omega, by omega, HE.out⟩
          case measure => simp [intOf]; omega
      · have HE := Lib.hid (show (n, k) = (en, ee) by
          rw [← HU.out]
          cases f with
          | zero => rfl
          | succ f => rw [numF, get_none s k hlt])
        have hkb : k ≤ 1099511627776 := by omega
        clear HU hf hk hl2
        obtain ⟨rfl, rfl⟩ : n = en ∧ k = ee := by have := HE.out; simpa using this
        clear HE
        by_cases hee : k = 3
        · subst hee
          have HXf := Lib.hid (show (0, 0, 0) = xv by rw [← HXV.out, if_pos rfl])
          clear HXV
          first
            | (exfalso; omega)
            | (go_wp2; go_ret3; rw [← HXf.out, HWW.out]; exact ⟨rfl, rfl⟩)
        · have hz : ((k : Int) == 3) = false := by simp; omega
          have hk3 : 3 ≤ k := by omega
          have HXf := Lib.hid (show (n, k - 3, k) = xv by rw [← HXV.out, if_neg hee])
          have HK3 := Lib.hid (show (k : Int) - 3 = ((k - 3 : Nat) : Int) by omega)
          clear HXV hee
          go_wp2
          go_ret3
          rw [← HXf.out, HWW.out]
          exact ⟨tri_eq rfl HK3.out rfl, rfl⟩
  · have he := HXE.out h2 _ hq
    have ho := orb (s[2]'h2)
    clear hq
    go_enter Tryd.func63, Tryd.ntmps63
    go_wp2_with fail
    refine Calls.mono HP.out ?_
    rintro e w1 ⟨rfl, hw1⟩
    rw [hw1]
    clear hw1
    go_wp2_with fail
    go_loopw [2, 4] (fun v2 v4 wr => NumW s.data.toList 10 (en, ee) w v2 v4 wr) (fun _ v4 _ => s.size - (intOf v4).toNat)
    case atStart => exact H0.out
    case round =>
      obtain ⟨hww, k, n, f, rfl, rfl, hk, hf, hn, hu⟩ := hrel
      obtain ⟨wo, hwo⟩ : ∃ wo : World, wo = wr := ⟨_, rfl⟩
      subst hwo
      have HWW := Lib.hid hww
      have hl2 : s.data.toList.length = s.size := Array.length_toList
      have HU := Lib.hid hu; have HK := Lib.hid hk; have HF := Lib.hid hf
      clear hu hww H0
      by_cases hlt : k < s.size
      · have hki : (k : Int) < (s.size : Int) := by omega
        have hu := HU.out
        obtain ⟨f', rfl⟩ : ∃ f', f = f' + 1 := ⟨f - 1, by omega⟩
        rw [numF, get_list s k hlt] at hu
        simp only at hu
        obtain ⟨b, hb⟩ : ∃ b, s[k] = b := ⟨_, rfl⟩
        rw [hb] at hu
        have hxin := hexI_in b
        have HHx := Lib.hid (hex_any b)
        obtain ⟨d, hd⟩ : ∃ d, hexI b = d := ⟨_, rfl⟩
        rw [hd] at hu hxin HHx
        have HU2 := Lib.hid hu
        have hf2 : s.size ≤ k + 1 + f' := by omega
        clear hu hd HU hf hk hl2 HF
        by_cases hbad : d < 0 ∨ 10 ≤ d
        · have HE := Lib.hid (show (n, k) = (en, ee) by have := HU2.out; rw [if_pos (show d < 0 ∨ ((10 : Nat) : Int) ≤ d by omega)] at this; exact this)
          clear HU2
          by_cases hd0 : d < 0
          · clear hbad
            go_wp2_with fail
            refine Calls.mono (HHx.out _) ?_
            rintro e w2 ⟨rfl, rfl⟩
            obtain ⟨rfl, rfl⟩ : n = en ∧ k = ee := by have := HE.out; simpa using this
            clear HE
            by_cases hee : k = 2
            · subst hee
              have HXf := Lib.hid (show (0, 0, 0) = xv by rw [← HXV.out, if_pos rfl])
              clear HXV
              first
                | (exfalso; omega)
                | (go_wp2; go_ret3; rw [← HXf.out, HWW.out]; exact ⟨rfl, rfl⟩)
            · have hz : ((k : Int) == 2) = false := by simp; omega
              have hk3 : 2 ≤ k := by omega
              have HXf := Lib.hid (show (n, k - 2, k) = xv by rw [← HXV.out, if_neg hee])
              have HK3 := Lib.hid (show (k : Int) - 2 = ((k - 2 : Nat) : Int) by omega)
              clear HXV hee
              go_wp2
              go_ret3
              rw [← HXf.out, HWW.out]
              exact ⟨tri_eq rfl HK3.out rfl, rfl⟩
          · have hd1 : 10 ≤ d := by omega
            clear hbad
            go_wp2_with fail
            refine Calls.mono (HHx.out _) ?_
            rintro e w2 ⟨rfl, rfl⟩
            obtain ⟨rfl, rfl⟩ : n = en ∧ k = ee := by have := HE.out; simpa using this
            clear HE
            by_cases hee : k = 2
            · subst hee
              have HXf := Lib.hid (show (0, 0, 0) = xv by rw [← HXV.out, if_pos rfl])
              clear HXV
              first
                | (exfalso; omega)
                | (go_wp2; go_ret3; rw [← HXf.out, HWW.out]; exact ⟨rfl, rfl⟩)
            · have hz : ((k : Int) == 2) = false := by simp; omega
              have hk3 : 2 ≤ k := by omega
              have HXf := Lib.hid (show (n, k - 2, k) = xv by rw [← HXV.out, if_neg hee])
              have HK3 := Lib.hid (show (k : Int) - 2 = ((k - 2 : Nat) : Int) by omega)
              clear HXV hee
              go_wp2
              go_ret3
              rw [← HXf.out, HWW.out]
              exact ⟨tri_eq rfl HK3.out rfl, rfl⟩
        · have hd0 : ¬ d < 0 := by omega
          have hd1 : ¬ 10 ≤ d := by omega
          obtain ⟨m, rfl⟩ : ∃ m : Nat, d = m := ⟨d.toNat, by omega⟩
          have hm : m ≤ 15 := by omega
          have HE := Lib.hid (show numF s.data.toList 10 f' (k + 1) (min (n * 10 + m) 16777216) = (en, ee) by have := HU2.out; rw [if_neg (by omega), Int.toNat_natCast] at this; exact this)
          clear HU2 hbad
          go_wp2_with fail
          refine Calls.mono (HHx.out _) ?_
          rintro e w2 ⟨rfl, rfl⟩
          go_wp2
          go_roundw
          case rel => exact ⟨HWW.out, k + 1, min (n * 10 + m) 16777216, f', by go_num, by first | rfl | (congr 1; omega), by have := HK.out; have hl2 : s.data.toList.length = s.size := Array.length_toList; omega, by have hl2 : s.data.toList.length = s.size := Array.length_toList; omega, by omega, HE.out⟩
          case measure => simp [intOf]; omega
      · have HE := Lib.hid (show (n, k) = (en, ee) by
          rw [← HU.out]
          cases f with
          | zero => rfl
          | succ f => rw [numF, get_none s k hlt])
        have hkb : k ≤ 1099511627776 := by omega
        clear HU hf hk hl2
        obtain ⟨rfl, rfl⟩ : n = en ∧ k = ee := by have := HE.out; simpa using this
        clear HE
        by_cases hee : k = 2
        · subst hee
          have HXf := Lib.hid (show (0, 0, 0) = xv by rw [← HXV.out, if_pos rfl])
          clear HXV
          first
            | (exfalso; omega)
            | (go_wp2; go_ret3; rw [← HXf.out, HWW.out]; exact ⟨rfl, rfl⟩)
        · have hz : ((k : Int) == 2) = false := by simp; omega
          have hk3 : 2 ≤ k := by omega
          have HXf := Lib.hid (show (n, k - 2, k) = xv by rw [← HXV.out, if_neg hee])
          have HK3 := Lib.hid (show (k : Int) - 2 = ((k - 2 : Nat) : Int) by omega)
          clear HXV hee
          go_wp2
          go_ret3
          rw [← HXf.out, HWW.out]
          exact ⟨tri_eq rfl HK3.out rfl, rfl⟩
  · go_enter Tryd.func63, Tryd.ntmps63
    go_wp2_with fail
    refine Calls.mono HP.out ?_
    rintro e w1 ⟨rfl, hw1⟩
    rw [hw1]
    clear hw1
    go_wp2_with fail
    go_loopw [2, 4] (fun v2 v4 wr => NumW s.data.toList 10 (en, ee) w v2 v4 wr) (fun _ v4 _ => s.size - (intOf v4).toNat)
    case atStart => exact H0.out
    case round =>
      obtain ⟨hww, k, n, f, rfl, rfl, hk, hf, hn, hu⟩ := hrel
      obtain ⟨wo, hwo⟩ : ∃ wo : World, wo = wr := ⟨_, rfl⟩
      subst hwo
      have HWW := Lib.hid hww
      have hl2 : s.data.toList.length = s.size := Array.length_toList
      have HU := Lib.hid hu; have HK := Lib.hid hk; have HF := Lib.hid hf
      clear hu hww H0
      by_cases hlt : k < s.size
      · have hki : (k : Int) < (s.size : Int) := by omega
        have hu := HU.out
        obtain ⟨f', rfl⟩ : ∃ f', f = f' + 1 := ⟨f - 1, by omega⟩
        rw [numF, get_list s k hlt] at hu
        simp only at hu
        obtain ⟨b, hb⟩ : ∃ b, s[k] = b := ⟨_, rfl⟩
        rw [hb] at hu
        have hxin := hexI_in b
        have HHx := Lib.hid (hex_any b)
        obtain ⟨d, hd⟩ : ∃ d, hexI b = d := ⟨_, rfl⟩
        rw [hd] at hu hxin HHx
        have HU2 := Lib.hid hu
        have hf2 : s.size ≤ k + 1 + f' := by omega
        clear hu hd HU hf hk hl2 HF
        by_cases hbad : d < 0 ∨ 10 ≤ d
        · have HE := Lib.hid (show (n, k) = (en, ee) by have := HU2.out; rw [if_pos (show d < 0 ∨ ((10 : Nat) : Int) ≤ d by omega)] at this; exact this)
          clear HU2
          by_cases hd0 : d < 0
          · clear hbad
            go_wp2_with fail
            refine Calls.mono (HHx.out _) ?_
            rintro e w2 ⟨rfl, rfl⟩
            obtain ⟨rfl, rfl⟩ : n = en ∧ k = ee := by have := HE.out; simpa using this
            clear HE
            by_cases hee : k = 2
            · subst hee
              have HXf := Lib.hid (show (0, 0, 0) = xv by rw [← HXV.out, if_pos rfl])
              clear HXV
              first
                | (exfalso; omega)
                | (go_wp2; go_ret3; rw [← HXf.out, HWW.out]; exact ⟨rfl, rfl⟩)
            · have hz : ((k : Int) == 2) = false := by simp; omega
              have hk3 : 2 ≤ k := by omega
              have HXf := Lib.hid (show (n, k - 2, k) = xv by rw [← HXV.out, if_neg hee])
              have HK3 := Lib.hid (show (k : Int) - 2 = ((k - 2 : Nat) : Int) by omega)
              clear HXV hee
              go_wp2
              go_ret3
              rw [← HXf.out, HWW.out]
              exact ⟨tri_eq rfl HK3.out rfl, rfl⟩
          · have hd1 : 10 ≤ d := by omega
            clear hbad
            go_wp2_with fail
            refine Calls.mono (HHx.out _) ?_
            rintro e w2 ⟨rfl, rfl⟩
            obtain ⟨rfl, rfl⟩ : n = en ∧ k = ee := by have := HE.out; simpa using this
            clear HE
            by_cases hee : k = 2
            · subst hee
              have HXf := Lib.hid (show (0, 0, 0) = xv by rw [← HXV.out, if_pos rfl])
              clear HXV
              first
                | (exfalso; omega)
                | (go_wp2; go_ret3; rw [← HXf.out, HWW.out]; exact ⟨rfl, rfl⟩)
            · have hz : ((k : Int) == 2) = false := by simp; omega
              have hk3 : 2 ≤ k := by omega
              have HXf := Lib.hid (show (n, k - 2, k) = xv by rw [← HXV.out, if_neg hee])
              have HK3 := Lib.hid (show (k : Int) - 2 = ((k - 2 : Nat) : Int) by omega)
              clear HXV hee
              go_wp2
              go_ret3
              rw [← HXf.out, HWW.out]
              exact ⟨tri_eq rfl HK3.out rfl, rfl⟩
        · have hd0 : ¬ d < 0 := by omega
          have hd1 : ¬ 10 ≤ d := by omega
          obtain ⟨m, rfl⟩ : ∃ m : Nat, d = m := ⟨d.toNat, by omega⟩
          have hm : m ≤ 15 := by omega
          have HE := Lib.hid (show numF s.data.toList 10 f' (k + 1) (min (n * 10 + m) 16777216) = (en, ee) by have := HU2.out; rw [if_neg (by omega), Int.toNat_natCast] at this; exact this)
          clear HU2 hbad
          go_wp2_with fail
          refine Calls.mono (HHx.out _) ?_
          rintro e w2 ⟨rfl, rfl⟩
          go_wp2
          go_roundw
          case rel => exact ⟨HWW.out, k + 1, min (n * 10 + m) 16777216, f', by go_num, by first | rfl | (congr 1; omega), by have := HK.out; have hl2 : s.data.toList.length = s.size := Array.length_toList; omega, by have hl2 : s.data.toList.length = s.size := Array.length_toList; omega, by omega, HE.out⟩
          case measure => simp [intOf]; omega
      · have HE := Lib.hid (show (n, k) = (en, ee) by
          rw [← HU.out]
          cases f with
          | zero => rfl
          | succ f => rw [numF, get_none s k hlt])
        have hkb : k ≤ 1099511627776 := by omega
        clear HU hf hk hl2
        obtain ⟨rfl, rfl⟩ : n = en ∧ k = ee := by have := HE.out; simpa using this
        clear HE
        by_cases hee : k = 2
        · subst hee
          have HXf := Lib.hid (show (0, 0, 0) = xv by rw [← HXV.out, if_pos rfl])
          clear HXV
          first
            | (exfalso; omega)
            | (go_wp2; go_ret3; rw [← HXf.out, HWW.out]; exact ⟨rfl, rfl⟩)
        · have hz : ((k : Int) == 2) = false := by simp; omega
          have hk3 : 2 ≤ k := by omega
          have HXf := Lib.hid (show (n, k - 2, k) = xv by rw [← HXV.out, if_neg hee])
          have HK3 := Lib.hid (show (k : Int) - 2 = ((k - 2 : Nat) : Int) by omega)
          clear HXV hee
          go_wp2
          go_ret3
          rw [← HXf.out, HWW.out]
          exact ⟨tri_eq rfl HK3.out rfl, rfl⟩
set_option maxRecDepth 100000 in
theorem numeric_any (s : ByteArray) (w : World) (hs : s.size ≤ 1099511627776) : Calls Tryd.prog 63 #[.string s] w (TriR w (numericN s.data.toList)) := by
  have hl : s.data.toList.length = s.size := Array.length_toList
  cases hp : Lib.hasPrefix s.data.toList [38, 35] with
  | false =>
    have hv : numericN s.data.toList = (0, 0, 0) := by unfold numericN; rw [hp]; rfl
    rw [hv]
    have HP := Lib.hid (Tryd.strings_HasPrefix s ⟨#[38, 35]⟩ w)
    rw [show Lib.hasPrefix s.data.toList (⟨#[38, 35]⟩ : ByteArray).data.toList = false from hp] at HP
    clear hv hp hl
    go_enter Tryd.func63, Tryd.ntmps63
    go_wp2_with fail
    refine Calls.mono HP.out ?_
    rintro e w1 ⟨rfl, hw1⟩
    rw [hw1]
    clear hw1
    go_wp2
    go_ret3
    exact ⟨rfl, rfl⟩
  | true =>
    have h2 : 2 ≤ s.size := by
      have : ([38, 35] : List UInt8).isPrefixOf s.data.toList = true := hp
      have := (List.isPrefixOf_iff_prefix.1 this).length_le
      rw [hl] at this
      exact this
    obtain ⟨⟨a, b⟩, hb⟩ : ∃ x, baseOf s.data.toList = x := ⟨_, rfl⟩
    refine numeric_loop s a b w hs hp hb ?_
    unfold baseOf at hb
    cases hx : x2 s.data.toList with
    | false => rw [hx, if_neg (by decide)] at hb; cases hb; exact h2
    | true =>
      rw [hx, if_pos rfl] at hb
      cases hb
      unfold x2 at hx
      by_cases h3 : 2 < s.size
      · omega
      · rw [get_none s 2 h3] at hx; cases hx
end Go.Proofs.YtbcfhpomclkccaaDoor
