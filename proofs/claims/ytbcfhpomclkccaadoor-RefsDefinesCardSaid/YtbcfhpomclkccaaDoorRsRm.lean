/- The reference's Hex, digits, numeric, right. The reference's numeric and right. -/
import Derived.Test.YtbcfhpomclkccaaDoorRsRg
import Derived.Test.YtbcfhpomclkccaaDoorRsMk
namespace Go.Proofs.YtbcfhpomclkccaaDoor
open Go.RowKit

theorem hexI_eq : ∀ n : Fin 256, hexI (UInt8.ofNat n.val) = if 48 ≤ n.val ∧ n.val ≤ 57 then (n.val : Int) - 48 else if 97 ≤ n.val ∧ n.val ≤ 102 then (n.val : Int) - 97 + 10 else if 65 ≤ n.val ∧ n.val ≤ 70 then (n.val : Int) - 65 + 10 else -1 := by decide +kernel
theorem hexI_at (b : UInt8) : hexI b = if 48 ≤ b.toNat ∧ b.toNat ≤ 57 then (b.toNat : Int) - 48 else if 97 ≤ b.toNat ∧ b.toNat ≤ 102 then (b.toNat : Int) - 97 + 10 else if 65 ≤ b.toNat ∧ b.toNat ≤ 70 then (b.toNat : Int) - 65 + 10 else -1 := by
  have h := hexI_eq ⟨b.toNat, UInt8.toNat_lt b⟩
  rw [show UInt8.ofNat (⟨b.toNat, UInt8.toNat_lt b⟩ : Fin 256).val = b from UInt8.toNat_inj.1 (by rw [UInt8.toNat_ofNat']; exact Nat.mod_eq_of_lt (UInt8.toNat_lt b))] at h
  exact h
set_option maxRecDepth 100000 in
theorem rhex0 (n : Nat) (w : World) (h0 : 0 ≤ n) (h1 : n ≤ 47) : Calls Tryd.prog 104 #[.int .u8 (n : Int)] w (IntR w (-1)) := by
  have g48 : ¬ ((48 : Int) ≤ (n : Int)) := by omega
  have g97 : ¬ ((97 : Int) ≤ (n : Int)) := by omega
  have g65 : ¬ ((65 : Int) ≤ (n : Int)) := by omega
  have l57 : ((n : Int) ≤ 57) := by omega
  have l102 : ((n : Int) ≤ 102) := by omega
  have l70 : ((n : Int) ≤ 70) := by omega
  clear h0
  go_enter Tryd.func104, Tryd.ntmps104
  go_wp2
  go_ret
  exact ⟨rfl, rfl⟩
set_option maxRecDepth 100000 in
theorem rhex1 (n : Nat) (w : World) (h0 : 48 ≤ n) (h1 : n ≤ 57) : Calls Tryd.prog 104 #[.int .u8 (n : Int)] w (IntR w ((n : Int) - 48)) := by
  have g48 : ((48 : Int) ≤ (n : Int)) := by omega
  have g97 : ¬ ((97 : Int) ≤ (n : Int)) := by omega
  have g65 : ¬ ((65 : Int) ≤ (n : Int)) := by omega
  have l57 : ((n : Int) ≤ 57) := by omega
  have l102 : ((n : Int) ≤ 102) := by omega
  have l70 : ((n : Int) ≤ 70) := by omega
  clear h0
  go_enter Tryd.func104, Tryd.ntmps104
  go_wp2
  go_ret
  exact ⟨rfl, rfl⟩
set_option maxRecDepth 100000 in
theorem rhex2 (n : Nat) (w : World) (h0 : 58 ≤ n) (h1 : n ≤ 64) : Calls Tryd.prog 104 #[.int .u8 (n : Int)] w (IntR w (-1)) := by
  have g48 : ((48 : Int) ≤ (n : Int)) := by omega
  have g97 : ¬ ((97 : Int) ≤ (n : Int)) := by omega
  have g65 : ¬ ((65 : Int) ≤ (n : Int)) := by omega
  have l57 : ¬ ((n : Int) ≤ 57) := by omega
  have l102 : ((n : Int) ≤ 102) := by omega
  have l70 : ((n : Int) ≤ 70) := by omega
  clear h0
  go_enter Tryd.func104, Tryd.ntmps104
  go_wp2
  go_ret
  exact ⟨rfl, rfl⟩
set_option maxRecDepth 100000 in
theorem rhex3 (n : Nat) (w : World) (h0 : 65 ≤ n) (h1 : n ≤ 70) : Calls Tryd.prog 104 #[.int .u8 (n : Int)] w (IntR w ((n : Int) - 65 + 10)) := by
  have g48 : ((48 : Int) ≤ (n : Int)) := by omega
  have g97 : ¬ ((97 : Int) ≤ (n : Int)) := by omega
  have g65 : ((65 : Int) ≤ (n : Int)) := by omega
  have l57 : ¬ ((n : Int) ≤ 57) := by omega
  have l102 : ((n : Int) ≤ 102) := by omega
  have l70 : ((n : Int) ≤ 70) := by omega
  clear h0
  go_enter Tryd.func104, Tryd.ntmps104
  go_wp2
  go_ret
  exact ⟨rfl, rfl⟩
set_option maxRecDepth 100000 in
theorem rhex4 (n : Nat) (w : World) (h0 : 71 ≤ n) (h1 : n ≤ 96) : Calls Tryd.prog 104 #[.int .u8 (n : Int)] w (IntR w (-1)) := by
  have g48 : ((48 : Int) ≤ (n : Int)) := by omega
  have g97 : ¬ ((97 : Int) ≤ (n : Int)) := by omega
  have g65 : ((65 : Int) ≤ (n : Int)) := by omega
  have l57 : ¬ ((n : Int) ≤ 57) := by omega
  have l102 : ((n : Int) ≤ 102) := by omega
  have l70 : ¬ ((n : Int) ≤ 70) := by omega
  clear h0
  go_enter Tryd.func104, Tryd.ntmps104
  go_wp2
  go_ret
  exact ⟨rfl, rfl⟩
set_option maxRecDepth 100000 in
theorem rhex5 (n : Nat) (w : World) (h0 : 97 ≤ n) (h1 : n ≤ 102) : Calls Tryd.prog 104 #[.int .u8 (n : Int)] w (IntR w ((n : Int) - 97 + 10)) := by
  have g48 : ((48 : Int) ≤ (n : Int)) := by omega
  have g97 : ((97 : Int) ≤ (n : Int)) := by omega
  have g65 : ((65 : Int) ≤ (n : Int)) := by omega
  have l57 : ¬ ((n : Int) ≤ 57) := by omega
  have l102 : ((n : Int) ≤ 102) := by omega
  have l70 : ¬ ((n : Int) ≤ 70) := by omega
  clear h0
  go_enter Tryd.func104, Tryd.ntmps104
  go_wp2
  go_ret
  exact ⟨rfl, rfl⟩
set_option maxRecDepth 100000 in
theorem rhex6 (n : Nat) (w : World) (h0 : 103 ≤ n) (h1 : n ≤ 255) : Calls Tryd.prog 104 #[.int .u8 (n : Int)] w (IntR w (-1)) := by
  have g48 : ((48 : Int) ≤ (n : Int)) := by omega
  have g97 : ((97 : Int) ≤ (n : Int)) := by omega
  have g65 : ((65 : Int) ≤ (n : Int)) := by omega
  have l57 : ¬ ((n : Int) ≤ 57) := by omega
  have l102 : ¬ ((n : Int) ≤ 102) := by omega
  have l70 : ¬ ((n : Int) ≤ 70) := by omega
  clear h0
  go_enter Tryd.func104, Tryd.ntmps104
  go_wp2
  go_ret
  exact ⟨rfl, rfl⟩
theorem refhex_any (b : UInt8) (w : World) : Calls Tryd.prog 104 #[.int .u8 (b.toNat : Int)] w (IntR w (hexI b)) := by
  have hb := UInt8.toNat_lt b
  rw [hexI_at b]
  by_cases q0 : b.toNat ≤ 47
  · rw [if_neg (by omega), if_neg (by omega), if_neg (by omega)]
    exact rhex0 b.toNat w (by omega) q0
  by_cases q1 : b.toNat ≤ 57
  · rw [if_pos (by omega)]
    exact rhex1 b.toNat w (by omega) q1
  by_cases q2 : b.toNat ≤ 64
  · rw [if_neg (by omega), if_neg (by omega), if_neg (by omega)]
    exact rhex2 b.toNat w (by omega) q2
  by_cases q3 : b.toNat ≤ 70
  · rw [if_neg (by omega), if_neg (by omega), if_pos (by omega)]
    exact rhex3 b.toNat w (by omega) q3
  by_cases q4 : b.toNat ≤ 96
  · rw [if_neg (by omega), if_neg (by omega), if_neg (by omega)]
    exact rhex4 b.toNat w (by omega) q4
  by_cases q5 : b.toNat ≤ 102
  · rw [if_neg (by omega), if_pos (by omega)]
    exact rhex5 b.toNat w (by omega) q5
  rw [if_neg (by omega), if_neg (by omega), if_neg (by omega)]
  exact rhex6 b.toNat w (by omega) (by omega)
/-- As numF, held under another number. -/
def digF (l : List UInt8) (base : Nat) : Nat → Nat → Nat → Nat × Nat
  | 0, i, n => (n, i)
  | f + 1, i, n => match l[i]? with
    | none => (n, i)
    | some b => if hexI b < 0 ∨ (base : Int) ≤ hexI b then (n, i) else digF l base f (i + 1) (min (n * base + (hexI b).toNat) 100000000)
def Alike (n m : Nat) : Prop := n = m ∨ (1114111 < n ∧ 1114111 < m)
theorem dig_num (l : List UInt8) (a base : Nat) (hb : 1 ≤ base) : ∀ (f g i n m : Nat), l.length ≤ a + i + f → l.length ≤ a + i + g → Alike n m → (numF l base f (a + i) n).2 = a + (digF (l.drop a) base g i m).2 ∧ Alike (numF l base f (a + i) n).1 (digF (l.drop a) base g i m).1 := by
  intro f
  induction f with
  | zero =>
    intro g i n m h1 h2 h
    have hn : (l.drop a)[i]? = none := List.getElem?_eq_none (by rw [List.length_drop]; omega)
    cases g with
    | zero => exact ⟨rfl, h⟩
    | succ g => rw [digF, hn]; exact ⟨rfl, h⟩
  | succ f ih =>
    intro g i n m h1 h2 h
    cases g with
    | zero =>
      have hn : l[a + i]? = none := List.getElem?_eq_none (by omega)
      rw [numF, hn]
      exact ⟨rfl, h⟩
    | succ g =>
      rw [numF, digF, List.getElem?_drop]
      cases hg : l[a + i]? with
      | none => exact ⟨rfl, h⟩
      | some b =>
        simp only
        by_cases hc : hexI b < 0 ∨ (base : Int) ≤ hexI b
        · rw [if_pos hc, if_pos hc]
          exact ⟨rfl, h⟩
        · rw [if_neg hc, if_neg hc]
          refine ih g (i + 1) _ _ (by omega) (by omega) ?_
          rcases h with rfl | ⟨h3, h4⟩
          · generalize n * base + (hexI b).toNat = v
            unfold Alike
            omega
          · have h5 : n ≤ n * base := Nat.le_mul_of_pos_right n hb
            have h6 : m ≤ m * base := Nat.le_mul_of_pos_right m hb
            right
            omega
theorem digF_in (l : List UInt8) (base : Nat) : ∀ f i n, i ≤ l.length → i ≤ (digF l base f i n).2 ∧ (digF l base f i n).2 ≤ l.length
  | 0, i, n, h => ⟨Nat.le_refl _, h⟩
  | f + 1, i, n, h => by
    rw [digF]
    cases hg : l[i]? with
    | none => exact ⟨Nat.le_refl _, h⟩
    | some b =>
      have hlt := (List.getElem?_eq_some_iff.1 hg).1
      simp only
      split
      · exact ⟨Nat.le_refl _, h⟩
      · have := digF_in l base f (i + 1) (min (n * base + (hexI b).toNat) 100000000) (by omega)
        omega
theorem digF_le (l : List UInt8) (base : Nat) : ∀ f i n, n ≤ 100000000 → (digF l base f i n).1 ≤ 100000000
  | 0, i, n, h => h
  | f + 1, i, n, h => by
    rw [digF]
    cases hg : l[i]? with
    | none => exact h
    | some b =>
      simp only
      split
      · exact h
      · exact digF_le l base f (i + 1) _ (by omega)
def II2 (w : World) (x y : Int) (e : Ending) (w' : World) : Prop := e = .returned (.tuple #[.int .i64 x, .int .i64 y]) ∧ w' = w
def DgW (u : ByteArray) (base : Nat) (E : Nat × Nat) (w : World) (v6 v7 : Value) (wr : World) : Prop := ∃ k n f : Nat, v7 = .int .i64 (k : Int) ∧ v6 = .int .i64 (n : Int) ∧ k ≤ u.size ∧ u.size ≤ k + f ∧ n ≤ 100000000 ∧ digF u.data.toList base f k n = E ∧ wr = w
set_option maxHeartbeats 4000000 in
set_option maxRecDepth 100000 in
theorem refdigits_any (u : ByteArray) (base F : Nat) (w : World) (hs : u.size ≤ 1099511627776) (hb : base ≤ 16) (hF : u.size ≤ F) : Calls Tryd.prog 94 #[.string u, .int .i64 (base : Int)] w (II2 w ((digF u.data.toList base F 0 0).2 : Nat) ((digF u.data.toList base F 0 0).1 : Nat)) := by
  obtain ⟨E, hE⟩ : ∃ E, digF u.data.toList base F 0 0 = E := ⟨_, rfl⟩
  rw [hE]
  have H0 := Lib.hid (show DgW u base E w (.int .i64 0) (.int .i64 0) w from ⟨0, 0, F, rfl, rfl, Nat.zero_le _, by omega, by omega, hE, rfl⟩)
  have HX := Lib.hid fun (b : UInt8) w' => refhex_any b w'
  clear hE
  go_enter Tryd.func94, Tryd.ntmps94
  go_wp2
  go_loopw [6, 7, 8] (fun v6 v7 _ wr => DgW u base E w v6 v7 wr) (fun _ v7 _ _ => u.size - (intOf v7).toNat)
  case atStart => exact H0.out
  case round =>
    obtain ⟨k, n, f, rfl, rfl, hk, hf, hn, hu, hwr⟩ := hrel
    have hwr2 := hwr.symm
    subst hwr2
    clear hwr H0
    have HU := Lib.hid hu
    clear hu
    by_cases hlt : k < u.size
    · have hki : (k : Int) < (u.size : Int) := by omega
      obtain ⟨f, rfl⟩ : ∃ f', f = f' + 1 := ⟨f - 1, by omega⟩
      have hu := HU.out
      rw [digF, get_list u k hlt] at hu
      simp only at hu
      obtain ⟨b, hb'⟩ : ∃ b, u[k] = b := ⟨_, rfl⟩
      rw [hb'] at hu
      have HXb := Lib.hid fun w' => HX.out b w'
      have hr := hexI_in b
      obtain ⟨d, hd⟩ : ∃ d, hexI b = d := ⟨_, rfl⟩
      rw [hd] at HXb hu hr
      by_cases hc : d < 0 ∨ (base : Int) ≤ d
      · rw [if_pos hc] at hu
        have HV := Lib.hid hu
        clear hu HU hd
        by_cases h0 : d < 0
        · clear hc
          go_wp2_with fail
          (try rw [hb'])
          refine Calls.mono (HXb.out _) ?_
          rintro e w' ⟨rfl, rfl⟩
          go_wp2
          go_ret2
          rw [← HV.out]
          exact ⟨rfl, rfl⟩
        · have hbd : (base : Int) ≤ d := hc.resolve_left h0
          clear hc
          go_wp2_with fail
          (try rw [hb'])
          refine Calls.mono (HXb.out _) ?_
          rintro e w' ⟨rfl, rfl⟩
          go_wp2
          go_ret2
          rw [← HV.out]
          exact ⟨rfl, rfl⟩
      · rw [if_neg hc] at hu
        have h0 : ¬ d < 0 := fun h => hc (.inl h)
        have hbd : ¬ (base : Int) ≤ d := fun h => hc (.inr h)
        obtain ⟨d, rfl⟩ : ∃ d' : Nat, d = d' := ⟨d.toNat, by omega⟩
        rw [Int.toNat_natCast] at hu
        have HV := Lib.hid hu
        have hmul : n * base ≤ 1600000000 := Nat.le_trans (Nat.mul_le_mul hn hb) (by decide)
        obtain ⟨p, hp⟩ : ∃ p, n * base = p := ⟨_, rfl⟩
        have hpi : (n : Int) * (base : Int) = (p : Int) := by rw [← hp]; simp
        rw [hp] at hmul
        have HP := Lib.hid hp
        have hmin : min ((p : Int) + (d : Int)) 100000000 = ((min (p + d) 100000000 : Nat) : Int) := by omega
        have HMin := Lib.hid hmin
        clear hu HU hd hc hp hmin
        go_wp2_with fail
        (try rw [hb'])
        refine Calls.mono (HXb.out _) ?_
        rintro e w' ⟨rfl, rfl⟩
        go_wp2_with fail
        go_roundw
        case rel => exact ⟨k + 1, min (p + d) 100000000, f, rfl, by first | exact congrArg _ HMin.out | rw [HMin.out] | (simp only [Int.min_def]; congr 1; split <;> omega), by omega, by omega, by omega, by rw [← HP.out]; exact HV.out, by first | rfl | trivial⟩
        case measure => simp [intOf]; omega
    · have hk2 : k = u.size := by omega
      have hu := HU.out
      have HV := Lib.hid (show E = (n, k) by
        rw [← hu, hk2]
        cases f with
        | zero => rfl
        | succ f => rw [digF, get_none u u.size (Nat.lt_irrefl _)])
      clear hu hk2 HU
      go_wp2
      go_ret2
      rw [HV.out]
      exact ⟨rfl, rfl⟩

theorem isX_all : ∀ n : Fin 256, isX (UInt8.ofNat n.val) = (decide (n.val = 120) || decide (n.val = 88)) := by decide +kernel
theorem isX_at (b : UInt8) : isX b = (decide (b.toNat = 120) || decide (b.toNat = 88)) := by
  have h := isX_all ⟨b.toNat, UInt8.toNat_lt b⟩
  rw [show UInt8.ofNat (⟨b.toNat, UInt8.toNat_lt b⟩ : Fin 256).val = b from UInt8.toNat_inj.1 (by rw [UInt8.toNat_ofNat']; exact Nat.mod_eq_of_lt (UInt8.toNat_lt b))] at h
  exact h
/-- The reference's numeric: where it ends, how many digits, their number. -/
def refNum (l : List UInt8) : Nat × Nat × Nat :=
  if Lib.hasPrefix l [38, 35] then (if (digF (l.drop (baseOf l).1) (baseOf l).2 l.length 0 0).2 = 0 then (0, 0, 0) else ((baseOf l).1 + (digF (l.drop (baseOf l).1) (baseOf l).2 l.length 0 0).2, (digF (l.drop (baseOf l).1) (baseOf l).2 l.length 0 0).2, (digF (l.drop (baseOf l).1) (baseOf l).2 l.length 0 0).1)) else (0, 0, 0)
def TriQ (w : World) (x : Nat × Nat × Nat) (e : Ending) (w' : World) : Prop := e = .returned (.tuple #[.int .i64 (x.1 : Int), .int .i64 (x.2.1 : Int), .int .i64 (x.2.2 : Int)]) ∧ w = w'
set_option maxHeartbeats 4000000 in
set_option maxRecDepth 100000 in
theorem refnumeric_any (s : ByteArray) (w : World) (hs : s.size ≤ 1099511627776) : Calls Tryd.prog 68 #[.string s] w (TriQ w (refNum s.data.toList)) := by
  have hl : s.data.toList.length = s.size := Array.length_toList
  have HB := Lib.hid fun w' => begins_any s ⟨#[38, 35]⟩ w'
  obtain ⟨q, hq⟩ : ∃ q, Lib.hasPrefix s.data.toList [38, 35] = q := ⟨_, rfl⟩
  rw [show (⟨#[38, 35]⟩ : ByteArray).data.toList = [38, 35] from rfl, hq] at HB
  cases q with
  | false =>
    have hv : refNum s.data.toList = (0, 0, 0) := by unfold refNum; rw [hq, if_neg Bool.false_ne_true]
    rw [hv]
    clear hv hq hl
    go_enter Tryd.func68, Tryd.ntmps68
    go_wp2_with fail
    refine Calls.mono (HB.out _) ?_
    rintro e w' ⟨rfl, rfl⟩
    go_wp2
    go_ret3
    exact ⟨rfl, rfl⟩
  | true =>
    have hpre : [38, 35] <+: s.data.toList := by
      unfold Lib.hasPrefix at hq
      exact List.isPrefixOf_iff_prefix.1 hq
    have hz2 : 2 ≤ s.size := by have := hpre.length_le; rw [hl] at this; simpa using this
    have hz2i : (2 : Int) ≤ (s.size : Int) := by omega
    by_cases h3 : 2 < s.size
    · have h3i : (2 : Int) < (s.size : Int) := by omega
      have hg := get_list s 2 h3
      obtain ⟨c, hc⟩ : ∃ c, s[2] = c := ⟨_, rfl⟩
      rw [hc] at hg
      have hx := isX_at c
      have hx2 : x2 s.data.toList = isX c := by unfold x2; rw [hg]
      by_cases h120 : c.toNat = 120
      · have i1 : ((c.toNat : Int) == 120) = true := by rw [h120]; rfl
        have hbo : baseOf s.data.toList = (3, 16) := by unfold baseOf; rw [hx2, hx, h120]; rfl
        have hnum : refNum s.data.toList = if (digF (s.data.toList.drop 3) 16 s.size 0 0).2 = 0 then (0, 0, 0) else (3 + (digF (s.data.toList.drop 3) 16 s.size 0 0).2, (digF (s.data.toList.drop 3) 16 s.size 0 0).2, (digF (s.data.toList.drop 3) 16 s.size 0 0).1) := by
          unfold refNum
          rw [hq, if_pos rfl, hbo, hl]
        obtain ⟨u, hu⟩ : ∃ u, s.extract 3 s.size = u := ⟨_, rfl⟩
        have hul : u.data.toList = s.data.toList.drop 3 := by
          rw [← hu, Lib.extract_data, List.take_of_length_le]
          rw [List.length_drop, hl]; omega
        have huz : u.size ≤ s.size := by rw [← hu, ByteArray.size_extract]; omega
        have HD := Lib.hid fun w' => refdigits_any u 16 s.size w' (by omega) (by decide) huz
        have hin := (digF_in u.data.toList 16 s.size 0 0 (Nat.zero_le _)).2
        have hle := digF_le u.data.toList 16 s.size 0 0 (by decide)
        rw [show u.data.toList.length = u.size from Array.length_toList] at hin
        rw [← hul] at hnum
        obtain ⟨⟨m, n⟩, hmn⟩ : ∃ x, digF u.data.toList 16 s.size 0 0 = x := ⟨_, rfl⟩
        rw [hmn] at HD hnum hin hle
        simp only at hnum hin hle
        have HU := Lib.hid hu
        by_cases h0 : n = 0
        · have i0 : ((n : Int) == 0) = true := by rw [h0]; rfl
          rw [if_pos h0] at hnum
          rw [hnum]
          clear hnum hq hl hpre hmn hul hu hbo hg hx hx2 h0
          go_enter Tryd.func68, Tryd.ntmps68
          go_wp2_with fail
          refine Calls.mono (HB.out _) ?_
          rintro e w' ⟨rfl, rfl⟩
          go_wp2_with fail
          (try rw [hc])
          go_wp2_with fail
          rw [HU.out]
          refine Calls.mono (HD.out _) ?_
          rintro e w' ⟨rfl, rfl⟩
          go_wp2
          go_ret3
          exact ⟨rfl, rfl⟩
        · have i0 : ((n : Int) == 0) = false := by rw [beq_eq_false_iff_ne]; omega
          rw [if_neg h0] at hnum
          rw [hnum]
          clear hnum hq hl hpre hmn hul hu hbo hg hx hx2 h0
          go_enter Tryd.func68, Tryd.ntmps68
          go_wp2_with fail
          refine Calls.mono (HB.out _) ?_
          rintro e w' ⟨rfl, rfl⟩
          go_wp2_with fail
          (try rw [hc])
          go_wp2_with fail
          rw [HU.out]
          refine Calls.mono (HD.out _) ?_
          rintro e w' ⟨rfl, rfl⟩
          go_wp2
          go_ret3
          exact ⟨rfl, rfl⟩
      · have i1 : ((c.toNat : Int) == 120) = false := by rw [beq_eq_false_iff_ne]; omega
        by_cases h88 : c.toNat = 88
        · have i2 : ((c.toNat : Int) == 88) = true := by rw [h88]; rfl
          have hbo : baseOf s.data.toList = (3, 16) := by unfold baseOf; rw [hx2, hx, h88]; rfl
          have hnum : refNum s.data.toList = if (digF (s.data.toList.drop 3) 16 s.size 0 0).2 = 0 then (0, 0, 0) else (3 + (digF (s.data.toList.drop 3) 16 s.size 0 0).2, (digF (s.data.toList.drop 3) 16 s.size 0 0).2, (digF (s.data.toList.drop 3) 16 s.size 0 0).1) := by
            unfold refNum
            rw [hq, if_pos rfl, hbo, hl]
          obtain ⟨u, hu⟩ : ∃ u, s.extract 3 s.size = u := ⟨_, rfl⟩
          have hul : u.data.toList = s.data.toList.drop 3 := by
            rw [← hu, Lib.extract_data, List.take_of_length_le]
            rw [List.length_drop, hl]; omega
          have huz : u.size ≤ s.size := by rw [← hu, ByteArray.size_extract]; omega
          have HD := Lib.hid fun w' => refdigits_any u 16 s.size w' (by omega) (by decide) huz
          have hin := (digF_in u.data.toList 16 s.size 0 0 (Nat.zero_le _)).2
          have hle := digF_le u.data.toList 16 s.size 0 0 (by decide)
          rw [show u.data.toList.length = u.size from Array.length_toList] at hin
          rw [← hul] at hnum
          obtain ⟨⟨m, n⟩, hmn⟩ : ∃ x, digF u.data.toList 16 s.size 0 0 = x := ⟨_, rfl⟩
          rw [hmn] at HD hnum hin hle
          simp only at hnum hin hle
          have HU := Lib.hid hu
          by_cases h0 : n = 0
          · have i0 : ((n : Int) == 0) = true := by rw [h0]; rfl
            rw [if_pos h0] at hnum
            rw [hnum]
            clear hnum hq hl hpre hmn hul hu hbo hg hx hx2 h0
            go_enter Tryd.func68, Tryd.ntmps68
            go_wp2_with fail
            refine Calls.mono (HB.out _) ?_
            rintro e w' ⟨rfl, rfl⟩
            go_wp2_with fail
            (try rw [hc])
            go_wp2_with fail
            rw [HU.out]
            refine Calls.mono (HD.out _) ?_
            rintro e w' ⟨rfl, rfl⟩
            go_wp2
            go_ret3
            exact ⟨rfl, rfl⟩
          · have i0 : ((n : Int) == 0) = false := by rw [beq_eq_false_iff_ne]; omega
            rw [if_neg h0] at hnum
            rw [hnum]
            clear hnum hq hl hpre hmn hul hu hbo hg hx hx2 h0
            go_enter Tryd.func68, Tryd.ntmps68
            go_wp2_with fail
            refine Calls.mono (HB.out _) ?_
            rintro e w' ⟨rfl, rfl⟩
            go_wp2_with fail
            (try rw [hc])
            go_wp2_with fail
            rw [HU.out]
            refine Calls.mono (HD.out _) ?_
            rintro e w' ⟨rfl, rfl⟩
            go_wp2
            go_ret3
            exact ⟨rfl, rfl⟩
        · have i2 : ((c.toNat : Int) == 88) = false := by rw [beq_eq_false_iff_ne]; omega
          have hbo : baseOf s.data.toList = (2, 10) := by unfold baseOf; rw [hx2, hx, decide_eq_false h120, decide_eq_false h88]; rfl
          have hnum : refNum s.data.toList = if (digF (s.data.toList.drop 2) 10 s.size 0 0).2 = 0 then (0, 0, 0) else (2 + (digF (s.data.toList.drop 2) 10 s.size 0 0).2, (digF (s.data.toList.drop 2) 10 s.size 0 0).2, (digF (s.data.toList.drop 2) 10 s.size 0 0).1) := by
            unfold refNum
            rw [hq, if_pos rfl, hbo, hl]
          obtain ⟨u, hu⟩ : ∃ u, s.extract 2 s.size = u := ⟨_, rfl⟩
          have hul : u.data.toList = s.data.toList.drop 2 := by
            rw [← hu, Lib.extract_data, List.take_of_length_le]
            rw [List.length_drop, hl]; omega
          have huz : u.size ≤ s.size := by rw [← hu, ByteArray.size_extract]; omega
          have HD := Lib.hid fun w' => refdigits_any u 10 s.size w' (by omega) (by decide) huz
          have hin := (digF_in u.data.toList 10 s.size 0 0 (Nat.zero_le _)).2
          have hle := digF_le u.data.toList 10 s.size 0 0 (by decide)
          rw [show u.data.toList.length = u.size from Array.length_toList] at hin
          rw [← hul] at hnum
          obtain ⟨⟨m, n⟩, hmn⟩ : ∃ x, digF u.data.toList 10 s.size 0 0 = x := ⟨_, rfl⟩
          rw [hmn] at HD hnum hin hle
          simp only at hnum hin hle
          have HU := Lib.hid hu
          by_cases h0 : n = 0
          · have i0 : ((n : Int) == 0) = true := by rw [h0]; rfl
            rw [if_pos h0] at hnum
            rw [hnum]
            clear hnum hq hl hpre hmn hul hu hbo hg hx hx2 h0
            go_enter Tryd.func68, Tryd.ntmps68
            go_wp2_with fail
            refine Calls.mono (HB.out _) ?_
            rintro e w' ⟨rfl, rfl⟩
            go_wp2_with fail
            (try rw [hc])
            go_wp2_with fail
            rw [HU.out]
            refine Calls.mono (HD.out _) ?_
            rintro e w' ⟨rfl, rfl⟩
            go_wp2
            go_ret3
            exact ⟨rfl, rfl⟩
          · have i0 : ((n : Int) == 0) = false := by rw [beq_eq_false_iff_ne]; omega
            rw [if_neg h0] at hnum
            rw [hnum]
            clear hnum hq hl hpre hmn hul hu hbo hg hx hx2 h0
            go_enter Tryd.func68, Tryd.ntmps68
            go_wp2_with fail
            refine Calls.mono (HB.out _) ?_
            rintro e w' ⟨rfl, rfl⟩
            go_wp2_with fail
            (try rw [hc])
            go_wp2_with fail
            rw [HU.out]
            refine Calls.mono (HD.out _) ?_
            rintro e w' ⟨rfl, rfl⟩
            go_wp2
            go_ret3
            exact ⟨rfl, rfl⟩
    · have h3i : ¬ (2 : Int) < (s.size : Int) := by omega
      have hbo : baseOf s.data.toList = (2, 10) := by unfold baseOf x2; rw [get_none s 2 h3]; rfl
      have hnum : refNum s.data.toList = if (digF (s.data.toList.drop 2) 10 s.size 0 0).2 = 0 then (0, 0, 0) else (2 + (digF (s.data.toList.drop 2) 10 s.size 0 0).2, (digF (s.data.toList.drop 2) 10 s.size 0 0).2, (digF (s.data.toList.drop 2) 10 s.size 0 0).1) := by
        unfold refNum
        rw [hq, if_pos rfl, hbo, hl]
      obtain ⟨u, hu⟩ : ∃ u, s.extract 2 s.size = u := ⟨_, rfl⟩
      have hul : u.data.toList = s.data.toList.drop 2 := by
        rw [← hu, Lib.extract_data, List.take_of_length_le]
        rw [List.length_drop, hl]; omega
      have huz : u.size ≤ s.size := by rw [← hu, ByteArray.size_extract]; omega
      have HD := Lib.hid fun w' => refdigits_any u 10 s.size w' (by omega) (by decide) huz
      have hin := (digF_in u.data.toList 10 s.size 0 0 (Nat.zero_le _)).2
      have hle := digF_le u.data.toList 10 s.size 0 0 (by decide)
      rw [show u.data.toList.length = u.size from Array.length_toList] at hin
      rw [← hul] at hnum
      obtain ⟨⟨m, n⟩, hmn⟩ : ∃ x, digF u.data.toList 10 s.size 0 0 = x := ⟨_, rfl⟩
      rw [hmn] at HD hnum hin hle
      simp only at hnum hin hle
      have HU := Lib.hid hu
      by_cases h0 : n = 0
      · have i0 : ((n : Int) == 0) = true := by rw [h0]; rfl
        rw [if_pos h0] at hnum
        rw [hnum]
        clear hnum hq hl hpre hmn hul hu hbo h0
        go_enter Tryd.func68, Tryd.ntmps68
        go_wp2_with fail
        refine Calls.mono (HB.out _) ?_
        rintro e w' ⟨rfl, rfl⟩
        go_wp2_with fail
        rw [HU.out]
        refine Calls.mono (HD.out _) ?_
        rintro e w' ⟨rfl, rfl⟩
        go_wp2
        go_ret3
        exact ⟨rfl, rfl⟩
      · have i0 : ((n : Int) == 0) = false := by rw [beq_eq_false_iff_ne]; omega
        rw [if_neg h0] at hnum
        rw [hnum]
        clear hnum hq hl hpre hmn hul hu hbo h0
        go_enter Tryd.func68, Tryd.ntmps68
        go_wp2_with fail
        refine Calls.mono (HB.out _) ?_
        rintro e w' ⟨rfl, rfl⟩
        go_wp2_with fail
        rw [HU.out]
        refine Calls.mono (HD.out _) ?_
        rintro e w' ⟨rfl, rfl⟩
        go_wp2
        go_ret3
        exact ⟨rfl, rfl⟩
end Go.Proofs.YtbcfhpomclkccaaDoor
