/- The reference's Norm. The reference's Norm: its walk. -/
import Derived.Test.YtbcfhpomclkccaaDoorRsFq
import Derived.Test.YtbcfhpomclkccaaDoorRsRl
import Derived.Test.YtbcfhpomclkccaaDoorAcc2
namespace Go.Proofs.YtbcfhpomclkccaaDoor
open Go.RowKit

/-- As the reference builds it: a blank already laid where one may follow. -/
def rsF : List UInt8 → List UInt8 → List UInt8
  | [], acc => acc
  | c :: l, acc => if ws3 c then rsF l (if acc ≠ [] ∧ acc.getLast? ≠ some 32 then acc ++ [32] else acc) else rsF l (acc ++ [c])
def cutE (l : List UInt8) : List UInt8 := if l.getLast? = some 32 then l.dropLast else l
/-- acc of the reference is acc of sqF, with a blank behind where one is due. -/
def RelS (a b : List UInt8) (g : Bool) : Prop := b.getLast? ≠ some 32 ∧ (a = if g = true ∧ b ≠ [] then b ++ [32] else b)
theorem sq_ref : ∀ (l a b : List UInt8) (g : Bool), RelS a b g → cutE (rsF l a) = sqF l b g
  | [], a, b, g, h => by
    obtain ⟨h1, h2⟩ := h
    rw [rsF, sqF, h2]
    unfold cutE
    by_cases hc : g = true ∧ b ≠ []
    · rw [if_pos hc, if_pos (by simp)]
      simp
    · rw [if_neg hc, if_neg h1]
  | c :: l, a, b, g, h => by
    obtain ⟨h1, h2⟩ := h
    rw [rsF, sqF]
    by_cases hw : ws3 c = true
    · rw [if_pos hw, if_pos hw]
      refine sq_ref l _ b true ⟨h1, ?_⟩
      rw [h2]
      by_cases hb : b = []
      · subst hb; simp
      · cases g with
        | true => simp [hb]
        | false => simp [hb, h1]
    · rw [if_neg hw, if_neg hw]
      have hc32 : ¬ c = 32 := fun e => hw (by rw [e]; rfl)
      have hbe : (b.isEmpty = true) ↔ b = [] := List.isEmpty_iff
      refine sq_ref l _ _ false ⟨?_, ?_⟩
      · simp [hc32]
      · rw [h2]
        cases g with
        | false => simp
        | true =>
          by_cases hb : b = []
          · subst hb; simp
          · have : b.isEmpty = false := by cases b with | nil => exact absurd rfl hb | cons _ _ => rfl
            simp [hb, this]
theorem sq_norm (l : List UInt8) : cutE (rsF l []) = sqL l := sq_ref l [] [] true ⟨by simp, by simp⟩
theorem rsF_len : ∀ (l a : List UInt8), (rsF l a).length ≤ a.length + l.length
  | [], a => by simp [rsF]
  | c :: l, a => by
    rw [rsF]
    split
    · have := rsF_len l (if a ≠ [] ∧ a.getLast? ≠ some 32 then a ++ [32] else a)
      refine Nat.le_trans this ?_
      split <;> simp <;> omega
    · have := rsF_len l (a ++ [c])
      simp at this ⊢
      omega
/-- Of two blanks at the end the reference never has more than one. -/
theorem rsF_last : ∀ (l a : List UInt8), (∀ x, a = x ++ [32] → x.getLast? ≠ some 32) → ∀ x, rsF l a = x ++ [32] → x.getLast? ≠ some 32
  | [], a, h, x, hx => h x (by rw [← hx]; rfl)
  | c :: l, a, h, x, hx => by
    rw [rsF] at hx
    split at hx
    · refine rsF_last l _ ?_ x hx
      intro y hy
      split at hy
      · rename_i hc
        have : a = y := List.append_inj_left' hy rfl
        rw [← this]
        exact hc.2
      · exact h y hy
    · rename_i hw
      refine rsF_last l _ ?_ x hx
      intro y hy
      have : [c] = [32] := List.append_inj_right' hy rfl
      exfalso
      apply hw
      rw [List.cons.inj this |>.1]
      rfl

theorem snoc_cases {α : Type} (l : List α) : l = [] ∨ ∃ y c, l = y ++ [c] := by
  rcases List.eq_nil_or_concat l with h | ⟨y, c, h⟩
  · exact .inl h
  · exact .inr ⟨y, c, by rw [h, List.concat_eq_append]⟩
/-- Without blanks at the end. -/
def cutW (l : List UInt8) : List UInt8 := (l.reverse.dropWhile fun c => c == 32).reverse
theorem cutW_nil : cutW [] = [] := rfl
theorem cutW_32 (l : List UInt8) : cutW (l ++ [32]) = cutW l := by
  unfold cutW
  rw [List.reverse_append]
  rfl
theorem cutW_no (l : List UInt8) (c : UInt8) (h : ¬ c = 32) : cutW (l ++ [c]) = l ++ [c] := by
  unfold cutW
  rw [List.reverse_append]
  show ((c :: l.reverse).dropWhile fun c => c == 32).reverse = _
  rw [List.dropWhile_cons, if_neg (by simpa using h)]
  simp
theorem cutW_last (l : List UInt8) (h : l.getLast? ≠ some 32) : cutW l = l := by
  rcases snoc_cases l with rfl | ⟨y, c, rfl⟩
  · rfl
  · refine cutW_no y c fun e => h ?_
    rw [e]; simp
theorem cutW_norm (l : List UInt8) : cutW (rsF l []) = sqL l := by
  rw [← sq_norm]
  have hl := rsF_last l [] (fun x hx => by simp at hx)
  unfold cutE
  split
  · rename_i h
    have hd : (rsF l []).dropLast ++ [32] = rsF l [] := by
      rcases snoc_cases (rsF l []) with h0 | ⟨y, c, h0⟩
      · rw [h0] at h; cases h
      · rw [h0] at h ⊢
        rw [List.getLast?_concat] at h
        rw [Option.some.inj h, List.dropLast_concat]
    rw [← hd, cutW_32]
    rw [cutW_last _ (hl _ hd.symm)]
    simp
  · rename_i h
    exact cutW_last _ h
theorem Acc.some_slice {w wr : World} {v : Value} {y : List UInt8} {x : UInt8} (h : Acc w v (y ++ [x]) wr) : ∃ g c, v = .slice (some ⟨g, 0, none⟩) (y.length + 1) c ∧ y.length + 1 ≤ c ∧ wr.cell? ⟨g, y.length, none⟩ = some (.int .u8 (x.toNat : Int)) := by
  rcases h.1.2 with ⟨_, h2⟩ | ⟨g, cap, cur, rfl, _, _, hc, _⟩
  · simp at h2
  · refine ⟨g, cap, by simp, by simpa using hc, ?_⟩
    have := h.1.cells (g := g) rfl y.length (u8c x) (by simp)
    have hadd : (⟨g, 0, none⟩ : Addr).add y.length = ⟨g, y.length, none⟩ := by
      unfold Addr.add
      split
      · rename_i h0; rw [h0]
      · simp
    rw [hadd] at this
    exact this
theorem Acc.shrink {w wr : World} {g c : Nat} {y : List UInt8} {x : UInt8} (h : Acc w (.slice (some ⟨g, 0, none⟩) (y.length + 1) c) (y ++ [x]) wr) : Acc w (.slice (some ⟨g, 0, none⟩) y.length c) y wr := by
  refine ⟨⟨by simp, .inr ?_⟩, h.2⟩
  rcases h.1.2 with ⟨h1, _⟩ | ⟨g', cap, cur, he, hb, hg, hc, hm, hz, ht⟩
  · cases h1
  · injection he with e1 e2 e3
    injection e1 with e1
    injection e1 with e1
    subst e1 e3
    refine ⟨g, c, cur, rfl, hb, hg, by omega, hm, hz, ?_⟩
    have h3 : (cur.toList.take ((y ++ [x]).length * 1)).take y.length = ((y ++ [x]).map u8c).take y.length := by rw [ht]
    rw [List.take_take, List.map_append, List.take_left' (by simp)] at h3
    rw [← h3]
    congr 1
    simp
def NwW (w : World) (s : ByteArray) (L : List UInt8) (v3 v4 : Value) (wr : World) : Prop := ∃ (k : Nat) (acc : List UInt8), v4 = .int .i64 (k : Int) ∧ k ≤ s.size ∧ Acc w v3 acc wr ∧ acc.length ≤ k ∧ rsF (s.data.toList.drop k) acc = L
def NwX (w : World) (M : List UInt8) (n : Nat) (v3 : Value) (wr : World) : Prop := ∃ acc : List UInt8, Acc w v3 acc wr ∧ acc.length ≤ n ∧ cutW acc = M
theorem rsF_at (s : ByteArray) (k : Nat) (h : k < s.size) (a : List UInt8) : rsF (s.data.toList.drop k) a = if ws3 s[k] then rsF (s.data.toList.drop (k + 1)) (if a ≠ [] ∧ a.getLast? ≠ some 32 then a ++ [32] else a) else rsF (s.data.toList.drop (k + 1)) (a ++ [s[k]]) := by
  have hl : s.data.toList.length = s.size := Array.length_toList
  have := List.drop_eq_getElem_cons (l := s.data.toList) (i := k) (by omega)
  rw [this, rsF]
  rfl
set_option maxHeartbeats 4000000 in
set_option maxRecDepth 100000 in
theorem refnorm_any (s : ByteArray) (w : World) (hs : s.size ≤ 900000) : Calls Tryd.prog 10 #[.string s] w (FoldR w (normL s.data.toList)) := by
  have hl : s.data.toList.length = s.size := Array.length_toList
  obtain ⟨M, hM⟩ : ∃ M, sqL s.data.toList = M := ⟨_, rfl⟩
  obtain ⟨L, hL⟩ : ∃ L, rsF s.data.toList [] = L := ⟨_, rfl⟩
  have hML : cutW L = M := by rw [← hL, cutW_norm, hM]
  have hMl : M.length ≤ 1000000 := by rw [← hM]; have := sqF_len s.data.toList [] true; rw [if_pos rfl] at this; unfold sqL; simp at this; omega
  have HF := Lib.hid fun w' => reffold_any ⟨M.toArray⟩ w' (by show M.toArray.size ≤ _; simp; exact hMl)
  rw [show (⟨M.toArray⟩ : ByteArray).data.toList = M from rfl] at HF
  obtain ⟨R, hR⟩ : ∃ R, normL s.data.toList = R := ⟨_, rfl⟩
  have hRM : foldL M = R := by rw [← hR, ← hM]; rfl
  rw [hRM] at HF
  rw [hR]
  have HML := Lib.hid hML
  have H0 := Lib.hid (show NwW w s L (.slice none 0 0) (.int .i64 0) w from ⟨0, [], rfl, Nat.zero_le _, Acc.start w, Nat.le_refl _, by rw [List.drop_zero]; exact hL⟩)
  clear hl hM hL hML hMl hR hRM
  go_enter Tryd.func10, Tryd.ntmps10
  go_wp2
  go_loopw [3, 4] (fun v3 v4 wr => NwW w s L v3 v4 wr) (fun _ v4 _ => s.size - (intOf v4).toNat)
  case atStart => exact H0.out
  case round =>
    obtain ⟨k, acc, rfl, hk, hacc, hal, hr⟩ := hrel
    clear H0
    by_cases hlt : k < s.size
    · have hki : (k : Int) < (s.size : Int) := by omega
      have hst := rsF_at s k hlt acc
      rw [hr] at hst
      obtain ⟨c, hc⟩ : ∃ c, s[k] = c := ⟨_, rfl⟩
      rw [hc] at hst
      have HW := Lib.hid fun w' => white_any c w'
      cases hw : ws3 c with
      | false =>
        rw [hw] at HW hst
        rw [if_neg Bool.false_ne_true] at hst
        obtain ⟨A, m, cp, rfl⟩ := hacc.slice
        have HA := Lib.hid hacc
        have HR := Lib.hid hst
        have HAL := Lib.hid hal
        clear hacc hr hst hw
        go_wp2_with fail
        (try rw [hc])
        go_wp2_with fail
        refine Calls.mono (HW.out _) ?_
        rintro e w' ⟨rfl, rfl⟩
        go_wp2_with (at_builtin; refine wpList_acc rfl (.tmp 16) (.tmp 20) rfl _ _ rfl (HA.out.alloc (.cells #[.int .u8 (c.toNat : Int)] 5)) ⟨wr.heap.size, 0, none⟩ 1 1 [c] rfl rfl (one_new wr c) (by have := HAL.out; simp; omega) ?_)
        intro v' W1 hst1
        obtain ⟨A', m', c', rfl⟩ := hst1.slice
        have HS1 := Lib.hid hst1
        clear hst1
        go_wp2
        go_roundw
        case rel => exact ⟨k + 1, acc ++ [c], rfl, by omega, HS1.out, by have := HAL.out; simp; omega, HR.out.symm⟩
        case measure => simp [intOf]; omega
      | true =>
        rw [hw] at HW hst
        rw [if_pos rfl] at hst
        rcases snoc_cases acc with rfl | ⟨y, x, rfl⟩
        · obtain ⟨A, m, cp, hv⟩ := hacc.slice
          have hm : m = 0 := by
            rcases hacc.1.2 with ⟨h1, _⟩ | ⟨g, cap, cur, h1, _⟩
            · rw [hv] at h1; cases h1; rfl
            · rw [hv] at h1; cases h1; rfl
          subst hm hv
          rw [if_neg (by simp)] at hst
          have HA := Lib.hid hacc
          have HR := Lib.hid hst
          clear hacc hr hst hw
          go_wp2_with fail
          (try rw [hc])
          go_wp2_with fail
          refine Calls.mono (HW.out _) ?_
          rintro e w' ⟨rfl, rfl⟩
          go_wp2
          go_roundw
          case rel => exact ⟨k + 1, [], rfl, by omega, HA.out, by simp, HR.out.symm⟩
          case measure => simp [intOf]; omega
        · obtain ⟨g, cp, rfl, hcp, hcell⟩ := hacc.some_slice
          have hyl : y.length ≤ 1000000 := by simp at hal; omega
          obtain ⟨n, hn⟩ : ∃ n, y.length = n := ⟨_, rfl⟩
          rw [hn] at hacc hcell hyl hcp
          have HA := Lib.hid hacc
          have HAL := Lib.hid hal
          by_cases hx : x = 32
          · rw [if_neg (by rw [hx]; simp)] at hst
            have ix : ((x.toNat : Int) != 32) = false := by rw [hx]; rfl
            have HR := Lib.hid hst
            clear hacc hr hst hw hx hal
            go_wp2_with fail
            (try rw [hc])
            go_wp2_with fail
            refine Calls.mono (HW.out _) ?_
            rintro e w' ⟨rfl, rfl⟩
            go_wp2
            go_roundw
            case rel => exact ⟨k + 1, y ++ [x], rfl, by omega, HA.out, by have := HAL.out; omega, HR.out.symm⟩
            case measure => simp [intOf]; omega
          · rw [if_pos (by constructor <;> simp [hx])] at hst
            have ix : ((x.toNat : Int) != 32) = true := by rw [show ((x.toNat : Int) != 32) = (x != 32) from bnec x 32]; simpa using hx
            have HR := Lib.hid hst
            clear hacc hr hst hw hx hal
            go_wp2_with fail
            (try rw [hc])
            go_wp2_with fail
            refine Calls.mono (HW.out _) ?_
            rintro e w' ⟨rfl, rfl⟩
            go_wp2_with (at_builtin; refine wpList_acc rfl (.tmp 34) (.tmp 35) rfl _ _ rfl (HA.out.alloc (.cells #[.int .u8 32] 5)) ⟨wr.heap.size, 0, none⟩ 1 1 [32] rfl rfl (one_new wr 32) (by have := HAL.out; simp at this ⊢; omega) ?_)
            intro v' W1 hst1
            obtain ⟨A', m', c', rfl⟩ := hst1.slice
            have HS1 := Lib.hid hst1
            clear hst1
            go_wp2
            go_roundw
            case rel => exact ⟨k + 1, y ++ [x] ++ [32], rfl, by omega, by simpa using HS1.out, by have := HAL.out; simp at this ⊢; omega, HR.out.symm⟩
            case measure => simp [intOf]; omega
    · have hki : ¬ (k : Int) < (s.size : Int) := by omega
      have hll : s.data.toList.length = s.size := Array.length_toList
      have haL : acc = L := by rw [← hr, List.drop_eq_nil_of_le (by omega)]; rfl
      subst haL
      have H1 := Lib.hid (show NwX w M 1000000 u3 wr from ⟨acc, hacc, by omega, HML.out⟩)
      obtain ⟨A, m, cp, rfl⟩ := hacc.slice
      clear hacc hr hll HML hal
      go_wp2
      go_loopw [3] (fun v3 wr => NwX w M 1000000 v3 wr) (fun v3 _ => match v3 with | .slice _ m _ => m | _ => 0)
      case atStart => exact H1.out
      case round =>
        obtain ⟨acc2, hacc, hal, hcut⟩ := hrel
        clear H1
        rcases snoc_cases acc2 with rfl | ⟨y, x, rfl⟩
        · have hm : ∃ A cp, u3 = .slice A 0 cp := by
            rcases hacc.1.2 with ⟨h1, _⟩ | ⟨g, cap, cur, h1, _⟩
            · exact ⟨_, _, h1⟩
            · exact ⟨_, _, h1⟩
          obtain ⟨A, cp, rfl⟩ := hm
          have hM : M = [] := by rw [← hcut]; rfl
          have hstr := hacc.string
          have HB := Lib.hid hacc.2
          clear hacc hcut
          rw [hM] at HF
          clear hM
          go_wp2_with fail
          refine Calls.mono (HF.out _) ?_
          rintro e w3 ⟨rfl, b3⟩
          have HB3 := Lib.hid (below_on HB.out b3)
          clear b3
          go_wp2
          go_ret
          exact ⟨rfl, HB3.out⟩
        · obtain ⟨g, cp, rfl, hcp, hcell⟩ := hacc.some_slice
          have hyl : y.length ≤ 1000000 := by simp at hal; omega
          have hsh : Acc w (.slice (some ⟨g, 0, none⟩) y.length cp) y wr := hacc.shrink
          obtain ⟨n, hn⟩ : ∃ n, y.length = n := ⟨_, rfl⟩
          rw [hn] at hacc hcell hyl hcp hsh
          by_cases hx : x = 32
          · subst hx
            rw [cutW_32] at hcut
            have HA := Lib.hid hsh
            have HC := Lib.hid hcut
            have HAL := Lib.hid hal
            clear hacc hcut hal hsh
            go_wp2
            go_roundw
            case rel => exact ⟨y, HA.out, by have := HAL.out; simp at this; omega, HC.out⟩
            case measure => simp; omega
          · rw [cutW_no y x hx] at hcut
            have ix : ((x.toNat : Int) == 32) = false := by rw [show ((x.toNat : Int) == 32) = (x == 32) from beqc x 32]; exact beq_no hx
            have hstr := hacc.string
            rw [hcut] at hstr
            have HB := Lib.hid hacc.2
            clear hacc hcut hx hal hsh
            go_wp2_with fail
            refine Calls.mono (HF.out _) ?_
            rintro e w3 ⟨rfl, b3⟩
            have HB3 := Lib.hid (below_on HB.out b3)
            clear b3
            go_wp2
            go_ret
            exact ⟨rfl, HB3.out⟩
end Go.Proofs.YtbcfhpomclkccaaDoor
