/- The reference's row and Code: code between backquotes. -/
import Derived.Test.YtikokedphocpiaaGreatDoorRfAttr
import Derived.Test.YtikokedphocpiaaGreatDoorAtCode
import Derived.Test.YtikokedphocpiaaGreatDoorAcc2
namespace Go.Proofs.YtikokedphocpiaaGreatDoor
open Go.RowKit

theorem rowN_run (l : List UInt8) (k : Nat) : rowN l k = run (fun b => b == 96) l k - k := by unfold rowN run; omega
def RowW (w : World) (l : List UInt8) (k : Nat) (v : Value) (wr : World) : Prop := ∃ n : Nat, v = .int .i64 n ∧ k + n ≤ l.length ∧ run (fun b => b == 96) l k = run (fun b => b == 96) l (k + n) ∧ wr = w
set_option maxHeartbeats 1000000 in
set_option maxRecDepth 100000 in
theorem refrow_any (s : ByteArray) (k : Nat) (w : World) (hs : s.size ≤ 1099511627) (hk : k ≤ s.size) : Calls Tryz.prog 25 #[.string s, .int .i64 (k : Int)] w (RI w (rowN s.data.toList k : Nat)) := by
  have hsl : s.data.toList.length = s.size := Array.length_toList
  obtain ⟨l, hl⟩ : ∃ l, s.data.toList = l := ⟨_, rfl⟩
  rw [hl] at hsl ⊢
  have hget : ∀ (k : Nat) (h : k < s.size), l[k]? = some s[k] := fun k h => by rw [← hl]; exact get_list s k h
  obtain ⟨R, hR⟩ : ∃ R, rowN l k = R := ⟨_, rfl⟩
  rw [hR]
  rw [rowN_run] at hR
  have HSL := Lib.hid hsl
  have HGET := Lib.hid hget
  have HR := Lib.hid hR
  clear hsl hget hR hl
  go_enter Tryz.func25, Tryz.ntmps25
  go_wp2_with fail
  go_loopw [5] (fun v wr => RowW w l k v wr) (fun v _ => s.size - (intOf v).toNat)
  case atStart => exact ⟨0, rfl, by rw [HSL.out]; exact hk, rfl, rfl⟩
  case round =>
    obtain ⟨n, rfl, hn, hrr, rfl⟩ := hrel
    have hns : k + n ≤ s.size := by have := HSL.out; omega
    have HRR := Lib.hid hrr
    clear hrr hn
    have hb1 : (k : Int) + (n : Int) ≤ 1099511627 := by omega
    by_cases h2 : k + n < s.size
    · have z2 : decide (k + n < s.size) = true := by simp; omega
      have z3 : (k : Int) + (n : Int) < (s.size : Int) := by omega
      have hg := HGET.out (k + n) h2
      obtain ⟨x, hx⟩ : ∃ x, s[k + n] = x := ⟨_, rfl⟩
      rw [hx] at hg
      have y96 : ((s[k + n].toNat : Int) == 96) = (x == 96) := by rw [hx]; exact beqc x 96
      cases h96 : (x == 96) with
      | true =>
        rw [h96] at y96
        have hrun := run_cond_yes ((condR_some (p := fun b => b == 96) hg).trans h96)
        have HRUN := Lib.hid hrun
        clear hx hg h96 hrun
        go_wp2
        exact ⟨⟨n + 1, by go_num, HRUN.out.1, by rw [HRR.out]; exact HRUN.out.2, rfl⟩, by simp [intOf]; omega⟩
      | false =>
        rw [h96] at y96
        have hrun := run_cond_no ((condR_some (p := fun b => b == 96) hg).trans h96)
        have hv : R = n := by rw [← HR.out, HRR.out, show run (fun b => b == 96) l (k + n) = k + n from hrun]; omega
        subst hv
        clear hx hg h96 hrun HR HRR
        go_wp2
        go_ret
        exact ⟨rfl, rfl⟩
    · have z2 : decide (k + n < s.size) = false := by simp; omega
      have z3 : ¬ (k : Int) + (n : Int) < (s.size : Int) := by omega
      have z3d : decide ((k : Int) + (n : Int) < (s.size : Int)) = false := by simp; omega
      have hrun := run_cond_no (condR_none (p := fun b => b == 96) (l := l) (k := k + n) (by rw [HSL.out]; omega))
      have hv : R = n := by rw [← HR.out, HRR.out, show run (fun b => b == 96) l (k + n) = k + n from hrun]; omega
      subst hv
      clear hrun h2 HR HRR
      go_wp2
      go_ret
      exact ⟨rfl, rfl⟩
set_option maxHeartbeats 1000000 in
set_option maxRecDepth 100000 in
theorem refcode_no (s : ByteArray) (i : Int) (w : World) (_ : s.size ≤ 1099511627) (_ : -9223372036854775808 ≤ i ∧ i ≤ 9223372036854775807) (h : i < 0 ∨ (s.size : Int) ≤ i ∨ ∃ (k : Nat) (hk : k < s.size), i = k ∧ s[k] ≠ 96) :
    Calls Tryz.prog 9 #[.string s, .int .i64 i] w (CodeR w [] 0 false) := by
  by_cases h0 : i < 0
  · have z0 : decide (i < 0) = true := by simpa using h0
    clear h h0
    go_enter Tryz.func9, Tryz.ntmps9
    go_wp2
    go_ret3
    exact ⟨rfl, Below.refl _ _⟩
  · have z0 : decide (i < 0) = false := by simpa using h0
    by_cases h1 : (s.size : Int) ≤ i
    · have z1 : decide ((s.size : Int) ≤ i) = true := by simpa using h1
      clear h h0 h1
      go_enter Tryz.func9, Tryz.ntmps9
      go_wp2
      go_ret3
      exact ⟨rfl, Below.refl _ _⟩
    · rcases h with h | h | ⟨k, hk, rfl, h96⟩
      · exact absurd h h0
      · exact absurd h h1
      have z1 : decide ((s.size : Int) ≤ (k : Int)) = false := by simpa using h1
      have hki : (k : Int) < (s.size : Int) := by omega
      have z96 : ((s[k].toNat : Int) != 96) = true := (bnec s[k] 96).trans (by unfold bne; rw [beq_no h96]; rfl)
      clear h0 h1 h96
      go_enter Tryz.func9, Tryz.ntmps9
      go_wp2
      go_ret3
      exact ⟨rfl, Below.refl _ _⟩
def txL (l : List UInt8) (a j : Nat) : List UInt8 := ((l.drop a).take (j - a)).map noNl
def anyB (l : List UInt8) : Bool := l.any (· != 32)
theorem txL_len (l : List UInt8) (a j : Nat) (h : j ≤ l.length) : (txL l a j).length = j - a := by unfold txL; rw [List.length_map, List.length_take, List.length_drop]; omega
theorem txL_step (l : List UInt8) (a j : Nat) (x : UInt8) (ha : a ≤ j) (h : l[j]? = some x) : txL l a (j + 1) = txL l a j ++ [noNl x] := by
  have hlt := (List.getElem?_eq_some_iff.1 h).1
  have hlt2 : j - a < (l.drop a).length := by rw [List.length_drop]; omega
  unfold txL
  rw [show j + 1 - a = j - a + 1 by omega, List.take_succ_eq_append_getElem hlt2, List.map_append, List.map_singleton]
  have : (l.drop a)[j - a]? = some x := by rw [List.getElem?_drop, show a + (j - a) = j by omega, h]
  rw [(List.getElem?_eq_some_iff.1 this).2]
theorem anyB_add (t : List UInt8) (y : UInt8) : anyB (t ++ [y]) = (anyB t || (y != 32)) := by unfold anyB; rw [List.any_append]; simp
def InnW (w : World) (l : List UInt8) (a k : Nat) (v10 v11 v12 : Value) (wr : World) : Prop := ∃ j : Nat, v12 = .int .i64 j ∧ a ≤ j ∧ j ≤ k ∧ v11 = .bool (anyB (txL l a j)) ∧ Acc w v10 (txL l a j) wr
def OutW (w : World) (l : List UInt8) (n a : Nat) (v : Value) (wr : World) : Prop := ∃ k : Nat, v = .int .i64 k ∧ a ≤ k ∧ k ≤ l.length ∧ cnext l n a = cnext l n k ∧ wr = w
theorem add_off (b o j : Nat) : (⟨b, o, none⟩ : Addr).add j = ⟨b, o + j, none⟩ := by unfold Addr.add; split <;> simp_all
theorem Acc.cells {w wr : World} {g m c : Nat} {acc : List UInt8} (h : Acc w (.slice (some ⟨g, 0, none⟩) m c) acc wr) (j : Nat) (x : UInt8) (hj : acc[j]? = some x) : wr.cell? ⟨g, j, none⟩ = some (.int .u8 (x.toNat : Int)) := by
  have := h.1.cells (g := g) rfl j (u8c x) (by rw [List.getElem?_map, hj]; rfl)
  rwa [add_off, Nat.zero_add] at this
theorem Acc.part {w wr : World} {g m c : Nat} {acc : List UInt8} (h : Acc w (.slice (some ⟨g, 0, none⟩) m c) acc wr) (b : Nat) (t : List UInt8) (ht : ∀ j (hj : j < t.length), acc[b + j]? = some t[j]) (cap : Nat) : (convert 22 9 (.slice (some ⟨g, b, none⟩) t.length cap)).run Tryz.prog wr = .ok (.string ⟨t.toArray⟩) wr := by
  refine run_convert_bytes_back (P := Tryz.prog) wr 22 9 5 ⟨g, b, none⟩ cap t Tryz.underlying22 Tryz.underlying5 Tryz.underlying9 ?_
  intro j hj
  rw [add_off]
  exact h.cells (b + j) _ (ht j hj)
theorem Acc.shape {w wr : World} {v : Value} {acc : List UInt8} (h : Acc w v acc wr) (h0 : 0 < acc.length) : ∃ g cap, v = .slice (some ⟨g, 0, none⟩) acc.length cap ∧ acc.length ≤ cap := by
  rcases h.1.2 with ⟨_, hx⟩ | ⟨g, cap, cur, e, _, _, hc, _⟩
  · omega
  · exact ⟨g, cap, e, hc⟩
theorem shave_none {t : List UInt8} (h : anyB t = false) : shave t = t := by unfold shave; rw [show t.any (· != 32) = false from h]; rfl
theorem has_first (t : List UInt8) (x : UInt8) (h : t.head? = some x) : Lib.hasPrefix t [32] = (x == 32) := by
  cases t with
  | nil => cases h
  | cons a r =>
    have e : a = x := Option.some.inj h
    subst e
    unfold Lib.hasPrefix
    show ((32 == a) && List.isPrefixOf [] r) = _
    rw [List.isPrefixOf_nil_left, Bool.and_true, Bool.beq_comm]
theorem has_final (t : List UInt8) (x : UInt8) (h : t.getLast? = some x) : Lib.hasSuffix t [32] = (x == 32) := by
  unfold Lib.hasSuffix List.isSuffixOf
  have := has_first t.reverse x (by rw [List.head?_reverse, h])
  exact this
theorem shave_by {t : List UInt8} {x y : UInt8} (h : anyB t = true) (hx : t.head? = some x) (hy : t.getLast? = some y) : shave t = if (x == 32) = true then (if (y == 32) = true then (t.drop 1).take (t.length - 2) else t) else t := by
  unfold shave
  rw [show t.any (· != 32) = true from h, has_first t x hx, has_final t y hy]
  cases (x == 32) <;> cases (y == 32) <;> rfl
set_option maxHeartbeats 8000000 in
set_option maxRecDepth 100000 in
theorem refcode_yes (s : ByteArray) (i : Nat) (w : World) (hs : s.size ≤ 1099511627) (hi : i < s.size) (h96 : s[i] = 96) :
    Calls Tryz.prog 9 #[.string s, .int .i64 (i : Int)] w (CodeR w (codeAt s.data.toList i).text (codeAt s.data.toList i).stop (codeAt s.data.toList i).is) := by
  have hki : (i : Int) < (s.size : Int) := by omega
  have z0 : decide ((i : Int) < 0) = false := by simp
  have z1 : decide (s.size ≤ i) = false := by simp; omega
  have z60 : ((s[i].toNat : Int) != 96) = false := by rw [h96]; rfl
  have hsl : s.data.toList.length = s.size := Array.length_toList
  have hci : codeAt s.data.toList i = match cnext s.data.toList (rowN s.data.toList i) (i + rowN s.data.toList i) with
    | none => ⟨[], i + rowN s.data.toList i, false⟩
    | some k => ⟨shave (txL s.data.toList (i + rowN s.data.toList i) k), k + rowN s.data.toList i, true⟩ := by
    unfold codeAt
    rw [Int.toNat_natCast, if_pos ⟨by omega, by rw [get_list s i hi, h96]⟩]
    rfl
  have hROW := fun (k : Nat) w' (hk : k ≤ s.size) => refrow_any s k w' hs hk
  obtain ⟨l, hl⟩ : ∃ l, s.data.toList = l := ⟨_, rfl⟩
  rw [hl] at hsl hci hROW ⊢
  have hget : ∀ (k : Nat) (h : k < s.size), l[k]? = some s[k] := fun k h => by rw [← hl]; exact get_list s k h
  have hnle := rowN_le l i
  obtain ⟨n, hn⟩ : ∃ n, rowN l i = n := ⟨_, rfl⟩
  have hR0 := fun w' => hROW i w' (by omega)
  rw [hn] at hci hnle hR0
  obtain ⟨R, hR⟩ : ∃ R, codeAt l i = R := ⟨_, rfl⟩
  rw [hR] at hci ⊢
  obtain ⟨a, ha⟩ : ∃ a, i + n = a := ⟨_, rfl⟩
  rw [ha] at hci
  have hab : a ≤ s.size := by omega
  have haI : (i : Int) + (n : Int) = (a : Int) := by omega
  have HSL := Lib.hid hsl
  have HGET := Lib.hid hget
  have HCI := Lib.hid hci
  have HROW := Lib.hid hROW
  have HR0 := Lib.hid hR0
  have HAI := Lib.hid haI
  have hin1 : (i : Int) + (n : Int) ≤ 1099511627 := by omega
  clear hsl hget hR hl h96 hci hROW hR0 hn haI hnle ha
  go_enter Tryz.func9, Tryz.ntmps9
  go_wp2_with fail
  refine Calls.mono (HR0.out _) ?_
  rintro e w1 ⟨rfl, rfl⟩
  go_wp2_with fail
  rw [HAI.out]
  go_loopw [8] (fun v8 wx => OutW w l n a v8 wx) (fun v8 _ => s.size - (intOf v8).toNat)
  case atStart => exact ⟨a, rfl, Nat.le_refl _, by rw [HSL.out]; exact hab, rfl, rfl⟩
  case round =>
    obtain ⟨k, rfl, hak, hk, hcn, rfl⟩ := hrel
    have hks : k ≤ s.size := by have := HSL.out; omega
    have HCN := Lib.hid hcn
    clear hcn hk
    by_cases h2 : k < s.size
    · have z2 : (k : Int) < (s.size : Int) := by omega
      have hr := fun w' => HROW.out k w' hks
      have hml := rowN_le l k
      have hkl : k < l.length := by rw [HSL.out]; exact h2
      obtain ⟨m, hm⟩ : ∃ m, rowN l k = m := ⟨_, rfl⟩
      rw [hm] at hr hml
      have HRK := Lib.hid hr
      have hms : k + m ≤ s.size := by have := HSL.out; omega
      have hkb : (k : Int) + (m : Int) ≤ 1099511627 := by omega
      clear hr hml
      by_cases h0 : m = 0
      · have hc := cnext_skip (n := n) hkl (hm.trans h0)
        have HC := Lib.hid hc
        subst h0
        clear hc hm
        go_wp2_with fail
        refine Calls.mono (HRK.out _) ?_
        rintro e w1 ⟨rfl, rfl⟩
        go_wp2
        exact ⟨⟨k + 1, by go_num, by omega, by rw [HSL.out]; exact h2, by rw [HCN.out, HC.out], rfl⟩, by simp [intOf]; omega⟩
      · have y0 : ((m : Int) == 0) = false := by rw [beq_eq_false_iff_ne]; omega
        by_cases hmn : m = n
        · have hc := cnext_found hkl (by rw [hm]; exact h0) (hm.trans hmn)
          have hRv : R = ⟨shave (txL l a k), k + n, true⟩ := by rw [HCI.out, HCN.out, hc]
          have ymn : ((m : Int) != (n : Int)) = false := by rw [hmn]; simp
          have HRV := Lib.hid hRv
          subst hmn
          clear hc hRv hm HCN HCI HROW
          go_wp2_with fail
          refine Calls.mono (HRK.out _) ?_
          rintro e w1 ⟨rfl, rfl⟩
          go_wp2_with fail
          rw [HAI.out]
          go_loopw [10, 11, 12, 13] (fun v10 v11 v12 _ wx => InnW wr l a k v10 v11 v12 wx) (fun _ _ v12 _ _ => k - (intOf v12).toNat)
          case atStart => exact ⟨a, rfl, Nat.le_refl _, hak, by unfold txL; rw [Nat.sub_self]; rfl, by unfold txL; rw [Nat.sub_self]; exact Acc.start _⟩
          case round =>
            obtain ⟨j, rfl, haj, hjk, rfl, hacc⟩ := hrel
            obtain ⟨Aa, ma, ca, rfl⟩ := hacc.slice
            have HA := Lib.hid hacc
            clear hacc
            by_cases h3 : j < k
            · have z3 : (j : Int) < (k : Int) := by omega
              have z4 : (j : Int) < (s.size : Int) := by omega
              have hjs : j < s.size := by omega
              have hg := HGET.out j hjs
              obtain ⟨x, hx⟩ : ∃ x, s[j] = x := ⟨_, rfl⟩
              rw [hx] at hg
              have hst := txL_step l a j x haj hg
              have hll : (txL l a j).length = j - a := txL_len l a j (by have := HSL.out; omega)
              have HLL := Lib.hid hll
              obtain ⟨f, hf⟩ : ∃ f, anyB (txL l a j) = f := ⟨_, rfl⟩
              rw [hf]
              have y10 : ((s[j].toNat : Int) == 10) = (x == 10) := by rw [hx]; exact beqc x 10
              by_cases h10 : x = 10
              · rw [beq_yes h10] at y10
                rw [h10, show noNl 10 = 32 from rfl] at hst
                have han := anyB_add (txL l a j) 32
                rw [← hst, hf] at han
                have han2 : anyB (txL l a (j + 1)) = f := by rw [han]; cases f <;> rfl
                have HST := Lib.hid hst
                have HAN := Lib.hid han2
                clear hst han han2 hx hg hf h10 hll
                cases f with
                | true =>
                  go_wp2_with (at_builtin; refine wpList_acc rfl (.tmp 69) (.tmp 71) rfl _ _ rfl (HA.out.alloc (.cells #[.int .u8 32] 5)) ⟨wr.heap.size, 0, none⟩ 1 1 [32] rfl rfl (one_new _ 32) (by rw [HLL.out]; simp; omega) ?_)
                  intro v' W1 hst2
                  have HST2 := Lib.hid hst2
                  clear hst2
                  go_wp2
                  exact ⟨⟨j + 1, by go_num, by omega, h3, by rw [HAN.out], by rw [HST.out]; exact HST2.out⟩, by simp [intOf]; omega⟩
                | false =>
                  go_wp2_with (at_builtin; refine wpList_acc rfl (.tmp 69) (.tmp 71) rfl _ _ rfl (HA.out.alloc (.cells #[.int .u8 32] 5)) ⟨wr.heap.size, 0, none⟩ 1 1 [32] rfl rfl (one_new _ 32) (by rw [HLL.out]; simp; omega) ?_)
                  intro v' W1 hst2
                  have HST2 := Lib.hid hst2
                  clear hst2
                  go_wp2
                  exact ⟨⟨j + 1, by go_num, by omega, h3, by rw [HAN.out], by rw [HST.out]; exact HST2.out⟩, by simp [intOf]; omega⟩
              · rw [beq_no h10] at y10
                rw [show noNl x = x by unfold noNl; rw [if_neg h10]] at hst
                have han := anyB_add (txL l a j) x
                rw [← hst, hf] at han
                have y10 : ((x.toNat : Int) == 10) = false := (beqc x 10).trans (beq_no h10)
                have HST := Lib.hid hst
                have HX := Lib.hid hx
                cases f with
                | true =>
                  have HAN := Lib.hid (show anyB (txL l a (j + 1)) = true by rw [han]; rfl)
                  clear hst han hg hf h10 hll
                  go_wp2_with (at_builtin; refine wpList_acc rfl (.tmp 69) (.tmp 71) rfl _ _ rfl (HA.out.alloc (.cells #[.int .u8 (x.toNat : Int)] 5)) ⟨wr.heap.size, 0, none⟩ 1 1 [x] rfl rfl (one_new _ x) (by rw [HLL.out]; simp; omega) ?_)
                  intro v' W1 hst2
                  have HST2 := Lib.hid hst2
                  clear hst2
                  go_wp2
                  exact ⟨⟨j + 1, by go_num, by omega, h3, by rw [HAN.out], by rw [HST.out]; exact HST2.out⟩, by simp [intOf]; omega⟩
                | false =>
                  obtain ⟨b, hb⟩ : ∃ b, (x != 32) = b := ⟨_, rfl⟩
                  rw [hb] at han
                  have HAN := Lib.hid (show anyB (txL l a (j + 1)) = b by rw [han]; rfl)
                  have y32 : ((x.toNat : Int) != 32) = b := by rw [← hb]; exact bnec x 32
                  clear hst han hg hf h10 hll hb
                  go_wp2_with (at_builtin; refine wpList_acc rfl (.tmp 69) (.tmp 71) rfl _ _ rfl (HA.out.alloc (.cells #[.int .u8 (x.toNat : Int)] 5)) ⟨wr.heap.size, 0, none⟩ 1 1 [x] rfl rfl (one_new _ x) (by rw [HLL.out]; simp; omega) ?_)
                  intro v' W1 hst2
                  have HST2 := Lib.hid hst2
                  clear hst2
                  go_wp2
                  exact ⟨⟨j + 1, by go_num, by omega, h3, by rw [HAN.out], by rw [HST.out]; exact HST2.out⟩, by simp [intOf]; omega⟩
            · have hjk2 : j = k := by omega
              subst hjk2
              obtain ⟨t, ht⟩ : ∃ t, txL l a j = t := ⟨_, rfl⟩
              have hA := HA.out
              rw [ht] at hA
              have hRt : R = ⟨shave t, j + m, true⟩ := by rw [HRV.out, ht]
              have hlt : t.length = j - a := by rw [← ht]; exact txL_len l a j (by have := HSL.out; omega)
              have hz : ¬ (j : Int) < (j : Int) := by omega
              rw [ht]
              clear ht HRV HA hjk haj h3
              cases hf : anyB t with
              | false =>
                rw [shave_none hf] at hRt
                subst hRt
                have hcv := hA.string
                have HA := Lib.hid hA
                clear hf hlt hA
                go_wp2
                go_ret3
                exact ⟨rfl, HA.out.below⟩
              | true =>
                have h0 : 0 < t.length := by
                  cases t with
                  | nil => cases hf
                  | cons _ _ => simp
                obtain ⟨g, cap, e, hcap⟩ := hA.shape h0
                cases e
                obtain ⟨x, hx⟩ : ∃ x, t.head? = some x := by
                  cases t with
                  | nil => simp at h0
                  | cons x _ => exact ⟨x, rfl⟩
                have hxl : t[0]? = some x := by rw [← List.head?_eq_getElem?, hx]
                obtain ⟨y, hy⟩ : ∃ y, t.getLast? = some y := ⟨_, List.getLast?_eq_some_getLast (fun e => by rw [e] at h0; simp at h0)⟩
                have hyl : t[t.length - 1]? = some y := by rw [← List.getLast?_eq_getElem?, hy]
                have cx := hA.cells 0 x hxl
                have cy := hA.cells (t.length - 1) y hyl
                have hsh := shave_by hf hx hy
                rw [hsh] at hRt
                obtain ⟨q, hq⟩ : ∃ q, t.length = q := ⟨_, rfl⟩
                have hcv := hA.string
                have hpt := fun (h2 : 2 ≤ t.length) c' => hA.part 1 ((t.drop 1).take (t.length - 2)) (fun j hj => by
                  rw [List.length_take, List.length_drop] at hj
                  rw [List.getElem_take, List.getElem_drop, List.getElem?_eq_getElem (by omega)]) c'
                have hpl : ((t.drop 1).take (t.length - 2)).length = t.length - 2 := by rw [List.length_take, List.length_drop]; omega
                rw [hpl] at hpt
                have h2t : (x == 32) = true → 2 ≤ t.length := fun e => by
                  rcases Nat.lt_or_ge t.length 2 with h | h
                  · exfalso
                    match t, h0, h, hx, hf with
                    | [b], _, _, hx, hf =>
                      have e2 : b = x := Option.some.inj hx
                      rw [e2] at hf
                      have e3 : x = 32 := by simpa using e
                      rw [e3] at hf
                      cases hf
                  · exact h
                rw [hq] at hRt cy hcv hpt h2t hlt hcap h0 hA ⊢
                have HA := Lib.hid hA
                have hqb : q ≤ 1099511627 := by omega
                have n0 : 0 < q := h0
                have n0i : (0 : Int) < (q : Int) := by omega
                have n1i : (q : Int) - 1 < (q : Int) := by omega
                have n2i : (0 : Int) ≤ (q : Int) - 1 := by omega
                have n3 : ((q : Int) - 1).toNat = q - 1 := by omega
                have yx : ((x.toNat : Int) == 32) = (x == 32) := beqc x 32
                have yy : ((y.toNat : Int) == 32) = (y == 32) := beqc y 32
                have HCAP := Lib.hid hcap
                clear hf hx hy hxl hyl hsh hpl hq hlt hA hcap
                cases hx32 : (x == 32) with
                | false =>
                  rw [hx32] at yx hRt
                  subst hRt
                  clear hpt h2t hx32 cy
                  go_wp2
                  go_ret3
                  exact ⟨rfl, HA.out.below⟩
                | true =>
                  have hq2 := h2t hx32
                  rw [hx32] at yx hRt
                  cases hy32 : (y == 32) with
                  | false =>
                    rw [hy32] at yy hRt
                    subst hRt
                    clear hpt h2t hx32 hy32
                    go_wp2
                    go_ret3
                    exact ⟨rfl, HA.out.below⟩
                  | true =>
                    rw [hy32] at yy hRt
                    have hp2 := hpt hq2
                    rw [show q - 2 = q - 1 - 1 by omega] at hp2 hRt
                    have f1 : (1 : Int) ≤ (q : Int) := by omega
                    have f2 : (q : Int) - 1 ≤ (ca : Int) := by have := HCAP.out; omega
                    have f3 : ¬ ca = 1 := by have := HCAP.out; omega
                    have f4 : (1 : Int) ≤ (q : Int) - 1 := by omega
                    subst hRt
                    clear hpt h2t hx32 hy32
                    go_wp2
                    go_ret3
                    exact ⟨rfl, HA.out.below⟩
        · have hc := cnext_row (n := n) hkl (by rw [hm]; exact h0) (by rw [hm]; exact hmn)
          rw [hm] at hc
          have HC := Lib.hid hc
          have ymn : ((m : Int) != (n : Int)) = true := by simp; omega
          clear hc hm hmn
          go_wp2_with fail
          refine Calls.mono (HRK.out _) ?_
          rintro e w1 ⟨rfl, rfl⟩
          go_wp2
          exact ⟨⟨k + m, by go_num, by omega, by rw [HSL.out]; exact hms, by rw [HCN.out, HC.out], rfl⟩, by simp [intOf]; omega⟩
    · have z2 : ¬ (k : Int) < (s.size : Int) := by omega
      have hRv : R = ⟨[], a, false⟩ := by rw [HCI.out, HCN.out, cnext_end (by rw [HSL.out]; omega)]
      subst hRv
      clear h2 HCI HCN
      go_wp2
      go_ret3
      exact ⟨by rw [HAI.out]; rfl, Below.refl _ _⟩
theorem refcode_any (s : ByteArray) (i : Int) (w : World) (hs : s.size ≤ 1099511627) (hi : -9223372036854775808 ≤ i ∧ i ≤ 9223372036854775807) :
    Calls Tryz.prog 9 #[.string s, .int .i64 i] w (CodeR w (codeAt s.data.toList i).text (codeAt s.data.toList i).stop (codeAt s.data.toList i).is) := by
  have hno : ∀ (h : ¬ (0 ≤ i ∧ s.data.toList[i.toNat]? = some 96)), codeAt s.data.toList i = ⟨[], 0, false⟩ := fun h => by unfold codeAt; rw [if_neg h]
  by_cases h1 : i < 0
  · rw [hno (by omega)]
    exact refcode_no s i w hs hi (Or.inl h1)
  · by_cases h2 : (s.size : Int) ≤ i
    · rw [hno (by rintro ⟨_, h⟩; rw [List.getElem?_eq_none (by rw [Array.length_toList]; show s.size ≤ i.toNat; omega)] at h; cases h)]
      exact refcode_no s i w hs hi (Or.inr (Or.inl h2))
    · obtain ⟨k, rfl⟩ : ∃ k : Nat, i = k := ⟨i.toNat, by omega⟩
      have hk : k < s.size := by omega
      have hg : s.data.toList[k]? = some s[k] := get_list s k hk
      by_cases h3 : s[k] = 96
      · exact refcode_yes s k w hs hk h3
      · rw [hno (by rintro ⟨_, h⟩; rw [Int.toNat_natCast, hg] at h; exact h3 (Option.some.inj h))]
        exact refcode_no s k w hs hi (Or.inr (Or.inr ⟨k, hk, rfl, h3⟩))
end Go.Proofs.YtikokedphocpiaaGreatDoor
