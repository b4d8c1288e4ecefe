/- The reference's plain and Text: bytes as a text. -/
import Derived.Test.YtbcfhpomclkccaaDoorTxt2
namespace Go.Proofs.YtbcfhpomclkccaaDoor
open Go.RowKit

def plainF : Nat → List UInt8 → List UInt8
  | 0, _ => []
  | f + 1, l => if l.length = 0 then [] else (if ((frontN l).2 && (l.getD 0 0 != 0)) = true then l.take (frontN l).1 else [239, 191, 189]) ++ plainF f (l.drop (frontN l).1)
def plainL (l : List UInt8) : List UInt8 := plainF l.length l
def textL (l : List UInt8) : List UInt8 := plainL (if l.take 3 = [239, 187, 191] then l.drop 3 else l)
theorem plainF_len : ∀ (f : Nat) (l : List UInt8), (plainF f l).length ≤ 3 * l.length
  | 0, _ => by simp [plainF]
  | f + 1, l => by
    unfold plainF
    split
    · simp
    · rename_i h
      have h1 := frontN_in l (by omega)
      have h2 := plainF_len f (l.drop (frontN l).1)
      rw [List.length_drop] at h2
      rw [List.length_append]
      split
      · rw [List.length_take]; omega
      · simp; omega
theorem plainL_len (l : List UInt8) : (plainL l).length ≤ 3 * l.length := plainF_len _ _
theorem textL_len (l : List UInt8) : (textL l).length ≤ 3 * l.length := by
  unfold textL
  have := plainL_len (if l.take 3 = [239, 187, 191] then l.drop 3 else l)
  refine Nat.le_trans this ?_
  split
  · rw [List.length_drop]; omega
  · omega
/-- A slice of bytes that reads as l. -/
def SlU8 (w : World) (v : Value) (l : List UInt8) : Prop := ∃ (A : Option Addr) (m c : Nat), v = .slice A m c ∧ m = l.length ∧ m ≤ c ∧ (0 < m → ∃ b off, A = some ⟨b, off, none⟩ ∧ b < w.heap.size ∧ BytesOf w b off l)
def SlU8W (w : World) (E : List UInt8) (N : Nat) (v0 v3 : Value) (wr : World) : Prop := ∃ (rest acc : List UInt8) (f : Nat), SlU8 w v0 rest ∧ Acc w v3 acc wr ∧ rest.length ≤ f ∧ acc ++ plainF f rest = E ∧ acc.length + 3 * rest.length ≤ N
theorem cell_three (w : World) (t : TypeId) : ∀ j u, (([239, 191, 189] : List UInt8).map u8c)[j]? = some u → (w.alloc (.cells #[.int .u8 239, .int .u8 191, .int .u8 189] t)).cell? ((⟨w.heap.size, 0, none⟩ : Addr).add j) = some u := by
  intro j u hj
  match j, hj with
  | 0, hj => simp [u8c] at hj; subst hj; simp [Addr.add]
  | 1, hj => simp [u8c] at hj; subst hj; simp [Addr.add]
  | 2, hj => simp [u8c] at hj; subst hj; simp [Addr.add]
theorem bytes_drop {w : World} {b off : Nat} {l : List UInt8} (h : BytesOf w b off l) (n : Nat) : BytesOf w b (off + n) (l.drop n) := by
  intro j hj
  rw [List.length_drop] at hj
  have := h (n + j) (by omega)
  rw [List.getElem_drop]
  rwa [show off + (n + j) = off + n + j by omega] at this
theorem bytes_take {w wr : World} {b off : Nat} {l : List UInt8} (h : BytesOf w b off l) (hw : Below w.heap.size w wr) (hb : b < w.heap.size) (n : Nat) : ∀ j u, ((l.take n).map u8c)[j]? = some u → wr.cell? ((⟨b, off, none⟩ : Addr).add j) = some u := by
  intro j u hj
  rw [List.getElem?_map] at hj
  cases hj2 : (l.take n)[j]? with
  | none => rw [hj2] at hj; cases hj
  | some x =>
    rw [hj2] at hj
    have hu : u8c x = u := Option.some.inj hj
    obtain ⟨hjl, hx⟩ := List.getElem?_eq_some_iff.1 hj2
    rw [List.length_take] at hjl
    rw [List.getElem_take] at hx
    have h2 := h j (by omega)
    rw [hx] at h2
    rw [← hu, show (⟨b, off, none⟩ : Addr).add j = ⟨b, off + j, none⟩ by simp [Addr.add]]
    exact (hw.cell (p := ⟨b, off + j, none⟩) hb).trans h2
theorem plainF_nil {f : Nat} {l : List UInt8} (h : l.length = 0) : plainF f l = [] := by
  cases f with
  | zero => rfl
  | succ f => rw [plainF, if_pos h]
theorem plainF_yes {f : Nat} {l : List UInt8} (h : 0 < l.length) (hh : ((frontN l).2 && (l.getD 0 0 != 0)) = true) : plainF (f + 1) l = l.take (frontN l).1 ++ plainF f (l.drop (frontN l).1) := by rw [plainF, if_neg (by omega), if_pos hh]
theorem plainF_no {f : Nat} {l : List UInt8} (h : 0 < l.length) (hh : ((frontN l).2 && (l.getD 0 0 != 0)) = false) : plainF (f + 1) l = [239, 191, 189] ++ plainF f (l.drop (frontN l).1) := by rw [plainF, if_neg (by omega), if_neg (by rw [hh]; simp)]
theorem sl_after {w : World} {b off n m c : Nat} {rest : List UInt8} (hm : m = rest.length) (hnm : n ≤ m) (hmc : m ≤ c) (hb : b < w.heap.size) (h : BytesOf w b off rest) :
    SlU8 w (.slice (if c = n then some ⟨b, off, none⟩ else some ⟨b, off + n, none⟩) (m - n) (c - n)) (rest.drop n) := by
  refine ⟨_, _, _, rfl, by rw [List.length_drop, hm], by omega, fun h0 => ⟨b, off + n, by rw [if_neg (by omega)], hb, bytes_drop h n⟩⟩
set_option maxHeartbeats 4000000 in
set_option maxRecDepth 100000 in
theorem plain_any (v : Value) (l : List UInt8) (w : World) (hl : l.length ≤ 1099511627776) (hv : SlU8 w v l) : Calls Tryd.prog 18 #[v] w (StrR w (plainL l)) := by
  obtain ⟨A0, m0, c0, rfl, hm0, hc0, hb0⟩ := hv
  obtain ⟨E, hE⟩ : ∃ E, plainL l = E := ⟨_, rfl⟩
  rw [hE]
  have H0 := Lib.hid (show SlU8W w E (3 * l.length) (.slice A0 m0 c0) (.slice none 0 0) w from ⟨l, [], l.length, ⟨A0, m0, c0, rfl, hm0, hc0, hb0⟩, Acc.start w, Nat.le_refl _, hE, by simp⟩)
  obtain ⟨N, hN⟩ : ∃ N, 3 * l.length = N := ⟨_, rfl⟩
  rw [hN] at H0
  have hNb : N ≤ 3298534883328 := by omega
  clear hE hb0 hm0 hN hc0
  go_enter Tryd.func18, Tryd.ntmps18
  go_wp2_with fail
  go_loopw [0, 3, 4, 5] (fun v0 v3 _ _ wr => SlU8W w E N v0 v3 wr) (fun v0 _ _ _ _ => match v0 with | .slice _ m _ => m | _ => 0)
  case atStart => exact H0.out
  case round =>
    obtain ⟨rest, acc, f, ⟨A, m, c, rfl, hm, hc, hb⟩, hacc, hf, hE, hN⟩ := hrel
    obtain ⟨Aa, ma, ca, rfl⟩ := hacc.slice
    have HA := Lib.hid hacc
    have hwb := hacc.below
    clear hacc H0
    by_cases h0 : 0 < m
    · obtain ⟨b, off, rfl, hbw, hbo⟩ := hb h0
      have hml : 1 ≤ rest.length := by omega
      have hfr := frontN_in rest hml
      have hz0 := hbo 0 (by omega)
      obtain ⟨a, ha⟩ : ∃ a, rest[0]'(by omega) = a := ⟨_, rfl⟩
      have hz1 := (hwb.cell (p := ⟨b, off, none⟩) hbw).trans hz0
      rw [ha] at hz1
      have hg0 : rest.getD 0 0 = a := by rw [List.getD_eq_getElem?_getD, List.getElem?_eq_getElem (by omega), ha]; rfl
      obtain ⟨f', rfl⟩ : ∃ f', f = f' + 1 := ⟨f - 1, by omega⟩
      have hbr : BytesOf wr b off rest := fun j hj => (hwb.cell (p := ⟨b, off + j, none⟩) hbw).trans (hbo j hj)
      have hF := fun c' => front_any b off m c' rest wr hm hml (by omega) hbr
      have hxs := bytes_take (wr := wr) hbo hwb hbw (frontN rest).1
      have hyes := plainF_yes (f := f') (l := rest) (by omega)
      have hno := plainF_no (f := f') (l := rest) (by omega)
      rw [hg0] at hyes hno
      obtain ⟨n, wh, hnw⟩ : ∃ n wh, frontN rest = (n, wh) := ⟨_, _, rfl⟩
      rw [hnw] at hfr hF hxs hyes hno
      simp only at hfr hF hxs hyes hno
      have hn1 : (0 : Int) ≤ (n : Int) := by omega
      have hnm : n ≤ m := by omega
      have hnc : n ≤ c := by omega
      have hnmI : (n : Int) ≤ (m : Int) := by omega
      have hncI : (n : Int) ≤ (c : Int) := by omega
      have h0I : (0 : Int) < (m : Int) := by omega
      have hlt : (rest.take n).length = n := by rw [List.length_take]; omega
      have HF := Lib.hid hF
      have HBR := Lib.hid hbr
      have HXS := Lib.hid hxs
      have HLT := Lib.hid hlt
      have HN := Lib.hid hN
      have HM := Lib.hid hm
      have HMR := Lib.hid hfr
      have HFL := Lib.hid hf
      clear hF hbr hxs hlt hb hz0 ha hg0 hnw hm hfr hf hml hN
      go_wp2_with fail
      refine Calls.mono (HF.out _) ?_
      rintro e w1 ⟨rfl, d, rfl⟩
      cases wh with
      | true =>
        by_cases h00 : a = 0
        · have zne : ((a.toNat : Int) != 0) = false := by rw [h00]; rfl
          have hE2 := hno (by simp [h00])
          rw [hE2, ← List.append_assoc] at hE
          have HE := Lib.hid hE
          clear hE hE2 hyes hno h00
          go_wp2_with (at_builtin; refine wpList_acc rfl (.tmp 26) (.tmp 27) rfl _ _ rfl ((HA.out.drewN d).alloc (.cells #[.int .u8 239, .int .u8 191, .int .u8 189] 5)) ⟨wr.heap.size, 0, none⟩ 3 3 [239, 191, 189] rfl rfl (cell_three _ _) (by have := HN.out; have := HM.out; show acc.length + 3 ≤ _; omega) ?_)
          intro v' W1 hst
          have HST := Lib.hid hst
          clear hst
          go_wp2
          exact ⟨⟨rest.drop n, acc ++ [239, 191, 189], f', sl_after HM.out hnm hc hbw hbo, HST.out, by have := HFL.out; have := HMR.out; rw [List.length_drop]; omega, HE.out, by have := HN.out; have := HM.out; have := HMR.out; rw [List.length_append, List.length_drop]; show acc.length + 3 + 3 * (rest.length - n) ≤ N; omega⟩, by have := HMR.out; show m - n < m; omega⟩
        · have zne : ((a.toNat : Int) != 0) = true := by simp; intro e; exact h00 (UInt8.toNat_inj.1 (by show a.toNat = 0; omega))
          have hE2 := hyes (by simp [h00])
          rw [hE2, ← List.append_assoc] at hE
          have HE := Lib.hid hE
          clear hE hE2 hyes hno h00
          go_wp2_with (at_builtin; refine wpList_acc rfl (.tmp 21) (.tmp 24) rfl _ _ rfl (HA.out.drewN d) ⟨b, off, none⟩ n c (rest.take n) rfl HLT.out.symm (fun j u h => HXS.out j u h) (by have := HN.out; have := HM.out; rw [HLT.out]; omega) ?_)
          intro v' W1 hst
          have HST := Lib.hid hst
          clear hst
          go_wp2
          exact ⟨⟨rest.drop n, acc ++ rest.take n, f', sl_after HM.out hnm hc hbw hbo, HST.out, by have := HFL.out; have := HMR.out; rw [List.length_drop]; omega, HE.out, by have := HN.out; have := HM.out; have := HMR.out; rw [List.length_append, List.length_drop, HLT.out]; omega⟩, by have := HMR.out; show m - n < m; omega⟩
      | false =>
        have hE2 := hno (by simp)
        rw [hE2, ← List.append_assoc] at hE
        have HE := Lib.hid hE
        clear hE hE2 hyes hno
        go_wp2_with (at_builtin; refine wpList_acc rfl (.tmp 26) (.tmp 27) rfl _ _ rfl ((HA.out.drewN d).alloc (.cells #[.int .u8 239, .int .u8 191, .int .u8 189] 5)) ⟨wr.heap.size, 0, none⟩ 3 3 [239, 191, 189] rfl rfl (cell_three _ _) (by have := HN.out; have := HM.out; show acc.length + 3 ≤ _; omega) ?_)
        intro v' W1 hst
        have HST := Lib.hid hst
        clear hst
        go_wp2
        exact ⟨⟨rest.drop n, acc ++ [239, 191, 189], f', sl_after HM.out hnm hc hbw hbo, HST.out, by have := HFL.out; have := HMR.out; rw [List.length_drop]; omega, HE.out, by have := HN.out; have := HM.out; have := HMR.out; rw [List.length_append, List.length_drop]; show acc.length + 3 + 3 * (rest.length - n) ≤ N; omega⟩, by have := HMR.out; show m - n < m; omega⟩
    · have hm0 : m = 0 := by omega
      have hr0 : rest.length = 0 := by omega
      rw [plainF_nil hr0, List.append_nil] at hE
      subst hE
      have hcv := HA.out.string
      have HB0 := Lib.hid hwb
      clear hb hm hr0 hwb hN hf hc
      subst hm0
      go_wp2
      go_ret
      exact ⟨rfl, HB0.out⟩
set_option maxHeartbeats 4000000 in
set_option maxRecDepth 100000 in
theorem reftext_any (v : Value) (l : List UInt8) (w : World) (hl : l.length ≤ 1099511627776) (hv : SlU8 w v l) : Calls Tryd.prog 7 #[v] w (StrR w (textL l)) := by
  obtain ⟨A, m, c, rfl, hm, hc, hb⟩ := hv
  by_cases h3 : m < 3
  · have ht : textL l = plainL l := by
      unfold textL
      rw [if_neg]
      intro e
      have := congrArg List.length e
      rw [List.length_take] at this
      simp at this
      omega
    rw [ht]
    have HP := Lib.hid fun w' (h : SlU8 w' (.slice A m c) l) => plain_any (.slice A m c) l w' hl h
    have HV := Lib.hid (show SlU8 w (.slice A m c) l from ⟨A, m, c, rfl, hm, hc, hb⟩)
    have z1 : decide ((3 : Int) ≤ (m : Int)) = false := by simp; omega
    clear hb hm hl ht
    go_enter Tryd.func7, Tryd.ntmps7
    go_wp2_with fail
    refine Calls.mono (HP.out _ HV.out) ?_
    rintro e w1 ⟨rfl, b1⟩
    go_wp2
    go_ret
    exact ⟨rfl, b1⟩
  · obtain ⟨b, off, rfl, hbw, hbo⟩ := hb (by omega)
    obtain ⟨a0, a1, a2, r, rfl⟩ : ∃ a0 a1 a2 r, l = a0 :: a1 :: a2 :: r := by
      match l, hm with
      | a0 :: a1 :: a2 :: r, _ => exact ⟨a0, a1, a2, r, rfl⟩
      | [], hm => simp at hm; omega
      | [_], hm => simp at hm; omega
      | [_, _], hm => simp at hm; omega
    have hml : m = r.length + 3 := hm
    have c0 : w.cell? ⟨b, off, none⟩ = some (.int .u8 (a0.toNat : Int)) := hbo 0 (by simp)
    have c1 : w.cell? ⟨b, off + 1, none⟩ = some (.int .u8 (a1.toNat : Int)) := hbo 1 (by simp)
    have c2 : w.cell? ⟨b, off + 2, none⟩ = some (.int .u8 (a2.toNat : Int)) := hbo 2 (by simp)
    have n3 : (3 : Int) ≤ (m : Int) := by omega
    have n3c : (3 : Int) ≤ (c : Int) := by omega
    have n0 : (0 : Int) < (m : Int) := by omega
    have n1 : (1 : Int) < (m : Int) := by omega
    have n2 : (2 : Int) < (m : Int) := by omega
    have m0 : 0 < m := by omega
    have m1 : 1 < m := by omega
    have m2 : 2 < m := by omega
    have HV := Lib.hid (show SlU8 w (.slice (some ⟨b, off, none⟩) m c) (a0 :: a1 :: a2 :: r) from ⟨_, m, c, rfl, hm, hc, fun _ => ⟨b, off, rfl, hbw, hbo⟩⟩)
    have HP := Lib.hid (plain_any (.slice (some ⟨b, off, none⟩) m c) (a0 :: a1 :: a2 :: r) w hl HV.out)
    have hne : ¬ (a0 = 239 ∧ a1 = 187 ∧ a2 = 191) → textL (a0 :: a1 :: a2 :: r) = plainL (a0 :: a1 :: a2 :: r) := fun h => by
      unfold textL
      rw [if_neg]
      intro e
      simp at e
      exact h e
    by_cases e0 : a0 = 239
    · by_cases e1 : a1 = 187
      · by_cases e2 : a2 = 191
        · have ht : textL (a0 :: a1 :: a2 :: r) = plainL r := by unfold textL; rw [if_pos (by rw [e0, e1, e2]; rfl)]; rfl
          rw [ht]
          have hP3 := plain_any _ r w (by simp at hl; omega) (sl_after (n := 3) hm (by omega) hc hbw hbo)
          have z0 : ((a0.toNat : Int) == 239) = true := by rw [e0]; rfl
          have z1 : ((a1.toNat : Int) == 187) = true := by rw [e1]; rfl
          have z2 : ((a2.toNat : Int) == 191) = true := by rw [e2]; rfl
          by_cases hc3 : c = 3
          · subst hc3
            rw [if_pos rfl, show m - 3 = 0 by omega] at hP3
            have hP3 : Calls Tryd.prog 18 #[.slice (some ⟨b, off, none⟩) 0 0] w (StrR w (plainL r)) := hP3
            have HP3 := Lib.hid hP3
            clear hb hm hl ht hne HP hbo e0 e1 e2 h3 hml hP3
            go_enter Tryd.func7, Tryd.ntmps7
            go_wp2_with fail
            refine Calls.mono HP3.out ?_
            rintro e w1 ⟨rfl, b1⟩
            go_wp2
            go_ret
            exact ⟨rfl, b1⟩
          · rw [if_neg hc3] at hP3
            have HP3 := Lib.hid hP3
            clear hb hm hl ht hne HP hbo e0 e1 e2 h3 hml hP3
            go_enter Tryd.func7, Tryd.ntmps7
            go_wp2_with fail
            refine Calls.mono HP3.out ?_
            rintro e w1 ⟨rfl, b1⟩
            go_wp2
            go_ret
            exact ⟨rfl, b1⟩
        · have z0 : ((a0.toNat : Int) == 239) = true := by rw [e0]; rfl
          have z1 : ((a1.toNat : Int) == 187) = true := by rw [e1]; rfl
          have z2 : ((a2.toNat : Int) == 191) = false := by rw [beq_eq_false_iff_ne]; intro e; exact e2 (UInt8.toNat_inj.1 (by show a2.toNat = 191; omega))
          rw [hne (fun h => e2 h.2.2)]
          clear e0 e1 e2
          clear hb hm hl hne hbo h3 hml
          go_enter Tryd.func7, Tryd.ntmps7
          go_wp2_with fail
          refine Calls.mono HP.out ?_
          rintro e w1 ⟨rfl, b1⟩
          go_wp2
          go_ret
          exact ⟨rfl, b1⟩
      · have z0 : ((a0.toNat : Int) == 239) = true := by rw [e0]; rfl
        have z1 : ((a1.toNat : Int) == 187) = false := by rw [beq_eq_false_iff_ne]; intro e; exact e1 (UInt8.toNat_inj.1 (by show a1.toNat = 187; omega))
        rw [hne (fun h => e1 h.2.1)]
        clear e0 e1
        clear hb hm hl hne hbo h3 hml
        go_enter Tryd.func7, Tryd.ntmps7
        go_wp2_with fail
        refine Calls.mono HP.out ?_
        rintro e w1 ⟨rfl, b1⟩
        go_wp2
        go_ret
        exact ⟨rfl, b1⟩
    · have z0 : ((a0.toNat : Int) == 239) = false := by rw [beq_eq_false_iff_ne]; intro e; exact e0 (UInt8.toNat_inj.1 (by show a0.toNat = 239; omega))
      rw [hne (fun h => e0 h.1)]
      clear hb hm hl hne hbo h3 hml
      go_enter Tryd.func7, Tryd.ntmps7
      go_wp2_with fail
      refine Calls.mono HP.out ?_
      rintro e w1 ⟨rfl, b1⟩
      go_wp2
      go_ret
      exact ⟨rfl, b1⟩
end Go.Proofs.YtbcfhpomclkccaaDoor
