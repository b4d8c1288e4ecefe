/- The reference's attr: the place behind an attribute. -/
import Derived.Test.YtikokedphocpiaaGreatDoorRfGap
import Derived.Test.YtikokedphocpiaaGreatDoorAtAttr
import Derived.Test.YtikokedphocpiaaGreatDoorAtRow
import Derived.Deep.DeepCutAuto
import Derived.Deep.QuietTactic
import Derived.BigQuiet
namespace Go.Proofs.YtikokedphocpiaaGreatDoor
open Go.RowKit

theorem one_front (b : UInt8) : oneB ⟨#[95, 58]⟩ b = (letter b || ((b == 95) || (b == 58))) := by
  unfold oneB
  congr 1
  rw [show ((⟨#[95, 58]⟩ : ByteArray).data.toList) = [95, 58] from rfl, Bool.eq_iff_iff, decide_eq_true_iff, indexByte_has, Bool.or_eq_true, beq_iff_eq, beq_iff_eq]
  simp
theorem word_rest (b : UInt8) : wordP ⟨#[95, 46, 58, 45]⟩ b = (letter b || (digit b || ((b == 95) || ((b == 46) || ((b == 58) || (b == 45)))))) := by
  unfold wordP oneB
  rw [show ((⟨#[95, 46, 58, 45]⟩ : ByteArray).data.toList) = [95, 46, 58, 45] from rfl]
  have e : decide (0 ≤ Lib.indexByte [95, 46, 58, 45] b) = ((b == 95) || ((b == 46) || ((b == 58) || (b == 45)))) := by
    rw [Bool.eq_iff_iff, decide_eq_true_iff, indexByte_has]
    simp
  rw [e]
  cases letter b <;> cases digit b <;> simp
def condR (l : List UInt8) (p : UInt8 → Bool) (k : Nat) : Bool := match l[k]? with
  | some x => p x
  | none => false
theorem condR_some {l : List UInt8} {p : UInt8 → Bool} {k : Nat} {x : UInt8} (h : l[k]? = some x) : condR l p k = p x := by unfold condR; rw [h]
theorem condR_none {l : List UInt8} {p : UInt8 → Bool} {k : Nat} (h : l.length ≤ k) : condR l p k = false := by unfold condR; rw [List.getElem?_eq_none h]
theorem run_cond_yes {l : List UInt8} {p : UInt8 → Bool} {k : Nat} (h : condR l p k = true) : k < l.length ∧ run p l k = run p l (k + 1) := by
  unfold condR at h
  cases hg : l[k]? with
  | none => rw [hg] at h; cases h
  | some x =>
    rw [hg] at h
    obtain ⟨h1, h2⟩ := List.getElem?_eq_some_iff.1 hg
    exact ⟨h1, run_yes h1 (by rw [h2]; exact h)⟩
theorem run_cond_no {l : List UInt8} {p : UInt8 → Bool} {k : Nat} (h : condR l p k = false) : run p l k = k := by
  rcases Nat.lt_or_ge k l.length with h1 | h1
  · exact run_not h1 (by rw [← h, condR_some (List.getElem?_eq_getElem h1)])
  · exact run_end h1
theorem run_to {l : List UInt8} {p : UInt8 → Bool} : ∀ (n j : Nat), (∀ t, t < n → condR l p (j + t) = true) → run p l j = run p l (j + n)
  | 0, _, _ => rfl
  | n + 1, j, h => by
    rw [run_to n j fun t ht => h t (by omega), (run_cond_yes (h n (by omega))).2]
    congr 1
theorem quote_run (l : List UInt8) (b : UInt8) (v : Nat) (hv : v < l.length) : quoteN l b v = if run (· != b) l (v + 1) < l.length then some (run (· != b) l (v + 1) + 1) else none := by
  unfold quoteN
  rcases indexByte_spec (l.drop (v + 1)) b with ⟨h1, h2⟩ | ⟨a, h1, h2, h3⟩
  · rw [h1, if_pos (by decide)]
    have hr : run (· != b) l (v + 1) = l.length := by
      rw [run_to (l.length - (v + 1)) (v + 1) fun t ht => ?_, show v + 1 + (l.length - (v + 1)) = l.length by omega, run_end (Nat.le_refl _)]
      have hlt : v + 1 + t < l.length := by omega
      rw [condR_some (List.getElem?_eq_getElem hlt)]
      have := h2 t
      rw [List.getElem?_drop, List.getElem?_eq_getElem hlt] at this
      simpa using this
    rw [hr, if_neg (by omega)]
  · rw [h1, if_neg (by omega)]
    rw [List.getElem?_drop] at h2
    obtain ⟨hlt, _⟩ := List.getElem?_eq_some_iff.1 h2
    have hr : run (· != b) l (v + 1) = v + 1 + a := by
      rw [run_to a (v + 1) fun t ht => ?_, run_cond_no]
      · rw [condR_some h2]; simp
      · have hlt2 : v + 1 + t < l.length := by omega
        rw [condR_some (List.getElem?_eq_getElem hlt2)]
        have := h3 t ht
        rw [List.getElem?_drop, List.getElem?_eq_getElem hlt2] at this
        simpa using this
    rw [hr, if_pos hlt]
    congr 1
    omega
theorem val_p (b : UInt8) : valP b = (decide ((32 : Int) < (b.toNat : Int)) && ((b != 34) && ((b != 39) && ((b != 61) && ((b != 60) && ((b != 62) && (b != 96))))))) := by
  unfold valP
  have e1 : decide (32 < b.toNat) = decide ((32 : Int) < (b.toNat : Int)) := decide_eq_decide.2 (by omega)
  rw [e1]
  congr 1
  have e2 : decide (Lib.indexByte [34, 39, 61, 60, 62, 96] b < 0) = !decide (0 ≤ Lib.indexByte [34, 39, 61, 60, 62, 96] b) := by
    rw [← decide_not]
    exact decide_eq_decide.2 (by omega)
  have e3 : decide (0 ≤ Lib.indexByte [34, 39, 61, 60, 62, 96] b) = ((b == 34) || ((b == 39) || ((b == 61) || ((b == 60) || ((b == 62) || (b == 96)))))) := by
    rw [Bool.eq_iff_iff, decide_eq_true_iff, indexByte_has]
    simp
  rw [e2, e3]
  simp [bne]
theorem prefix_61 (l : List UInt8) (v : Nat) : Lib.hasPrefix (l.drop v) [61] = condR l (fun b => b == 61) v := by
  unfold Lib.hasPrefix condR
  rcases Nat.lt_or_ge v l.length with h | h
  · rw [List.getElem?_eq_getElem h, List.drop_eq_getElem_cons h]
    show ((61 == l[v]) && List.isPrefixOf [] _) = _
    rw [List.isPrefixOf_nil_left, Bool.and_true, Bool.beq_comm]
  · rw [List.getElem?_eq_none h, List.drop_eq_nil_of_le h]
    rfl
def RunD (w : World) (p : UInt8 → Bool) (l : List UInt8) (i : Nat) (v : Value) (wr : World) : Prop := ∃ k : Nat, v = .int .i64 k ∧ k ≤ l.length ∧ run p l i = run p l k ∧ ∃ d, wr = w.drewN d
set_option maxHeartbeats 8000000 in
set_option maxRecDepth 100000 in
theorem refattr_any (s : ByteArray) (i : Nat) (w : World) (hs : s.size ≤ 1099511627) (hi : i ≤ s.size) : Calls Tryz.prog 72 #[.string s, .int .i64 (i : Int)] w (IntD w (optI (attrN s.data.toList i))) := by
  have hsl : s.data.toList.length = s.size := Array.length_toList
  obtain ⟨l, hl⟩ : ∃ l, s.data.toList = l := ⟨_, rfl⟩
  rw [hl] at hsl ⊢
  have hget : ∀ (k : Nat) (h : k < s.size), l[k]? = some s[k] := fun k h => by rw [← hl]; exact get_list s k h
  have HG := Lib.hid (show ∀ (k : Nat) w', k ≤ s.size → Calls Tryz.prog 71 #[.string s, .int .i64 (k : Int)] w' (RI w' (gapN l k : Nat)) from fun k w' hk => by rw [← hl]; exact refgap_any s k w' hs hk)
  have hk0 : gapN l i ≤ l.length := gapN_le l i (by omega)
  obtain ⟨E, hE⟩ : ∃ E, optI (attrN l i) = E := ⟨_, rfl⟩
  rw [hE]
  have hEa : E = if gapN l i = i then -1 else optI ((wordN l ⟨#[95, 58]⟩ ⟨#[95, 46, 58, 45]⟩ (gapN l i)).bind (attr2 l)) := by rw [← hE]; unfold attrN; split <;> rfl
  obtain ⟨k, hk⟩ : ∃ k, gapN l i = k := ⟨_, rfl⟩
  have hgi : ∀ w', Calls Tryz.prog 71 #[.string s, .int .i64 (i : Int)] w' (RI w' (k : Nat)) := fun w' => by have := HG.out i w' hi; rwa [hk] at this
  rw [hk] at hk0 hEa
  obtain ⟨B, hB⟩ : ∃ B, (!(!(k == i) && condR l (oneB ⟨#[95, 58]⟩) k)) = B := ⟨_, rfl⟩
  have HSL := Lib.hid hsl
  have HGET := Lib.hid hget
  have HEA := Lib.hid hEa
  have HB := Lib.hid hB
  have HGI := Lib.hid hgi
  have hks : k ≤ s.size := by omega
  clear hsl hget hE hEa hB hl hk hgi hk0
  go_enter Tryz.func72, Tryz.ntmps72
  go_wp2_with fail
  refine Calls.mono (HGI.out _) ?_
  rintro e w1 ⟨rfl, rfl⟩
  go_upto_region 2 with fail
  go_cut [39] (fun s39 wx => s39 = .bool B ∧ wx = w)
  case first =>
    by_cases h1 : k = i
    · have z1 : ((k : Int) == (i : Int)) = true := by rw [h1]; simp
      have hb : B = true := by rw [← HB.out, h1]; simp
      subst hb
      clear h1
      go_wp2_with fail
      go_meet
      exact ⟨rfl, rfl⟩
    · have z1 : ((k : Int) == (i : Int)) = false := by rw [beq_eq_false_iff_ne]; omega
      have hki : (k == i) = false := by rw [beq_eq_false_iff_ne]; exact h1
      by_cases h2 : k < s.size
      · have z2 : decide (s.size ≤ k) = false := by simp; omega
        have z3 : (k : Int) < (s.size : Int) := by omega
        have hc := condR_some (p := oneB ⟨#[95, 58]⟩) (HGET.out k h2)
        have hb : B = !(oneB ⟨#[95, 58]⟩ s[k]) := by rw [← HB.out, hki, hc]; simp
        rw [one_front] at hb
        obtain ⟨x, hx⟩ : ∃ x, s[k] = x := ⟨_, rfl⟩
        have y95 : ((s[k].toNat : Int) != 95) = (x != 95) := by rw [hx]; exact bnec x 95
        have y58 : ((s[k].toNat : Int) != 58) = (x != 58) := by rw [hx]; exact bnec x 58
        have HX := Lib.hid hx
        rw [hx] at hb
        clear hx hc h1 hki
        cases hl : letter x with
        | true =>
          have hb2 : B = false := by rw [hb, hl]; rfl
          have HL := Lib.hid hl
          subst hb2
          clear hb hl y95 y58
          go_wp2_with fail
          rw [HX.out]
          refine Calls.mono (refletter_any x _) ?_
          rintro e w' ⟨rfl, rfl⟩
          rw [HL.out]
          go_wp2_with fail
          go_meet
          exact ⟨rfl, rfl⟩
        | false =>
          have HL := Lib.hid hl
          cases h95 : (x != 95) with
          | false =>
            have hb2 : B = false := by
              rw [hb, hl, show (x == 95) = true by simpa using h95]
              rfl
            rw [h95] at y95
            subst hb2
            clear hb hl y58 h95
            go_wp2_with fail
            rw [HX.out]
            refine Calls.mono (refletter_any x _) ?_
            rintro e w' ⟨rfl, rfl⟩
            rw [HL.out]
            go_wp2_with fail
            go_meet
            exact ⟨rfl, rfl⟩
          | true =>
            have hb2 : B = (x != 58) := by
              rw [hb, hl, show (x == 95) = false by simpa using h95]
              rfl
            rw [h95] at y95
            rw [← hb2] at y58
            clear hb hl h95 hb2
            go_wp2_with fail
            rw [HX.out]
            refine Calls.mono (refletter_any x _) ?_
            rintro e w' ⟨rfl, rfl⟩
            rw [HL.out]
            go_wp2_with fail
            go_meet
            exact ⟨rfl, rfl⟩
      · have z2 : decide (s.size ≤ k) = true := by simp; omega
        have hb : B = true := by rw [← HB.out, hki, condR_none (by rw [HSL.out]; omega)]; rfl
        subst hb
        clear h1 hki h2
        go_wp2_with fail
        go_meet
        exact ⟨rfl, rfl⟩
  case rest =>
    obtain ⟨rfl, rfl⟩ := hcut
    cases hBv : B with
    | true =>
      have hE1 : E = -1 := by
        rw [HEA.out]
        have hb := HB.out
        rw [hBv] at hb
        by_cases h1 : k = i
        · rw [if_pos h1]
        · rw [if_neg h1]
          have h2 : condR l (oneB ⟨#[95, 58]⟩) k = false := by simpa [h1] using hb
          have h3 : wordN l ⟨#[95, 58]⟩ ⟨#[95, 46, 58, 45]⟩ k = none := by
            unfold wordN
            split
            · rename_i hlt
              rw [condR_some (List.getElem?_eq_getElem hlt)] at h2
              rw [if_neg (by rw [h2]; simp)]
            · rfl
          rw [h3]
          rfl
      subst hE1
      clear hBv
      go_wp2
      go_ret
      exact ⟨rfl, 0, rfl⟩
    | false =>
      obtain ⟨hki, hwd⟩ : k ≠ i ∧ wordN l ⟨#[95, 58]⟩ ⟨#[95, 46, 58, 45]⟩ k = some (run (wordP ⟨#[95, 46, 58, 45]⟩) l k) := by
        have hb := HB.out
        rw [hBv] at hb
        have h0 : k ≠ i ∧ condR l (oneB ⟨#[95, 58]⟩) k = true := by simpa using hb
        refine ⟨h0.1, ?_⟩
        obtain ⟨hlt, hone⟩ : ∃ h : k < l.length, oneB ⟨#[95, 58]⟩ l[k] = true := by
          have h2 := h0.2
          unfold condR at h2
          cases hg : l[k]? with
          | none => rw [hg] at h2; cases h2
          | some x =>
            rw [hg] at h2
            obtain ⟨h3, h4⟩ := List.getElem?_eq_some_iff.1 hg
            exact ⟨h3, by rw [h4]; exact h2⟩
        unfold wordN
        rw [dif_pos hlt, if_pos hone, run_yes hlt]
        rw [one_front] at hone
        rw [word_rest]
        cases h5 : letter l[k] with
        | true => rfl
        | false =>
          rw [h5] at hone
          cases h6 : (l[k] == 95) with
          | true => cases digit l[k] <;> rfl
          | false =>
            rw [h6] at hone
            have h7 : (l[k] == 58) = true := by simpa using hone
            rw [h7]
            cases digit l[k] <;> cases (l[k] == 46) <;> rfl
      have hE2 : E = optI (attr2 l (run (wordP ⟨#[95, 46, 58, 45]⟩) l k)) := by rw [HEA.out, if_neg hki, hwd]; rfl
      have HE2 := Lib.hid hE2
      clear hBv hki hwd hE2 HEA HB HGI
      have HK := Lib.hid (show k ≤ l.length by rw [HSL.out]; exact hks)
      clear hks
      go_wp2_with fail
      go_loopw [5] (fun v wx => RunW wc (wordP ⟨#[95, 46, 58, 45]⟩) l k v wx) (fun v _ => s.size - (intOf v).toNat)
      case atStart => exact ⟨k, rfl, HK.out, rfl, rfl⟩
      case round =>
        obtain ⟨j, rfl, hj, hrr, rfl⟩ := hrel
        have hjs : j ≤ s.size := by have := HSL.out; omega
        have HR := Lib.hid hrr
        clear hrr hj
        obtain ⟨C, hC⟩ : ∃ C, condR l (wordP ⟨#[95, 46, 58, 45]⟩) j = C := ⟨_, rfl⟩
        have HC := Lib.hid hC
        clear hC
        go_upto_region 4 with fail
        go_cut [79] (fun s79 wx => s79 = .bool C ∧ wx = wr)
        case first =>
          by_cases h2 : j < s.size
          · have z2 : decide (j < s.size) = true := by simp; omega
            have z3 : (j : Int) < (s.size : Int) := by omega
            have hc := condR_some (p := wordP ⟨#[95, 46, 58, 45]⟩) (HGET.out j h2)
            rw [HC.out, word_rest] at hc
            obtain ⟨x, hx⟩ : ∃ x, s[j] = x := ⟨_, rfl⟩
            have HX := Lib.hid hx
            rw [hx] at hc
            clear hx
            cases hl : letter x with
            | true =>
              have hc2 : C = true := by rw [hc, hl]; rfl
              have HL := Lib.hid hl
              subst hc2
              clear hc hl
              go_wp2_with fail
              rw [HX.out]
              refine Calls.mono (refletter_any x _) ?_
              rintro e w' ⟨rfl, rfl⟩
              rw [HL.out]
              go_wp2_with fail
              go_meet
              exact ⟨rfl, rfl⟩
            | false =>
              have HL := Lib.hid hl
              cases hd : digit x with
              | true =>
                have hc2 : C = true := by rw [hc, hl, hd]; rfl
                have HD := Lib.hid hd
                subst hc2
                clear hc hl hd
                go_wp2_with fail
                rw [HX.out]
                refine Calls.mono (refletter_any x _) ?_
                rintro e w' ⟨rfl, rfl⟩
                rw [HL.out]
                go_wp2_with fail
                rw [HX.out]
                refine Calls.mono (refdigit_any x _) ?_
                rintro e w' ⟨rfl, rfl⟩
                rw [HD.out]
                go_wp2_with fail
                go_meet
                exact ⟨rfl, rfl⟩
              | false =>
                have HD := Lib.hid hd
                have y95 : ((s[j].toNat : Int) == 95) = (x == 95) := by rw [HX.out]; exact beqc x 95
                cases h95 : (x == 95) with
                | true =>
                  have hc2 : C = true := by rw [hc, hl, hd, h95]; rfl
                  rw [h95] at y95
                  subst hc2
                  clear hc hl hd h95
                  go_wp2_with fail
                  rw [HX.out]
                  refine Calls.mono (refletter_any x _) ?_
                  rintro e w' ⟨rfl, rfl⟩
                  rw [HL.out]
                  go_wp2_with fail
                  rw [HX.out]
                  refine Calls.mono (refdigit_any x _) ?_
                  rintro e w' ⟨rfl, rfl⟩
                  rw [HD.out]
                  go_wp2_with fail
                  go_meet
                  exact ⟨rfl, rfl⟩
                | false =>
                  rw [h95] at y95
                  have y46 : ((s[j].toNat : Int) == 46) = (x == 46) := by rw [HX.out]; exact beqc x 46
                  cases h46 : (x == 46) with
                  | true =>
                    have hc2 : C = true := by rw [hc, hl, hd, h95, h46]; rfl
                    rw [h46] at y46
                    subst hc2
                    clear hc hl hd h95 h46
                    go_wp2_with fail
                    rw [HX.out]
                    refine Calls.mono (refletter_any x _) ?_
                    rintro e w' ⟨rfl, rfl⟩
                    rw [HL.out]
                    go_wp2_with fail
                    rw [HX.out]
                    refine Calls.mono (refdigit_any x _) ?_
                    rintro e w' ⟨rfl, rfl⟩
                    rw [HD.out]
                    go_wp2_with fail
                    go_meet
                    exact ⟨rfl, rfl⟩
                  | false =>
                    rw [h46] at y46
                    have y58 : ((s[j].toNat : Int) == 58) = (x == 58) := by rw [HX.out]; exact beqc x 58
                    cases h58 : (x == 58) with
                    | true =>
                      have hc2 : C = true := by rw [hc, hl, hd, h95, h46, h58]; rfl
                      rw [h58] at y58
                      subst hc2
                      clear hc hl hd h95 h46 h58
                      go_wp2_with fail
                      rw [HX.out]
                      refine Calls.mono (refletter_any x _) ?_
                      rintro e w' ⟨rfl, rfl⟩
                      rw [HL.out]
                      go_wp2_with fail
                      rw [HX.out]
                      refine Calls.mono (refdigit_any x _) ?_
                      rintro e w' ⟨rfl, rfl⟩
                      rw [HD.out]
                      go_wp2_with fail
                      go_meet
                      exact ⟨rfl, rfl⟩
                    | false =>
                      rw [h58] at y58
                      have y45 : ((s[j].toNat : Int) == 45) = (x == 45) := by rw [HX.out]; exact beqc x 45
                      have hc2 : C = (x == 45) := by rw [hc, hl, hd, h95, h46, h58]; rfl
                      rw [← hc2] at y45
                      clear hc hl hd hc2 h95 h46 h58
                      go_wp2_with fail
                      rw [HX.out]
                      refine Calls.mono (refletter_any x _) ?_
                      rintro e w' ⟨rfl, rfl⟩
                      rw [HL.out]
                      go_wp2_with fail
                      rw [HX.out]
                      refine Calls.mono (refdigit_any x _) ?_
                      rintro e w' ⟨rfl, rfl⟩
                      rw [HD.out]
                      go_wp2_with fail
                      go_meet
                      exact ⟨rfl, rfl⟩
          · have z2 : decide (j < s.size) = false := by simp; omega
            have z3 : ¬ (j : Int) < (s.size : Int) := by omega
            have hc2 : C = false := by rw [← HC.out, condR_none (by rw [HSL.out]; omega)]
            subst hc2
            clear h2
            go_wp2_with fail
            go_meet
            exact ⟨rfl, rfl⟩
        case rest =>
          obtain ⟨rfl, rfl⟩ := hcut
          cases hCv : C with
          | true =>
            have hy := run_cond_yes (HC.out.trans hCv)
            have HY := Lib.hid hy
            clear hCv hy
            go_wp2
            exact ⟨⟨j + 1, by go_num, HY.out.1, by rw [HR.out, HY.out.2], rfl⟩, by have := HY.out.1; have := HSL.out; simp [intOf]; omega⟩
          | false =>
            have hy := run_cond_no (HC.out.trans hCv)
            have hE3 : E = optI (attr2 l j) := by rw [HE2.out, HR.out, hy]
            obtain ⟨v, hv⟩ : ∃ v, gapN l j = v := ⟨_, rfl⟩
            have hG2 : ∀ w', Calls Tryz.prog 71 #[.string s, .int .i64 (j : Int)] w' (RI w' (v : Nat)) := fun w' => by have := HG.out j w' hjs; rwa [hv] at this
            have hvl : v ≤ s.size := by have := gapN_le l j (by rw [HSL.out]; exact hjs); have := HSL.out; omega
            have hE3b : E = if condR l (fun b => b == 61) v = true then optI (valN l (gapN l (v + 1))) else (j : Int) := by
              rw [hE3]
              unfold attr2
              rw [hv, prefix_61]
              split <;> rfl
            have HG2 := Lib.hid hG2
            have HE3 := Lib.hid hE3b
            clear hy hE3 hv hG2 hE3b hCv HC HE2 HR HK
            go_wp2_with fail
            refine Calls.mono (HG2.out _) ?_
            rintro e w1 ⟨rfl, rfl⟩
            obtain ⟨D, hD⟩ : ∃ D, condR l (fun b => b == 61) v = D := ⟨_, rfl⟩
            rw [hD] at HE3
            have HD0 := Lib.hid hD
            clear hD
            by_cases h2 : v < s.size
            · have z2 : decide (s.size ≤ v) = false := by simp; omega
              have z3 : (v : Int) < (s.size : Int) := by omega
              have hc := condR_some (p := fun b => b == 61) (HGET.out v h2)
              rw [HD0.out] at hc
              obtain ⟨x, hx⟩ : ∃ x, s[v] = x := ⟨_, rfl⟩
              have y61 : ((s[v].toNat : Int) != 61) = (x != 61) := by rw [hx]; exact bnec x 61
              rw [hx] at hc
              have HX := Lib.hid hx
              clear hx
              cases h61 : (x == 61) with
              | false =>
                have hE5 : E = (j : Int) := by rw [HE3.out, hc, h61]; rfl
                rw [show (x != 61) = true by unfold bne; rw [h61]; rfl] at y61
                subst hE5
                clear hc h61 HE3
                go_wp2
                go_ret
                exact ⟨rfl, 0, rfl⟩
              | true =>
                have hE5 : E = optI (valN l (gapN l (v + 1))) := by rw [HE3.out, hc, h61]; rfl
                rw [show (x != 61) = false by unfold bne; rw [h61]; rfl] at y61
                obtain ⟨v2, hv2⟩ : ∃ v2, gapN l (v + 1) = v2 := ⟨_, rfl⟩
                have hG3 : ∀ w', Calls Tryz.prog 71 #[.string s, .int .i64 ((v : Int) + 1)] w' (RI w' (v2 : Nat)) := fun w' => by have := HG.out (v + 1) w' (by omega); rwa [hv2] at this
                have hv2l : v2 ≤ s.size := by have := gapN_le l (v + 1) (by have := HSL.out; omega); have := HSL.out; omega
                rw [hv2] at hE5
                have HE4 := Lib.hid hE5
                have HG3 := Lib.hid hG3
                have hvb1 : (v : Int) + 1 ≤ (s.size : Int) := by omega
                clear hc h61 HE3 hE5 hG3 hv2 HD0
                go_wp2_with fail
                refine Calls.mono (HG3.out _) ?_
                rintro e w1 ⟨rfl, rfl⟩
                by_cases hv2 : v2 < s.size
                · have z4 : decide (s.size ≤ v2) = false := by simp; omega
                  have z5 : (v2 : Int) < (s.size : Int) := by omega
                  have hg2 := HGET.out v2 hv2
                  obtain ⟨x2, hx2⟩ : ∃ x2, s[v2] = x2 := ⟨_, rfl⟩
                  rw [hx2] at hg2
                  have hlv : l[v2]'(by rw [HSL.out]; exact hv2) = x2 := (List.getElem?_eq_some_iff.1 hg2).2
                  have y34 : ((s[v2].toNat : Int) == 34) = (x2 == 34) := by rw [hx2]; exact beqc x2 34
                  have y39 : ((s[v2].toNat : Int) == 39) = (x2 == 39) := by rw [hx2]; exact beqc x2 39
                  have HX2 := Lib.hid hx2
                  clear hx2 hg2
                  by_cases h34 : x2 = 34
                  · subst h34
                    clear y39
                    have y34 : ((s[v2].toNat : Int) == 34) = true := y34
                    have hEq : E = optI (quoteN l 34 v2) := by rw [HE4.out]; unfold valN; rw [dif_pos (by rw [HSL.out]; exact hv2), show l[v2]'(by rw [HSL.out]; exact hv2) = 34 from hlv, if_pos (by simp)]
                    rw [quote_run l 34 v2 (by rw [HSL.out]; exact hv2)] at hEq
                    have HEQ := Lib.hid hEq
                    have hvb : (v2 : Int) + 1 ≤ (s.size : Int) := by omega
                    have HV2 := Lib.hid (show v2 + 1 ≤ l.length by rw [HSL.out]; omega)
                    clear hEq hlv HE4
                    go_wp2_with fail
                    go_loopw [7] (fun v wx => RunD wc (fun b => b != 34) l (v2 + 1) v wx) (fun v _ => s.size - (intOf v).toNat)
                    case atStart => exact ⟨v2 + 1, by go_num, HV2.out, rfl, 0, rfl⟩
                    case round =>
                      obtain ⟨e, rfl, he, hrr, d, rfl⟩ := hrel
                      have hes : e ≤ s.size := by have := HSL.out; omega
                      have HR2 := Lib.hid hrr
                      clear hrr he
                      by_cases h3 : e < s.size
                      · have z2 : decide (e < s.size) = true := by simp; omega
                        have z3 : (e : Int) < (s.size : Int) := by omega
                        have hc := condR_some (p := fun b => b != 34) (HGET.out e h3)
                        obtain ⟨y, hy⟩ : ∃ y, s[e] = y := ⟨_, rfl⟩
                        rw [hy] at hc
                        have yq : ((s[e].toNat : Int) != (s[v2].toNat : Int)) = (y != 34) := by rw [hy, HX2.out]; exact bnec y 34
                        cases hyq : (y != 34) with
                        | true =>
                          rw [hyq] at yq
                          have hrun := run_cond_yes (hc.trans hyq)
                          have HRUN := Lib.hid hrun
                          clear hc hy hyq hrun
                          go_wp2
                          go_quiet (fail)
                          go_wp2
                          exact ⟨⟨e + 1, by go_num, HRUN.out.1, by rw [HR2.out, HRUN.out.2], d + nq, by first | rfl | exact World.drewN_drewN _ _ _⟩, by simp [intOf]; omega⟩
                        | false =>
                          rw [hyq] at yq
                          have hrun := run_cond_no (hc.trans hyq)
                          have hEv : E = (e : Int) + 1 := by
                            rw [HEQ.out, HR2.out, hrun, if_pos (by rw [HSL.out]; exact h3)]
                            rfl
                          subst hEv
                          clear hc hy hyq hrun HEQ
                          have z4 : decide (s.size ≤ e) = false := by simp; omega
                          go_wp2
                          go_quiet (fail)
                          go_wp2
                          go_ret
                          exact ⟨by go_num, d + nq, by first | rfl | exact World.drewN_drewN _ _ _⟩
                      · have z2 : decide (e < s.size) = false := by simp; omega
                        have z3 : decide ((e : Int) < (s.size : Int)) = false := by simp; omega
                        have hrun := run_cond_no (condR_none (p := fun b => b != 34) (l := l) (k := e) (by rw [HSL.out]; omega))
                        have hEv : E = -1 := by
                          rw [HEQ.out, HR2.out, hrun, if_neg (by rw [HSL.out]; exact h3)]
                          rfl
                        subst hEv
                        clear hrun HEQ
                        have z4 : decide (s.size ≤ e) = true := by simp; omega
                        go_wp2
                        go_quiet (fail)
                        go_wp2
                        go_ret
                        exact ⟨rfl, d + nq, by first | rfl | exact World.drewN_drewN _ _ _⟩
                  · by_cases h39 : x2 = 39
                    · subst h39
                      have y34 : ((s[v2].toNat : Int) == 34) = false := y34
                      have y39 : ((s[v2].toNat : Int) == 39) = true := y39
                      clear h34
                      have hEq : E = optI (quoteN l 39 v2) := by rw [HE4.out]; unfold valN; rw [dif_pos (by rw [HSL.out]; exact hv2), show l[v2]'(by rw [HSL.out]; exact hv2) = 39 from hlv, if_pos (by simp)]
                      rw [quote_run l 39 v2 (by rw [HSL.out]; exact hv2)] at hEq
                      have HEQ := Lib.hid hEq
                      have hvb : (v2 : Int) + 1 ≤ (s.size : Int) := by omega
                      have HV2 := Lib.hid (show v2 + 1 ≤ l.length by rw [HSL.out]; omega)
                      clear hEq hlv HE4
                      go_wp2_with fail
                      go_loopw [7] (fun v wx => RunD wc (fun b => b != 39) l (v2 + 1) v wx) (fun v _ => s.size - (intOf v).toNat)
                      case atStart => exact ⟨v2 + 1, by go_num, HV2.out, rfl, 0, rfl⟩
                      case round =>
                        obtain ⟨e, rfl, he, hrr, d, rfl⟩ := hrel
                        have hes : e ≤ s.size := by have := HSL.out; omega
                        have HR2 := Lib.hid hrr
                        clear hrr he
                        by_cases h3 : e < s.size
                        · have z2 : decide (e < s.size) = true := by simp; omega
                          have z3 : (e : Int) < (s.size : Int) := by omega
                          have hc := condR_some (p := fun b => b != 39) (HGET.out e h3)
                          obtain ⟨y, hy⟩ : ∃ y, s[e] = y := ⟨_, rfl⟩
                          rw [hy] at hc
                          have yq : ((s[e].toNat : Int) != (s[v2].toNat : Int)) = (y != 39) := by rw [hy, HX2.out]; exact bnec y 39
                          cases hyq : (y != 39) with
                          | true =>
                            rw [hyq] at yq
                            have hrun := run_cond_yes (hc.trans hyq)
                            have HRUN := Lib.hid hrun
                            clear hc hy hyq hrun
                            go_wp2
                            go_quiet (fail)
                            go_wp2
                            exact ⟨⟨e + 1, by go_num, HRUN.out.1, by rw [HR2.out, HRUN.out.2], d + nq, by first | rfl | exact World.drewN_drewN _ _ _⟩, by simp [intOf]; omega⟩
                          | false =>
                            rw [hyq] at yq
                            have hrun := run_cond_no (hc.trans hyq)
                            have hEv : E = (e : Int) + 1 := by
                              rw [HEQ.out, HR2.out, hrun, if_pos (by rw [HSL.out]; exact h3)]
                              rfl
                            subst hEv
                            clear hc hy hyq hrun HEQ
                            have z4 : decide (s.size ≤ e) = false := by simp; omega
                            go_wp2
                            go_quiet (fail)
                            go_wp2
                            go_ret
                            exact ⟨by go_num, d + nq, by first | rfl | exact World.drewN_drewN _ _ _⟩
                        · have z2 : decide (e < s.size) = false := by simp; omega
                          have z3 : decide ((e : Int) < (s.size : Int)) = false := by simp; omega
                          have hrun := run_cond_no (condR_none (p := fun b => b != 39) (l := l) (k := e) (by rw [HSL.out]; omega))
                          have hEv : E = -1 := by
                            rw [HEQ.out, HR2.out, hrun, if_neg (by rw [HSL.out]; exact h3)]
                            rfl
                          subst hEv
                          clear hrun HEQ
                          have z4 : decide (s.size ≤ e) = true := by simp; omega
                          go_wp2
                          go_quiet (fail)
                          go_wp2
                          go_ret
                          exact ⟨rfl, d + nq, by first | rfl | exact World.drewN_drewN _ _ _⟩
                    · rw [beq_no h34] at y34
                      rw [beq_no h39] at y39
                      have hEq : E = optI (bareN l v2) := by rw [HE4.out]; unfold valN; rw [dif_pos (by rw [HSL.out]; exact hv2), hlv, if_neg (by simp [h34, h39])]
                      have HEQ := Lib.hid hEq
                      have HV2 := Lib.hid (show v2 ≤ l.length by rw [HSL.out]; exact hv2l)
                      clear hEq hlv HE4 h34 h39 HX2
                      go_wp2_with fail
                      go_loopw [8] (fun v wx => RunW wc valP l v2 v wx) (fun v _ => s.size - (intOf v).toNat)
                      case atStart => exact ⟨v2, rfl, HV2.out, rfl, rfl⟩
                      case round =>
                        obtain ⟨e, rfl, he, hrr, rfl⟩ := hrel
                        have hes : e ≤ s.size := by have := HSL.out; omega
                        have HR2 := Lib.hid hrr
                        clear hrr he
                        obtain ⟨C3, hC3⟩ : ∃ C3, condR l valP e = C3 := ⟨_, rfl⟩
                        have HC3 := Lib.hid hC3
                        clear hC3
                        go_upto_region 20 with fail
                        go_cut [183] (fun s183 wx => s183 = .bool C3 ∧ wx = wr)
                        case first =>
                          by_cases h3 : e < s.size
                          · have q2 : decide (e < s.size) = true := by simp; omega
                            have q3 : (e : Int) < (s.size : Int) := by omega
                            have hc := condR_some (p := valP) (HGET.out e h3)
                            rw [HC3.out, val_p] at hc
                            obtain ⟨x, hx⟩ : ∃ x, s[e] = x := ⟨_, rfl⟩
                            have HX := Lib.hid hx
                            rw [hx] at hc
                            clear hx
                            have y32 : decide ((32 : Int) < (s[e].toNat : Int)) = decide ((32 : Int) < (x.toNat : Int)) := by rw [HX.out]
                            cases h32 : decide ((32 : Int) < (x.toNat : Int)) with
                            | false =>
                              have hc2 : C3 = false := by rw [hc, h32]; rfl
                              rw [h32] at y32
                              subst hc2
                              clear hc h32
                              go_wp2_with fail
                              go_meet
                              exact ⟨rfl, rfl⟩
                            | true =>
                              rw [h32] at y32
                              have y32i : (32 : Int) < (s[e].toNat : Int) := by simpa using y32
                              have y34 : ((s[e].toNat : Int) != 34) = (x != 34) := by rw [HX.out]; exact bnec x 34
                              cases h34 : (x != 34) with
                              | false =>
                                have hc2 : C3 = false := by rw [hc, h32, h34]; rfl
                                rw [h34] at y34
                                subst hc2
                                clear hc h32 h34
                                go_wp2_with fail
                                go_meet
                                exact ⟨rfl, rfl⟩
                              | true =>
                                rw [h34] at y34
                                have y39 : ((s[e].toNat : Int) != 39) = (x != 39) := by rw [HX.out]; exact bnec x 39
                                cases h39 : (x != 39) with
                                | false =>
                                  have hc2 : C3 = false := by rw [hc, h32, h34, h39]; rfl
                                  rw [h39] at y39
                                  subst hc2
                                  clear hc h32 h34 h39
                                  go_wp2_with fail
                                  go_meet
                                  exact ⟨rfl, rfl⟩
                                | true =>
                                  rw [h39] at y39
                                  have y61 : ((s[e].toNat : Int) != 61) = (x != 61) := by rw [HX.out]; exact bnec x 61
                                  cases h61 : (x != 61) with
                                  | false =>
                                    have hc2 : C3 = false := by rw [hc, h32, h34, h39, h61]; rfl
                                    rw [h61] at y61
                                    subst hc2
                                    clear hc h32 h34 h39 h61
                                    go_wp2_with fail
                                    go_meet
                                    exact ⟨rfl, rfl⟩
                                  | true =>
                                    rw [h61] at y61
                                    have y60 : ((s[e].toNat : Int) != 60) = (x != 60) := by rw [HX.out]; exact bnec x 60
                                    cases h60 : (x != 60) with
                                    | false =>
                                      have hc2 : C3 = false := by rw [hc, h32, h34, h39, h61, h60]; rfl
                                      rw [h60] at y60
                                      subst hc2
                                      clear hc h32 h34 h39 h61 h60
                                      go_wp2_with fail
                                      go_meet
                                      exact ⟨rfl, rfl⟩
                                    | true =>
                                      rw [h60] at y60
                                      have y62 : ((s[e].toNat : Int) != 62) = (x != 62) := by rw [HX.out]; exact bnec x 62
                                      cases h62 : (x != 62) with
                                      | false =>
                                        have hc2 : C3 = false := by rw [hc, h32, h34, h39, h61, h60, h62]; rfl
                                        rw [h62] at y62
                                        subst hc2
                                        clear hc h32 h34 h39 h61 h60 h62
                                        go_wp2_with fail
                                        go_meet
                                        exact ⟨rfl, rfl⟩
                                      | true =>
                                        rw [h62] at y62
                                        have y96 : ((s[e].toNat : Int) != 96) = (x != 96) := by rw [HX.out]; exact bnec x 96
                                        have hc2 : C3 = (x != 96) := by rw [hc, h32, h34, h39, h61, h60, h62]; rfl
                                        rw [← hc2] at y96
                                        clear hc h32 hc2 h34 h39 h61 h60 h62
                                        go_wp2_with fail
                                        go_meet
                                        exact ⟨rfl, rfl⟩
                          · have q2 : decide (e < s.size) = false := by simp; omega
                            have q3 : ¬ (e : Int) < (s.size : Int) := by omega
                            have hc2 : C3 = false := by rw [← HC3.out, condR_none (by rw [HSL.out]; omega)]
                            subst hc2
                            clear h3
                            go_wp2_with fail
                            go_meet
                            exact ⟨rfl, rfl⟩
                        case rest =>
                          obtain ⟨rfl, rfl⟩ := hcut
                          cases hCv : C3 with
                          | true =>
                            have hy := run_cond_yes (HC3.out.trans hCv)
                            have HY := Lib.hid hy
                            clear hCv hy
                            go_wp2
                            exact ⟨⟨e + 1, by go_num, HY.out.1, by rw [HR2.out, HY.out.2], rfl⟩, by have := HY.out.1; have := HSL.out; simp [intOf]; omega⟩
                          | false =>
                            have hy := run_cond_no (HC3.out.trans hCv)
                            have hEv : E = if e = v2 then -1 else (e : Int) := by
                              rw [HEQ.out]
                              unfold bareN
                              rw [HR2.out, hy]
                              split <;> rfl
                            by_cases hev : e = v2
                            · rw [if_pos hev] at hEv
                              have z7 : ((e : Int) == (v2 : Int)) = true := by rw [hev]; simp
                              subst hEv
                              clear hCv hy hev HC3 HEQ HR2
                              go_wp2
                              go_ret
                              exact ⟨rfl, 0, rfl⟩
                            · rw [if_neg hev] at hEv
                              have z7 : ((e : Int) == (v2 : Int)) = false := by rw [beq_eq_false_iff_ne]; omega
                              subst hEv
                              clear hCv hy hev HC3 HEQ HR2
                              go_wp2
                              go_ret
                              exact ⟨rfl, 0, rfl⟩
                · have z4 : decide (s.size ≤ v2) = true := by simp; omega
                  have hE6 : E = -1 := by rw [HE4.out]; unfold valN; rw [dif_neg (by rw [HSL.out]; exact hv2)]; rfl
                  subst hE6
                  clear HE4 hv2
                  go_wp2
                  go_ret
                  exact ⟨rfl, 0, rfl⟩
            · have z2 : decide (s.size ≤ v) = true := by simp; omega
              have hE5 : E = (j : Int) := by rw [HE3.out, ← HD0.out, condR_none (by rw [HSL.out]; omega)]; rfl
              subst hE5
              clear h2 HE3
              go_wp2
              go_ret
              exact ⟨rfl, 0, rfl⟩
end Go.Proofs.YtikokedphocpiaaGreatDoor
