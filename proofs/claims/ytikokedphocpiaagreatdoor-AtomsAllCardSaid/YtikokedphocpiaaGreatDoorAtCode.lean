/- atoms.Code: code between backquotes, at any place of any text. -/
import Derived.Test.YtikokedphocpiaaGreatDoorAtNl
import Derived.Test.YtikokedphocpiaaGreatDoorRow
import Derived.OwnWalk
import Derived.WalkMore
namespace Go.Proofs.YtikokedphocpiaaGreatDoor
open Go.RowKit

theorem Box.new' {w : World} {g : Nat} {t : TypeId} {cs : Array Value} (h : w.heap.size = g) : Box (w.alloc (.cells cs t)) g t cs := by
  subst h
  exact Box.new w t cs
def CodeR (w : World) (x : List UInt8) (n : Int) (b : Bool) (e : Ending) (w' : World) : Prop := e = .returned (.tuple #[.string ⟨x.toArray⟩, .int .i64 n, .bool b]) ∧ Below w.heap.size w w'
theorem trim_any (s : ByteArray) (w : World) (hs : s.size ≤ 9223372036854775807) : Calls Tryz.prog 22 #[.string s, .string ⟨#[32]⟩] w fun e w' => e = .returned (.string ⟨(Lib.trimB s.data.toList 32).toArray⟩) ∧ ∃ d, w' = w.drewN d := by
  refine (Tryz.strings_Trim_one s 32 (by decide) w hs).mono ?_
  rintro e w' ⟨rfl, rfl | rfl⟩
  · exact ⟨rfl, 0, rfl⟩
  · exact ⟨rfl, 1, rfl⟩
theorem dropWhile_nil {p : UInt8 → Bool} : ∀ {l : List UInt8}, l.dropWhile p = [] ↔ ∀ x ∈ l, p x = true
  | [] => by simp
  | b :: l => by
    rw [List.dropWhile_cons]
    by_cases h : p b = true
    · rw [if_pos h, dropWhile_nil]
      simp [h]
    · rw [if_neg h]
      simp [h]
theorem trimB_nil (l : List UInt8) : Lib.trimB l 32 = [] ↔ l.any (· != 32) = false := by
  unfold Lib.trimB Lib.trimLeftB Lib.trimRightB
  rw [dropWhile_nil]
  constructor
  · intro h
    by_cases hn : (l.reverse.dropWhile (· == 32)) = []
    · rw [dropWhile_nil] at hn
      rw [List.any_eq_false]
      intro x hx
      have := hn x (List.mem_reverse.2 hx)
      simp at this
      simp [this]
    · exfalso
      have hh := List.head_dropWhile_not (p := fun b : UInt8 => b == 32) (l := l.reverse) hn
      have := h _ (List.mem_reverse.2 (List.head_mem hn))
      rw [hh] at this
      cases this
  · intro h x hx
    rw [List.any_eq_false] at h
    have hx2 : x ∈ l := by
      have := (List.dropWhile_sublist (p := fun b : UInt8 => b == 32) (l := l.reverse)).subset (List.mem_reverse.1 hx)
      exact List.mem_reverse.1 this
    simpa using h x hx2

set_option maxHeartbeats 1000000 in
set_option maxRecDepth 100000 in
theorem code_no (s : ByteArray) (i : Int) (w : World) (_ : s.size ≤ 1099511627) (hi : -9223372036854775808 ≤ i ∧ i ≤ 9223372036854775807) (h : i < 0 ∨ (s.size : Int) ≤ i ∨ ∃ (k : Nat) (hk : k < s.size), i = k ∧ s[k] ≠ 96) :
    Calls Tryz.prog 8 #[.string s, .int .i64 i] w (CodeR w [] 0 false) := by
  have hbl : Below w.heap.size w (w.alloc (.cells #[.string s] 9)) := (Below.refl _ _).alloc (Nat.le_refl _) _
  have HBL := Lib.hid hbl
  clear hbl
  by_cases h0 : i < 0
  · have z0 : decide (i < 0) = true := by simpa using h0
    clear h h0
    go_enter Tryz.func8, Tryz.ntmps8
    go_wp2
    go_step3
    go_wp2
    rw [Exit.noGoto_ret]
    go_ret3
    exact ⟨rfl, HBL.out⟩
  · have z0 : decide (i < 0) = false := by simpa using h0
    by_cases h1 : (s.size : Int) ≤ i
    · have z1 : decide ((s.size : Int) ≤ i) = true := by simpa using h1
      clear h h0 h1
      go_enter Tryz.func8, Tryz.ntmps8
      go_wp2
      go_step3
      go_wp2
      rw [Exit.noGoto_ret]
      go_ret3
      exact ⟨rfl, HBL.out⟩
    · rcases h with h | h | ⟨k, hk, rfl, h96⟩
      · exact absurd h h0
      · exact absurd h h1
      have z1 : decide ((s.size : Int) ≤ (k : Int)) = false := by simpa using h1
      have hki : (k : Int) < (s.size : Int) := by omega
      have z96 : ((s[k].toNat : Int) != 96) = true := by simp; intro e; exact h96 (UInt8.toNat_inj.1 (by show s[k].toNat = 96; omega))
      clear h0 h1 h96
      go_enter Tryz.func8, Tryz.ntmps8
      go_wp2
      go_step3
      go_wp2
      rw [Exit.noGoto_ret]
      go_ret3
      exact ⟨rfl, HBL.out⟩

theorem shave_long (T : ByteArray) (h1 : T.data.toList.any (· != 32) = true) (h2 : Lib.hasPrefix T.data.toList [32] = true) (h3 : Lib.hasSuffix T.data.toList [32] = true) : 3 ≤ T.size := by
  have e : T.data.toList.length = T.size := Array.length_toList
  obtain ⟨l, hl⟩ : ∃ l, T.data.toList = l := ⟨_, rfl⟩
  rw [hl] at h1 h2 h3 e
  unfold Lib.hasPrefix at h2
  unfold Lib.hasSuffix at h3
  rw [List.isPrefixOf_iff_prefix] at h2
  rw [List.isSuffixOf_iff_suffix] at h3
  match l, h1, h2, h3, e with
  | [], h1, _, _, _ => simp at h1
  | [a], h1, h2, _, _ =>
    obtain ⟨r, hr⟩ := h2
    simp at hr
    simp [← hr.1] at h1
  | [a, b], h1, h2, h3, _ =>
    obtain ⟨r, hr⟩ := h2
    obtain ⟨r3, hr3⟩ := h3
    simp at hr
    have hb : b = 32 := by
      have := congrArg List.getLast? hr3
      simpa using this.symm
    simp [← hr.1, hb] at h1
  | a :: b :: c :: r, _, _, _, e => simp only [List.length_cons] at e; omega
def CodeW (w : World) (o : Obj) (l : List UInt8) (n f : Nat) (v : Value) (wr : World) : Prop :=
  ∃ q : Nat, v = .int .i64 q ∧ f ≤ q ∧ q ≤ l.length ∧ cnext l n q = cnext l n f ∧ Below (w.heap.size + 1) (w.alloc o) wr
set_option maxHeartbeats 8000000 in
set_option maxRecDepth 100000 in
theorem code_yes (s : ByteArray) (k : Nat) (w : World) (hs : s.size ≤ 1099511627) (hm : MaxB w) (hk : k < s.size) (h96 : s[k] = 96) :
    Calls Tryz.prog 8 #[.string s, .int .i64 (k : Int)] w (CodeR w (codeAt s.data.toList k).text (codeAt s.data.toList k).stop (codeAt s.data.toList k).is) := by
  have hsl : s.data.toList.length = s.size := Array.length_toList
  obtain ⟨n, hn⟩ : ∃ n, rowN s.data.toList k = n := ⟨_, rfl⟩
  have hnle := rowN_le s.data.toList k
  rw [hn, hsl] at hnle
  have hn0 : n ≠ 0 := by
    rw [← hn]
    intro e
    exact (rowN_zero.1 e) (by rw [get_list s k hk, h96])
  have hbl : Below w.heap.size w (w.alloc (.cells #[.string s] 9)) := (Below.refl _ _).alloc (Nat.le_refl _) _
  have hcd : codeAt s.data.toList k = match cnext s.data.toList n (k + n) with
    | none => ⟨[], k + n, false⟩
    | some q => ⟨shave (((s.data.toList.drop (k + n)).take (q - (k + n))).map noNl), q + n, true⟩ := by
    unfold codeAt
    rw [if_pos ⟨by omega, by rw [Int.toNat_natCast, get_list s k hk, h96]⟩, Int.toNat_natCast, hn]
    cases cnext s.data.toList n (k + n) <;> rfl
  have HBL := Lib.hid hbl
  have HCD := Lib.hid hcd
  have HM := Lib.hid hm
  have HN := Lib.hid hn
  have HSL := Lib.hid hsl
  have z0 : decide ((k : Int) < 0) = false := by simp
  have z1 : decide ((s.size : Int) ≤ (k : Int)) = false := by simp; omega
  have hki : (k : Int) < (s.size : Int) := by omega
  have z96 : ((s[k].toNat : Int) != 96) = false := by rw [h96]; rfl
  have hbox : (w.alloc (.cells #[.string s] 9)).cell? ⟨w.heap.size, 0, none⟩ = some (.string s) := (Box.new' rfl).cell 0
  have HBOX := Lib.hid hbox
  clear hbl hcd hm hn h96 hsl hbox
  go_enter Tryz.func8, Tryz.ntmps8
  go_wp2
  go_step3
  go_wp2_with fail
  refine Calls.mono (row_any s k w.heap.size _ (by omega) (by omega) HBOX.out) ?_
  rintro e w1 ⟨rfl, d, rfl⟩
  rw [HN.out]
  go_wp2_with fail
  obtain ⟨F, hF⟩ : ∃ F : Nat, k + n = F := ⟨_, rfl⟩
  rw [hF] at HCD
  have HF := Lib.hid hF
  go_step3
  go_wp2_with fail
  rw [show (k : Int) + (n : Int) = (F : Int) by omega]
  clear hF
  go_loopw [10] (fun v wr => CodeW w (.cells #[.string s] 9) s.data.toList n F v wr) (fun v _ => s.size - (intOf v).toNat)
  case atStart => exact ⟨F, rfl, Nat.le_refl _, by rw [HSL.out]; have := HF.out; omega, rfl, row_drewN (Below.refl _ _) d⟩
  case round =>
    obtain ⟨q, rfl, hfq, hql, hcn, hbw⟩ := hrel
    rw [HSL.out] at hql
    have hws := hbw.size
    simp only [World.size_alloc] at hws
    have hbox := (hbw.cell (p := ⟨w.heap.size, 0, none⟩) (Nat.lt_succ_self _)).trans HBOX.out
    have hqi : (q : Int) ≤ (s.size : Int) := by omega
    have hex := ext_drop s q
    obtain ⟨X, hX⟩ : ∃ X, s.extract q s.size = X := ⟨_, rfl⟩
    rw [hX] at hex
    have HX := Lib.hid hX
    have HEX := Lib.hid hex
    have HCN := Lib.hid hcn
    have HBW := Lib.hid hbw
    clear hX hex hcn hbw
    rcases indexByte_spec (s.data.toList.drop q) 96 with ⟨h1, h2⟩ | ⟨a, h1, h2, h3⟩
    · have hnone : cnext s.data.toList n F = none := by
        rw [← HCN.out]
        have hj := cnext_jump (l := s.data.toList) (n := n) (s.size - q) q (by rw [HSL.out]; omega) (fun j _ => by have := h2 j; rwa [List.getElem?_drop] at this)
        rw [hj]
        exact cnext_end (by rw [HSL.out]; omega)
      have hres : codeAt s.data.toList k = ⟨[], F, false⟩ := by rw [HCD.out, hnone]
      have H1 := Lib.hid h1
      have HRES := Lib.hid hres
      clear h1 h2 hnone hres
      go_wp2_with fail
      rw [HX.out]
      refine Calls.mono (indexByte_any X 96 _) ?_
      rintro e w2 ⟨rfl, rfl⟩
      rw [HEX.out, H1.out]
      go_wp2
      rw [Exit.noGoto_ret]
      go_ret3
      rw [HRES.out]
      exact ⟨rfl, HBL.out.trans (HBW.out.mono (Nat.le_succ _))⟩
    · have ha : q + a < s.size := by
        have := (List.getElem?_eq_some_iff.1 h2).1
        rw [List.length_drop, HSL.out] at this
        omega
      have h96 : s.data.toList[q + a]? = some 96 := by rwa [List.getElem?_drop] at h2
      have hjump : cnext s.data.toList n (q + a) = cnext s.data.toList n F := by
        rw [← HCN.out]
        exact (cnext_jump (l := s.data.toList) (n := n) a q (by rw [HSL.out]; omega) (fun j hj => by have := h3 j hj; rwa [List.getElem?_drop] at this)).symm
      obtain ⟨p, hp⟩ : ∃ p, q + a = p := ⟨_, rfl⟩
      rw [hp] at ha h96 hjump
      obtain ⟨m, hmr⟩ : ∃ m, rowN s.data.toList p = m := ⟨_, rfl⟩
      have hm0 : m ≠ 0 := by
        rw [← hmr]
        intro e
        exact (rowN_zero.1 e) h96
      have hmle := rowN_le s.data.toList p
      rw [hmr, HSL.out] at hmle
      have H1 := Lib.hid h1
      have HP := Lib.hid hp
      have HMR := Lib.hid hmr
      have HJ := Lib.hid hjump
      have hqa : (q : Int) + (a : Int) = (p : Int) := by omega
      have hab : (q : Int) + (a : Int) ≤ 1099511627 := by omega
      have haz : decide ((a : Int) < 0) = false := by simp
      have HQA := Lib.hid hqa
      have HBX := Lib.hid hbox
      clear h1 h2 h3 hp hmr h96 hjump hqa
      by_cases hmn : m = n
      · subst hmn
        have zmn : ((m : Int) != (m : Int)) = false := by simp
        have hsome : cnext s.data.toList m F = some p := by
          rw [← HJ.out]
          exact cnext_found (by rw [HSL.out]; exact ha) (by rw [HMR.out]; exact hm0) HMR.out
        have hres : codeAt s.data.toList k = ⟨shave (((s.data.toList.drop F).take (p - F)).map noNl), p + m, true⟩ := by rw [HCD.out, hsome]
        have hFp : F ≤ p := by have := HP.out; omega
        have hFi : (F : Int) ≤ (p : Int) := by omega
        have hpi : (p : Int) ≤ (s.size : Int) := by omega
        obtain ⟨Y, hY⟩ : ∃ Y, s.extract F p = Y := ⟨_, rfl⟩
        have hYl : Y.data.toList = (s.data.toList.drop F).take (p - F) := by rw [← hY, Lib.extract_data]
        have hYs : Y.size ≤ s.size := by rw [← hY, ByteArray.size_extract]; omega
        obtain ⟨T, hT⟩ : ∃ T : ByteArray, (⟨(Y.data.toList.map noNl).toArray⟩ : ByteArray) = T := ⟨_, rfl⟩
        have hTl : T.data.toList = ((s.data.toList.drop F).take (p - F)).map noNl := by rw [← hT, ← hYl]
        have hTs : T.size ≤ s.size := by
          have e : T.size = (Y.data.toList.map noNl).length := by rw [← hT]; rfl
          rw [List.length_map] at e
          have e2 : Y.data.toList.length = Y.size := Array.length_toList
          omega
        have hsum : (p : Int) + (m : Int) ≤ 1099511627 := by omega
        rw [← hTl] at hres
        obtain ⟨U, hU⟩ : ∃ U : ByteArray, (⟨(Lib.trimB T.data.toList 32).toArray⟩ : ByteArray) = U := ⟨_, rfl⟩
        have hUl : U.toList = Lib.trimB T.data.toList 32 := by rw [ByteArray.toList_eq, ← hU]
        have hmx : MaxB wr := HM.out.later (HBL.out.trans (HBW.out.mono (Nat.le_succ _)))
        have hbe : Below w.heap.size w wr := HBL.out.trans (HBW.out.mono (Nat.le_succ _))
        have HRES := Lib.hid hres
        have HY := Lib.hid hY
        have HT := Lib.hid hT
        have HU := Lib.hid hU
        have HUL := Lib.hid hUl
        have HMX := Lib.hid hmx
        have HBE := Lib.hid hbe
        clear hsome hres hY hYl hT hTl hU hUl hmx hbe
        cases p1 : T.data.toList.any (· != 32) with
        | false =>
          have hu1 : U.toList = [] := by rw [HUL.out, trimB_nil]; exact p1
          have hu2 : U.toList.isEmpty = true := by rw [hu1]; rfl
          have hsh : (⟨(shave T.data.toList).toArray⟩ : ByteArray) = T := by unfold shave; rw [p1]; rfl
          have HSH := Lib.hid hsh
          clear hsh p1
          go_wp2_with fail
          rw [HX.out]
          refine Calls.mono (indexByte_any X 96 _) ?_
          rintro e w2 ⟨rfl, rfl⟩
          rw [HEX.out, H1.out]
          go_wp2_with fail
          rw [HQA.out]
          refine Calls.mono (row_any s p w.heap.size _ (by omega) (by omega) HBX.out) ?_
          rintro e w3 ⟨rfl, d3, rfl⟩
          rw [HMR.out]
          go_wp2_with fail
          rw [HY.out]
          refine Calls.mono (replNl_any Y _ (by omega) (HMX.out.later (row_drewN (Below.refl _ _) d3))) ?_
          rintro e w4 ⟨rfl, b4⟩
          rw [HT.out]
          have HB4 := Lib.hid ((HBE.out).trans ((row_drewN (Below.refl wr.heap.size wr) d3).trans b4 |>.mono HBE.out.size))
          clear b4
          go_wp2_with fail
          refine Calls.mono (trim_any T _ (by omega)) ?_
          rintro e w5 ⟨rfl, d5, rfl⟩
          rw [HU.out]
          go_wp2
          rw [Exit.noGoto_ret]
          go_ret3
          rw [HRES.out]
          refine ⟨?_, row_drewN HB4.out d5⟩
          show Ending.returned (Value.tuple #[.string _, .int .i64 ((p : Int) + (m : Int)), .bool true]) = Ending.returned (Value.tuple #[.string ⟨(shave T.data.toList).toArray⟩, .int .i64 ((p + m : Nat) : Int), .bool true])
          rw [HSH.out]
          rfl
        | true =>
          have hu1 : ¬ U.toList = [] := by rw [HUL.out, trimB_nil]; rw [p1]; simp
          have hu2 : U.toList.isEmpty = false := by
            cases h : U.toList with
            | nil => exact absurd h hu1
            | cons a r => rfl
          cases p2 : Lib.hasPrefix T.data.toList (⟨#[32]⟩ : ByteArray).data.toList with
          | false =>
            have hsh : (⟨(shave T.data.toList).toArray⟩ : ByteArray) = T := by
              unfold shave
              rw [show Lib.hasPrefix T.data.toList [32] = false from p2, p1]
              rfl
            have HSH := Lib.hid hsh
            have HP2 := Lib.hid p2
            clear hsh p1 p2
            go_wp2_with fail
            rw [HX.out]
            refine Calls.mono (indexByte_any X 96 _) ?_
            rintro e w2 ⟨rfl, rfl⟩
            rw [HEX.out, H1.out]
            go_wp2_with fail
            rw [HQA.out]
            refine Calls.mono (row_any s p w.heap.size _ (by omega) (by omega) HBX.out) ?_
            rintro e w3 ⟨rfl, d3, rfl⟩
            rw [HMR.out]
            go_wp2_with fail
            rw [HY.out]
            refine Calls.mono (replNl_any Y _ (by omega) (HMX.out.later (row_drewN (Below.refl _ _) d3))) ?_
            rintro e w4 ⟨rfl, b4⟩
            rw [HT.out]
            have HB4 := Lib.hid ((HBE.out).trans ((row_drewN (Below.refl wr.heap.size wr) d3).trans b4 |>.mono HBE.out.size))
            clear b4
            go_wp2_with fail
            refine Calls.mono (trim_any T _ (by omega)) ?_
            rintro e w5 ⟨rfl, d5, rfl⟩
            rw [HU.out]
            go_wp2_with fail
            refine Calls.mono (Tryz.strings_HasPrefix T ⟨#[32]⟩ _) ?_
            rintro e w6 ⟨rfl, rfl⟩
            rw [HP2.out]
            go_wp2
            rw [Exit.noGoto_ret]
            go_ret3
            rw [HRES.out]
            refine ⟨?_, row_drewN HB4.out d5⟩
            show Ending.returned (Value.tuple #[.string _, .int .i64 ((p : Int) + (m : Int)), .bool true]) = Ending.returned (Value.tuple #[.string ⟨(shave T.data.toList).toArray⟩, .int .i64 ((p + m : Nat) : Int), .bool true])
            rw [HSH.out]
            rfl
          | true =>
            cases p3 : Lib.hasSuffix T.data.toList (⟨#[32]⟩ : ByteArray).data.toList with
            | false =>
              have hsh : (⟨(shave T.data.toList).toArray⟩ : ByteArray) = T := by
                unfold shave
                rw [show Lib.hasSuffix T.data.toList [32] = false from p3, p1, show Lib.hasPrefix T.data.toList [32] = true from p2]
                rfl
              have HSH := Lib.hid hsh
              have HP2 := Lib.hid p2
              have HP3 := Lib.hid p3
              clear hsh p1 p2 p3
              go_wp2_with fail
              rw [HX.out]
              refine Calls.mono (indexByte_any X 96 _) ?_
              rintro e w2 ⟨rfl, rfl⟩
              rw [HEX.out, H1.out]
              go_wp2_with fail
              rw [HQA.out]
              refine Calls.mono (row_any s p w.heap.size _ (by omega) (by omega) HBX.out) ?_
              rintro e w3 ⟨rfl, d3, rfl⟩
              rw [HMR.out]
              go_wp2_with fail
              rw [HY.out]
              refine Calls.mono (replNl_any Y _ (by omega) (HMX.out.later (row_drewN (Below.refl _ _) d3))) ?_
              rintro e w4 ⟨rfl, b4⟩
              rw [HT.out]
              have HB4 := Lib.hid ((HBE.out).trans ((row_drewN (Below.refl wr.heap.size wr) d3).trans b4 |>.mono HBE.out.size))
              clear b4
              go_wp2_with fail
              refine Calls.mono (trim_any T _ (by omega)) ?_
              rintro e w5 ⟨rfl, d5, rfl⟩
              rw [HU.out]
              go_wp2_with fail
              refine Calls.mono (Tryz.strings_HasPrefix T ⟨#[32]⟩ _) ?_
              rintro e w6 ⟨rfl, rfl⟩
              rw [HP2.out]
              go_wp2_with fail
              refine Calls.mono (Tryz.strings_HasSuffix T ⟨#[32]⟩ _ (by omega)) ?_
              rintro e w7 ⟨rfl, rfl⟩
              rw [HP3.out]
              go_wp2
              rw [Exit.noGoto_ret]
              go_ret3
              rw [HRES.out]
              refine ⟨?_, row_drewN HB4.out d5⟩
              show Ending.returned (Value.tuple #[.string _, .int .i64 ((p : Int) + (m : Int)), .bool true]) = Ending.returned (Value.tuple #[.string ⟨(shave T.data.toList).toArray⟩, .int .i64 ((p + m : Nat) : Int), .bool true])
              rw [HSH.out]
              rfl
            | true =>
              have hlong : 3 ≤ T.size := shave_long T p1 p2 p3
              have hsh : (⟨(shave T.data.toList).toArray⟩ : ByteArray) = T.extract 1 (T.size - 1) := by
                unfold shave
                rw [show Lib.hasSuffix T.data.toList [32] = true from p3, p1, show Lib.hasPrefix T.data.toList [32] = true from p2]
                have e2 : T.data.toList.length = T.size := Array.length_toList
                simp only [Bool.and_self, if_true]
                exact (str_mk _ _ (by rw [Lib.extract_data, e2, show T.size - 1 - 1 = T.size - 2 by omega])).symm
              have hl1 : (1 : Int) ≤ (T.size : Int) - 1 := by omega
              have hl2 : (T.size : Int) - 1 ≤ (T.size : Int) := by omega
              have HSH := Lib.hid hsh
              have HP2 := Lib.hid p2
              have HP3 := Lib.hid p3
              clear hsh p1 p2 p3
              go_wp2_with fail
              rw [HX.out]
              refine Calls.mono (indexByte_any X 96 _) ?_
              rintro e w2 ⟨rfl, rfl⟩
              rw [HEX.out, H1.out]
              go_wp2_with fail
              rw [HQA.out]
              refine Calls.mono (row_any s p w.heap.size _ (by omega) (by omega) HBX.out) ?_
              rintro e w3 ⟨rfl, d3, rfl⟩
              rw [HMR.out]
              go_wp2_with fail
              rw [HY.out]
              refine Calls.mono (replNl_any Y _ (by omega) (HMX.out.later (row_drewN (Below.refl _ _) d3))) ?_
              rintro e w4 ⟨rfl, b4⟩
              rw [HT.out]
              have HB4 := Lib.hid ((HBE.out).trans ((row_drewN (Below.refl wr.heap.size wr) d3).trans b4 |>.mono HBE.out.size))
              clear b4
              go_wp2_with fail
              refine Calls.mono (trim_any T _ (by omega)) ?_
              rintro e w5 ⟨rfl, d5, rfl⟩
              rw [HU.out]
              go_wp2_with fail
              refine Calls.mono (Tryz.strings_HasPrefix T ⟨#[32]⟩ _) ?_
              rintro e w6 ⟨rfl, rfl⟩
              rw [HP2.out]
              go_wp2_with fail
              refine Calls.mono (Tryz.strings_HasSuffix T ⟨#[32]⟩ _ (by omega)) ?_
              rintro e w7 ⟨rfl, rfl⟩
              rw [HP3.out]
              go_wp2
              rw [Exit.noGoto_ret]
              go_ret3
              rw [HRES.out]
              refine ⟨?_, row_drewN HB4.out d5⟩
              show Ending.returned (Value.tuple #[.string _, .int .i64 ((p : Int) + (m : Int)), .bool true]) = Ending.returned (Value.tuple #[.string ⟨(shave T.data.toList).toArray⟩, .int .i64 ((p + m : Nat) : Int), .bool true])
              rw [HSH.out]
              rfl
      · have zmn : ((m : Int) != (n : Int)) = true := by simp; omega
        have hrow : cnext s.data.toList n p = cnext s.data.toList n (p + m) := by
          have h := cnext_row (l := s.data.toList) (n := n) (k := p) (by rw [HSL.out]; exact ha) (by rw [HMR.out]; exact hm0) (by rw [HMR.out]; exact hmn)
          rwa [HMR.out] at h
        have HROW := Lib.hid hrow
        clear hrow hmn
        go_wp2_with fail
        rw [HX.out]
        refine Calls.mono (indexByte_any X 96 _) ?_
        rintro e w2 ⟨rfl, rfl⟩
        rw [HEX.out, H1.out]
        go_wp2_with fail
        rw [HQA.out]
        refine Calls.mono (row_any s p w.heap.size _ (by omega) (by omega) HBX.out) ?_
        rintro e w3 ⟨rfl, d3, rfl⟩
        rw [HMR.out]
        go_wp2
        go_roundw
        case rel => exact ⟨p + m, by go_num, by have := HP.out; omega, by rw [HSL.out]; omega, by rw [← HROW.out, HJ.out], row_drewN HBW.out d3⟩
        case measure => have := HP.out; simp [intOf]; omega
theorem code_any (s : ByteArray) (i : Int) (w : World) (hs : s.size ≤ 1099511627) (hi : -9223372036854775808 ≤ i ∧ i ≤ 9223372036854775807) (hm : MaxB w) :
    Calls Tryz.prog 8 #[.string s, .int .i64 i] w (CodeR w (codeAt s.data.toList i).text (codeAt s.data.toList i).stop (codeAt s.data.toList i).is) := by
  have hno : ∀ (h : ¬ (0 ≤ i ∧ s.data.toList[i.toNat]? = some 96)), (codeAt s.data.toList i) = ⟨[], 0, false⟩ := fun h => by unfold codeAt; rw [if_neg h]
  by_cases h1 : i < 0
  · rw [hno (by omega)]
    exact code_no s i w hs hi (Or.inl h1)
  · by_cases h2 : (s.size : Int) ≤ i
    · rw [hno (by rintro ⟨_, h⟩; rw [List.getElem?_eq_none (by rw [Array.length_toList]; show s.size ≤ i.toNat; omega)] at h; cases h)]
      exact code_no s i w hs hi (Or.inr (Or.inl h2))
    · have hk : i.toNat < s.size := by omega
      have hi2 : i = (i.toNat : Int) := by omega
      by_cases h3 : s[i.toNat] = 96
      · rw [hi2]
        exact code_yes s i.toNat w hs hm hk h3
      · rw [hno (by rintro ⟨_, h⟩; rw [List.getElem?_eq_getElem (by rw [Array.length_toList]; exact hk)] at h; exact h3 (Option.some.inj h))]
        exact code_no s i w hs hi (Or.inr (Or.inr ⟨i.toNat, hk, hi2, h3⟩))
end Go.Proofs.YtikokedphocpiaaGreatDoor
