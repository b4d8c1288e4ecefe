/- The reference's Mark, at a text that no `&` begins; Unescape at a backslash and a byte; Escape. -/
import Derived.Test.YtikokedphocpiaaGreatDoorRfNames
import Derived.Test.YtikokedphocpiaaGreatDoorRfEsc
namespace Go.Proofs.YtikokedphocpiaaGreatDoor
open Go.RowKit

theorem names_cells : ∀ i : Fin 98, ∃ x : ByteArray, namesC[i.val * 3]? = some (.string x) ∧ x.size ≤ 20 := by
  have key : (List.range 98).all (fun i => match namesC[i * 3]? with | some (.string x) => decide (x.size ≤ 20) | _ => false) = true := by decide +kernel
  intro i
  rw [List.all_eq_true] at key
  have := key i.val (List.mem_range.2 i.isLt)
  revert this
  cases namesC[i.val * 3]? with
  | none => intro h; cases h
  | some v =>
    cases v with
    | string x => intro h; exact ⟨x, rfl, by simpa using h⟩
    | _ => intro h; cases h
theorem names_two (w : World) : Calls Tryz.prog 78 #[] w fun e w' => ∃ b, e = .returned (.slice (some ⟨b, 0, none⟩) 98 98) ∧ Below w.heap.size w w' ∧ ∀ i, i < 98 → ∃ x : ByteArray, w'.cell? ⟨b, i * 3, none⟩ = some (.string x) ∧ x.size ≤ 20 := by
  refine (names_any w).mono ?_
  rintro e w' ⟨rfl, rfl⟩
  refine ⟨w.heap.size, rfl, (Below.refl _ _).alloc (Nat.le_refl _) _, fun i hi => ?_⟩
  obtain ⟨x, h1, h2⟩ := names_cells ⟨i, hi⟩
  exact ⟨x, by rw [World.cell?_alloc_new]; exact h1, h2⟩
theorem app_list' (a b : ByteArray) : (a ++ b).data.toList = a.data.toList ++ b.data.toList := by rw [ByteArray.data_append, Array.toList_append]
def MarkR (w : World) (e : Ending) (w' : World) : Prop := e = .returned (.tuple #[.string ⟨#[]⟩, .int .i64 0]) ∧ Below w.heap.size w w'
set_option maxHeartbeats 2000000 in
set_option maxRecDepth 100000 in
theorem mark_none (s : ByteArray) (w : World) (h : NoAmp s) : Calls Tryz.prog 42 #[.string s] w (MarkR w) := by
  have HNU := Lib.hid fun w' => numeric_none s w' h
  have HBG := Lib.hid (show ∀ (x : ByteArray) w', Calls Tryz.prog 79 #[.string s, .string (⟨#[38]⟩ ++ x ++ ⟨#[59]⟩)] w' (RB w' false) from fun x w' => by
    have := begins_any s (⟨#[38]⟩ ++ x ++ ⟨#[59]⟩) w'
    rwa [noAmp_pre h (by rw [app_list', app_list']; rfl)] at this)
  clear h
  go_enter Tryz.func42, Tryz.ntmps42
  go_wp2_with fail
  refine Calls.mono (HNU.out _) ?_
  rintro e w1 ⟨rfl, rfl⟩
  go_wp2_with fail
  refine Calls.mono (names_two _) ?_
  rintro e w1 ⟨b, rfl, hb1, hc⟩
  have HB1 := Lib.hid hb1
  have HC := Lib.hid hc
  clear hb1 hc
  go_wp2_with fail
  go_loopw [10] (fun v wx => ∃ i : Nat, v = .int .i64 i ∧ i ≤ 98 ∧ wx = w1) (fun v _ => 98 - (intOf v).toNat)
  case atStart => exact ⟨0, rfl, by omega, rfl⟩
  case round =>
    obtain ⟨i, rfl, hi, rfl⟩ := hrel
    by_cases h2 : i < 98
    · obtain ⟨x, c0, hx⟩ := HC.out i h2
      have z1 : (i : Int) < 98 := by omega
      have hs1 : ¬ (9223372036854775807 < (⟨#[38]⟩ : ByteArray).size + x.size) := by show ¬ (_ < 1 + x.size); omega
      have hs2 : ¬ (9223372036854775807 < ((⟨#[38]⟩ : ByteArray) ++ x).size + (⟨#[59]⟩ : ByteArray).size) := by rw [ByteArray.size_append]; show ¬ (_ < 1 + x.size + 1); omega
      go_wp2_with fail
      refine Calls.mono (HBG.out x _) ?_
      rintro e w2 ⟨rfl, rfl⟩
      go_wp2
      exact ⟨⟨i + 1, by go_num, h2, by first | trivial | rfl⟩, by simp [intOf]; omega⟩
    · have hi98 : i = 98 := by omega
      subst hi98
      clear h2 hi
      go_wp2
      go_ret2
      exact ⟨rfl, HB1.out⟩
/-- The states of Unescape at two bytes of which the first is a backslash. -/
def UnW (w : World) (X Y P F : ByteArray) (sg : Bool) (v0 v3 : Value) (wr : World) : Prop := Below w.heap.size w wr ∧ ((v0 = .string X ∧ v3 = .string ⟨#[]⟩) ∨ (sg = false ∧ v0 = .string Y ∧ v3 = .string P) ∨ (v0 = .string ByteArray.empty ∧ v3 = .string F))
set_option maxHeartbeats 4000000 in
set_option maxRecDepth 100000 in
theorem unesc_two (X : ByteArray) (c : UInt8) (w : World) (hX : X = ⟨#[92, c]⟩) : Calls Tryz.prog 17 #[.string X] w fun e w' => e = .returned (.string (if signB c = true then ⟨#[c]⟩ else X)) ∧ Below w.heap.size w w' := by
  obtain ⟨Y, hY⟩ : ∃ Y : ByteArray, Y = ⟨#[c]⟩ := ⟨_, rfl⟩
  obtain ⟨P, hP⟩ : ∃ P : ByteArray, P = ⟨#[92]⟩ := ⟨_, rfl⟩
  obtain ⟨sg, hsg⟩ : ∃ sg, signB c = sg := ⟨_, rfl⟩
  have sX : X.size = 2 := by rw [hX]; rfl
  have sY : Y.size = 1 := by rw [hY]; rfl
  have e12 : X.extract 1 2 = Y := by rw [hX, hY]; rfl
  have e01 : X.extract 0 1 = P := by rw [hX, hP]; rfl
  have f01 : Y.extract 0 1 = Y := by rw [hY]; rfl
  have g1 : (⟨#[]⟩ : ByteArray) ++ Y = Y := by rw [hY]; rfl
  have g2 : (⟨#[]⟩ : ByteArray) ++ P = P := by rw [hP]; rfl
  have g3 : P ++ Y = X := by rw [hX, hP, hY]; rfl
  have hpX := fun w' => refpair_any X w' (by omega)
  have hpY := fun w' => refpair_any Y w' (by omega)
  rw [show X.data.toList = [92, c] by rw [hX]] at hpX
  rw [show Y.data.toList = [c] by rw [hY]] at hpY
  have hpX2 : ∀ w', Calls Tryz.prog 41 #[.string X, .int .i64 0] w' (RB w' sg) := fun w' => by have := hpX w'; rwa [show pairB [92, c] = sg by rw [← hsg]; rfl] at this
  have hmX := fun w' => mark_none X w' (by unfold NoAmp; rw [hX]; intro e; exact absurd (Option.some.inj e : (92 : UInt8) = 38) (by decide))
  have hmY : sg = false → ∀ w', Calls Tryz.prog 42 #[.string Y] w' (MarkR w') := fun h w' => mark_none Y w' (by
    unfold NoAmp
    rw [hY]
    intro e
    have e2 : c = 38 := Option.some.inj e
    rw [e2] at hsg
    rw [← hsg] at h
    exact absurd h (by decide))
  have HPX := Lib.hid hpX2
  have HPY := Lib.hid hpY
  have HMX := Lib.hid hmX
  have HMY := Lib.hid hmY
  have sP : P.size = 1 := by rw [hP]; rfl
  have t1 : ¬ (9223372036854775807 < (⟨#[]⟩ : ByteArray).size + Y.size) := by show ¬ (_ < 0 + Y.size); omega
  have t2 : ¬ (9223372036854775807 < (⟨#[]⟩ : ByteArray).size + P.size) := by show ¬ (_ < 0 + P.size); omega
  have t3 : ¬ (9223372036854775807 < P.size + Y.size) := by omega
  obtain ⟨F, hF⟩ : ∃ F : ByteArray, (if sg = true then Y else X) = F := ⟨_, rfl⟩
  rw [hsg, ← hY, hF]
  have HF := Lib.hid hF
  clear hpX hpX2 hpY hmX hmY hX hY hP hsg hF
  go_enter Tryz.func17, Tryz.ntmps17
  go_wp2_with fail
  go_loopw [0, 3, 4, 5, 6] (fun v0 v3 _ _ _ wx => UnW w X Y P F sg v0 v3 wx) (fun v0 _ _ _ _ _ => match v0 with | .string q => q.size | _ => 0)
  case atStart => exact ⟨Below.refl _ _, .inl ⟨rfl, rfl⟩⟩
  case round =>
    obtain ⟨hb, ⟨rfl, rfl⟩ | ⟨hs0, rfl, rfl⟩ | ⟨rfl, rfl⟩⟩ := hrel
    · have HB := Lib.hid hb
      clear hb
      cases sg with
      | true =>
        have hF2 : Y = F := HF.out
        have HF2 := Lib.hid hF2
        clear hF2
        go_wp2_with fail
        refine Calls.mono (HPX.out _) ?_
        rintro e w1 ⟨rfl, rfl⟩
        go_wp2
        exact ⟨⟨HB.out, .inr (.inr ⟨rfl, by rw [← HF2.out]⟩)⟩, by show ByteArray.empty.size < X.size; rw [sX]; decide⟩
      | false =>
        go_wp2_with fail
        refine Calls.mono (HPX.out _) ?_
        rintro e w1 ⟨rfl, rfl⟩
        go_wp2_with fail
        refine Calls.mono (HMX.out _) ?_
        rintro e w2 ⟨rfl, b2⟩
        go_wp2
        exact ⟨⟨HB.out.trans (b2.mono HB.out.size), .inr (.inl ⟨rfl, rfl, rfl⟩)⟩, by show Y.size < X.size; omega⟩
    · have HB := Lib.hid hb
      subst hs0
      have hF2 : X = F := HF.out
      have HF2 := Lib.hid hF2
      have hM := HMY.out rfl
      have HM := Lib.hid hM
      clear hb hF2 hM
      go_wp2_with fail
      refine Calls.mono (HPY.out _) ?_
      rintro e w1 ⟨rfl, rfl⟩
      go_wp2_with fail
      refine Calls.mono (HM.out _) ?_
      rintro e w2 ⟨rfl, b2⟩
      go_wp2
      exact ⟨⟨HB.out.trans (b2.mono HB.out.size), .inr (.inr ⟨rfl, by rw [← HF2.out]⟩)⟩, by show ByteArray.empty.size < Y.size; rw [sY]; decide⟩
    · have HB := Lib.hid hb
      clear hb
      go_wp2
      go_ret
      exact ⟨rfl, HB.out⟩
def SNb (w : World) (x : ByteArray) (n : Int) (e : Ending) (w' : World) : Prop := e = .returned (.tuple #[.string x, .int .i64 n]) ∧ Below w.heap.size w w'
set_option maxHeartbeats 2000000 in
set_option maxRecDepth 100000 in
theorem refesc_here (s : ByteArray) (k : Nat) (w : World) (hs : s.size ≤ 1099511627) (hk : k + 1 < s.size) (h92 : s[k] = 92) : Calls Tryz.prog 7 #[.string s, .int .i64 (k : Int)] w (SNb w (escOut (escAt s.data.toList k)).1 (escOut (escAt s.data.toList k)).2) := by
  obtain ⟨c, hc⟩ : ∃ c, s[k + 1] = c := ⟨_, rfl⟩
  have he : escAt s.data.toList k = if signB c || c == 10 then some c else none := by
    unfold escAt
    rw [if_pos (by omega), Int.toNat_natCast, get_list s k (by omega), h92, if_pos rfl, get_list s (k + 1) hk, hc]
  rw [he]
  obtain ⟨X, hX⟩ : ∃ X, s.extract k (k + 2) = X := ⟨_, rfl⟩
  have hXe : X = ⟨#[92, c]⟩ := by
    have hl : X.data.toList = [92, c] := by
      rw [← hX, Lib.extract_data, show k + 2 - k = 2 by omega]
      have hsl : s.data.toList.length = s.size := Array.length_toList
      rw [List.drop_eq_getElem_cons (by omega), List.drop_eq_getElem_cons (by omega)]
      show [s[k], s[k + 1]] = _
      rw [h92, hc]
    exact str_mk _ _ hl
  have hU := fun w' => unesc_two X c w' hXe
  have hex := ext_one s (k + 1) hk
  rw [hc, show k + 1 + 1 = k + 2 by omega] at hex
  have z0 : decide ((k : Int) < 0) = false := by simp
  have z1 : decide ((s.size : Int) - 1 ≤ (k : Int)) = false := by simp; omega
  have hki : (k : Int) < (s.size : Int) := by omega
  have hki1 : (k : Int) + 1 < (s.size : Int) := by omega
  have hki2 : (k : Int) + 2 ≤ (s.size : Int) := by omega
  have z92 : ((s[k].toNat : Int) != 92) = false := by rw [h92]; rfl
  have y10 : ((s[k + 1].toNat : Int) == 10) = (c == 10) := by rw [hc]; exact beqc c 10
  have HX := Lib.hid hX
  have HEX := Lib.hid hex
  have hX2 : X.size = 2 := by rw [hXe]; rfl
  clear h92 hX hXe hex he
  cases hs1 : signB c with
  | true =>
    rw [hs1, if_pos rfl] at hU
    have HU := Lib.hid hU
    cases h10 : (c == 10) with
    | true =>
      rw [h10] at y10
      clear hU hs1 h10 hc
      go_enter Tryz.func7, Tryz.ntmps7
      go_wp2_with fail
      rw [HX.out]
      refine Calls.mono (HU.out _) ?_
      rintro e w1 ⟨rfl, b1⟩
      go_wp2
      go_ret2
      rw [HEX.out]
      exact ⟨rfl, b1⟩
    | false =>
      rw [h10] at y10
      have hsz : (⟨#[c]⟩ : ByteArray).size = 1 := rfl
      clear hU hs1 h10 hc
      go_enter Tryz.func7, Tryz.ntmps7
      go_wp2_with fail
      rw [HX.out]
      refine Calls.mono (HU.out _) ?_
      rintro e w1 ⟨rfl, b1⟩
      go_wp2
      go_ret2
      rw [HEX.out]
      exact ⟨rfl, b1⟩
  | false =>
    rw [hs1, if_neg (by simp)] at hU
    have HU := Lib.hid hU
    cases h10 : (c == 10) with
    | true =>
      rw [h10] at y10
      clear hU hs1 h10 hc
      go_enter Tryz.func7, Tryz.ntmps7
      go_wp2_with fail
      rw [HX.out]
      refine Calls.mono (HU.out _) ?_
      rintro e w1 ⟨rfl, b1⟩
      go_wp2
      go_ret2
      rw [HEX.out]
      exact ⟨rfl, b1⟩
    | false =>
      rw [h10] at y10
      clear hU hs1 h10 hc
      go_enter Tryz.func7, Tryz.ntmps7
      go_wp2_with fail
      rw [HX.out]
      refine Calls.mono (HU.out _) ?_
      rintro e w1 ⟨rfl, b1⟩
      go_wp2
      go_ret2
      exact ⟨rfl, b1⟩
set_option maxHeartbeats 1000000 in
set_option maxRecDepth 100000 in
theorem refesc_else (s : ByteArray) (i : Int) (w : World) (_ : s.size ≤ 1099511627) (_ : -9223372036854775808 ≤ i ∧ i ≤ 9223372036854775807) (h : i < 0 ∨ (s.size : Int) - 1 ≤ i ∨ ∃ (k : Nat) (hk : k + 1 < s.size), i = k ∧ s[k] ≠ 92) :
    Calls Tryz.prog 7 #[.string s, .int .i64 i] w (SNb w ⟨#[]⟩ 0) := by
  by_cases h0 : i < 0
  · have z0 : decide (i < 0) = true := by simpa using h0
    clear h h0
    go_enter Tryz.func7, Tryz.ntmps7
    go_wp2
    go_ret2
    exact ⟨rfl, Below.refl _ _⟩
  · have z0 : decide (i < 0) = false := by simpa using h0
    by_cases h1 : (s.size : Int) - 1 ≤ i
    · have z1 : decide ((s.size : Int) - 1 ≤ i) = true := by simpa using h1
      clear h h0 h1
      go_enter Tryz.func7, Tryz.ntmps7
      go_wp2
      go_ret2
      exact ⟨rfl, Below.refl _ _⟩
    · rcases h with h | h | ⟨k, hk, rfl, h92⟩
      · exact absurd h h0
      · exact absurd h h1
      have z1 : decide ((s.size : Int) - 1 ≤ (k : Int)) = false := by simpa using h1
      have hki : (k : Int) < (s.size : Int) := by omega
      have z92 : ((s[k].toNat : Int) != 92) = true := (bnec s[k] 92).trans (by unfold bne; rw [beq_no h92]; rfl)
      clear h0 h1 h92
      go_enter Tryz.func7, Tryz.ntmps7
      go_wp2
      go_ret2
      exact ⟨rfl, Below.refl _ _⟩
theorem refesc_any (s : ByteArray) (i : Int) (w : World) (hs : s.size ≤ 1099511627) (hi : -9223372036854775808 ≤ i ∧ i ≤ 9223372036854775807) : Calls Tryz.prog 7 #[.string s, .int .i64 i] w (SNb w (escOut (escAt s.data.toList i)).1 (escOut (escAt s.data.toList i)).2) := by
  have hsl : s.data.toList.length = s.size := Array.length_toList
  by_cases h1 : i < 0
  · have he : escAt s.data.toList i = none := by unfold escAt; rw [if_neg (by omega)]
    rw [he]
    exact refesc_else s i w hs hi (.inl h1)
  · obtain ⟨k, rfl⟩ : ∃ k : Nat, i = k := ⟨i.toNat, by omega⟩
    by_cases h2 : (s.size : Int) - 1 ≤ (k : Int)
    · have he : escAt s.data.toList (k : Int) = none := by
        unfold escAt
        rw [if_pos (by omega), Int.toNat_natCast]
        split
        · rw [List.getElem?_eq_none (by omega)]
        · rfl
      rw [he]
      exact refesc_else s k w hs hi (.inr (.inl h2))
    · have hk : k + 1 < s.size := by omega
      by_cases h92 : s[k] = 92
      · exact refesc_here s k w hs hk h92
      · have he : escAt s.data.toList (k : Int) = none := by
          unfold escAt
          rw [if_pos (by omega), Int.toNat_natCast, get_list s k (by omega), if_neg (fun e => h92 (Option.some.inj e))]
        rw [he]
        exact refesc_else s k w hs hi (.inr (.inr ⟨k, hk, rfl, h92⟩))
end Go.Proofs.YtikokedphocpiaaGreatDoor
