/- 'Text' and 'Value', of package write and of the reference: they give 'esc'. -/
import Derived.Test.YtlhfjlfoddjciaaEsc
namespace Go.Proofs.Ytlhfjlfoddjciaa
open Go.RowKit Go.Maps

set_option maxHeartbeats 1000000 in
theorem text_any (s : ByteArray) (w : World) (hs : s.size ≤ 1099511627776) :
    Calls Try.prog 13 #[.string s] w fun e w' => e = .returned (.string ⟨(esc false s.data.toList).toArray⟩) ∧ Below w.heap.size w w' := by
  go_enter Try.func13, Try.ntmps13
  go_wp2_with (go_at_call 22; refine (escaped_nil _ _ hs).mono ?_)
  rintro e w1 ⟨rfl, hb1⟩
  go_wp2
  go_ret
  exact ⟨rfl, hb1⟩

set_option maxHeartbeats 1000000 in
theorem value_any (s : ByteArray) (w : World) (hs : s.size ≤ 1099511627776) :
    Calls Try.prog 15 #[.string s] w fun e w' => e = .returned (.string ⟨(esc true s.data.toList).toArray⟩) ∧ Below w.heap.size w w' := by
  have hmm := @run_makeMap Try.prog
  have h0 := World.ownsMap_made w Try.prog 21 (plainElem (H := Unit) Try.prog 9)
  obtain ⟨w1, r1, s1, g1⟩ := h0.update keyed Try.underlying51 (by unfold maxLen; omega) (keyOf_int_mk Try.underlying21 (show (Lit.int .i32 34).wf = true by decide)) (plainElem_string (H := Unit) Try.underlying9 (s := ⟨#[38, 113, 117, 111, 116, 59]⟩) (by unfold maxLen; decide))
  have hb : Below w.heap.size w w1 := ((Below.refl _ w).alloc (Nat.le_refl _) _).grown g1 (by simp) (by intro k hk; cases hk; exact Nat.le_refl _)
  have hz := hb.size
  clear g1 h0
  go_enter Try.func15, Try.ntmps15
  go_wp2_with fail
  go_wp2_with (go_at_call 22; refine (escaped_q _ _ _ hs s1).mono ?_)
  rintro e w2 ⟨rfl, hb1⟩
  go_wp2
  go_ret
  exact ⟨rfl, hb.trans (hb1.mono hz)⟩

theorem dropGet (s : ByteArray) (k : Nat) (h : k < s.size) : s.data.toList.drop k = s[k] :: s.data.toList.drop (k + 1) := by
  rw [List.drop_eq_getElem_cons (by simpa using h)]; rfl

theorem byteEq {c : UInt8} {n : Nat} (hn : n < 256) (h : ((c.toNat : Int) == (n : Int)) = true) : c = UInt8.ofNat n :=
  u8_eq c n hn (by have := beq_iff_eq.1 h; omega)
theorem byteNe {c : UInt8} {n : Nat} (hn : n < 256) (h : ((c.toNat : Int) == (n : Int)) = false) : c ≠ UInt8.ofNat n := by
  rintro rfl
  have := beq_eq_false_iff_ne.1 h
  simp [Nat.mod_eq_of_lt hn] at this

def TextRel (s : ByteArray) (v i : Value) : Prop := ∃ (k : Nat) (t : ByteArray), k ≤ s.size ∧ i = .int .i64 k ∧ v = .string t ∧ t.size ≤ 6 * k ∧ t.data.toList ++ esc false (s.data.toList.drop k) = esc false s.data.toList

theorem TextRel.mk {s : ByteArray} {k : Nat} {t : ByteArray} (n : Nat) (x : ByteArray) (i : Int) (hi : i = ((k + n : Nat) : Int)) (hacc : t.data.toList ++ esc false (s.data.toList.drop k) = esc false s.data.toList) (hk : k + n ≤ s.size) (hn : 1 ≤ n) (ht : t.size ≤ 6 * k)
    (hu : x.size ≤ 6) (he : esc false (s.data.toList.drop k) = x.data.toList ++ esc false (s.data.toList.drop (k + n))) : TextRel s (.string (t ++ x)) (.int .i64 i) := by
  refine ⟨k + n, t ++ x, hk, by rw [hi], rfl, ?_, ?_⟩
  · rw [ByteArray.size_append]; omega
  · rw [strBytes, List.append_assoc, ← he]; exact hacc

section
variable {s : ByteArray} {k : Nat} (h : k < s.size)
include h
theorem es_amp (q : Bool) (e : ((s[k].toNat : Int) == 38) = true) : esc q (s.data.toList.drop k) = (⟨#[38, 97, 109, 112, 59]⟩ : ByteArray).data.toList ++ esc q (s.data.toList.drop (k + 1)) := by
  rw [dropGet s k h, byteEq (n := 38) (by omega) e, esc_one _ _ _ (by rintro ⟨e, _⟩; revert e; decide)]; rfl
theorem es_lt (q : Bool) (e : ((s[k].toNat : Int) == 60) = true) : esc q (s.data.toList.drop k) = (⟨#[38, 108, 116, 59]⟩ : ByteArray).data.toList ++ esc q (s.data.toList.drop (k + 1)) := by
  rw [dropGet s k h, byteEq (n := 60) (by omega) e, esc_one _ _ _ (by rintro ⟨e, _⟩; revert e; decide)]; rfl
theorem es_gt (q : Bool) (e : ((s[k].toNat : Int) == 62) = true) : esc q (s.data.toList.drop k) = (⟨#[38, 103, 116, 59]⟩ : ByteArray).data.toList ++ esc q (s.data.toList.drop (k + 1)) := by
  rw [dropGet s k h, byteEq (n := 62) (by omega) e, esc_one _ _ _ (by rintro ⟨e, _⟩; revert e; decide)]; rfl
theorem es_nbsp (q : Bool) (h2 : k + 1 < s.size) (e : (s[k].toNat : Int) = 194) (e2 : ((s[k + 1].toNat : Int) == 160) = true) : esc q (s.data.toList.drop k) = (⟨#[38, 110, 98, 115, 112, 59]⟩ : ByteArray).data.toList ++ esc q (s.data.toList.drop (k + 2)) := by
  rw [dropGet s k h, dropGet s (k + 1) h2, byteEq (n := 160) (by omega) e2, u8_eq s[k] 194 (by omega) (by omega)]
  exact esc_two _ _
theorem es_cut : (s.extract k (k + 1)).data.toList = [s[k]] := by
  rw [cutBytes, List.drop_take, dropGet s k h]; simp
theorem es_plain (e1 : ((s[k].toNat : Int) == 38) = false) (e2 : ((s[k].toNat : Int) == 60) = false) (e3 : ((s[k].toNat : Int) == 62) = false) (hno : ¬ (s[k] = 194 ∧ (s.data.toList.drop (k + 1)).head? = some 160)) :
    esc false (s.data.toList.drop k) = (s.extract k (k + 1)).data.toList ++ esc false (s.data.toList.drop (k + 1)) := by
  rw [es_cut h, dropGet s k h, esc_one _ _ _ hno]
  have a1 := byteNe (n := 38) (by omega) e1
  have a2 := byteNe (n := 60) (by omega) e2
  have a3 := byteNe (n := 62) (by omega) e3
  have b1 : ¬ s[k] = 38 := a1
  have b2 : ¬ s[k] = 60 := a2
  have b3 : ¬ s[k] = 62 := a3
  simp [escB, b1, b2, b3]
end

theorem no_two {s : ByteArray} {k : Nat} (h2 : k + 1 < s.size) (e2 : ((s[k + 1].toNat : Int) == 160) = false) (c : UInt8) : ¬ (c = 194 ∧ (s.data.toList.drop (k + 1)).head? = some 160) := by
  rintro ⟨_, h⟩
  rw [dropGet s (k + 1) h2] at h
  simp at h
  exact byteNe (n := 160) (by omega) e2 h
theorem no_one {s : ByteArray} {k : Nat} (hk : k < s.size) (e2 : ¬ (s[k].toNat : Int) = 194) (l : List UInt8) : ¬ (s[k] = 194 ∧ l.head? = some 160) := by
  rintro ⟨h, _⟩; rw [h] at e2; exact e2 rfl
theorem no_end {s : ByteArray} {k : Nat} (h2 : ¬ k + 1 < s.size) (c : UInt8) : ¬ (c = 194 ∧ (s.data.toList.drop (k + 1)).head? = some 160) := by
  rintro ⟨_, h⟩
  have hl : s.data.toList.length = s.size := Array.length_toList
  rw [List.drop_of_length_le (by omega)] at h
  simp at h

set_option maxHeartbeats 2000000 in
theorem reftext_any (s : ByteArray) (w : World) (hs : s.size ≤ 1099511627776) :
    Calls Try.prog 14 #[.string s] w fun e w' => e = .returned (.string ⟨(esc false s.data.toList).toArray⟩) ∧ w = w' := by
  go_enter Try.func14, Try.ntmps14
  go_wp2
  go_loop [3, 4] (fun n i => TextRel s n i) (fun _ i => s.size - (intOf i).toNat)
  case atStart => exact ⟨0, _, Nat.zero_le _, rfl, rfl, by decide, by simp⟩
  case round =>
    obtain ⟨k, t, hk, rfl, rfl, ht, hacc⟩ := hrel
    have HACC := Lib.hid hacc
    clear hacc
    have hx1 : ∀ k, (s.extract k (k + 1)).size ≤ 6 := fun k => by rw [ByteArray.size_extract]; omega
    have HX := Lib.hid hx1
    clear hx1
    by_cases hlt : k < s.size
    · by_cases h2 : k + 1 < s.size
      · go_wp2
        all_goals
          go_round
          case rel => first
            | exact TextRel.mk 1 _ _ (by omega) HACC.out (by omega) (by omega) ht (by decide) (es_amp hlt _ ‹_›)
            | exact TextRel.mk 1 _ _ (by omega) HACC.out (by omega) (by omega) ht (by decide) (es_lt hlt _ ‹_›)
            | exact TextRel.mk 1 _ _ (by omega) HACC.out (by omega) (by omega) ht (by decide) (es_gt hlt _ ‹_›)
            | exact TextRel.mk 2 _ _ (by omega) HACC.out (by omega) (by omega) ht (by decide) (es_nbsp hlt _ h2 ‹_› ‹_›)
            | exact TextRel.mk 1 _ _ (by omega) HACC.out (by omega) (by omega) ht (HX.out _) (es_plain hlt ‹_› ‹_› ‹_› (no_two h2 ‹_› _))
            | exact TextRel.mk 1 _ _ (by omega) HACC.out (by omega) (by omega) ht (HX.out _) (es_plain hlt ‹_› ‹_› ‹_› (no_one hlt ‹_› _))
          case measure => simp [intOf]; omega
      · go_wp2
        all_goals
          go_round
          case rel => first
            | exact TextRel.mk 1 _ _ (by omega) HACC.out (by omega) (by omega) ht (by decide) (es_amp hlt _ ‹_›)
            | exact TextRel.mk 1 _ _ (by omega) HACC.out (by omega) (by omega) ht (by decide) (es_lt hlt _ ‹_›)
            | exact TextRel.mk 1 _ _ (by omega) HACC.out (by omega) (by omega) ht (by decide) (es_gt hlt _ ‹_›)
            | exact TextRel.mk 1 _ _ (by omega) HACC.out (by omega) (by omega) ht (HX.out _) (es_plain hlt ‹_› ‹_› ‹_› (no_end h2 _))
          case measure => simp [intOf]; omega
    · go_wp2
      go_ret
      have hl : s.data.toList.length = s.size := Array.length_toList
      have h := HACC.out
      rw [List.drop_of_length_le (by omega), esc_nil, List.append_nil] at h
      rw [← h]
      exact ⟨rfl, rfl⟩

def strLen : Value → Nat | .string s => s.size | _ => 0
def ValRel (s : ByteArray) (v0 v3 : Value) : Prop := ∃ r t : ByteArray, v0 = .string r ∧ v3 = .string t ∧ r.size ≤ s.size ∧ t.size ≤ 6 * (s.size - r.size) ∧ t.data.toList ++ esc true r.data.toList = esc true s.data.toList

theorem esc_take (r : ByteArray) (q : Bool) (k : Nat) : (esc q (List.take k r.data.toList)).length ≤ 6 * r.size := by
  have h1 := esc_le q (List.take k r.data.toList)
  have h2 : (List.take k r.data.toList).length ≤ r.data.toList.length := List.length_take_le' _ _
  have h3 : r.data.toList.length = r.size := Array.length_toList
  omega

theorem escLen (s : ByteArray) (q : Bool) (l : List UInt8) (h : l.length ≤ s.size) : (⟨(esc q l).toArray⟩ : ByteArray).size ≤ 6 * s.size := by
  have := esc_le q l
  show (esc q l).length ≤ _
  omega

theorem noq_step {r : ByteArray} {k : Nat} (h : k < r.size) (hq : ∀ x ∈ r.data.toList.take k, x ≠ 34) (e : ¬ (r[k].toNat : Int) = 34) : ∀ x ∈ r.data.toList.take (k + 1), x ≠ 34 := by
  intro x hx
  rw [List.take_add_one, List.getElem?_eq_getElem (by simpa using h)] at hx
  rcases List.mem_append.1 hx with hx | hx
  · exact hq x hx
  · simp at hx
    rintro rfl
    have : r[k] = 34 := hx.symm
    rw [this] at e
    exact e rfl

set_option maxHeartbeats 4000000 in
theorem refvalue_any (s : ByteArray) (w : World) (hs : s.size ≤ 109951162777) :
    Calls Try.prog 16 #[.string s] w fun e w' => e = .returned (.string ⟨(esc true s.data.toList).toArray⟩) ∧ w = w' := by
  go_enter Try.func16, Try.ntmps16
  go_wp2
  go_loop [0, 3] (fun v0 v3 => ValRel s v0 v3) (fun v0 _ => strLen v0)
  case atStart => exact ⟨s, ⟨#[]⟩, rfl, rfl, Nat.le_refl _, Nat.zero_le _, rfl⟩
  case round =>
    obtain ⟨r, t, rfl, rfl, hrs, ht, hacc⟩ := hrel
    have HACC := Lib.hid hacc
    clear hacc
    by_cases h0 : 0 < r.size
    · go_wp2
      go_loop [4] (fun v => ∃ k : Nat, k ≤ r.size ∧ v = .int .i64 k ∧ Hid (∀ x ∈ r.data.toList.take k, x ≠ 34)) (fun v => r.size - (intOf v).toNat)
      case atStart => exact ⟨0, Nat.zero_le _, rfl, by intro x hx; simp at hx⟩
      case round =>
        obtain ⟨k, hk, rfl, hq⟩ := hrel
        by_cases hlt : k < r.size
        · by_cases h34 : (r[k].toNat : Int) = 34
          · have e1 : (r.extract 0 k).size ≤ r.size := by rw [ByteArray.size_extract]; omega
            have e2 := esc_take r false k
            have e3 : ((k : Int) == (r.size : Int)) = false := by simp; omega
            have e4 : ((r[k].toNat : Int) != 34) = false := by simp [h34]
            have H34 := Lib.hid h34
            clear h34
            go_wp2_with (go_at_call 14; refine (reftext_any _ _ (by omega)).mono ?_; rintro e w' ⟨rfl, rfl⟩)
            go_round
            case rel =>
              refine ⟨_, _, rfl, rfl, ?_, ?_, ?_⟩
              · rw [ByteArray.size_extract]; omega
              · rw [ByteArray.size_append, ByteArray.size_append, ByteArray.size_extract]
                have e5 := esc_le false (List.take k r.data.toList)
                have e6 : (List.take k r.data.toList).length ≤ k := List.length_take_le _ _
                have e7 : (⟨(esc false (List.take k r.data.toList)).toArray⟩ : ByteArray).size = (esc false (List.take k r.data.toList)).length := rfl
                have e8 : (⟨#[38, 113, 117, 111, 116, 59]⟩ : ByteArray).size = 6 := rfl
                omega
              · have hsp : r.data.toList = r.data.toList.take k ++ 34 :: r.data.toList.drop (k + 1) := by
                  have hc : r[k] = 34 := u8_eq r[k] 34 (by omega) (by have h := H34.out; exact Int.ofNat_inj.1 h)
                  have := dropGet r k hlt
                  rw [hc] at this
                  rw [← this, List.take_append_drop]
                have h := HACC.out
                rw [hsp, esc_quote _ _ hq.out] at h
                rw [← h, strBytes, strBytes, cutBytes]
                have hl : r.data.toList.length = r.size := Array.length_toList
                rw [List.take_of_length_le (by omega : r.data.toList.length ≤ r.size)]
                simp only [quot, List.append_assoc]
            case measure =>
              simp only [strLen, ByteArray.size_extract]; omega
          · have e4 : ((r[k].toNat : Int) != 34) = true := by simp; omega
            go_wp2
            go_round
            case rel => exact ⟨k + 1, by omega, by go_num, noq_step hlt hq.out h34⟩
            case measure => simp [intOf]; omega
        · have hke : k = r.size := by omega
          have e1 : (r.extract 0 k).size ≤ r.size := by rw [ByteArray.size_extract]; omega
          have e2 := esc_take r false k
          have e3 : ((k : Int) == (r.size : Int)) = true := by simp; omega
          have HKE := Lib.hid hke
          clear hke
          go_wp2_with (go_at_call 14; refine (reftext_any _ _ (by omega)).mono ?_; rintro e w' ⟨rfl, rfl⟩)
          go_ret
          have hl : r.data.toList.length = r.size := Array.length_toList
          have hq := hq.out
          rw [HKE.out, List.take_of_length_le (by omega)] at hq
          have h := HACC.out
          rw [esc_noquote _ hq] at h
          refine ⟨?_, rfl⟩
          rw [← h, HKE.out, List.take_of_length_le (by omega)]
          rfl
    · go_wp2
      go_ret
      have : r.data.toList = [] := by
        have hl : r.data.toList.length = r.size := Array.length_toList
        apply List.length_eq_zero_iff.1; omega
      have h := HACC.out
      rw [this, esc_nil, List.append_nil] at h
      rw [← h]
      exact ⟨rfl, rfl⟩
end Go.Proofs.Ytlhfjlfoddjciaa
