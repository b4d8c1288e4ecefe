/- Plain laws of tympanref05.Check: the lists of words, a scheme, the count of a table's parts. -/
import Derived.Test.YtjificnbeaemoaaGreatDoorRuleP
namespace Go.Proofs.YtjificnbeaemoaaGreatDoor
open Go.RowKit

def elB : List ByteArray := [⟨#[97]⟩, ⟨#[97, 98, 98, 114]⟩, ⟨#[98]⟩, ⟨#[98, 108, 111, 99, 107, 113, 117, 111, 116, 101]⟩, ⟨#[98, 114]⟩, ⟨#[99, 105, 116, 101]⟩, ⟨#[99, 111, 100, 101]⟩, ⟨#[100, 100]⟩, ⟨#[100, 101, 108]⟩, ⟨#[100, 105, 118]⟩, ⟨#[100, 108]⟩, ⟨#[100, 116]⟩, ⟨#[101, 109]⟩, ⟨#[104, 49]⟩, ⟨#[104, 50]⟩, ⟨#[104, 51]⟩, ⟨#[104, 52]⟩, ⟨#[104, 53]⟩, ⟨#[104, 54]⟩, ⟨#[104, 114]⟩, ⟨#[105]⟩, ⟨#[105, 109, 103]⟩, ⟨#[105, 110, 115]⟩, ⟨#[107, 98, 100]⟩, ⟨#[108, 105]⟩, ⟨#[111, 108]⟩, ⟨#[112]⟩, ⟨#[112, 114, 101]⟩, ⟨#[113]⟩, ⟨#[115]⟩, ⟨#[115, 97, 109, 112]⟩, ⟨#[115, 109, 97, 108, 108]⟩, ⟨#[115, 112, 97, 110]⟩, ⟨#[115, 116, 114, 111, 110, 103]⟩, ⟨#[115, 117, 98]⟩, ⟨#[115, 117, 112]⟩, ⟨#[116, 97, 98, 108, 101]⟩, ⟨#[116, 98, 111, 100, 121]⟩, ⟨#[116, 100]⟩, ⟨#[116, 102, 111, 111, 116]⟩, ⟨#[116, 104]⟩, ⟨#[116, 104, 101, 97, 100]⟩, ⟨#[116, 114]⟩, ⟨#[117]⟩, ⟨#[117, 108]⟩, ⟨#[118, 97, 114]⟩]
def atB : List ByteArray := [⟨#[97, 108, 105, 103, 110]⟩, ⟨#[97, 108, 116]⟩, ⟨#[99, 105, 116, 101]⟩, ⟨#[99, 108, 97, 115, 115]⟩, ⟨#[99, 111, 108, 115, 112, 97, 110]⟩, ⟨#[100, 105, 114]⟩, ⟨#[104, 101, 105, 103, 104, 116]⟩, ⟨#[104, 114, 101, 102]⟩, ⟨#[108, 97, 110, 103]⟩, ⟨#[114, 111, 119, 115, 112, 97, 110]⟩, ⟨#[115, 114, 99]⟩, ⟨#[115, 116, 97, 114, 116]⟩, ⟨#[116, 105, 116, 108, 101]⟩, ⟨#[119, 105, 100, 116, 104]⟩]
def grB : List ByteArray := [⟨#[116, 97, 98, 108, 101]⟩, ⟨#[116, 98, 111, 100, 121]⟩, ⟨#[116, 100]⟩, ⟨#[116, 102, 111, 111, 116]⟩, ⟨#[116, 104]⟩, ⟨#[116, 104, 101, 97, 100]⟩, ⟨#[116, 114]⟩]
def neA : ByteArray := ⟨#[106, 97, 118, 97, 115, 99, 114, 105, 112, 116]⟩
def neV : ByteArray := ⟨#[118, 98, 115, 99, 114, 105, 112, 116]⟩
def neD : ByteArray := ⟨#[100, 97, 116, 97]⟩
theorem hasS_words (l : List ByteArray) (x : ByteArray) : hasS l x = (l.map fun y => y.data.toList).contains x.data.toList := by
  rw [Bool.eq_iff_iff, hasS_iff]
  simp only [List.contains_iff_mem, List.mem_map]
  constructor
  · intro h; exact ⟨x, h, rfl⟩
  · rintro ⟨y, hy, he⟩
    have : y = x := bytes_eq (by rw [Lib.toList_data, Lib.toList_data, he])
    rwa [← this]
theorem el_words : (elB.map fun y => y.data.toList) = elWs := by decide +kernel
theorem at_words : (atB.map fun y => y.data.toList) = atWs := by decide +kernel
theorem gr_words : (grB.map fun y => y.data.toList) = grWs := by decide +kernel
theorem ne_words : ([neA, neV, neD].map fun y => y.data.toList) = neWs := by decide +kernel
theorem hasS_el (x : ByteArray) : hasS elB x = knownB x := by rw [hasS_words, el_words]; rfl
theorem hasS_at (x : ByteArray) : hasS atB x = nameB x := by rw [hasS_words, at_words]; rfl
theorem never_words (x : ByteArray) : neverB x = ((x.toList == neA.toList) || ((x.toList == neV.toList) || (x.toList == neD.toList))) := by
  unfold neverB
  rw [← ne_words, Lib.toList_data, Lib.toList_data, Lib.toList_data, Lib.toList_data]
  simp only [List.map_cons, List.map_nil, List.contains_cons, List.contains_nil, Bool.or_false]
theorem grB_nodup : grB.Nodup := by decide +kernel
theorem grid_count (E : List ByteArray) (hE : E.Nodup) : (E.filter (hasS grB)).length = gridN E := by
  unfold gridN
  rw [← gr_words, List.filter_map, List.length_map]
  have hp : (E.filter (hasS grB)).Perm (grB.filter (hasS E)) := by
    refine (List.perm_ext_iff_of_nodup (hE.filter _) (grB_nodup.filter _)).2 fun x => ?_
    rw [List.mem_filter, List.mem_filter, hasS_iff, hasS_iff]
    exact And.comm
  exact hp.length_eq
def lowN (n : Nat) : Bool := decide (97 ≤ n) && decide (n ≤ 122)
def restN (n : Nat) : Bool := digitN n || (decide (n = 43) || (decide (n = 45) || decide (n = 46)))
/-- May a byte stand there in a scheme? -/
def stepB (k : Nat) (b : UInt8) : Bool := lowN b.toNat || (decide (k ≠ 0) && restN b.toNat)
def rschF (l : List UInt8) (k : Nat) : Bool := (List.range k).all fun i => match l[i]? with
  | none => true
  | some b => stepB i b
theorem rschF_succ (l : List UInt8) (k : Nat) (hk : k < l.length) : rschF l (k + 1) = (rschF l k && stepB k l[k]) := by
  unfold rschF
  rw [List.range_succ, List.all_append, List.all_cons, List.all_nil, Bool.and_true, List.getElem?_eq_getElem hk]
theorem rschF_no (l : List UInt8) (k : Nat) (hk : k < l.length) (h : stepB k l[k] = false) : rschF l l.length = false := by
  unfold rschF
  rw [List.all_eq_false]
  exact ⟨k, List.mem_range.2 hk, by rw [List.getElem?_eq_getElem hk]; simp [h]⟩
theorem rschF_iff (l : List UInt8) : rschF l l.length = true ↔ ∀ i (hi : i < l.length), stepB i l[i] = true := by
  unfold rschF
  rw [List.all_eq_true]
  constructor
  · intro h i hi
    have := h i (List.mem_range.2 hi)
    rwa [List.getElem?_eq_getElem hi] at this
  · intro h i hi
    rw [List.getElem?_eq_getElem (List.mem_range.1 hi)]
    exact h i (List.mem_range.1 hi)
theorem cut_all : ∀ x : Fin 256, cutT.data.toList.contains (UInt8.ofNat x.val) = (lowN x.val || restN x.val) := by decide +kernel
theorem cut_has (b : UInt8) : cutT.data.toList.contains b = (lowN b.toNat || restN b.toNat) := by
  have := cut_all ⟨b.toNat, UInt8.toNat_lt b⟩
  rwa [UInt8.ofNat_toNat] at this
theorem plain_all : ∀ x : Fin 256, (lowN x.val || restN x.val) = true → smallN x.val = x.val := by decide +kernel
theorem head_all : ∀ x : Fin 256, letterN x.val = true → smallN x.val = x.val → lowN x.val = true := by decide +kernel
theorem low_all : ∀ x : Fin 256, lowN x.val = true → letterN x.val = true := by decide +kernel
theorem drop_nil (p : UInt8 → Bool) : ∀ l : List UInt8, l.dropWhile p = [] ↔ ∀ b ∈ l, p b = true
  | [] => by simp
  | b :: l => by
    rw [List.dropWhile_cons]
    cases hb : p b with
    | true =>
      rw [if_pos rfl, drop_nil p l]
      simp [hb]
    | false =>
      rw [if_neg (by simp)]
      simp [hb]
theorem trimS_nil (l cs : List UInt8) : (Lib.trimS l cs).isEmpty = true ↔ ∀ b ∈ l, cs.contains b = true := by
  unfold Lib.trimS Lib.trimLeftS Lib.trimRightS
  rw [List.isEmpty_iff, drop_nil]
  constructor
  · intro h b hb
    by_cases hm : b ∈ (l.reverse.dropWhile (cs.contains ·)).reverse
    · exact h b hm
    · have hr : b ∈ l.reverse := List.mem_reverse.2 hb
      rw [← List.takeWhile_append_dropWhile (p := (cs.contains ·)) (l := l.reverse), List.mem_append] at hr
      rcases hr with hr | hr
      · exact (List.all_eq_true.1 (List.all_takeWhile (p := (cs.contains ·)) (l := l.reverse))) b hr
      · exact absurd (List.mem_reverse.2 hr) hm
  · intro h b hb
    exact h b (List.mem_reverse.1 ((List.dropWhile_sublist _).subset (List.mem_reverse.1 hb)))
theorem sch_eq (l : List UInt8) : ((l == lowerL l) && (headLet l && (Lib.trimS l cutT.data.toList).isEmpty)) = (!l.isEmpty && rschF l l.length) := by
  rw [Bool.eq_iff_iff]
  simp only [Bool.and_eq_true, beq_iff_eq, Bool.not_eq_true', List.isEmpty_eq_false_iff]
  rw [trimS_nil, rschF_iff]
  constructor
  · rintro ⟨h1, h2, h3⟩
    cases l with
    | nil => exact absurd h2 (by decide)
    | cons b r =>
      refine ⟨by simp, fun i hi => ?_⟩
      have hc := h3 _ (List.getElem_mem hi)
      rw [cut_has] at hc
      unfold stepB
      cases i with
      | zero =>
        simp only [lowerL, List.map_cons, List.cons.injEq] at h1
        have hs : smallN b.toNat = b.toNat := by rw [← small_toNat, ← h1.1]
        have := head_all ⟨b.toNat, UInt8.toNat_lt b⟩ h2 hs
        simp only [List.getElem_cons_zero]
        rw [this]
        rfl
      | succ i => simpa using hc
  · rintro ⟨hne, h⟩
    have hc : ∀ b ∈ l, (lowN b.toNat || restN b.toNat) = true := fun b hb => by
      obtain ⟨i, hi, rfl⟩ := List.getElem_of_mem hb
      have := h i hi
      unfold stepB at this
      rw [Bool.or_eq_true, Bool.and_eq_true] at this
      rw [Bool.or_eq_true]
      exact this.imp id And.right
    refine ⟨?_, ?_, fun b hb => by rw [cut_has]; exact hc b hb⟩
    · unfold lowerL
      have : l.map small = l.map id := List.map_congr_left fun b hb => by
        have h1 : smallN b.toNat = b.toNat := plain_all ⟨b.toNat, UInt8.toNat_lt b⟩ (hc b hb)
        unfold small
        rw [h1, UInt8.ofNat_toNat]
        rfl
      rw [this, List.map_id]
    · cases l with
      | nil => exact absurd rfl hne
      | cons b r =>
        have := h 0 (by simp)
        unfold stepB at this
        simp only [List.getElem_cons_zero, ne_eq, not_true_eq_false, decide_false, Bool.false_and, Bool.or_false] at this
        exact low_all ⟨b.toNat, UInt8.toNat_lt b⟩ this
/-- May it be a scheme, as the reference asks? -/
theorem schB_eq (x : ByteArray) : schB x = (!x.data.toList.isEmpty && (decide (x.size ≤ 64) && (!neverB x && rschF x.data.toList x.data.toList.length))) := by
  unfold schB
  rw [sch_eq]
  cases x.data.toList.isEmpty <;> simp
end Go.Proofs.YtjificnbeaemoaaGreatDoor
