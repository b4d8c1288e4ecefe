/- The references' in, Known, heads, Has, Keeps, blank. -/
import Derived.Test.YtdkjenbncmedbaaGreatDoorClnQ
import Derived.Test.YtdkjenbncmedbaaGreatDoorClnN
import Derived.BigQuiet
namespace Go.Proofs.YtdkjenbncmedbaaGreatDoor
open Go.RowKit

def elB : List ByteArray := [⟨#[97]⟩, ⟨#[97, 98, 98, 114]⟩, ⟨#[98]⟩, ⟨#[98, 108, 111, 99, 107, 113, 117, 111, 116, 101]⟩, ⟨#[98, 114]⟩, ⟨#[99, 105, 116, 101]⟩, ⟨#[99, 111, 100, 101]⟩, ⟨#[100, 100]⟩, ⟨#[100, 101, 108]⟩, ⟨#[100, 105, 118]⟩, ⟨#[100, 108]⟩, ⟨#[100, 116]⟩, ⟨#[101, 109]⟩, ⟨#[104, 49]⟩, ⟨#[104, 50]⟩, ⟨#[104, 51]⟩, ⟨#[104, 52]⟩, ⟨#[104, 53]⟩, ⟨#[104, 54]⟩, ⟨#[104, 114]⟩, ⟨#[105]⟩, ⟨#[105, 109, 103]⟩, ⟨#[105, 110, 115]⟩, ⟨#[107, 98, 100]⟩, ⟨#[108, 105]⟩, ⟨#[111, 108]⟩, ⟨#[112]⟩, ⟨#[112, 114, 101]⟩, ⟨#[113]⟩, ⟨#[115]⟩, ⟨#[115, 97, 109, 112]⟩, ⟨#[115, 109, 97, 108, 108]⟩, ⟨#[115, 112, 97, 110]⟩, ⟨#[115, 116, 114, 111, 110, 103]⟩, ⟨#[115, 117, 98]⟩, ⟨#[115, 117, 112]⟩, ⟨#[116, 97, 98, 108, 101]⟩, ⟨#[116, 98, 111, 100, 121]⟩, ⟨#[116, 100]⟩, ⟨#[116, 102, 111, 111, 116]⟩, ⟨#[116, 104]⟩, ⟨#[116, 104, 101, 97, 100]⟩, ⟨#[116, 114]⟩, ⟨#[117]⟩, ⟨#[117, 108]⟩, ⟨#[118, 97, 114]⟩]
theorem hasS_words (l : List ByteArray) (x : ByteArray) : hasS l x = (l.map fun y => y.data.toList).contains x.data.toList := by
  rw [Bool.eq_iff_iff, hasS_iff]
  simp only [List.contains_iff_mem, List.mem_map]
  constructor
  · intro h; exact ⟨x, h, rfl⟩
  · rintro ⟨y, hy, he⟩
    have : y = x := bytes_eq (by rw [Lib.toList_data, Lib.toList_data, he])
    rwa [← this]
theorem el_words : (elB.map fun y => y.data.toList) = elWs := by decide +kernel
theorem hasS_el (x : ByteArray) : hasS elB x = knownB x := by rw [hasS_words, el_words]; rfl
def InW (w : World) (l : List ByteArray) (x : ByteArray) (i : Value) (wr : World) : Prop := ∃ k : Nat, i = .int .i64 k ∧ k ≤ l.length ∧ hasS (l.take k) x = false ∧ wr = w
set_option maxHeartbeats 2000000 in
set_option maxRecDepth 100000 in
theorem in05_any (l : List ByteArray) (x : ByteArray) (v : Value) (w : World) (h : SlS w v l) (hl : l.length ≤ 9223372036854775807) : Calls Tryz.prog 74 #[v, .string x] w (RB w (hasS l x)) := by
  obtain ⟨A, c, rfl, _, hk⟩ := h.open
  have HK := Lib.hid hk
  clear hk h
  go_enter Tryz.func74, Tryz.ntmps74
  go_wp2_with fail
  go_loopw [5] (fun v wr => InW w l x v wr) (fun v _ => l.length - (intOf v).toNat)
  case atStart => exact ⟨0, rfl, Nat.zero_le _, rfl, rfl⟩
  case round =>
    obtain ⟨k, rfl, hk, hu, rfl⟩ := hrel
    by_cases hlt : k < l.length
    · have hki : (k : Int) < (l.length : Int) := by omega
      obtain ⟨b, o, hA, hb, g1, g1'⟩ := HK.out k hlt
      subst hA
      have ht := hasS_take l x l[k] k (by rw [List.take_succ_eq_append_getElem hlt])
      rw [hu, Bool.false_or] at ht
      have HT := Lib.hid ht
      have HM := Lib.hid (fun h : l[k].toList = x.toList => (hasS_iff l x).2 (bytes_eq h ▸ List.getElem_mem hlt))
      obtain ⟨y, hy⟩ : ∃ y, l[k] = y := ⟨_, rfl⟩
      rw [hy] at g1 g1' HT HM
      clear hy ht hu
      by_cases h1 : y.toList = x.toList
      · have e1 : (y.toList == x.toList) = true := by simpa using h1
        have HV := Lib.hid (HM.out h1)
        clear HT HM h1
        go_wp2
        go_ret
        exact ⟨by rw [HV.out]; rfl, rfl⟩
      · have e1 : (y.toList == x.toList) = false := by simpa using h1
        have HN := Lib.hid (HT.out.trans e1)
        clear HT HM h1
        go_wp2
        go_roundw
        case rel => exact ⟨k + 1, by go_num, hlt, HN.out, rfl⟩
        case measure => simp [intOf]; omega
    · obtain rfl : k = l.length := by omega
      rw [List.take_length] at hu
      have HU := Lib.hid hu
      clear hu
      go_wp2
      go_ret
      exact ⟨by rw [HU.out]; rfl, rfl⟩
set_option maxHeartbeats 2000000 in
set_option maxRecDepth 100000 in
theorem in20_any (l : List ByteArray) (x : ByteArray) (v : Value) (w : World) (h : SlS w v l) (hl : l.length ≤ 9223372036854775807) : Calls Tryz.prog 96 #[v, .string x] w (RB w (hasS l x)) := by
  obtain ⟨A, c, rfl, _, hk⟩ := h.open
  have HK := Lib.hid hk
  clear hk h
  go_enter Tryz.func96, Tryz.ntmps96
  go_wp2_with fail
  go_loopw [5] (fun v wr => InW w l x v wr) (fun v _ => l.length - (intOf v).toNat)
  case atStart => exact ⟨0, rfl, Nat.zero_le _, rfl, rfl⟩
  case round =>
    obtain ⟨k, rfl, hk, hu, rfl⟩ := hrel
    by_cases hlt : k < l.length
    · have hki : (k : Int) < (l.length : Int) := by omega
      obtain ⟨b, o, hA, hb, g1, g1'⟩ := HK.out k hlt
      subst hA
      have ht := hasS_take l x l[k] k (by rw [List.take_succ_eq_append_getElem hlt])
      rw [hu, Bool.false_or] at ht
      have HT := Lib.hid ht
      have HM := Lib.hid (fun h : l[k].toList = x.toList => (hasS_iff l x).2 (bytes_eq h ▸ List.getElem_mem hlt))
      obtain ⟨y, hy⟩ : ∃ y, l[k] = y := ⟨_, rfl⟩
      rw [hy] at g1 g1' HT HM
      clear hy ht hu
      by_cases h1 : y.toList = x.toList
      · have e1 : (y.toList == x.toList) = true := by simpa using h1
        have HV := Lib.hid (HM.out h1)
        clear HT HM h1
        go_wp2
        go_ret
        exact ⟨by rw [HV.out]; rfl, rfl⟩
      · have e1 : (y.toList == x.toList) = false := by simpa using h1
        have HN := Lib.hid (HT.out.trans e1)
        clear HT HM h1
        go_wp2
        go_roundw
        case rel => exact ⟨k + 1, by go_num, hlt, HN.out, rfl⟩
        case measure => simp [intOf]; omega
    · obtain rfl : k = l.length := by omega
      rw [List.take_length] at hu
      have HU := Lib.hid hu
      clear hu
      go_wp2
      go_ret
      exact ⟨by rw [HU.out]; rfl, rfl⟩
theorem new_row (w : World) (l : List ByteArray) (ar : Array Value) (h : ar.toList = l.map Value.string) : SlS (w.alloc (.cells ar 9)) (.slice (some ⟨w.heap.size, 0, none⟩) l.length l.length) l :=
  sl_own (heap_alloc_new _ _) (Nat.le_refl _) (by simp) (by rw [h, Nat.mul_one]; exact List.take_of_length_le (by simp))
theorem row_at {w : World} {l : List ByteArray} {n k : Nat} {ar : Array Value} (hn : n = w.heap.size) (hk : k = l.length) (h : ar.toList = l.map Value.string) : SlS (w.alloc (.cells ar 9)) (.slice (some ⟨n, 0, none⟩) k k) l := by
  subst hn
  subst hk
  exact new_row w l ar h
def RowE (w : World) (l : List ByteArray) (e : Ending) (w' : World) : Prop := ∃ v, e = .returned v ∧ SlS w' v l ∧ Below w.heap.size w w'
set_option maxRecDepth 100000 in
theorem elements_any (w : World) : Calls Tryz.prog 114 #[] w (RowE w elB) := by
  go_enter Tryz.func114, Tryz.ntmps114
  go_wp2
  go_ret
  exact ⟨_, rfl, new_row w elB _ rfl, (Below.refl _ w).alloc (Nat.le_refl _) _⟩
set_option maxRecDepth 100000 in
theorem refknown_any (x : ByteArray) (w : World) : Calls Tryz.prog 97 #[.string x] w (BoolR w (knownB x)) := by
  go_enter Tryz.func97, Tryz.ntmps97
  go_wp2_with fail
  refine Calls.mono (elements_any w) ?_
  rintro e w1 ⟨v, rfl, hv, b1⟩
  obtain ⟨A, c, rfl, _, _⟩ := hv.open
  have HV := Lib.hid hv
  have B1 := Lib.hid b1
  clear hv b1
  go_wp2_with fail
  refine Calls.mono (in05_any elB x _ w1 HV.out (by decide)) ?_
  rintro e w2 ⟨rfl, rfl⟩
  go_wp2
  go_ret
  exact ⟨by rw [hasS_el]; rfl, B1.out⟩
set_option maxRecDepth 100000 in
theorem heads_any (w : World) : Calls Tryz.prog 98 #[] w (RowE w headsL) := by
  go_enter Tryz.func98, Tryz.ntmps98
  go_wp2
  go_ret
  exact ⟨_, rfl, new_row w headsL _ rfl, (Below.refl _ w).alloc (Nat.le_refl _) _⟩
set_option maxRecDepth 100000 in
theorem refhas_any (vE vA vS : Value) (E : List ByteArray) (x : ByteArray) (w : World) (hE : SlS w vE E) (hl : E.length ≤ 9223372036854775807) : Calls Tryz.prog 49 #[.agg #[vE, vA, vS], .string x] w (BoolR w (hasS E x)) := by
  have HI := Lib.hid fun (w' : World) (hb : Below w.heap.size w w') => in05_any E x vE w' (hE.later hb) hl
  obtain ⟨Ae, ce, rfl, _, _⟩ := hE.open
  clear hE
  go_enter Tryz.func49, Tryz.ntmps49
  go_wp2_with fail
  refine Calls.mono (HI.out _ ((Below.refl _ _).alloc (Nat.le_refl _) _)) ?_
  rintro e w1 ⟨rfl, rfl⟩
  go_wp2
  go_ret
  exact ⟨rfl, (Below.refl _ _).alloc (Nat.le_refl _) _⟩
theorem Ctx.refhas {w0 w : World} {vE vA vS : Value} {E : List ByteArray} {A : Prs} {S : List ByteArray} (h : Ctx w0 vE vA vS E A S) (hb : Below w0.heap.size w0 w) (s : ByteArray) : Calls Tryz.prog 49 #[.agg #[vE, vA, vS], .string s] w (BoolR w (hasS E s)) := by
  obtain ⟨⟨vE', vA', vS', e, sE, _, _⟩, lE, _⟩ := h.pol.later hb
  cases e
  exact refhas_any _ _ _ E s w sE lE
def blankN (n : Nat) : Bool := decide (n = 9) || (decide (n = 10) || (decide (n = 12) || (decide (n = 13) || decide (n = 32))))
set_option maxRecDepth 100000 in
theorem space_any (b : UInt8) (w : World) : Calls Tryz.prog 115 #[.int .u8 (b.toNat : Int)] w (RB w (blankN b.toNat)) := by
  obtain ⟨n, hn⟩ : ∃ n, b.toNat = n := ⟨_, rfl⟩
  rw [hn]
  by_cases h9 : n = 9
  · subst h9
    go_enter Tryz.func115, Tryz.ntmps115
    go_wp2
    go_ret
    exact ⟨rfl, rfl⟩
  · by_cases h10 : n = 10
    · subst h10
      go_enter Tryz.func115, Tryz.ntmps115
      go_wp2
      go_ret
      exact ⟨rfl, rfl⟩
    · by_cases h12 : n = 12
      · subst h12
        go_enter Tryz.func115, Tryz.ntmps115
        go_wp2
        go_ret
        exact ⟨rfl, rfl⟩
      · by_cases h13 : n = 13
        · subst h13
          go_enter Tryz.func115, Tryz.ntmps115
          go_wp2
          go_ret
          exact ⟨rfl, rfl⟩
        · by_cases h32 : n = 32
          · subst h32
            go_enter Tryz.func115, Tryz.ntmps115
            go_wp2
            go_ret
            exact ⟨rfl, rfl⟩
          · have e9 : ((n : Int) == 9) = false := by simp; omega
            have e10 : ((n : Int) == 10) = false := by simp; omega
            have e12 : ((n : Int) == 12) = false := by simp; omega
            have e13 : ((n : Int) == 13) = false := by simp; omega
            have e32 : ((n : Int) == 32) = false := by simp; omega
            have hv : blankN n = false := by unfold blankN; simp [h9, h10, h12, h13, h32]
            have HV := Lib.hid hv
            clear hv h9 h10 h12 h13 h32 hn
            go_enter Tryz.func115, Tryz.ntmps115
            go_wp2
            go_ret
            exact ⟨by rw [HV.out]; rfl, rfl⟩
theorem blank_all : ∀ x : Fin 256, blankN x.val = ((UInt8.ofNat x.val == 32) || (UInt8.ofNat x.val == 9) || (UInt8.ofNat x.val == 10) || (UInt8.ofNat x.val == 12) || (UInt8.ofNat x.val == 13)) := by decide +kernel
theorem blankN_eq (b : UInt8) : blankN b.toNat = (b == 32 || b == 9 || b == 10 || b == 12 || b == 13) := by
  have := blank_all ⟨b.toNat, b.toNat_lt⟩
  simpa using this
def BlankW (w : World) (l : List UInt8) (i : Value) (wr : World) : Prop := ∃ k : Nat, i = .int .i64 k ∧ k ≤ l.length ∧ ((l.take k).all fun b => blankN b.toNat) = true ∧ wr = w
theorem blank_no (l : List UInt8) (k : Nat) (hk : k < l.length) (h : blankN l[k].toNat = false) : (l.all fun b => blankN b.toNat) = false := by
  cases ha : l.all fun b => blankN b.toNat with
  | false => rfl
  | true => rw [List.all_eq_true.1 ha _ (List.getElem_mem hk)] at h; cases h
theorem blank_next (l : List UInt8) (k : Nat) (hk : k < l.length) (h : ((l.take k).all fun b => blankN b.toNat) = true) (h2 : blankN l[k].toNat = true) : ((l.take (k + 1)).all fun b => blankN b.toNat) = true := by
  rw [List.take_succ_eq_append_getElem hk, List.all_append, h]
  simp [h2]
set_option maxHeartbeats 2000000 in
set_option maxRecDepth 100000 in
theorem refblank_any (s : ByteArray) (w : World) (hs : s.size ≤ 1000000000) : Calls Tryz.prog 99 #[.string s] w (RB w (blankB s)) := by
  have hbe : blankB s = (s.data.toList.all fun b => blankN b.toNat) := by
    unfold blankB
    congr 1
    funext b
    exact (blankN_eq b).symm
  rw [hbe]
  have hsl : s.data.toList.length = s.size := Array.length_toList
  clear hbe
  go_enter Tryz.func99, Tryz.ntmps99
  go_wp2_with fail
  go_loopw [3] (fun v wr => BlankW w s.data.toList v wr) (fun v _ => s.size - (intOf v).toNat)
  case atStart => exact ⟨0, rfl, Nat.zero_le _, rfl, rfl⟩
  case round =>
    obtain ⟨k, rfl, hk, hu, rfl⟩ := hrel
    by_cases hlt : k < s.size
    · have hki : (k : Int) < (s.size : Int) := by omega
      have hlt2 : k < s.data.toList.length := by omega
      have HN := Lib.hid (blank_no s.data.toList k hlt2)
      have HX := Lib.hid (blank_next s.data.toList k hlt2 hu)
      have hgb : s.data.toList[k] = s[k]'hlt := by simp [ByteArray.getElem_eq_getElem_data]
      have HS := space_any (s[k]'hlt) wr
      rw [hgb] at HN HX
      obtain ⟨bb, hbb⟩ : ∃ bb, blankN (s[k]'hlt).toNat = bb := ⟨_, rfl⟩
      rw [hbb] at HS HN HX
      have HS := Lib.hid HS
      clear hbb hu hgb
      go_wp2_with fail
      refine Calls.mono HS.out ?_
      rintro e w1 ⟨rfl, rfl⟩
      cases bb with
      | true =>
        go_wp2
        go_roundw
        case rel => exact ⟨k + 1, by go_num, by omega, HX.out (by first | exact trivial | rfl), rfl⟩
        case measure => simp [intOf]; omega
      | false =>
        go_wp2
        go_ret
        exact ⟨by rw [HN.out (by first | exact trivial | rfl)]; rfl, rfl⟩
    · obtain rfl : k = s.size := by omega
      rw [List.take_of_length_le (by omega)] at hu
      have HU := Lib.hid hu
      clear hu
      go_wp2
      go_ret
      exact ⟨by rw [HU.out]; rfl, rfl⟩
end Go.Proofs.YtdkjenbncmedbaaGreatDoor
