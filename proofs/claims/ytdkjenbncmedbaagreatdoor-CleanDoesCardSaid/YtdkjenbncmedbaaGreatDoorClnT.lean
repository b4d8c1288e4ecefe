/- A word in a row of words with blanks between: plainly, and clean.has. clean.place: takes and into. -/
import Derived.Test.YtdkjenbncmedbaaGreatDoorClnP
import Derived.Test.YtdkjenbncmedbaaGreatDoorShelf
import Derived.Lib.IndexMore
import Derived.Lib.IndexAny
namespace Go.Proofs.YtdkjenbncmedbaaGreatDoor
open Go.RowKit

theorem index_iff (s sub : List UInt8) : 0 ≤ Lib.index s sub ↔ ∃ a b, s = a ++ sub ++ b := by
  induction s with
  | nil =>
    unfold Lib.index
    cases sub with
    | nil => simp
    | cons c r => simp
  | cons c s ih =>
    unfold Lib.index
    by_cases hp : sub.isPrefixOf (c :: s) = true
    · simp only [hp, if_true]
      obtain ⟨b, hb⟩ := List.isPrefixOf_iff_prefix.1 hp
      exact ⟨fun _ => ⟨[], b, by simp [hb]⟩, fun _ => Int.le_refl _⟩
    · simp only [hp]
      have hno : ∀ a b, c :: s = a ++ sub ++ b ↔ ∃ a', a = c :: a' ∧ s = a' ++ sub ++ b := by
        intro a b
        cases a with
        | nil =>
          constructor
          · intro h; exact absurd (List.isPrefixOf_iff_prefix.2 ⟨b, by simpa using h.symm⟩) hp
          · rintro ⟨a', h, _⟩; cases h
        | cons d a' =>
          constructor
          · intro h; simp at h; obtain ⟨rfl, h⟩ := h; exact ⟨a', rfl, by simpa using h⟩
          · rintro ⟨a'', h, h2⟩; cases h; simp [h2]
      have ih' : 0 ≤ Lib.index s sub ↔ ∃ a b, c :: s = a ++ sub ++ b := by
        rw [ih]
        constructor
        · rintro ⟨a, b, h⟩; exact ⟨c :: a, b, (hno _ _).2 ⟨a, rfl, h⟩⟩
        · rintro ⟨a, b, h⟩; obtain ⟨a', _, h2⟩ := (hno _ _).1 h; exact ⟨a', b, h2⟩
      rw [← ih']
      by_cases h1 : Lib.index s sub = -1
      · simp [h1]
      · have : (Lib.index s sub == -1) = false := by simpa using h1
        simp only [this]
        constructor
        · intro h; simp at h; omega
        · intro h; simp; omega

def rowOf (ws : List (List UInt8)) : List UInt8 := 32 :: (ws.map (· ++ [32])).flatten
theorem rowOf_cons (w : List UInt8) (ws : List (List UInt8)) : rowOf (w :: ws) = 32 :: (w ++ rowOf ws) := by simp [rowOf]

theorem split_first {x y p q : List UInt8} (hx : (32 : UInt8) ∉ x) (hy : (32 : UInt8) ∉ y) (h : x ++ 32 :: p = y ++ 32 :: q) : x = y := by
  rcases List.append_eq_append_iff.1 h with ⟨c, h1, h2⟩ | ⟨c, h1, h2⟩
  · cases c with
    | nil => simp at h1; exact h1.symm
    | cons d r => simp at h2; obtain ⟨rfl, _⟩ := h2; exact absurd (by rw [h1]; simp) hy
  · cases c with
    | nil => simp at h1; exact h1
    | cons d r => simp at h2; obtain ⟨rfl, _⟩ := h2; exact absurd (by rw [h1]; simp) hx
theorem split_in {w r a t : List UInt8} (hw : (32 : UInt8) ∉ w) (h : w ++ r = a ++ 32 :: t) : ∃ a', r = a' ++ 32 :: t := by
  rcases List.append_eq_append_iff.1 h with ⟨c, _, h2⟩ | ⟨c, h1, h2⟩
  · exact ⟨c, h2⟩
  · cases c with
    | nil => exact ⟨[], by simpa using h2.symm⟩
    | cons d r => simp at h2; obtain ⟨rfl, _⟩ := h2; exact absurd (by rw [h1]; simp) hw

theorem row_iff (name : List UInt8) (hn : (32 : UInt8) ∉ name) : ∀ ws : List (List UInt8), (∀ w ∈ ws, (32 : UInt8) ∉ w) → ((∃ a b, rowOf ws = a ++ (32 :: name ++ [32]) ++ b) ↔ name ∈ ws)
  | [], _ => by
    simp only [rowOf, List.map_nil, List.flatten_nil, List.not_mem_nil, iff_false]
    rintro ⟨a, b, h⟩
    have := congrArg List.length h
    simp at this
    omega
  | w :: ws, hws => by
    have ih := row_iff name hn ws (fun w h => hws w (by simp [h]))
    have hw := hws w (by simp)
    rw [List.mem_cons, ← ih, rowOf_cons]
    constructor
    · rintro ⟨a, b, h⟩
      cases a with
      | nil =>
        left
        simp [rowOf] at h
        exact (split_first hw hn h).symm
      | cons c a =>
        right
        simp at h
        obtain ⟨rfl, h⟩ := h
        obtain ⟨a', h2⟩ := split_in hw (t := name ++ 32 :: b) (by simpa using h)
        exact ⟨a', b, by rw [h2]; simp⟩
    · rintro (rfl | ⟨a, b, h⟩)
      · exact ⟨[], (ws.map (· ++ [32])).flatten, by simp [rowOf]⟩
      · exact ⟨32 :: (w ++ a), b, by rw [h]; simp⟩

/-- A row of words holds a word, blanks around it. -/
theorem row_has (name : List UInt8) (hn : (32 : UInt8) ∉ name) (ws : List (List UInt8)) (hws : ∀ w ∈ ws, (32 : UInt8) ∉ w) : Lib.contains (rowOf ws) (32 :: name ++ [32]) = decide (name ∈ ws) := by
  unfold Lib.contains
  rw [decide_eq_decide, index_iff, row_iff name hn ws hws]

def goneT : ByteArray := ⟨#[32, 97, 112, 112, 108, 101, 116, 32, 102, 114, 97, 109, 101, 115, 101, 116, 32, 105, 102, 114, 97, 109, 101, 32, 109, 97, 116, 104, 32, 110, 111, 101, 109, 98, 101, 100, 32, 110, 111, 102, 114, 97, 109, 101, 115, 32, 110, 111, 115, 99, 114, 105, 112, 116, 32, 111, 98, 106, 101, 99, 116, 32, 112, 108, 97, 105, 110, 116, 101, 120, 116, 32, 115, 99, 114, 105, 112, 116, 32, 115, 101, 108, 101, 99, 116, 32, 115, 116, 121, 108, 101, 32, 115, 118, 103, 32, 116, 101, 109, 112, 108, 97, 116, 101, 32, 116, 101, 120, 116, 97, 114, 101, 97, 32, 116, 105, 116, 108, 101, 32, 120, 109, 112, 32]⟩
def closT : ByteArray := ⟨#[32, 98, 108, 111, 99, 107, 113, 117, 111, 116, 101, 32, 100, 100, 32, 100, 105, 118, 32, 100, 108, 32, 100, 116, 32, 104, 49, 32, 104, 50, 32, 104, 51, 32, 104, 52, 32, 104, 53, 32, 104, 54, 32, 104, 114, 32, 108, 105, 32, 111, 108, 32, 112, 32, 112, 114, 101, 32, 116, 97, 98, 108, 101, 32, 117, 108, 32]⟩
def apartT : ByteArray := ⟨#[32, 98, 108, 111, 99, 107, 113, 117, 111, 116, 101, 32, 100, 108, 32, 104, 49, 32, 104, 50, 32, 104, 51, 32, 104, 52, 32, 104, 53, 32, 104, 54, 32, 111, 108, 32, 112, 114, 101, 32, 116, 97, 98, 108, 101, 32, 116, 98, 111, 100, 121, 32, 116, 100, 32, 116, 102, 111, 111, 116, 32, 116, 104, 32, 116, 104, 101, 97, 100, 32, 116, 114, 32, 117, 108, 32]⟩
def headsT : ByteArray := ⟨#[32, 104, 49, 32, 104, 50, 32, 104, 51, 32, 104, 52, 32, 104, 53, 32, 104, 54, 32]⟩
def partsT : ByteArray := ⟨#[32, 116, 98, 111, 100, 121, 32, 116, 100, 32, 116, 102, 111, 111, 116, 32, 116, 104, 32, 116, 104, 101, 97, 100, 32, 116, 114, 32]⟩
def voidT : ByteArray := ⟨#[32, 98, 114, 32, 104, 114, 32, 105, 109, 103, 32]⟩
/-- The row is these words. -/
def RowOf (row : ByteArray) (ws : List ByteArray) : Prop := row.data.toList = rowOf (ws.map fun x => x.data.toList) ∧ ws.all (fun x => !x.data.toList.contains 32 && !x.data.toList.isEmpty) = true ∧ row.size ≤ 1000
theorem row_gone : RowOf goneT goneL := by unfold RowOf; decide +kernel
theorem row_clos : RowOf closT closL := by unfold RowOf; decide +kernel
theorem row_apart : RowOf apartT apartL := by unfold RowOf; decide +kernel
theorem row_heads : RowOf headsT headsL := by unfold RowOf; decide +kernel
theorem row_parts : RowOf partsT partsL := by unfold RowOf; decide +kernel
theorem row_void : RowOf voidT voidL := by unfold RowOf; decide +kernel
theorem hasS_mem (ws : List ByteArray) (x : ByteArray) : hasS ws x = decide (x.data.toList ∈ ws.map fun y => y.data.toList) := by
  rw [Bool.eq_iff_iff, hasS_iff, decide_eq_true_eq, List.mem_map]
  constructor
  · exact fun h => ⟨x, h, rfl⟩
  · rintro ⟨y, hy, e⟩
    have : y = x := ByteArray.ext (Array.toList_inj.1 e)
    rw [← this]
    exact hy
theorem indexByte_mem (l : List UInt8) (c : UInt8) : decide (0 ≤ Lib.indexByte l c) = l.contains c := by
  rw [Bool.eq_iff_iff, decide_eq_true_eq, List.contains_iff_mem]
  induction l with
  | nil => simp [Lib.indexByte]
  | cons b l ih =>
    unfold Lib.indexByte
    have hge := Lib.indexByte_ge l c
    by_cases hb : b = c
    · subst hb
      simp
    · have h1 : (b == c) = false := by simpa using hb
      rw [h1, List.mem_cons]
      by_cases hm : Lib.indexByte l c = -1
      · rw [hm] at ih ⊢
        constructor
        · intro h; simp at h
        · rintro (e | e)
          · exact absurd e.symm hb
          · have := ih.2 e; omega
      · have h2 : (Lib.indexByte l c == -1) = false := by simpa using hm
        rw [h2]
        constructor
        · intro _
          exact .inr (ih.1 (by omega))
        · intro _
          show (0 : Int) ≤ Lib.indexByte l c + 1
          omega
theorem has_in {row : ByteArray} {ws : List ByteArray} (h : RowOf row ws) {x : ByteArray} (h32 : x.data.toList.contains 32 = false) : Lib.contains row.data.toList (32 :: x.data.toList ++ [32]) = hasS ws x := by
  obtain ⟨h1, h2, _⟩ := h
  have hall := fun (y : ByteArray) (hy : y ∈ ws) => (by simpa using List.all_eq_true.1 h2 y hy : (32 : UInt8) ∉ y.data.toList ∧ ¬ y.data.toList = [])
  rw [h1, row_has x.data.toList (by simpa using h32) _ (fun w hw => by obtain ⟨y, hy, rfl⟩ := List.mem_map.1 hw; exact (hall y hy).1), hasS_mem]
theorem has_not {row : ByteArray} {ws : List ByteArray} (h : RowOf row ws) {x : ByteArray} (hx : x.data.toList.contains 32 = true ∨ x.data.toList = []) : hasS ws x = false := by
  obtain ⟨_, h2, _⟩ := h
  rw [Bool.eq_false_iff]
  intro e
  have h3 := List.all_eq_true.1 h2 x ((hasS_iff _ _).1 e)
  rcases hx with hx | hx
  · rw [hx] at h3
    simp at h3
  · rw [hx] at h3
    simp at h3
set_option maxHeartbeats 2000000 in
set_option maxRecDepth 100000 in
theorem has_word (row : ByteArray) (ws : List ByteArray) (x : ByteArray) (w : World) (hr : RowOf row ws) (hG : Glob w) (hx : x.size ≤ 1099511627776) : Calls Tryz.prog 60 #[.string row, .string x] w (RB w (hasS ws x)) := by
  obtain ⟨m, hm⟩ := hG.maxLen
  by_cases h0 : x.data.toList = []
  · obtain rfl : x = ⟨#[]⟩ := by
      have : x.data = #[] := by rw [← Array.toList_inj]; exact h0
      rw [← Lib.mk_data x, this]
    have hv := has_not hr (.inr h0)
    rw [hv]
    clear hv h0 hr hm
    go_enter Tryz.func60, Tryz.ntmps60
    go_wp2
    go_ret
    exact ⟨rfl, rfl⟩
  · have t1 : ¬ x.toList = [] := by rw [Lib.toList_data]; exact h0
    have t2 : x.toList.isEmpty = false := by rw [Lib.toList_data]; simpa using h0
    have hib := indexByte_mem x.data.toList 32
    cases h32 : x.data.toList.contains 32 with
    | true =>
      rw [has_not hr (.inl h32)]
      rw [h32] at hib
      have HI := Lib.hid (Tryz.strings_Contains_one x 32 w)
      rw [hib] at HI
      clear hib h32 hr h0 hm
      go_enter Tryz.func60, Tryz.ntmps60
      go_wp2_with fail
      refine Calls.mono HI.out ?_
      rintro e w' ⟨rfl, rfl⟩
      go_wp2
      go_ret
      exact ⟨rfl, rfl⟩
    | false =>
      have hv := has_in hr h32
      have hrs := hr.2.2
      rw [h32] at hib
      have HI := Lib.hid (Tryz.strings_Contains_one x 32 w)
      rw [hib] at HI
      obtain ⟨y, hy⟩ : ∃ y : ByteArray, (⟨#[32]⟩ : ByteArray) ++ x ++ ⟨#[32]⟩ = y := ⟨_, rfl⟩
      have hyd : y.data.toList = 32 :: x.data.toList ++ [32] := by rw [← hy]; simp
      have HC := Lib.hid (Tryz.strings_Contains row y m w (by omega) hm)
      rw [hyd, hv] at HC
      have HY := Lib.hid hy
      clear hib h32 hr h0 hm hv hyd hy
      go_enter Tryz.func60, Tryz.ntmps60
      go_wp2_with fail
      refine Calls.mono HI.out ?_
      rintro e w' ⟨rfl, rfl⟩
      go_wp2_with fail
      rw [HY.out]
      refine Calls.mono HC.out ?_
      rintro e w' ⟨rfl, rfl⟩
      go_wp2
      go_ret
      exact ⟨rfl, rfl⟩

def Pl.val (x : Pl) : Value := .agg #[.bool x.para, .bool x.link, .bool x.item, .bool x.pair, .bool x.head, .bool x.pre]
theorem isT_no {s c : ByteArray} (h : isT s c = false) : (s.toList == c.data.toList) = false ∧ ¬ s.toList = c.data.toList := by
  have h1 : (s.toList == c.data.toList) = false := by rw [← h]; unfold isT; rw [Lib.toList_data c]
  exact ⟨h1, by simpa using h1⟩
set_option maxHeartbeats 4000000 in
set_option maxRecDepth 100000 in
theorem takes_a (x : Pl) (w : World) (c1 c2 c3 : Bool) (h1 : ∀ w' : World, Below w.heap.size w w' → Calls Tryz.prog 60 #[.string closT, .string ⟨#[97]⟩] w' (RB w' c1)) (h2 : ∀ w' : World, Below w.heap.size w w' → Calls Tryz.prog 60 #[.string headsT, .string ⟨#[97]⟩] w' (RB w' c2)) (h3 : ∀ w' : World, Below w.heap.size w w' → Calls Tryz.prog 60 #[.string partsT, .string ⟨#[97]⟩] w' (RB w' c3)) :
    Calls Tryz.prog 61 #[x.val, .string ⟨#[97]⟩] w (BoolR w (!(x.para && c1 || x.head && c2 || c3) && !x.link)) := by
  obtain ⟨para, link, item, pair, head, pre⟩ := x
  have hb0 : Below w.heap.size w (w.alloc (.cells #[.bool para, .bool link, .bool item, .bool pair, .bool head, .bool pre] 66)) := (Below.refl _ w).alloc (Nat.le_refl _) _
  have H1 := Lib.hid (h1 _ hb0); have H2 := Lib.hid (h2 _ hb0); have H3 := Lib.hid (h3 _ hb0)
  have HB0 := Lib.hid hb0
  unfold Pl.val
  simp only
  clear h1 h2 h3 hb0
  cases para with
  | false =>
    cases head with
    | false =>
      cases c3 with
      | true =>
        go_enter Tryz.func61, Tryz.ntmps61
        go_wp2_with fail
        refine Calls.mono H3.out ?_
        rintro e w3 ⟨rfl, rfl⟩
        go_wp2
        go_ret
        exact ⟨rfl, HB0.out⟩
      | false =>
        go_enter Tryz.func61, Tryz.ntmps61
        go_wp2_with fail
        refine Calls.mono H3.out ?_
        rintro e w3 ⟨rfl, rfl⟩
        go_wp2
        go_ret
        exact ⟨rfl, HB0.out⟩
    | true =>
      cases c2 with
      | true =>
        go_enter Tryz.func61, Tryz.ntmps61
        go_wp2_with fail
        refine Calls.mono H2.out ?_
        rintro e w2 ⟨rfl, rfl⟩
        go_wp2
        go_ret
        exact ⟨rfl, HB0.out⟩
      | false =>
        cases c3 with
        | true =>
          go_enter Tryz.func61, Tryz.ntmps61
          go_wp2_with fail
          refine Calls.mono H2.out ?_
          rintro e w2 ⟨rfl, rfl⟩
          go_wp2_with fail
          refine Calls.mono H3.out ?_
          rintro e w3 ⟨rfl, rfl⟩
          go_wp2
          go_ret
          exact ⟨rfl, HB0.out⟩
        | false =>
          go_enter Tryz.func61, Tryz.ntmps61
          go_wp2_with fail
          refine Calls.mono H2.out ?_
          rintro e w2 ⟨rfl, rfl⟩
          go_wp2_with fail
          refine Calls.mono H3.out ?_
          rintro e w3 ⟨rfl, rfl⟩
          go_wp2
          go_ret
          exact ⟨rfl, HB0.out⟩
  | true =>
    cases c1 with
    | true =>
      go_enter Tryz.func61, Tryz.ntmps61
      go_wp2_with fail
      refine Calls.mono H1.out ?_
      rintro e w1 ⟨rfl, rfl⟩
      go_wp2
      go_ret
      exact ⟨rfl, HB0.out⟩
    | false =>
      cases head with
      | false =>
        cases c3 with
        | true =>
          go_enter Tryz.func61, Tryz.ntmps61
          go_wp2_with fail
          refine Calls.mono H1.out ?_
          rintro e w1 ⟨rfl, rfl⟩
          go_wp2_with fail
          refine Calls.mono H3.out ?_
          rintro e w3 ⟨rfl, rfl⟩
          go_wp2
          go_ret
          exact ⟨rfl, HB0.out⟩
        | false =>
          go_enter Tryz.func61, Tryz.ntmps61
          go_wp2_with fail
          refine Calls.mono H1.out ?_
          rintro e w1 ⟨rfl, rfl⟩
          go_wp2_with fail
          refine Calls.mono H3.out ?_
          rintro e w3 ⟨rfl, rfl⟩
          go_wp2
          go_ret
          exact ⟨rfl, HB0.out⟩
      | true =>
        cases c2 with
        | true =>
          go_enter Tryz.func61, Tryz.ntmps61
          go_wp2_with fail
          refine Calls.mono H1.out ?_
          rintro e w1 ⟨rfl, rfl⟩
          go_wp2_with fail
          refine Calls.mono H2.out ?_
          rintro e w2 ⟨rfl, rfl⟩
          go_wp2
          go_ret
          exact ⟨rfl, HB0.out⟩
        | false =>
          cases c3 with
          | true =>
            go_enter Tryz.func61, Tryz.ntmps61
            go_wp2_with fail
            refine Calls.mono H1.out ?_
            rintro e w1 ⟨rfl, rfl⟩
            go_wp2_with fail
            refine Calls.mono H2.out ?_
            rintro e w2 ⟨rfl, rfl⟩
            go_wp2_with fail
            refine Calls.mono H3.out ?_
            rintro e w3 ⟨rfl, rfl⟩
            go_wp2
            go_ret
            exact ⟨rfl, HB0.out⟩
          | false =>
            go_enter Tryz.func61, Tryz.ntmps61
            go_wp2_with fail
            refine Calls.mono H1.out ?_
            rintro e w1 ⟨rfl, rfl⟩
            go_wp2_with fail
            refine Calls.mono H2.out ?_
            rintro e w2 ⟨rfl, rfl⟩
            go_wp2_with fail
            refine Calls.mono H3.out ?_
            rintro e w3 ⟨rfl, rfl⟩
            go_wp2
            go_ret
            exact ⟨rfl, HB0.out⟩
set_option maxHeartbeats 4000000 in
set_option maxRecDepth 100000 in
theorem takes_li (x : Pl) (w : World) (c1 c2 c3 : Bool) (h1 : ∀ w' : World, Below w.heap.size w w' → Calls Tryz.prog 60 #[.string closT, .string ⟨#[108, 105]⟩] w' (RB w' c1)) (h2 : ∀ w' : World, Below w.heap.size w w' → Calls Tryz.prog 60 #[.string headsT, .string ⟨#[108, 105]⟩] w' (RB w' c2)) (h3 : ∀ w' : World, Below w.heap.size w w' → Calls Tryz.prog 60 #[.string partsT, .string ⟨#[108, 105]⟩] w' (RB w' c3)) :
    Calls Tryz.prog 61 #[x.val, .string ⟨#[108, 105]⟩] w (BoolR w (!(x.para && c1 || x.head && c2 || c3) && !x.item)) := by
  obtain ⟨para, link, item, pair, head, pre⟩ := x
  have hb0 : Below w.heap.size w (w.alloc (.cells #[.bool para, .bool link, .bool item, .bool pair, .bool head, .bool pre] 66)) := (Below.refl _ w).alloc (Nat.le_refl _) _
  have H1 := Lib.hid (h1 _ hb0); have H2 := Lib.hid (h2 _ hb0); have H3 := Lib.hid (h3 _ hb0)
  have HB0 := Lib.hid hb0
  unfold Pl.val
  simp only
  clear h1 h2 h3 hb0
  cases para with
  | false =>
    cases head with
    | false =>
      cases c3 with
      | true =>
        go_enter Tryz.func61, Tryz.ntmps61
        go_wp2_with fail
        refine Calls.mono H3.out ?_
        rintro e w3 ⟨rfl, rfl⟩
        go_wp2
        go_ret
        exact ⟨rfl, HB0.out⟩
      | false =>
        go_enter Tryz.func61, Tryz.ntmps61
        go_wp2_with fail
        refine Calls.mono H3.out ?_
        rintro e w3 ⟨rfl, rfl⟩
        go_wp2
        go_ret
        exact ⟨rfl, HB0.out⟩
    | true =>
      cases c2 with
      | true =>
        go_enter Tryz.func61, Tryz.ntmps61
        go_wp2_with fail
        refine Calls.mono H2.out ?_
        rintro e w2 ⟨rfl, rfl⟩
        go_wp2
        go_ret
        exact ⟨rfl, HB0.out⟩
      | false =>
        cases c3 with
        | true =>
          go_enter Tryz.func61, Tryz.ntmps61
          go_wp2_with fail
          refine Calls.mono H2.out ?_
          rintro e w2 ⟨rfl, rfl⟩
          go_wp2_with fail
          refine Calls.mono H3.out ?_
          rintro e w3 ⟨rfl, rfl⟩
          go_wp2
          go_ret
          exact ⟨rfl, HB0.out⟩
        | false =>
          go_enter Tryz.func61, Tryz.ntmps61
          go_wp2_with fail
          refine Calls.mono H2.out ?_
          rintro e w2 ⟨rfl, rfl⟩
          go_wp2_with fail
          refine Calls.mono H3.out ?_
          rintro e w3 ⟨rfl, rfl⟩
          go_wp2
          go_ret
          exact ⟨rfl, HB0.out⟩
  | true =>
    cases c1 with
    | true =>
      go_enter Tryz.func61, Tryz.ntmps61
      go_wp2_with fail
      refine Calls.mono H1.out ?_
      rintro e w1 ⟨rfl, rfl⟩
      go_wp2
      go_ret
      exact ⟨rfl, HB0.out⟩
    | false =>
      cases head with
      | false =>
        cases c3 with
        | true =>
          go_enter Tryz.func61, Tryz.ntmps61
          go_wp2_with fail
          refine Calls.mono H1.out ?_
          rintro e w1 ⟨rfl, rfl⟩
          go_wp2_with fail
          refine Calls.mono H3.out ?_
          rintro e w3 ⟨rfl, rfl⟩
          go_wp2
          go_ret
          exact ⟨rfl, HB0.out⟩
        | false =>
          go_enter Tryz.func61, Tryz.ntmps61
          go_wp2_with fail
          refine Calls.mono H1.out ?_
          rintro e w1 ⟨rfl, rfl⟩
          go_wp2_with fail
          refine Calls.mono H3.out ?_
          rintro e w3 ⟨rfl, rfl⟩
          go_wp2
          go_ret
          exact ⟨rfl, HB0.out⟩
      | true =>
        cases c2 with
        | true =>
          go_enter Tryz.func61, Tryz.ntmps61
          go_wp2_with fail
          refine Calls.mono H1.out ?_
          rintro e w1 ⟨rfl, rfl⟩
          go_wp2_with fail
          refine Calls.mono H2.out ?_
          rintro e w2 ⟨rfl, rfl⟩
          go_wp2
          go_ret
          exact ⟨rfl, HB0.out⟩
        | false =>
          cases c3 with
          | true =>
            go_enter Tryz.func61, Tryz.ntmps61
            go_wp2_with fail
            refine Calls.mono H1.out ?_
            rintro e w1 ⟨rfl, rfl⟩
            go_wp2_with fail
            refine Calls.mono H2.out ?_
            rintro e w2 ⟨rfl, rfl⟩
            go_wp2_with fail
            refine Calls.mono H3.out ?_
            rintro e w3 ⟨rfl, rfl⟩
            go_wp2
            go_ret
            exact ⟨rfl, HB0.out⟩
          | false =>
            go_enter Tryz.func61, Tryz.ntmps61
            go_wp2_with fail
            refine Calls.mono H1.out ?_
            rintro e w1 ⟨rfl, rfl⟩
            go_wp2_with fail
            refine Calls.mono H2.out ?_
            rintro e w2 ⟨rfl, rfl⟩
            go_wp2_with fail
            refine Calls.mono H3.out ?_
            rintro e w3 ⟨rfl, rfl⟩
            go_wp2
            go_ret
            exact ⟨rfl, HB0.out⟩
set_option maxHeartbeats 4000000 in
set_option maxRecDepth 100000 in
theorem takes_dd (x : Pl) (w : World) (c1 c2 c3 : Bool) (h1 : ∀ w' : World, Below w.heap.size w w' → Calls Tryz.prog 60 #[.string closT, .string ⟨#[100, 100]⟩] w' (RB w' c1)) (h2 : ∀ w' : World, Below w.heap.size w w' → Calls Tryz.prog 60 #[.string headsT, .string ⟨#[100, 100]⟩] w' (RB w' c2)) (h3 : ∀ w' : World, Below w.heap.size w w' → Calls Tryz.prog 60 #[.string partsT, .string ⟨#[100, 100]⟩] w' (RB w' c3)) :
    Calls Tryz.prog 61 #[x.val, .string ⟨#[100, 100]⟩] w (BoolR w (!(x.para && c1 || x.head && c2 || c3) && !x.pair)) := by
  obtain ⟨para, link, item, pair, head, pre⟩ := x
  have hb0 : Below w.heap.size w (w.alloc (.cells #[.bool para, .bool link, .bool item, .bool pair, .bool head, .bool pre] 66)) := (Below.refl _ w).alloc (Nat.le_refl _) _
  have H1 := Lib.hid (h1 _ hb0); have H2 := Lib.hid (h2 _ hb0); have H3 := Lib.hid (h3 _ hb0)
  have HB0 := Lib.hid hb0
  unfold Pl.val
  simp only
  clear h1 h2 h3 hb0
  cases para with
  | false =>
    cases head with
    | false =>
      cases c3 with
      | true =>
        go_enter Tryz.func61, Tryz.ntmps61
        go_wp2_with fail
        refine Calls.mono H3.out ?_
        rintro e w3 ⟨rfl, rfl⟩
        go_wp2
        go_ret
        exact ⟨rfl, HB0.out⟩
      | false =>
        go_enter Tryz.func61, Tryz.ntmps61
        go_wp2_with fail
        refine Calls.mono H3.out ?_
        rintro e w3 ⟨rfl, rfl⟩
        go_wp2
        go_ret
        exact ⟨rfl, HB0.out⟩
    | true =>
      cases c2 with
      | true =>
        go_enter Tryz.func61, Tryz.ntmps61
        go_wp2_with fail
        refine Calls.mono H2.out ?_
        rintro e w2 ⟨rfl, rfl⟩
        go_wp2
        go_ret
        exact ⟨rfl, HB0.out⟩
      | false =>
        cases c3 with
        | true =>
          go_enter Tryz.func61, Tryz.ntmps61
          go_wp2_with fail
          refine Calls.mono H2.out ?_
          rintro e w2 ⟨rfl, rfl⟩
          go_wp2_with fail
          refine Calls.mono H3.out ?_
          rintro e w3 ⟨rfl, rfl⟩
          go_wp2
          go_ret
          exact ⟨rfl, HB0.out⟩
        | false =>
          go_enter Tryz.func61, Tryz.ntmps61
          go_wp2_with fail
          refine Calls.mono H2.out ?_
          rintro e w2 ⟨rfl, rfl⟩
          go_wp2_with fail
          refine Calls.mono H3.out ?_
          rintro e w3 ⟨rfl, rfl⟩
          go_wp2
          go_ret
          exact ⟨rfl, HB0.out⟩
  | true =>
    cases c1 with
    | true =>
      go_enter Tryz.func61, Tryz.ntmps61
      go_wp2_with fail
      refine Calls.mono H1.out ?_
      rintro e w1 ⟨rfl, rfl⟩
      go_wp2
      go_ret
      exact ⟨rfl, HB0.out⟩
    | false =>
      cases head with
      | false =>
        cases c3 with
        | true =>
          go_enter Tryz.func61, Tryz.ntmps61
          go_wp2_with fail
          refine Calls.mono H1.out ?_
          rintro e w1 ⟨rfl, rfl⟩
          go_wp2_with fail
          refine Calls.mono H3.out ?_
          rintro e w3 ⟨rfl, rfl⟩
          go_wp2
          go_ret
          exact ⟨rfl, HB0.out⟩
        | false =>
          go_enter Tryz.func61, Tryz.ntmps61
          go_wp2_with fail
          refine Calls.mono H1.out ?_
          rintro e w1 ⟨rfl, rfl⟩
          go_wp2_with fail
          refine Calls.mono H3.out ?_
          rintro e w3 ⟨rfl, rfl⟩
          go_wp2
          go_ret
          exact ⟨rfl, HB0.out⟩
      | true =>
        cases c2 with
        | true =>
          go_enter Tryz.func61, Tryz.ntmps61
          go_wp2_with fail
          refine Calls.mono H1.out ?_
          rintro e w1 ⟨rfl, rfl⟩
          go_wp2_with fail
          refine Calls.mono H2.out ?_
          rintro e w2 ⟨rfl, rfl⟩
          go_wp2
          go_ret
          exact ⟨rfl, HB0.out⟩
        | false =>
          cases c3 with
          | true =>
            go_enter Tryz.func61, Tryz.ntmps61
            go_wp2_with fail
            refine Calls.mono H1.out ?_
            rintro e w1 ⟨rfl, rfl⟩
            go_wp2_with fail
            refine Calls.mono H2.out ?_
            rintro e w2 ⟨rfl, rfl⟩
            go_wp2_with fail
            refine Calls.mono H3.out ?_
            rintro e w3 ⟨rfl, rfl⟩
            go_wp2
            go_ret
            exact ⟨rfl, HB0.out⟩
          | false =>
            go_enter Tryz.func61, Tryz.ntmps61
            go_wp2_with fail
            refine Calls.mono H1.out ?_
            rintro e w1 ⟨rfl, rfl⟩
            go_wp2_with fail
            refine Calls.mono H2.out ?_
            rintro e w2 ⟨rfl, rfl⟩
            go_wp2_with fail
            refine Calls.mono H3.out ?_
            rintro e w3 ⟨rfl, rfl⟩
            go_wp2
            go_ret
            exact ⟨rfl, HB0.out⟩
set_option maxHeartbeats 4000000 in
set_option maxRecDepth 100000 in
theorem takes_dt (x : Pl) (w : World) (c1 c2 c3 : Bool) (h1 : ∀ w' : World, Below w.heap.size w w' → Calls Tryz.prog 60 #[.string closT, .string ⟨#[100, 116]⟩] w' (RB w' c1)) (h2 : ∀ w' : World, Below w.heap.size w w' → Calls Tryz.prog 60 #[.string headsT, .string ⟨#[100, 116]⟩] w' (RB w' c2)) (h3 : ∀ w' : World, Below w.heap.size w w' → Calls Tryz.prog 60 #[.string partsT, .string ⟨#[100, 116]⟩] w' (RB w' c3)) :
    Calls Tryz.prog 61 #[x.val, .string ⟨#[100, 116]⟩] w (BoolR w (!(x.para && c1 || x.head && c2 || c3) && !x.pair)) := by
  obtain ⟨para, link, item, pair, head, pre⟩ := x
  have hb0 : Below w.heap.size w (w.alloc (.cells #[.bool para, .bool link, .bool item, .bool pair, .bool head, .bool pre] 66)) := (Below.refl _ w).alloc (Nat.le_refl _) _
  have H1 := Lib.hid (h1 _ hb0); have H2 := Lib.hid (h2 _ hb0); have H3 := Lib.hid (h3 _ hb0)
  have HB0 := Lib.hid hb0
  unfold Pl.val
  simp only
  clear h1 h2 h3 hb0
  cases para with
  | false =>
    cases head with
    | false =>
      cases c3 with
      | true =>
        go_enter Tryz.func61, Tryz.ntmps61
        go_wp2_with fail
        refine Calls.mono H3.out ?_
        rintro e w3 ⟨rfl, rfl⟩
        go_wp2
        go_ret
        exact ⟨rfl, HB0.out⟩
      | false =>
        go_enter Tryz.func61, Tryz.ntmps61
        go_wp2_with fail
        refine Calls.mono H3.out ?_
        rintro e w3 ⟨rfl, rfl⟩
        go_wp2
        go_ret
        exact ⟨rfl, HB0.out⟩
    | true =>
      cases c2 with
      | true =>
        go_enter Tryz.func61, Tryz.ntmps61
        go_wp2_with fail
        refine Calls.mono H2.out ?_
        rintro e w2 ⟨rfl, rfl⟩
        go_wp2
        go_ret
        exact ⟨rfl, HB0.out⟩
      | false =>
        cases c3 with
        | true =>
          go_enter Tryz.func61, Tryz.ntmps61
          go_wp2_with fail
          refine Calls.mono H2.out ?_
          rintro e w2 ⟨rfl, rfl⟩
          go_wp2_with fail
          refine Calls.mono H3.out ?_
          rintro e w3 ⟨rfl, rfl⟩
          go_wp2
          go_ret
          exact ⟨rfl, HB0.out⟩
        | false =>
          go_enter Tryz.func61, Tryz.ntmps61
          go_wp2_with fail
          refine Calls.mono H2.out ?_
          rintro e w2 ⟨rfl, rfl⟩
          go_wp2_with fail
          refine Calls.mono H3.out ?_
          rintro e w3 ⟨rfl, rfl⟩
          go_wp2
          go_ret
          exact ⟨rfl, HB0.out⟩
  | true =>
    cases c1 with
    | true =>
      go_enter Tryz.func61, Tryz.ntmps61
      go_wp2_with fail
      refine Calls.mono H1.out ?_
      rintro e w1 ⟨rfl, rfl⟩
      go_wp2
      go_ret
      exact ⟨rfl, HB0.out⟩
    | false =>
      cases head with
      | false =>
        cases c3 with
        | true =>
          go_enter Tryz.func61, Tryz.ntmps61
          go_wp2_with fail
          refine Calls.mono H1.out ?_
          rintro e w1 ⟨rfl, rfl⟩
          go_wp2_with fail
          refine Calls.mono H3.out ?_
          rintro e w3 ⟨rfl, rfl⟩
          go_wp2
          go_ret
          exact ⟨rfl, HB0.out⟩
        | false =>
          go_enter Tryz.func61, Tryz.ntmps61
          go_wp2_with fail
          refine Calls.mono H1.out ?_
          rintro e w1 ⟨rfl, rfl⟩
          go_wp2_with fail
          refine Calls.mono H3.out ?_
          rintro e w3 ⟨rfl, rfl⟩
          go_wp2
          go_ret
          exact ⟨rfl, HB0.out⟩
      | true =>
        cases c2 with
        | true =>
          go_enter Tryz.func61, Tryz.ntmps61
          go_wp2_with fail
          refine Calls.mono H1.out ?_
          rintro e w1 ⟨rfl, rfl⟩
          go_wp2_with fail
          refine Calls.mono H2.out ?_
          rintro e w2 ⟨rfl, rfl⟩
          go_wp2
          go_ret
          exact ⟨rfl, HB0.out⟩
        | false =>
          cases c3 with
          | true =>
            go_enter Tryz.func61, Tryz.ntmps61
            go_wp2_with fail
            refine Calls.mono H1.out ?_
            rintro e w1 ⟨rfl, rfl⟩
            go_wp2_with fail
            refine Calls.mono H2.out ?_
            rintro e w2 ⟨rfl, rfl⟩
            go_wp2_with fail
            refine Calls.mono H3.out ?_
            rintro e w3 ⟨rfl, rfl⟩
            go_wp2
            go_ret
            exact ⟨rfl, HB0.out⟩
          | false =>
            go_enter Tryz.func61, Tryz.ntmps61
            go_wp2_with fail
            refine Calls.mono H1.out ?_
            rintro e w1 ⟨rfl, rfl⟩
            go_wp2_with fail
            refine Calls.mono H2.out ?_
            rintro e w2 ⟨rfl, rfl⟩
            go_wp2_with fail
            refine Calls.mono H3.out ?_
            rintro e w3 ⟨rfl, rfl⟩
            go_wp2
            go_ret
            exact ⟨rfl, HB0.out⟩
set_option maxHeartbeats 4000000 in
set_option maxRecDepth 100000 in
theorem takes_else (x : Pl) (s : ByteArray) (n0 : isT s ⟨#[97]⟩ = false) (n1 : isT s ⟨#[108, 105]⟩ = false) (n2 : isT s ⟨#[100, 100]⟩ = false) (n3 : isT s ⟨#[100, 116]⟩ = false) (w : World) (c1 c2 c3 : Bool) (h1 : ∀ w' : World, Below w.heap.size w w' → Calls Tryz.prog 60 #[.string closT, .string s] w' (RB w' c1)) (h2 : ∀ w' : World, Below w.heap.size w w' → Calls Tryz.prog 60 #[.string headsT, .string s] w' (RB w' c2)) (h3 : ∀ w' : World, Below w.heap.size w w' → Calls Tryz.prog 60 #[.string partsT, .string s] w' (RB w' c3)) :
    Calls Tryz.prog 61 #[x.val, .string s] w (BoolR w (!(x.para && c1 || x.head && c2 || c3) && true)) := by
  obtain ⟨para, link, item, pair, head, pre⟩ := x
  have hb0 : Below w.heap.size w (w.alloc (.cells #[.bool para, .bool link, .bool item, .bool pair, .bool head, .bool pre] 66)) := (Below.refl _ w).alloc (Nat.le_refl _) _
  have H1 := Lib.hid (h1 _ hb0); have H2 := Lib.hid (h2 _ hb0); have H3 := Lib.hid (h3 _ hb0)
  have HB0 := Lib.hid hb0
  unfold Pl.val
  simp only
  obtain ⟨a0, b0⟩ := isT_no n0
  obtain ⟨a1, b1⟩ := isT_no n1
  obtain ⟨a2, b2⟩ := isT_no n2
  obtain ⟨a3, b3⟩ := isT_no n3
  clear h1 h2 h3 hb0 n0 n1 n2 n3
  cases para with
  | false =>
    cases head with
    | false =>
      cases c3 with
      | true =>
        go_enter Tryz.func61, Tryz.ntmps61
        go_wp2_with fail
        refine Calls.mono H3.out ?_
        rintro e w3 ⟨rfl, rfl⟩
        go_wp2
        go_ret
        exact ⟨rfl, HB0.out⟩
      | false =>
        go_enter Tryz.func61, Tryz.ntmps61
        go_wp2_with fail
        refine Calls.mono H3.out ?_
        rintro e w3 ⟨rfl, rfl⟩
        go_wp2
        go_ret
        exact ⟨rfl, HB0.out⟩
    | true =>
      cases c2 with
      | true =>
        go_enter Tryz.func61, Tryz.ntmps61
        go_wp2_with fail
        refine Calls.mono H2.out ?_
        rintro e w2 ⟨rfl, rfl⟩
        go_wp2
        go_ret
        exact ⟨rfl, HB0.out⟩
      | false =>
        cases c3 with
        | true =>
          go_enter Tryz.func61, Tryz.ntmps61
          go_wp2_with fail
          refine Calls.mono H2.out ?_
          rintro e w2 ⟨rfl, rfl⟩
          go_wp2_with fail
          refine Calls.mono H3.out ?_
          rintro e w3 ⟨rfl, rfl⟩
          go_wp2
          go_ret
          exact ⟨rfl, HB0.out⟩
        | false =>
          go_enter Tryz.func61, Tryz.ntmps61
          go_wp2_with fail
          refine Calls.mono H2.out ?_
          rintro e w2 ⟨rfl, rfl⟩
          go_wp2_with fail
          refine Calls.mono H3.out ?_
          rintro e w3 ⟨rfl, rfl⟩
          go_wp2
          go_ret
          exact ⟨rfl, HB0.out⟩
  | true =>
    cases c1 with
    | true =>
      go_enter Tryz.func61, Tryz.ntmps61
      go_wp2_with fail
      refine Calls.mono H1.out ?_
      rintro e w1 ⟨rfl, rfl⟩
      go_wp2
      go_ret
      exact ⟨rfl, HB0.out⟩
    | false =>
      cases head with
      | false =>
        cases c3 with
        | true =>
          go_enter Tryz.func61, Tryz.ntmps61
          go_wp2_with fail
          refine Calls.mono H1.out ?_
          rintro e w1 ⟨rfl, rfl⟩
          go_wp2_with fail
          refine Calls.mono H3.out ?_
          rintro e w3 ⟨rfl, rfl⟩
          go_wp2
          go_ret
          exact ⟨rfl, HB0.out⟩
        | false =>
          go_enter Tryz.func61, Tryz.ntmps61
          go_wp2_with fail
          refine Calls.mono H1.out ?_
          rintro e w1 ⟨rfl, rfl⟩
          go_wp2_with fail
          refine Calls.mono H3.out ?_
          rintro e w3 ⟨rfl, rfl⟩
          go_wp2
          go_ret
          exact ⟨rfl, HB0.out⟩
      | true =>
        cases c2 with
        | true =>
          go_enter Tryz.func61, Tryz.ntmps61
          go_wp2_with fail
          refine Calls.mono H1.out ?_
          rintro e w1 ⟨rfl, rfl⟩
          go_wp2_with fail
          refine Calls.mono H2.out ?_
          rintro e w2 ⟨rfl, rfl⟩
          go_wp2
          go_ret
          exact ⟨rfl, HB0.out⟩
        | false =>
          cases c3 with
          | true =>
            go_enter Tryz.func61, Tryz.ntmps61
            go_wp2_with fail
            refine Calls.mono H1.out ?_
            rintro e w1 ⟨rfl, rfl⟩
            go_wp2_with fail
            refine Calls.mono H2.out ?_
            rintro e w2 ⟨rfl, rfl⟩
            go_wp2_with fail
            refine Calls.mono H3.out ?_
            rintro e w3 ⟨rfl, rfl⟩
            go_wp2
            go_ret
            exact ⟨rfl, HB0.out⟩
          | false =>
            go_enter Tryz.func61, Tryz.ntmps61
            go_wp2_with fail
            refine Calls.mono H1.out ?_
            rintro e w1 ⟨rfl, rfl⟩
            go_wp2_with fail
            refine Calls.mono H2.out ?_
            rintro e w2 ⟨rfl, rfl⟩
            go_wp2_with fail
            refine Calls.mono H3.out ?_
            rintro e w3 ⟨rfl, rfl⟩
            go_wp2
            go_ret
            exact ⟨rfl, HB0.out⟩
theorem takes_any (x : Pl) (s : ByteArray) (w : World) (hG : Glob w) (hs : s.size ≤ 1099511627776) : Calls Tryz.prog 61 #[x.val, .string s] w (BoolR w (x.takes s)) := by
  have h1 := fun w' (hb : Below w.heap.size w w') => has_word closT closL s w' row_clos (hG.later hb) hs
  have h2 := fun w' (hb : Below w.heap.size w w') => has_word headsT headsL s w' row_heads (hG.later hb) hs
  have h3 := fun w' (hb : Below w.heap.size w w') => has_word partsT partsL s w' row_parts (hG.later hb) hs
  have hp : hasS pairL s = (isT s ⟨#[100, 100]⟩ || isT s ⟨#[100, 116]⟩) := by
    unfold hasS pairL isT
    rw [show (⟨#[100, 100]⟩ : ByteArray).toList = (⟨#[100, 100]⟩ : ByteArray).toList from rfl]
    simp only [List.any_cons, List.any_nil, Bool.or_false]
    rw [BEq.comm (a := (⟨#[100, 100]⟩ : ByteArray).toList), BEq.comm (a := (⟨#[100, 116]⟩ : ByteArray).toList)]
  cases n0 : isT s ⟨#[97]⟩ with
  | true =>
    obtain rfl := isT_yes n0
    refine (takes_a x w _ _ _ h1 h2 h3).mono fun e w' h => ?_
    refine ⟨h.1.trans ?_, h.2⟩
    unfold Pl.takes
    rw [n0, show isT ⟨#[97]⟩ ⟨#[108, 105]⟩ = false by decide +kernel, show hasS pairL ⟨#[97]⟩ = false by decide +kernel]
    simp
  | false =>
    cases n1 : isT s ⟨#[108, 105]⟩ with
    | true =>
      obtain rfl := isT_yes n1
      refine (takes_li x w _ _ _ h1 h2 h3).mono fun e w' h => ?_
      refine ⟨h.1.trans ?_, h.2⟩
      unfold Pl.takes
      rw [n0, n1, show hasS pairL ⟨#[108, 105]⟩ = false by decide +kernel]
      simp
    | false =>
      cases n2 : isT s ⟨#[100, 100]⟩ with
      | true =>
        obtain rfl := isT_yes n2
        refine (takes_dd x w _ _ _ h1 h2 h3).mono fun e w' h => ?_
        refine ⟨h.1.trans ?_, h.2⟩
        unfold Pl.takes
        rw [n0, n1, show hasS pairL ⟨#[100, 100]⟩ = true by decide +kernel]
        simp
      | false =>
        cases n3 : isT s ⟨#[100, 116]⟩ with
        | true =>
          obtain rfl := isT_yes n3
          refine (takes_dt x w _ _ _ h1 h2 h3).mono fun e w' h => ?_
          refine ⟨h.1.trans ?_, h.2⟩
          unfold Pl.takes
          rw [n0, n1, show hasS pairL ⟨#[100, 116]⟩ = true by decide +kernel]
          simp
        | false =>
          refine (takes_else x s n0 n1 n2 n3 w _ _ _ h1 h2 h3).mono fun e w' h => ?_
          refine ⟨h.1.trans ?_, h.2⟩
          unfold Pl.takes
          rw [n0, n1, hp, n2, n3]
          simp
theorem two_new (w : World) (o : Obj) (cs : Array Value) (t : TypeId) : ((w.alloc o).alloc (.cells cs t)).heap[w.heap.size + 1]? = some (.cells cs t (0, 0)) := by
  rw [show w.heap.size + 1 = (w.alloc o).heap.size by simp]
  exact heap_alloc_new _ _
theorem two_below (w : World) (o o' : Obj) : Below w.heap.size w ((w.alloc o).alloc o') := ((Below.refl _ w).alloc (Nat.le_refl _) _).alloc (by simp) _
def PlR (w : World) (x : Pl) (e : Ending) (w' : World) : Prop := e = .returned x.val ∧ Below w.heap.size w w'
set_option maxHeartbeats 4000000 in
set_option maxRecDepth 100000 in
theorem into_apart (x : Pl) (s : ByteArray) (n2 : isT s ⟨#[100, 100]⟩ = false) (n3 : isT s ⟨#[100, 116]⟩ = false) (w : World) (c2 : Bool) (q1 q2 q3 : Bool) (e1 : isT s ⟨#[112]⟩ = q1) (e2 : isT s ⟨#[97]⟩ = q2) (e3 : isT s ⟨#[112, 114, 101]⟩ = q3) (h1 : ∀ w' : World, Below w.heap.size w w' → Calls Tryz.prog 60 #[.string apartT, .string s] w' (RB w' true)) (h2 : ∀ w' : World, Below w.heap.size w w' → Calls Tryz.prog 60 #[.string headsT, .string s] w' (RB w' c2)) :
    Calls Tryz.prog 65 #[x.val, .string s] w (PlR w ⟨x.para || q1, x.link || q2, false, false, c2, q3⟩) := by
  obtain ⟨para, link, item, pair, head, pre⟩ := x
  have H1 := Lib.hid h1; have H2 := Lib.hid h2
  unfold Pl.val
  simp only
  obtain ⟨a2, b2⟩ := isT_no n2
  obtain ⟨a3, b3⟩ := isT_no n3
  have f1 : (s.toList == [112]) = q1 := by rw [← e1]; unfold isT; rw [Lib.toList_data ⟨#[112]⟩]
  have f2 : (s.toList == [97]) = q2 := by rw [← e2]; unfold isT; rw [Lib.toList_data ⟨#[97]⟩]
  have f3 : (s.toList == [112, 114, 101]) = q3 := by rw [← e3]; unfold isT; rw [Lib.toList_data ⟨#[112, 114, 101]⟩]
  clear h1 h2 e1 e2 e3 n2 n3
  cases para with
  | false =>
    cases link with
    | false =>
      go_enter Tryz.func65, Tryz.ntmps65
      go_wp2_with fail
      refine Calls.mono (H1.out _ (two_below _ _ _)) ?_
      rintro e w1 ⟨rfl, rfl⟩
      go_wp2_with fail
      refine Calls.mono (H2.out _ (two_below _ _ _)) ?_
      rintro e w1 ⟨rfl, rfl⟩
      go_wp2
      (try simp only [Exit.inBlock, Exit.then])
      refine bodyPost_ret (results_cell_row rfl _ _ (w.heap.size + 1) _ _ _ _ rfl (two_new _ _ _ _) Tryz.underlying66 rfl (by kernel_rfl)) rfl ?_
      exact ⟨rfl, two_below _ _ _⟩
    | true =>
      go_enter Tryz.func65, Tryz.ntmps65
      go_wp2_with fail
      refine Calls.mono (H1.out _ (two_below _ _ _)) ?_
      rintro e w1 ⟨rfl, rfl⟩
      go_wp2_with fail
      refine Calls.mono (H2.out _ (two_below _ _ _)) ?_
      rintro e w1 ⟨rfl, rfl⟩
      go_wp2
      (try simp only [Exit.inBlock, Exit.then])
      refine bodyPost_ret (results_cell_row rfl _ _ (w.heap.size + 1) _ _ _ _ rfl (two_new _ _ _ _) Tryz.underlying66 rfl (by kernel_rfl)) rfl ?_
      exact ⟨rfl, two_below _ _ _⟩
  | true =>
    cases link with
    | false =>
      go_enter Tryz.func65, Tryz.ntmps65
      go_wp2_with fail
      refine Calls.mono (H1.out _ (two_below _ _ _)) ?_
      rintro e w1 ⟨rfl, rfl⟩
      go_wp2_with fail
      refine Calls.mono (H2.out _ (two_below _ _ _)) ?_
      rintro e w1 ⟨rfl, rfl⟩
      go_wp2
      (try simp only [Exit.inBlock, Exit.then])
      refine bodyPost_ret (results_cell_row rfl _ _ (w.heap.size + 1) _ _ _ _ rfl (two_new _ _ _ _) Tryz.underlying66 rfl (by kernel_rfl)) rfl ?_
      exact ⟨rfl, two_below _ _ _⟩
    | true =>
      go_enter Tryz.func65, Tryz.ntmps65
      go_wp2_with fail
      refine Calls.mono (H1.out _ (two_below _ _ _)) ?_
      rintro e w1 ⟨rfl, rfl⟩
      go_wp2_with fail
      refine Calls.mono (H2.out _ (two_below _ _ _)) ?_
      rintro e w1 ⟨rfl, rfl⟩
      go_wp2
      (try simp only [Exit.inBlock, Exit.then])
      refine bodyPost_ret (results_cell_row rfl _ _ (w.heap.size + 1) _ _ _ _ rfl (two_new _ _ _ _) Tryz.underlying66 rfl (by kernel_rfl)) rfl ?_
      exact ⟨rfl, two_below _ _ _⟩
set_option maxHeartbeats 4000000 in
set_option maxRecDepth 100000 in
theorem into_li (x : Pl) (w : World) (c2 : Bool) (h1 : ∀ w' : World, Below w.heap.size w w' → Calls Tryz.prog 60 #[.string apartT, .string ⟨#[108, 105]⟩] w' (RB w' false)) (h2 : ∀ w' : World, Below w.heap.size w w' → Calls Tryz.prog 60 #[.string headsT, .string ⟨#[108, 105]⟩] w' (RB w' c2)) :
    Calls Tryz.prog 65 #[x.val, .string ⟨#[108, 105]⟩] w (PlR w ⟨x.para, x.link, true, false, c2, false⟩) := by
  obtain ⟨para, link, item, pair, head, pre⟩ := x
  have H1 := Lib.hid h1; have H2 := Lib.hid h2
  unfold Pl.val
  simp only
  clear h1 h2
  cases para with
  | false =>
    cases link with
    | false =>
      go_enter Tryz.func65, Tryz.ntmps65
      go_wp2_with fail
      refine Calls.mono (H1.out _ (two_below _ _ _)) ?_
      rintro e w1 ⟨rfl, rfl⟩
      go_wp2_with fail
      refine Calls.mono (H2.out _ (two_below _ _ _)) ?_
      rintro e w1 ⟨rfl, rfl⟩
      go_wp2
      (try simp only [Exit.inBlock, Exit.then])
      refine bodyPost_ret (results_cell_row rfl _ _ (w.heap.size + 1) _ _ _ _ rfl (two_new _ _ _ _) Tryz.underlying66 rfl (by kernel_rfl)) rfl ?_
      exact ⟨rfl, two_below _ _ _⟩
    | true =>
      go_enter Tryz.func65, Tryz.ntmps65
      go_wp2_with fail
      refine Calls.mono (H1.out _ (two_below _ _ _)) ?_
      rintro e w1 ⟨rfl, rfl⟩
      go_wp2_with fail
      refine Calls.mono (H2.out _ (two_below _ _ _)) ?_
      rintro e w1 ⟨rfl, rfl⟩
      go_wp2
      (try simp only [Exit.inBlock, Exit.then])
      refine bodyPost_ret (results_cell_row rfl _ _ (w.heap.size + 1) _ _ _ _ rfl (two_new _ _ _ _) Tryz.underlying66 rfl (by kernel_rfl)) rfl ?_
      exact ⟨rfl, two_below _ _ _⟩
  | true =>
    cases link with
    | false =>
      go_enter Tryz.func65, Tryz.ntmps65
      go_wp2_with fail
      refine Calls.mono (H1.out _ (two_below _ _ _)) ?_
      rintro e w1 ⟨rfl, rfl⟩
      go_wp2_with fail
      refine Calls.mono (H2.out _ (two_below _ _ _)) ?_
      rintro e w1 ⟨rfl, rfl⟩
      go_wp2
      (try simp only [Exit.inBlock, Exit.then])
      refine bodyPost_ret (results_cell_row rfl _ _ (w.heap.size + 1) _ _ _ _ rfl (two_new _ _ _ _) Tryz.underlying66 rfl (by kernel_rfl)) rfl ?_
      exact ⟨rfl, two_below _ _ _⟩
    | true =>
      go_enter Tryz.func65, Tryz.ntmps65
      go_wp2_with fail
      refine Calls.mono (H1.out _ (two_below _ _ _)) ?_
      rintro e w1 ⟨rfl, rfl⟩
      go_wp2_with fail
      refine Calls.mono (H2.out _ (two_below _ _ _)) ?_
      rintro e w1 ⟨rfl, rfl⟩
      go_wp2
      (try simp only [Exit.inBlock, Exit.then])
      refine bodyPost_ret (results_cell_row rfl _ _ (w.heap.size + 1) _ _ _ _ rfl (two_new _ _ _ _) Tryz.underlying66 rfl (by kernel_rfl)) rfl ?_
      exact ⟨rfl, two_below _ _ _⟩
set_option maxHeartbeats 4000000 in
set_option maxRecDepth 100000 in
theorem into_dd (x : Pl) (w : World) (c2 : Bool) (h1 : ∀ w' : World, Below w.heap.size w w' → Calls Tryz.prog 60 #[.string apartT, .string ⟨#[100, 100]⟩] w' (RB w' false)) (h2 : ∀ w' : World, Below w.heap.size w w' → Calls Tryz.prog 60 #[.string headsT, .string ⟨#[100, 100]⟩] w' (RB w' c2)) :
    Calls Tryz.prog 65 #[x.val, .string ⟨#[100, 100]⟩] w (PlR w ⟨x.para, x.link, false, true, c2, false⟩) := by
  obtain ⟨para, link, item, pair, head, pre⟩ := x
  have H1 := Lib.hid h1; have H2 := Lib.hid h2
  unfold Pl.val
  simp only
  clear h1 h2
  cases para with
  | false =>
    cases link with
    | false =>
      go_enter Tryz.func65, Tryz.ntmps65
      go_wp2_with fail
      refine Calls.mono (H1.out _ (two_below _ _ _)) ?_
      rintro e w1 ⟨rfl, rfl⟩
      go_wp2_with fail
      refine Calls.mono (H2.out _ (two_below _ _ _)) ?_
      rintro e w1 ⟨rfl, rfl⟩
      go_wp2
      (try simp only [Exit.inBlock, Exit.then])
      refine bodyPost_ret (results_cell_row rfl _ _ (w.heap.size + 1) _ _ _ _ rfl (two_new _ _ _ _) Tryz.underlying66 rfl (by kernel_rfl)) rfl ?_
      exact ⟨rfl, two_below _ _ _⟩
    | true =>
      go_enter Tryz.func65, Tryz.ntmps65
      go_wp2_with fail
      refine Calls.mono (H1.out _ (two_below _ _ _)) ?_
      rintro e w1 ⟨rfl, rfl⟩
      go_wp2_with fail
      refine Calls.mono (H2.out _ (two_below _ _ _)) ?_
      rintro e w1 ⟨rfl, rfl⟩
      go_wp2
      (try simp only [Exit.inBlock, Exit.then])
      refine bodyPost_ret (results_cell_row rfl _ _ (w.heap.size + 1) _ _ _ _ rfl (two_new _ _ _ _) Tryz.underlying66 rfl (by kernel_rfl)) rfl ?_
      exact ⟨rfl, two_below _ _ _⟩
  | true =>
    cases link with
    | false =>
      go_enter Tryz.func65, Tryz.ntmps65
      go_wp2_with fail
      refine Calls.mono (H1.out _ (two_below _ _ _)) ?_
      rintro e w1 ⟨rfl, rfl⟩
      go_wp2_with fail
      refine Calls.mono (H2.out _ (two_below _ _ _)) ?_
      rintro e w1 ⟨rfl, rfl⟩
      go_wp2
      (try simp only [Exit.inBlock, Exit.then])
      refine bodyPost_ret (results_cell_row rfl _ _ (w.heap.size + 1) _ _ _ _ rfl (two_new _ _ _ _) Tryz.underlying66 rfl (by kernel_rfl)) rfl ?_
      exact ⟨rfl, two_below _ _ _⟩
    | true =>
      go_enter Tryz.func65, Tryz.ntmps65
      go_wp2_with fail
      refine Calls.mono (H1.out _ (two_below _ _ _)) ?_
      rintro e w1 ⟨rfl, rfl⟩
      go_wp2_with fail
      refine Calls.mono (H2.out _ (two_below _ _ _)) ?_
      rintro e w1 ⟨rfl, rfl⟩
      go_wp2
      (try simp only [Exit.inBlock, Exit.then])
      refine bodyPost_ret (results_cell_row rfl _ _ (w.heap.size + 1) _ _ _ _ rfl (two_new _ _ _ _) Tryz.underlying66 rfl (by kernel_rfl)) rfl ?_
      exact ⟨rfl, two_below _ _ _⟩
set_option maxHeartbeats 4000000 in
set_option maxRecDepth 100000 in
theorem into_dt (x : Pl) (w : World) (c2 : Bool) (h1 : ∀ w' : World, Below w.heap.size w w' → Calls Tryz.prog 60 #[.string apartT, .string ⟨#[100, 116]⟩] w' (RB w' false)) (h2 : ∀ w' : World, Below w.heap.size w w' → Calls Tryz.prog 60 #[.string headsT, .string ⟨#[100, 116]⟩] w' (RB w' c2)) :
    Calls Tryz.prog 65 #[x.val, .string ⟨#[100, 116]⟩] w (PlR w ⟨x.para, x.link, false, true, c2, false⟩) := by
  obtain ⟨para, link, item, pair, head, pre⟩ := x
  have H1 := Lib.hid h1; have H2 := Lib.hid h2
  unfold Pl.val
  simp only
  clear h1 h2
  cases para with
  | false =>
    cases link with
    | false =>
      go_enter Tryz.func65, Tryz.ntmps65
      go_wp2_with fail
      refine Calls.mono (H1.out _ (two_below _ _ _)) ?_
      rintro e w1 ⟨rfl, rfl⟩
      go_wp2_with fail
      refine Calls.mono (H2.out _ (two_below _ _ _)) ?_
      rintro e w1 ⟨rfl, rfl⟩
      go_wp2
      (try simp only [Exit.inBlock, Exit.then])
      refine bodyPost_ret (results_cell_row rfl _ _ (w.heap.size + 1) _ _ _ _ rfl (two_new _ _ _ _) Tryz.underlying66 rfl (by kernel_rfl)) rfl ?_
      exact ⟨rfl, two_below _ _ _⟩
    | true =>
      go_enter Tryz.func65, Tryz.ntmps65
      go_wp2_with fail
      refine Calls.mono (H1.out _ (two_below _ _ _)) ?_
      rintro e w1 ⟨rfl, rfl⟩
      go_wp2_with fail
      refine Calls.mono (H2.out _ (two_below _ _ _)) ?_
      rintro e w1 ⟨rfl, rfl⟩
      go_wp2
      (try simp only [Exit.inBlock, Exit.then])
      refine bodyPost_ret (results_cell_row rfl _ _ (w.heap.size + 1) _ _ _ _ rfl (two_new _ _ _ _) Tryz.underlying66 rfl (by kernel_rfl)) rfl ?_
      exact ⟨rfl, two_below _ _ _⟩
  | true =>
    cases link with
    | false =>
      go_enter Tryz.func65, Tryz.ntmps65
      go_wp2_with fail
      refine Calls.mono (H1.out _ (two_below _ _ _)) ?_
      rintro e w1 ⟨rfl, rfl⟩
      go_wp2_with fail
      refine Calls.mono (H2.out _ (two_below _ _ _)) ?_
      rintro e w1 ⟨rfl, rfl⟩
      go_wp2
      (try simp only [Exit.inBlock, Exit.then])
      refine bodyPost_ret (results_cell_row rfl _ _ (w.heap.size + 1) _ _ _ _ rfl (two_new _ _ _ _) Tryz.underlying66 rfl (by kernel_rfl)) rfl ?_
      exact ⟨rfl, two_below _ _ _⟩
    | true =>
      go_enter Tryz.func65, Tryz.ntmps65
      go_wp2_with fail
      refine Calls.mono (H1.out _ (two_below _ _ _)) ?_
      rintro e w1 ⟨rfl, rfl⟩
      go_wp2_with fail
      refine Calls.mono (H2.out _ (two_below _ _ _)) ?_
      rintro e w1 ⟨rfl, rfl⟩
      go_wp2
      (try simp only [Exit.inBlock, Exit.then])
      refine bodyPost_ret (results_cell_row rfl _ _ (w.heap.size + 1) _ _ _ _ rfl (two_new _ _ _ _) Tryz.underlying66 rfl (by kernel_rfl)) rfl ?_
      exact ⟨rfl, two_below _ _ _⟩
set_option maxHeartbeats 4000000 in
set_option maxRecDepth 100000 in
theorem into_else (x : Pl) (s : ByteArray) (n1 : isT s ⟨#[108, 105]⟩ = false) (n2 : isT s ⟨#[100, 100]⟩ = false) (n3 : isT s ⟨#[100, 116]⟩ = false) (w : World) (c2 : Bool) (q1 q2 q3 : Bool) (e1 : isT s ⟨#[112]⟩ = q1) (e2 : isT s ⟨#[97]⟩ = q2) (e3 : isT s ⟨#[112, 114, 101]⟩ = q3) (h1 : ∀ w' : World, Below w.heap.size w w' → Calls Tryz.prog 60 #[.string apartT, .string s] w' (RB w' false)) (h2 : ∀ w' : World, Below w.heap.size w w' → Calls Tryz.prog 60 #[.string headsT, .string s] w' (RB w' c2)) :
    Calls Tryz.prog 65 #[x.val, .string s] w (PlR w ⟨x.para || q1, x.link || q2, x.item, x.pair, c2, q3⟩) := by
  obtain ⟨para, link, item, pair, head, pre⟩ := x
  have H1 := Lib.hid h1; have H2 := Lib.hid h2
  unfold Pl.val
  simp only
  obtain ⟨a1, b1⟩ := isT_no n1
  obtain ⟨a2, b2⟩ := isT_no n2
  obtain ⟨a3, b3⟩ := isT_no n3
  have f1 : (s.toList == [112]) = q1 := by rw [← e1]; unfold isT; rw [Lib.toList_data ⟨#[112]⟩]
  have f2 : (s.toList == [97]) = q2 := by rw [← e2]; unfold isT; rw [Lib.toList_data ⟨#[97]⟩]
  have f3 : (s.toList == [112, 114, 101]) = q3 := by rw [← e3]; unfold isT; rw [Lib.toList_data ⟨#[112, 114, 101]⟩]
  clear h1 h2 e1 e2 e3 n2 n3 n1
  cases para with
  | false =>
    cases link with
    | false =>
      go_enter Tryz.func65, Tryz.ntmps65
      go_wp2_with fail
      refine Calls.mono (H1.out _ (two_below _ _ _)) ?_
      rintro e w1 ⟨rfl, rfl⟩
      go_wp2_with fail
      refine Calls.mono (H2.out _ (two_below _ _ _)) ?_
      rintro e w1 ⟨rfl, rfl⟩
      go_wp2
      (try simp only [Exit.inBlock, Exit.then])
      refine bodyPost_ret (results_cell_row rfl _ _ (w.heap.size + 1) _ _ _ _ rfl (two_new _ _ _ _) Tryz.underlying66 rfl (by kernel_rfl)) rfl ?_
      exact ⟨rfl, two_below _ _ _⟩
    | true =>
      go_enter Tryz.func65, Tryz.ntmps65
      go_wp2_with fail
      refine Calls.mono (H1.out _ (two_below _ _ _)) ?_
      rintro e w1 ⟨rfl, rfl⟩
      go_wp2_with fail
      refine Calls.mono (H2.out _ (two_below _ _ _)) ?_
      rintro e w1 ⟨rfl, rfl⟩
      go_wp2
      (try simp only [Exit.inBlock, Exit.then])
      refine bodyPost_ret (results_cell_row rfl _ _ (w.heap.size + 1) _ _ _ _ rfl (two_new _ _ _ _) Tryz.underlying66 rfl (by kernel_rfl)) rfl ?_
      exact ⟨rfl, two_below _ _ _⟩
  | true =>
    cases link with
    | false =>
      go_enter Tryz.func65, Tryz.ntmps65
      go_wp2_with fail
      refine Calls.mono (H1.out _ (two_below _ _ _)) ?_
      rintro e w1 ⟨rfl, rfl⟩
      go_wp2_with fail
      refine Calls.mono (H2.out _ (two_below _ _ _)) ?_
      rintro e w1 ⟨rfl, rfl⟩
      go_wp2
      (try simp only [Exit.inBlock, Exit.then])
      refine bodyPost_ret (results_cell_row rfl _ _ (w.heap.size + 1) _ _ _ _ rfl (two_new _ _ _ _) Tryz.underlying66 rfl (by kernel_rfl)) rfl ?_
      exact ⟨rfl, two_below _ _ _⟩
    | true =>
      go_enter Tryz.func65, Tryz.ntmps65
      go_wp2_with fail
      refine Calls.mono (H1.out _ (two_below _ _ _)) ?_
      rintro e w1 ⟨rfl, rfl⟩
      go_wp2_with fail
      refine Calls.mono (H2.out _ (two_below _ _ _)) ?_
      rintro e w1 ⟨rfl, rfl⟩
      go_wp2
      (try simp only [Exit.inBlock, Exit.then])
      refine bodyPost_ret (results_cell_row rfl _ _ (w.heap.size + 1) _ _ _ _ rfl (two_new _ _ _ _) Tryz.underlying66 rfl (by kernel_rfl)) rfl ?_
      exact ⟨rfl, two_below _ _ _⟩
theorem apart_pair : (apartL.all fun x => !isT x ⟨#[100, 100]⟩ && (!isT x ⟨#[100, 116]⟩ && !isT x ⟨#[108, 105]⟩)) = true := by decide +kernel
theorem pair_or (s : ByteArray) : hasS pairL s = (isT s ⟨#[100, 100]⟩ || isT s ⟨#[100, 116]⟩) := by
  unfold hasS pairL isT
  simp only [List.any_cons, List.any_nil, Bool.or_false]
  rw [BEq.comm (a := (⟨#[100, 100]⟩ : ByteArray).toList), BEq.comm (a := (⟨#[100, 116]⟩ : ByteArray).toList)]
theorem into_any (x : Pl) (s : ByteArray) (w : World) (hG : Glob w) (hs : s.size ≤ 1099511627776) : Calls Tryz.prog 65 #[x.val, .string s] w (PlR w (x.into s)) := by
  have h1 := fun w' (hb : Below w.heap.size w w') => has_word apartT apartL s w' row_apart (hG.later hb) hs
  have h2 := fun w' (hb : Below w.heap.size w w') => has_word headsT headsL s w' row_heads (hG.later hb) hs
  have hp := pair_or s
  cases hc : hasS apartL s with
  | true =>
    rw [hc] at h1
    have hall := List.all_eq_true.1 apart_pair s ((hasS_iff _ _).1 hc)
    simp only [Bool.and_eq_true, Bool.not_eq_true'] at hall
    refine (into_apart x s hall.1 hall.2.1 w _ _ _ _ rfl rfl rfl h1 h2).mono fun e w' h => ?_
    refine ⟨h.1.trans ?_, h.2⟩
    unfold Pl.into
    rw [hc]
    rfl
  | false =>
    rw [hc] at h1
    cases n1 : isT s ⟨#[108, 105]⟩ with
    | true =>
      obtain rfl := isT_yes n1
      refine (into_li x w _ h1 h2).mono fun e w' h => ?_
      refine ⟨h.1.trans ?_, h.2⟩
      unfold Pl.into
      rw [hc, n1, show isT ⟨#[108, 105]⟩ ⟨#[112]⟩ = false by decide +kernel, show isT ⟨#[108, 105]⟩ ⟨#[97]⟩ = false by decide +kernel, show isT ⟨#[108, 105]⟩ ⟨#[112, 114, 101]⟩ = false by decide +kernel]
      simp
    | false =>
      cases n2 : isT s ⟨#[100, 100]⟩ with
      | true =>
        obtain rfl := isT_yes n2
        refine (into_dd x w _ h1 h2).mono fun e w' h => ?_
        refine ⟨h.1.trans ?_, h.2⟩
        unfold Pl.into
        rw [hc, n1, show isT ⟨#[100, 100]⟩ ⟨#[112]⟩ = false by decide +kernel, show isT ⟨#[100, 100]⟩ ⟨#[97]⟩ = false by decide +kernel, show isT ⟨#[100, 100]⟩ ⟨#[112, 114, 101]⟩ = false by decide +kernel, show hasS pairL ⟨#[100, 100]⟩ = true by decide +kernel]
        simp
      | false =>
        cases n3 : isT s ⟨#[100, 116]⟩ with
        | true =>
          obtain rfl := isT_yes n3
          refine (into_dt x w _ h1 h2).mono fun e w' h => ?_
          refine ⟨h.1.trans ?_, h.2⟩
          unfold Pl.into
          rw [hc, n1, show isT ⟨#[100, 116]⟩ ⟨#[112]⟩ = false by decide +kernel, show isT ⟨#[100, 116]⟩ ⟨#[97]⟩ = false by decide +kernel, show isT ⟨#[100, 116]⟩ ⟨#[112, 114, 101]⟩ = false by decide +kernel, show hasS pairL ⟨#[100, 116]⟩ = true by decide +kernel]
          simp
        | false =>
          refine (into_else x s n1 n2 n3 w _ _ _ _ rfl rfl rfl h1 h2).mono fun e w' h => ?_
          refine ⟨h.1.trans ?_, h.2⟩
          unfold Pl.into
          rw [hc, n1, hp, n2, n3]
          rfl
end Go.Proofs.YtdkjenbncmedbaaGreatDoor
