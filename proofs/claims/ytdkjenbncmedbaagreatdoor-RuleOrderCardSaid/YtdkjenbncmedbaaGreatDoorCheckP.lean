/- rule.Check's two tests of an element and of an attribute; how many of a list's words stand in another, counted as they come. -/
import Derived.Test.YtdkjenbncmedbaaGreatDoorOnceP
import Derived.Maps.RangeWalk
namespace Go.Proofs.YtdkjenbncmedbaaGreatDoor
open Go.RowKit Go.Maps

/-- A variable that holds a set. -/
def VarSet (w : World) (g : Nat) (ws : List (List UInt8)) : Prop := ∃ B, w.cell? ⟨g, 0, none⟩ = some (.map (some B)) ∧ SetAt w B ws
theorem VarSet.later {w w' : World} {g : Nat} {ws : List (List UInt8)} (h : VarSet w g ws) (hb : Below w.heap.size w w') : VarSet w' g ws := by
  obtain ⟨B, h1, h2⟩ := h
  exact ⟨B, cell_later hb h1, h2.later hb⟩
set_option maxRecDepth 100000 in
theorem el_may (x : ByteArray) (g : Nat) (w : World) (h : VarSet w g elWs) (hx : x.size ≤ maxLen) : Calls Tryz.prog 34 #[.string x, .pointer (some ⟨g, 0, none⟩)] w (BoolR w (knownB x)) := by
  obtain ⟨B, h1, h2⟩ := h
  have hl := h2.look x hx
  rw [show elWs.contains x.data.toList = knownB x from rfl] at hl
  clear h2
  go_enter Tryz.func34, Tryz.ntmps34
  go_wp2
  go_ret
  exact ⟨rfl, Below.refl _ _⟩
def nameB (x : ByteArray) : Bool := atWs.contains x.data.toList
/-- Where a policy's lists lie. -/
def allowB (E : List ByteArray) (x : ByteArray × ByteArray) : Bool := nameB x.2 && hasS E x.1
set_option maxHeartbeats 1000000 in
set_option maxRecDepth 100000 in
theorem at_may (x1 x2 : ByteArray) (g gp : Nat) (vE : Value) (E : List ByteArray) (w : World) (h : VarSet w g atWs) (hp : w.cell? ⟨gp, 0, none⟩ = some vE) (hE : SlS w vE E) (hl : E.length ≤ 9223372036854775807) (hx : x2.size ≤ maxLen) :
    Calls Tryz.prog 36 #[.agg #[.string x1, .string x2], .pointer (some ⟨g, 0, none⟩), .pointer (some ⟨gp, 0, none⟩)] w (BoolR w (allowB E (x1, x2))) := by
  obtain ⟨B, h1, h2⟩ := h
  have hb0 : Below w.heap.size w (w.alloc (.cells #[.string x1, .string x2] 31)) := (Below.refl _ w).alloc (Nat.le_refl _) _
  have hlk := (h2.later hb0).look x2 hx
  rw [show atWs.contains x2.data.toList = nameB x2 from rfl] at hlk
  obtain ⟨A, c, rfl, _, _⟩ := hE.open
  have q1 := cell_later hb0 h1
  have q2 := cell_later hb0 hp
  have HC := Lib.hid (has_call E x1 _ _ (hE.later hb0) hl)
  have HB0 := Lib.hid hb0
  have hav : allowB E (x1, x2) = (nameB x2 && hasS E x1) := rfl
  rw [hav]
  obtain ⟨nb, hnb⟩ : ∃ nb, nameB x2 = nb := ⟨_, rfl⟩
  rw [hnb] at hlk ⊢
  clear h1 h2 hp hE hb0 hnb hav
  cases nb with
  | false =>
    go_enter Tryz.func36, Tryz.ntmps36
    go_wp2
    go_ret
    exact ⟨rfl, HB0.out⟩
  | true =>
    go_enter Tryz.func36, Tryz.ntmps36
    go_wp2_with fail
    refine Calls.mono HC.out ?_
    rintro e w1 ⟨rfl, rfl⟩
    go_wp2
    go_ret
    exact ⟨by rw [Bool.true_and]; rfl, HB0.out⟩
theorem count_step (h : List UInt8 → Bool) (left : Lit → Bool) (x : List UInt8) : ∀ G : List (List UInt8), G.Nodup → x ∈ G → left (.string x) = true →
    (G.filter fun g => !(left (.string g) && !(Lit.string g).sameKey (.string x)) && h g).length = (G.filter fun g => !left (.string g) && h g).length + (if h x = true then 1 else 0)
  | [], _, hx, _ => absurd hx (by simp)
  | y :: G, hn, hx, hl => by
    have hs : ∀ g : List UInt8, (Lit.string g).sameKey (.string x) = (g == x) := fun _ => rfl
    simp only [hs]
    rw [List.nodup_cons] at hn
    by_cases hxy : y = x
    · subst hxy
      have hrest : ∀ g ∈ G, (!(left (.string g) && !(g == y)) && h g) = (!left (.string g) && h g) := fun g hg => by
        have : (g == y) = false := by rw [beq_eq_false_iff_ne]; rintro rfl; exact hn.1 hg
        rw [this]
        simp
      rw [List.filter_cons, List.filter_cons, List.filter_congr hrest]
      have h1 : (y == y) = true := by simp
      rw [h1, hl]
      cases hh : h y <;> simp
    · have hxG : x ∈ G := by
        rcases List.mem_cons.1 hx with h1 | h1
        · exact absurd h1.symm hxy
        · exact h1
      have ih := count_step h left x G hn.2 hxG hl
      simp only [hs] at ih
      rw [List.filter_cons, List.filter_cons]
      have h1 : (y == x) = false := by simpa using hxy
      rw [h1]
      simp only [Bool.not_false, Bool.and_true]
      split
      · rw [List.length_cons, ih, List.length_cons]; omega
      · exact ih
def gridN (E : List ByteArray) : Nat := (grWs.filter fun g => hasS E ⟨g.toArray⟩).length
def cntN (E : List ByteArray) (left : Lit → Bool) : Nat := (grWs.filter fun g => !left (.string g) && hasS E ⟨g.toArray⟩).length
theorem grWs_nodup : grWs.Nodup := by decide +kernel
theorem cnt_start (E : List ByteArray) : cntN E (Maps.has (setD grWs)) = 0 := by
  unfold cntN
  rw [List.length_eq_zero_iff, List.filter_eq_nil_iff]
  intro g hg
  rw [setD_has]
  have : grWs.contains g = true := by simpa using hg
  rw [this]
  simp
theorem cnt_end (E : List ByteArray) (left : Lit → Bool) (h : ∀ kl, left kl = false) : cntN E left = gridN E := by
  unfold cntN gridN
  congr 1
  apply List.filter_congr
  intro g _
  rw [h]
  simp
theorem cnt_le (E : List ByteArray) (left : Lit → Bool) : cntN E left ≤ 7 := Nat.le_trans (List.length_filter_le _ _) (by decide +kernel)
end Go.Proofs.YtdkjenbncmedbaaGreatDoor
