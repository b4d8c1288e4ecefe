/- rule.Check's two tests of an element and of an attribute; how many of a list's words stand in another, counted as they come. rule.Check. rule.address: is an element's attribute an address? rule.Keeps. -/
import Derived.Test.YtdkjenbncmedbaaGreatDoorOnceP
import Derived.Maps.RangeWalk
import Derived.Deep.DeepCutAuto
namespace Go.Proofs.YtdkjenbncmedbaaGreatDoor

section
open Go.RowKit Go.Maps
/-- A variable that holds a set. -/
def VarSet (w : World) (g : Nat) (ws : List (List UInt8)) : Prop := ∃ B, w.cell? ⟨g, 0, none⟩ = some (.map (some B)) ∧ SetAt w B ws
theorem VarSet.later {w w' : World} {g : Nat} {ws : List (List UInt8)} (h : VarSet w g ws) (hb : Below w.heap.size w w') : VarSet w' g ws := by
  obtain ⟨B, h1, h2⟩ := h
  exact ⟨B, cell_later hb h1, h2.later hb⟩
set_option maxRecDepth 100000 in
theorem el_may (x : ByteArray) (g : Nat) (w : World) (h : VarSet w g elWs) (hx : x.size ≤ maxLen) : Calls Tryz.prog 34 #[.string x, .pointer (some ⟨g, 0, none⟩)] w (BoolR w (knownB x)) := by
  obtain ⟨B, h1, h2⟩ := h
  have hl := h2.look x hx
  rw [show elWs.contains x.data.toList = knownB x from rfl] at hl
  clear h2
  go_enter Tryz.func34, Tryz.ntmps34
  go_wp2
  go_ret
  exact ⟨rfl, Below.refl _ _⟩
def nameB (x : ByteArray) : Bool := atWs.contains x.data.toList
/-- Where a policy's lists lie. -/
def allowB (E : List ByteArray) (x : ByteArray × ByteArray) : Bool := nameB x.2 && hasS E x.1
set_option maxHeartbeats 1000000 in
set_option maxRecDepth 100000 in
theorem at_may (x1 x2 : ByteArray) (g gp : Nat) (vE : Value) (E : List ByteArray) (w : World) (h : VarSet w g atWs) (hp : w.cell? ⟨gp, 0, none⟩ = some vE) (hE : SlS w vE E) (hl : E.length ≤ 9223372036854775807) (hx : x2.size ≤ maxLen) :
    Calls Tryz.prog 36 #[.agg #[.string x1, .string x2], .pointer (some ⟨g, 0, none⟩), .pointer (some ⟨gp, 0, none⟩)] w (BoolR w (allowB E (x1, x2))) := by
  obtain ⟨B, h1, h2⟩ := h
  have hb0 : Below w.heap.size w (w.alloc (.cells #[.string x1, .string x2] 31)) := (Below.refl _ w).alloc (Nat.le_refl _) _
  have hlk := (h2.later hb0).look x2 hx
  rw [show atWs.contains x2.data.toList = nameB x2 from rfl] at hlk
  obtain ⟨A, c, rfl, _, _⟩ := hE.open
  have q1 := cell_later hb0 h1
  have q2 := cell_later hb0 hp
  have HC := Lib.hid (has_call E x1 _ _ (hE.later hb0) hl)
  have HB0 := Lib.hid hb0
  have hav : allowB E (x1, x2) = (nameB x2 && hasS E x1) := rfl
  rw [hav]
  obtain ⟨nb, hnb⟩ : ∃ nb, nameB x2 = nb := ⟨_, rfl⟩
  rw [hnb] at hlk ⊢
  clear h1 h2 hp hE hb0 hnb hav
  cases nb with
  | false =>
    go_enter Tryz.func36, Tryz.ntmps36
    go_wp2
    go_ret
    exact ⟨rfl, HB0.out⟩
  | true =>
    go_enter Tryz.func36, Tryz.ntmps36
    go_wp2_with fail
    refine Calls.mono HC.out ?_
    rintro e w1 ⟨rfl, rfl⟩
    go_wp2
    go_ret
    exact ⟨by rw [Bool.true_and]; rfl, HB0.out⟩
theorem count_step (h : List UInt8 → Bool) (left : Lit → Bool) (x : List UInt8) : ∀ G : List (List UInt8), G.Nodup → x ∈ G → left (.string x) = true →
    (G.filter fun g => !(left (.string g) && !(Lit.string g).sameKey (.string x)) && h g).length = (G.filter fun g => !left (.string g) && h g).length + (if h x = true then 1 else 0)
  | [], _, hx, _ => absurd hx (by simp)
  | y :: G, hn, hx, hl => by
    have hs : ∀ g : List UInt8, (Lit.string g).sameKey (.string x) = (g == x) := fun _ => rfl
    simp only [hs]
    rw [List.nodup_cons] at hn
    by_cases hxy : y = x
    · subst hxy
      have hrest : ∀ g ∈ G, (!(left (.string g) && !(g == y)) && h g) = (!left (.string g) && h g) := fun g hg => by
        have : (g == y) = false := by rw [beq_eq_false_iff_ne]; rintro rfl; exact hn.1 hg
        rw [this]
        simp
      rw [List.filter_cons, List.filter_cons, List.filter_congr hrest]
      have h1 : (y == y) = true := by simp
      rw [h1, hl]
      cases hh : h y <;> simp
    · have hxG : x ∈ G := by
        rcases List.mem_cons.1 hx with h1 | h1
        · exact absurd h1.symm hxy
        · exact h1
      have ih := count_step h left x G hn.2 hxG hl
      simp only [hs] at ih
      rw [List.filter_cons, List.filter_cons]
      have h1 : (y == x) = false := by simpa using hxy
      rw [h1]
      simp only [Bool.not_false, Bool.and_true]
      split
      · rw [List.length_cons, ih, List.length_cons]; omega
      · exact ih
def gridN (E : List ByteArray) : Nat := (grWs.filter fun g => hasS E ⟨g.toArray⟩).length
def cntN (E : List ByteArray) (left : Lit → Bool) : Nat := (grWs.filter fun g => !left (.string g) && hasS E ⟨g.toArray⟩).length
theorem grWs_nodup : grWs.Nodup := by decide +kernel
theorem cnt_start (E : List ByteArray) : cntN E (Maps.has (setD grWs)) = 0 := by
  unfold cntN
  rw [List.length_eq_zero_iff, List.filter_eq_nil_iff]
  intro g hg
  rw [setD_has]
  have : grWs.contains g = true := by simpa using hg
  rw [this]
  simp
theorem cnt_end (E : List ByteArray) (left : Lit → Bool) (h : ∀ kl, left kl = false) : cntN E left = gridN E := by
  unfold cntN gridN
  congr 1
  apply List.filter_congr
  intro g _
  rw [h]
  simp
theorem cnt_le (E : List ByteArray) (left : Lit → Bool) : cntN E left ≤ 7 := Nat.le_trans (List.length_filter_le _ _) (by decide +kernel)
end

section
open Go.RowKit Go.Maps
abbrev Prs : Type := List (ByteArray × ByteArray)
/-- A policy in memory, and its lists. -/
structure PolAt (w : World) (v : Value) (E : List ByteArray) (A : Prs) (S : List ByteArray) : Prop where
  is : ∃ vE vA vS, v = .agg #[vE, vA, vS] ∧ SlS w vE E ∧ SlA w vA A ∧ SlS w vS S
  lE : E.length ≤ 9223372036854775807
  lA : A.length ≤ 9223372036854775807
  lS : S.length ≤ 9223372036854775807
  sE : ∀ x ∈ E, x.size ≤ maxLen
  sA : ∀ x ∈ A, x.1.size ≤ maxLen ∧ x.2.size ≤ maxLen
  sS : ∀ x ∈ S, x.size ≤ maxLen
theorem PolAt.later {w w' : World} {v : Value} {E : List ByteArray} {A : Prs} {S : List ByteArray} (h : PolAt w v E A S) (hb : Below w.heap.size w w') : PolAt w' v E A S := by
  obtain ⟨⟨vE, vA, vS, e, h1, h2, h3⟩, a, b, c, d, f, g⟩ := h
  exact ⟨⟨vE, vA, vS, e, h1.later hb, h2.later hb, h3.later hb⟩, a, b, c, d, f, g⟩
def fineP (E : List ByteArray) (A : Prs) (S : List ByteArray) : Bool := onceS knownB E && (onceP (allowB E) A && onceS schB S)
/-- May a policy be? -/
def checkB (E : List ByteArray) (A : Prs) (S : List ByteArray) : Bool := fineP E A S && (decide (gridN E = 0) || decide (gridN E = 7))
def errOf (b : Bool) : Int := if b = true then 0 else 50
def ErrR (w : World) (b : Bool) (e : Ending) (w' : World) : Prop := e = .returned (.int .u16 (errOf b)) ∧ Below w.heap.size w w'
theorem next_set {P : Program} {ops : Array Oper} {rest : List Oper} {o : Oper} {a : Act} {Q : Exit → Act → World → Prop} (w : World) (k e : TypeId) (K : Keyed P k) (hk : P.underlying k = some .string) (hg : o.guard = none) (it : Operand) (hop : o.op = Op.next it false)
    (b r n : Nat) (D : DataW Unit) (left : Lit → Bool) (cnt : Nat) (hit : a.eval it = .pointer (some ⟨r, 0, none⟩)) (h : w.ranges P k (plainElem P e) b r n D left cnt)
    (hDone : (∀ kl, left kl = false) → wpList P ops Q rest (a.put o.dst (.tuple #[.bool false])) w)
    (hMore : ∀ (x : ByteArray) (v : Value) (w' : World) (cnt' : Nat), left (.string x.data.toList) = true → Maps.has D (.string x.data.toList) = true → w'.ranges P k (plainElem P e) b r n D (fun z => left z && !z.sameKey (.string x.data.toList)) cnt' → cnt' < cnt →
      w.grownBy w' (some r) → w'.heap.size = w.heap.size → (Instr.entry (.pointer (some ⟨r, 0, none⟩))).run P w' = .ok (.tuple #[.string x, v]) w' → wpList P ops Q rest (a.put o.dst (.tuple #[.bool true, .string x, v])) w') :
    wpList P ops Q (o :: rest) a w :=
  wpList_next_ranges w hg it hop k K (plainElem P e) (fun x : ByteArray => Value.string x) (fun v : Value => v) (fun key kl hkey => by obtain ⟨s, rfl, _⟩ := WideMaps.string_of_keyOf hk hkey; exact ⟨s, rfl⟩) (fun v _ _ => ⟨v, rfl⟩) b r n D left cnt hit h (fun _ => hDone)
    (fun x v kl y w' cnt' hkey hlk hv hat hrg hlt hgr hsz hen => by
      obtain ⟨x', ex, rfl, _⟩ := WideMaps.string_of_keyOf hk hkey
      cases ex
      exact hMore x v w' cnt' hlk (has_true_of_atKey hat) hrg hlt hgr hsz hen)
def RngW (w6 : World) (B r : Nat) (E : List ByteArray) (v6 : Value) (wr : World) : Prop :=
  ∃ (left : Lit → Bool) (cnt : Nat), wr.ranges (H := Unit) Tryz.prog 9 (plainElem Tryz.prog 4) B r grWs.length (setD grWs) left cnt ∧ v6 = .int .i64 (cntN E left : Nat) ∧ Below r w6 wr
set_option maxHeartbeats 4000000 in
set_option maxRecDepth 100000 in
theorem check_any (v : Value) (E : List ByteArray) (A : Prs) (S : List ByteArray) (w : World) (hp : PolAt w v E A S) (ht : SpTab w) : Calls Tryz.prog 12 #[v] w (ErrR w (checkB E A S)) := by
  obtain ⟨⟨vE, vA, vS, rfl, hE, hA, hS⟩, lE, lA, lS, sE, sA, sS⟩ := hp
  obtain ⟨a1, c1, rfl, _, _⟩ := hE.open
  obtain ⟨a2, c2, rfl, _, _⟩ := hA.open
  obtain ⟨a3, c3, rfl, _, _⟩ := hS.open
  have hmf : ∀ (fn : Fn) (first cap : Array Value) (w : World), (Instr.makeFunc fn first cap).run Tryz.prog w = .ok (.func fn first cap) w := fun _ _ _ _ => rfl
  have HE := Lib.hid hE
  have HA := Lib.hid hA
  have HS := Lib.hid hS
  have HT := Lib.hid ht
  have HSE := Lib.hid sE
  have HSA := Lib.hid sA
  clear hE hA hS ht sE sA sS
  have hb0 : Below w.heap.size w (w.alloc (.cells #[.slice a1 E.length c1, .slice a2 A.length c2, .slice a3 S.length c3] 25)) := (Below.refl _ w).alloc (Nat.le_refl _) _
  have HB0 := Lib.hid hb0
  clear hb0
  go_enter Tryz.func12, Tryz.ntmps12
  go_wp2_with fail
  refine Calls.mono (set_el _ (HT.out.later HB0.out)) ?_
  rintro e w1 ⟨B1, rfl, hs1, hB1, b1⟩
  have HS1 := Lib.hid hs1
  have HP1 := Lib.hid ((b1.block w.heap.size (by simp)).trans (heap_alloc_new w _))
  have HB1 := Lib.hid (HB0.out.trans (b1.mono HB0.out.size))
  have hz1 : w.heap.size + 1 ≤ w1.heap.size := by have := b1.size; simpa using this
  clear hs1 b1 hB1
  go_wp2_with fail
  refine Calls.mono (set_at _ (HT.out.later HB1.out)) ?_
  rintro e w2 ⟨B2, rfl, hs2, hB2, b2⟩
  have HS2 := Lib.hid hs2
  have HS12 := Lib.hid (HS1.out.later b2)
  have HP2 := Lib.hid ((b2.block w.heap.size (by omega)).trans HP1.out)
  have HB2 := Lib.hid (HB1.out.trans (b2.mono HB1.out.size))
  have hz2 : w.heap.size + 1 ≤ w2.heap.size := by have := b2.size; omega
  clear hs2 b2 hB2 HS1 HP1 hz1
  obtain ⟨W3, hW3⟩ : ∃ W3, (w2.alloc (.cells #[.map (some B1)] 56)).alloc (.cells #[.map (some B2)] 56) = W3 := ⟨_, rfl⟩
  have hb3 : Below w2.heap.size w2 W3 := by rw [← hW3]; exact ((Below.refl _ w2).alloc (Nat.le_refl _) _).alloc (by simp) _
  have hk1 : VarSet W3 w2.heap.size elWs := ⟨B1, by rw [← hW3]; exact cell_later ((Below.refl _ _).alloc (Nat.le_refl _) _) (cell_of_row _ _ 0 _ _ _ (heap_alloc_new w2 _)), HS12.out.later hb3⟩
  have hk2 : VarSet W3 (w2.heap.size + 1) atWs := ⟨B2, by rw [← hW3, show w2.heap.size + 1 = (w2.alloc (.cells #[.map (some B1)] 56)).heap.size by simp]; exact cell_of_row _ _ 0 _ _ _ (heap_alloc_new _ _), HS2.out.later hb3⟩
  have g3 := (hb3.block w.heap.size (by omega)).trans HP2.out
  have HB3 := Lib.hid (HB2.out.trans (hb3.mono HB2.out.size))
  have HK1 := Lib.hid hk1
  have HK2 := Lib.hid hk2
  have HG3 := Lib.hid g3
  have HW3 := Lib.hid hW3
  have hz3 : w.heap.size < W3.heap.size := by have := hb3.size; omega
  have q0 := fun i => cell_of_row W3 w.heap.size i _ _ _ g3
  have q0' := q0
  rw [← hW3] at q0
  clear hW3 hb3 hk1 hk2 g3
  obtain ⟨FB, hFB⟩ : ∃ FB, fineP E A S = FB := ⟨_, rfl⟩
  have HFB := Lib.hid hFB
  have hck : checkB E A S = (FB && (decide (gridN E = 0) || decide (gridN E = 7))) := by unfold checkB; rw [hFB]
  have HCK := Lib.hid hck
  clear hFB hck
  go_upto_region 2 with fail
  rw [HW3.out]
  go_cut [5] (fun s5 wx => s5 = .bool FB ∧ Below W3.heap.size W3 wx)
  case first =>
    have q0 := q0'
    obtain ⟨x1, hx1⟩ : ∃ x1, onceS knownB E = x1 := ⟨_, rfl⟩
    have H1 := Lib.hid (once_el E knownB _ w2.heap.size W3 (HE.out.later HB3.out) lE (fun x hx w' hw' => el_may x _ w' (HK1.out.later hw') (HSE.out x hx)))
    rw [hx1] at H1
    have HX1 := Lib.hid hx1
    clear hx1
    go_wp2_with fail
    refine Calls.mono H1.out ?_
    rintro e w4 ⟨rfl, b4⟩
    have HB4 := Lib.hid b4
    clear b4
    cases x1 with
    | false =>
      have hv : FB = false := by rw [← HFB.out]; unfold fineP; rw [HX1.out]; rfl
      subst hv
      go_wp2_with fail
      go_meet
      exact ⟨rfl, HB4.out⟩
    | true =>
      have g4 := (HB4.out.block w.heap.size hz3).trans HG3.out
      have q4 := fun i => cell_of_row w4 w.heap.size i _ _ _ g4
      obtain ⟨x2, hx2⟩ : ∃ x2, onceP (allowB E) A = x2 := ⟨_, rfl⟩
      have H2 := Lib.hid (once_at A (allowB E) _ (w2.heap.size + 1) w.heap.size w4 ((HA.out.later HB3.out).later HB4.out) lA (fun x hx w' hw' => at_may x.1 x.2 _ w.heap.size _ E w' ((HK2.out.later HB4.out).later hw') (cell_later hw' (q4 0)) (((HE.out.later HB3.out).later HB4.out).later hw') lE (HSA.out x hx).2))
      rw [hx2] at H2
      have HX2 := Lib.hid hx2
      have HG4 := Lib.hid g4
      clear hx2 g4
      go_wp2_with fail
      refine Calls.mono H2.out ?_
      rintro e w5 ⟨rfl, b5⟩
      have HB5 := Lib.hid (HB4.out.trans (b5.mono HB4.out.size))
      have g5 := (b5.block w.heap.size (by have := HB4.out.size; omega)).trans HG4.out
      have q5 := fun i => cell_of_row w5 w.heap.size i _ _ _ g5
      clear b5 q4
      cases x2 with
      | false =>
        have hv : FB = false := by rw [← HFB.out]; unfold fineP; rw [HX1.out, HX2.out]; rfl
        subst hv
        go_wp2_with fail
        go_meet
        exact ⟨rfl, HB5.out⟩
      | true =>
        obtain ⟨x3, hx3⟩ : ∃ x3, onceS schB S = x3 := ⟨_, rfl⟩
        have H3 := Lib.hid (once_sch S schB _ w5 ((HS.out.later HB3.out).later HB5.out) lS (fun x _ w' hw' => scheme_may x w' (((HT.out.later HB3.out).later HB5.out).later hw')))
        rw [hx3] at H3
        have hv : FB = x3 := by rw [← HFB.out]; unfold fineP; rw [HX1.out, HX2.out, hx3]; rfl
        subst hv
        clear hx3
        go_wp2_with fail
        refine Calls.mono H3.out ?_
        rintro e w6 ⟨rfl, b6⟩
        have HB6 := Lib.hid (HB5.out.trans (b6.mono HB5.out.size))
        clear b6
        go_wp2_with fail
        go_meet
        exact ⟨rfl, HB6.out⟩
  case rest =>
    obtain ⟨rfl, hb4⟩ := hcut
    have HB4 := Lib.hid (HB3.out.trans (hb4.mono HB3.out.size))
    have g4 := Lib.hid ((hb4.block w.heap.size hz3).trans HG3.out)
    have hz4 : w.heap.size < wc.heap.size := by have := hb4.size; omega
    have HE4 := Lib.hid ((HE.out.later HB3.out).later hb4)
    clear hb4 q0 q0'
    go_wp2_with fail
    refine Calls.mono (set_gr _ (HT.out.later HB4.out)) ?_
    rintro e w5 ⟨B5, rfl, hs5, hB5, b5⟩
    have g5 := Lib.hid ((b5.block w.heap.size hz4).trans g4.out)
    have hz5 : w.heap.size < w5.heap.size := by have := b5.size; omega
    have HE5 := Lib.hid (HE4.out.later b5)
    have HB5 := Lib.hid (HB4.out.trans (b5.mono HB4.out.size))
    unfold SetAt at hs5
    clear b5 hB5
    go_wp2_with (first
      | (at_range; refine wpList_range_own _ rfl _ 56 rfl 9 4 set_keyed Tryz.underlying56 _ B5 _ _ rfl hs5 ?_; intro w6 hrg0 hg0 hz6)
      | fail)
    go_frame
    have HRG0 := Lib.hid hrg0
    have hb6 : Below w5.heap.size w5 w6 := ⟨hg0.os, hg0.tape, hg0.output, hg0.size, fun j hj => hg0.block j hj (by simp)⟩
    have HB6 := Lib.hid (HB5.out.trans (hb6.mono HB5.out.size))
    clear hrg0 hg0 hs5
    go_loopw [6, 7] (fun v6 _ wr => RngW w5 B5 w5.heap.size E v6 wr) (fun _ _ wr => wr.rangeLeft B5 w5.heap.size)
    case atStart => exact ⟨_, _, HRG0.out, by rw [cnt_start]; rfl, hb6⟩
    case round =>
      obtain ⟨left, cnt, hrg, rfl, hb⟩ := hrel
      have HB := Lib.hid hb
      clear hb
      go_wp2_with (first
        | (at_next; refine next_set _ 9 4 set_keyed Tryz.underlying9 rfl _ rfl B5 w5.heap.size _ _ _ _ rfl hrg ?_ ?_)
        | fail)
      · intro hl0
        have hcn := cnt_end E left hl0
        rw [hcn]
        have hle := cnt_le E left
        rw [hcn] at hle
        have hb8 := HB5.out.trans (HB.out.mono HB5.out.size)
        have HB8 := Lib.hid hb8
        clear hrg hl0 hcn hb8
        obtain ⟨n, hn⟩ : ∃ n, gridN E = n := ⟨_, rfl⟩
        rw [hn] at hle HCK ⊢
        clear hn
        cases FB with
        | false =>
          go_wp2
          go_ret
          rw [HCK.out]
          exact ⟨rfl, HB8.out⟩
        | true =>
          by_cases h0 : n = 0
          · subst h0
            go_wp2
            go_ret
            rw [HCK.out]
            exact ⟨rfl, HB8.out⟩
          · have z0 : ((n : Int) == 0) = false := by simp; omega
            have z00 : ¬ (n : Int) = 0 := by omega
            go_wp2_with fail
            refine Calls.mono (set_gr _ (HT.out.later HB8.out)) ?_
            rintro e w9 ⟨B9, rfl, hs9, _, b9⟩
            have HB9 := Lib.hid (HB8.out.trans (b9.mono HB8.out.size))
            have hlen := World.ownsMap.len (H := Unit) hs9 Tryz.underlying56
            rw [show Maps.size (setD grWs) = 7 by kernel_rfl] at hlen
            clear hs9 b9
            by_cases h7 : n = 7
            · subst h7
              go_wp2
              go_ret
              rw [HCK.out]
              exact ⟨rfl, HB9.out⟩
            · have z7 : ((n : Int) != 7) = true := by rw [bne_iff_ne]; omega
              have z07 : ((n : Int) != 0) = true := by rw [bne_iff_ne]; omega
              have z70 : ¬ (n : Int) = 7 := by omega
              have hd : (true && (decide (n = 0) || decide (n = 7))) = false := by simp [h0, h7]
              have HD := Lib.hid hd
              clear hd
              go_wp2
              go_ret
              rw [HCK.out, HD.out]
              exact ⟨rfl, HB9.out⟩
      · intro x v7 w7 cnt7 hlx hhas hrg7 hlt hg7 hs7 hen
        have hin : x.data.toList ∈ grWs := by
          rw [setD_has] at hhas
          simpa using hhas
        have hcs := count_step (fun g => hasS E ⟨g.toArray⟩) left x.data.toList grWs grWs_nodup hin hlx
        have hb7 : Below w5.heap.size wr w7 := ⟨hg7.os, hg7.tape, hg7.output, hg7.size, fun j hj => hg7.block j (by have := HB.out.size; omega) (by rintro ⟨⟩; exact absurd hj (Nat.lt_irrefl _))⟩
        have HB7 := Lib.hid (HB.out.trans hb7)
        have g7 := (HB7.out.block w.heap.size hz5).trans g5.out
        have q7 := fun i => cell_of_row w7 w.heap.size i _ _ _ g7
        have HC := Lib.hid (has_call E x _ w7 (HE5.out.later HB7.out) lE)
        have hlen7 := cnt_le E left
        obtain ⟨hx, hhx⟩ : ∃ hx, hasS E x = hx := ⟨_, rfl⟩
        have hhx2 : hasS E ⟨x.data.toList.toArray⟩ = hx := by rw [← hhx]
        rw [hhx] at HC
        have hcs2 : cntN E (fun z => left z && !z.sameKey (.string x.data.toList)) = cntN E left + (if hx = true then 1 else 0) := by rw [← hhx2]; exact hcs
        have HCS := Lib.hid hcs2
        have HRG := Lib.hid hrg7
        have HL := Lib.hid (show w7.rangeLeft B5 w5.heap.size < wr.rangeLeft B5 w5.heap.size by rw [hrg7.left_eq, hrg.left_eq]; exact hlt)
        clear hcs hcs2 hhx hhx2 hrg hrg7 hlx hhas hin hg7 hs7 hb7 hlt g7
        cases hx with
        | true =>
          go_wp2_with fail
          refine Calls.mono HC.out ?_
          rintro e w8 ⟨rfl, rfl⟩
          go_wp2
          go_roundw
          case rel => exact ⟨_, _, HRG.out, by rw [HCS.out]; go_num, HB7.out⟩
          case measure => exact HL.out
        | false =>
          go_wp2_with fail
          refine Calls.mono HC.out ?_
          rintro e w8 ⟨rfl, rfl⟩
          go_wp2
          go_roundw
          case rel => exact ⟨_, _, HRG.out, by rw [HCS.out]; go_num, HB7.out⟩
          case measure => exact HL.out
end

section
open Go.RowKit
def isT (x c : ByteArray) : Bool := x.toList == c.toList
/-- Is it an address? -/
def addressB (el nm : ByteArray) : Bool := isT nm ⟨#[104, 114, 101, 102]⟩ || (isT nm ⟨#[115, 114, 99]⟩ || (isT nm ⟨#[99, 105, 116, 101]⟩ && (isT el ⟨#[98, 108, 111, 99, 107, 113, 117, 111, 116, 101]⟩ || (isT el ⟨#[100, 101, 108]⟩ || (isT el ⟨#[105, 110, 115]⟩ || isT el ⟨#[113]⟩)))))
theorem isT_yes {x c : ByteArray} (h : isT x c = true) : x = c := bytes_eq (beq_iff_eq.1 h)
set_option maxHeartbeats 2000000 in
set_option maxRecDepth 100000 in
theorem address_any (el nm : ByteArray) (w : World) : Calls Tryz.prog 30 #[.string el, .string nm] w (RB w (addressB el nm)) := by
  cases hn0 : isT nm ⟨#[104, 114, 101, 102]⟩ with
  | true =>
    obtain rfl := isT_yes hn0
    have hv : addressB el ⟨#[104, 114, 101, 102]⟩ = true := by unfold addressB; rw [hn0]; rfl
    rw [hv]
    clear hv hn0
    go_enter Tryz.func30, Tryz.ntmps30
    go_wp2
    go_ret
    exact ⟨rfl, rfl⟩
  | false =>
    cases hn1 : isT nm ⟨#[115, 114, 99]⟩ with
    | true =>
      obtain rfl := isT_yes hn1
      have hv : addressB el ⟨#[115, 114, 99]⟩ = true := by unfold addressB; rw [hn1]; simp
      rw [hv]
      clear hv hn1 hn0
      go_enter Tryz.func30, Tryz.ntmps30
      go_wp2
      go_ret
      exact ⟨rfl, rfl⟩
    | false =>
      cases hn2 : isT nm ⟨#[99, 105, 116, 101]⟩ with
      | false =>
        have hv : addressB el nm = false := by unfold addressB; rw [hn0, hn1, hn2]; rfl
        rw [hv]
        have a0 : (nm.toList == [104, 114, 101, 102]) = false := by rw [← hn0]; unfold isT; rw [Lib.toList_data ⟨#[104, 114, 101, 102]⟩]
        have b0 : ¬ nm.toList = [104, 114, 101, 102] := by simpa using a0
        have a1 : (nm.toList == [115, 114, 99]) = false := by rw [← hn1]; unfold isT; rw [Lib.toList_data ⟨#[115, 114, 99]⟩]
        have b1 : ¬ nm.toList = [115, 114, 99] := by simpa using a1
        have a2 : (nm.toList == [99, 105, 116, 101]) = false := by rw [← hn2]; unfold isT; rw [Lib.toList_data ⟨#[99, 105, 116, 101]⟩]
        have b2 : ¬ nm.toList = [99, 105, 116, 101] := by simpa using a2
        clear hv hn0 hn1 hn2
        go_enter Tryz.func30, Tryz.ntmps30
        go_wp2
        go_ret
        exact ⟨rfl, rfl⟩
      | true =>
        obtain rfl := isT_yes hn2
        clear hn0 hn1
        cases he0 : isT el ⟨#[98, 108, 111, 99, 107, 113, 117, 111, 116, 101]⟩ with
        | true =>
          obtain rfl := isT_yes he0
          have hv : addressB ⟨#[98, 108, 111, 99, 107, 113, 117, 111, 116, 101]⟩ ⟨#[99, 105, 116, 101]⟩ = true := by decide +kernel
          rw [hv]
          clear hv hn2 he0
          go_enter Tryz.func30, Tryz.ntmps30
          go_wp2
          go_ret
          exact ⟨rfl, rfl⟩
        | false =>
          cases he1 : isT el ⟨#[100, 101, 108]⟩ with
          | true =>
            obtain rfl := isT_yes he1
            have hv : addressB ⟨#[100, 101, 108]⟩ ⟨#[99, 105, 116, 101]⟩ = true := by decide +kernel
            rw [hv]
            clear hv hn2 he0 he1
            go_enter Tryz.func30, Tryz.ntmps30
            go_wp2
            go_ret
            exact ⟨rfl, rfl⟩
          | false =>
            cases he2 : isT el ⟨#[105, 110, 115]⟩ with
            | true =>
              obtain rfl := isT_yes he2
              have hv : addressB ⟨#[105, 110, 115]⟩ ⟨#[99, 105, 116, 101]⟩ = true := by decide +kernel
              rw [hv]
              clear hv hn2 he0 he1 he2
              go_enter Tryz.func30, Tryz.ntmps30
              go_wp2
              go_ret
              exact ⟨rfl, rfl⟩
            | false =>
              cases he3 : isT el ⟨#[113]⟩ with
              | true =>
                obtain rfl := isT_yes he3
                have hv : addressB ⟨#[113]⟩ ⟨#[99, 105, 116, 101]⟩ = true := by decide +kernel
                rw [hv]
                clear hv hn2 he0 he1 he2 he3
                go_enter Tryz.func30, Tryz.ntmps30
                go_wp2
                go_ret
                exact ⟨rfl, rfl⟩
              | false =>
                have hv : addressB el ⟨#[99, 105, 116, 101]⟩ = false := by unfold addressB; rw [he0, he1, he2, he3, show isT ⟨#[99, 105, 116, 101]⟩ ⟨#[104, 114, 101, 102]⟩ = false by decide +kernel, show isT ⟨#[99, 105, 116, 101]⟩ ⟨#[115, 114, 99]⟩ = false by decide +kernel]; simp
                rw [hv]
                have a0 : (el.toList == [98, 108, 111, 99, 107, 113, 117, 111, 116, 101]) = false := by rw [← he0]; unfold isT; rw [Lib.toList_data ⟨#[98, 108, 111, 99, 107, 113, 117, 111, 116, 101]⟩]
                have b0 : ¬ el.toList = [98, 108, 111, 99, 107, 113, 117, 111, 116, 101] := by simpa using a0
                have a1 : (el.toList == [100, 101, 108]) = false := by rw [← he1]; unfold isT; rw [Lib.toList_data ⟨#[100, 101, 108]⟩]
                have b1 : ¬ el.toList = [100, 101, 108] := by simpa using a1
                have a2 : (el.toList == [105, 110, 115]) = false := by rw [← he2]; unfold isT; rw [Lib.toList_data ⟨#[105, 110, 115]⟩]
                have b2 : ¬ el.toList = [105, 110, 115] := by simpa using a2
                have a3 : (el.toList == [113]) = false := by rw [← he3]; unfold isT; rw [Lib.toList_data ⟨#[113]⟩]
                have b3 : ¬ el.toList = [113] := by simpa using a3
                clear hv hn2 he0 he1 he2 he3
                go_enter Tryz.func30, Tryz.ntmps30
                go_wp2
                go_ret
                exact ⟨rfl, rfl⟩
end

section
open Go.RowKit
def keepsB (E : List ByteArray) (A : Prs) (S : List ByteArray) (el nm val : ByteArray) : Bool := hasS E el && (hasP A (el, nm) && (!addressB el nm || safe val.data.toList S))
theorem SlS.strs {w : World} {v : Value} {l : List ByteArray} (h : SlS w v l) : StrsAt (fun k => k < w.heap.size) w v l := by
  obtain ⟨A, c, e, _, _, hp⟩ := h
  refine ⟨A, c, e, fun h0 => ?_⟩
  obtain ⟨b, off, hA, hlt, hj⟩ := hp h0
  exact ⟨b, off, hA, hlt, fun j hjl => hj j _ (by simp [hjl, List.getD])⟩
set_option maxHeartbeats 4000000 in
set_option maxRecDepth 100000 in
theorem keeps_any (v : Value) (E : List ByteArray) (A : Prs) (S : List ByteArray) (el nm val : ByteArray) (w : World) (hp : PolAt w v E A S) (hG : Glob w) (hs : val.size ≤ 1000000000) : Calls Tryz.prog 11 #[v, .string el, .agg #[.string nm, .string val]] w (BoolR w (keepsB E A S el nm val)) := by
  obtain ⟨⟨vE, vA, vS, rfl, hE, hA, hS⟩, lE, lA, lS, _, _, _⟩ := hp
  obtain ⟨a1, c1, rfl, _, _⟩ := hE.open
  obtain ⟨a2, c2, rfl, _, _⟩ := hA.open
  obtain ⟨a3, c3, rfl, _, _⟩ := hS.open
  obtain ⟨W, hW⟩ : ∃ W, (w.alloc (.cells #[.slice a1 E.length c1, .slice a2 A.length c2, .slice a3 S.length c3] 25)).alloc (.cells #[.string nm, .string val] 27) = W := ⟨_, rfl⟩
  have hb0 : Below w.heap.size w W := by rw [← hW]; exact ((Below.refl _ w).alloc (Nat.le_refl _) _).alloc (by simp) _
  have g0 : W.heap[w.heap.size]? = some (.cells #[.slice a1 E.length c1, .slice a2 A.length c2, .slice a3 S.length c3] 25 (0, 0)) := by rw [← hW]; exact (Below.heap_alloc _ _ _ (by simp)).trans (heap_alloc_new w _)
  have g1 : W.heap[w.heap.size + 1]? = some (.cells #[.string nm, .string val] 27 (0, 0)) := by rw [← hW, show w.heap.size + 1 = (w.alloc (.cells #[.slice a1 E.length c1, .slice a2 A.length c2, .slice a3 S.length c3] 25)).heap.size by simp]; exact heap_alloc_new _ _
  have hz : w.heap.size + 1 < W.heap.size := by rw [← hW]; simp
  have HE := Lib.hid (hE.later hb0)
  have HA := Lib.hid (hA.later hb0)
  have HS := Lib.hid (hS.later hb0)
  have HG := Lib.hid (hG.later hb0)
  have HB0 := Lib.hid hb0
  have HW := Lib.hid hW
  have HH := Lib.hid (has_any (.slice a1 E.length c1) (.slice a2 A.length c2) (.slice a3 S.length c3) E el W HE.out lE)
  have hkv : keepsB E A S el nm val = (hasS E el && (hasP A (el, nm) && (!addressB el nm || safe val.data.toList S))) := rfl
  obtain ⟨x1, hx1⟩ : ∃ x1, hasS E el = x1 := ⟨_, rfl⟩
  rw [hx1] at HH
  rw [hkv, hx1]
  clear hE hA hS hG hb0 hW hkv hx1
  cases x1 with
  | false =>
    rw [Bool.false_and]
    go_enter Tryz.func11, Tryz.ntmps11
    go_wp2_with fail
    rw [HW.out]
    refine Calls.mono HH.out ?_
    rintro e w1 ⟨rfl, b1⟩
    have HB1 := Lib.hid (HB0.out.trans (b1.mono HB0.out.size))
    clear b1
    go_wp2
    go_ret
    exact ⟨rfl, HB1.out⟩
  | true =>
    rw [Bool.true_and]
    obtain ⟨x2, hx2⟩ : ∃ x2, hasP A (el, nm) = x2 := ⟨_, rfl⟩
    have HC := Lib.hid fun w' (hw' : Below W.heap.size W w') => hasP_call A (el, nm) _ w' (HA.out.later hw') lA
    rw [hx2] at HC ⊢
    clear hx2
    cases x2 with
    | false =>
      rw [Bool.false_and]
      go_enter Tryz.func11, Tryz.ntmps11
      go_wp2_with fail
      rw [HW.out]
      refine Calls.mono HH.out ?_
      rintro e w1 ⟨rfl, b1⟩
      have HB1 := Lib.hid b1
      have q0 := fun i => cell_of_row w1 w.heap.size i _ _ _ ((b1.block _ (by omega)).trans g0)
      have q1 := fun i => cell_of_row w1 (w.heap.size + 1) i _ _ _ ((b1.block _ (by omega)).trans g1)
      clear b1
      go_wp2_with fail
      refine Calls.mono (HC.out _ HB1.out) ?_
      rintro e w2 ⟨rfl, b2⟩
      have HB2 := Lib.hid (HB0.out.trans ((HB1.out.trans (b2.mono HB1.out.size)).mono HB0.out.size))
      clear b2 q0 q1
      go_wp2
      go_ret
      exact ⟨rfl, HB2.out⟩
    | true =>
      rw [Bool.true_and]
      obtain ⟨x3, hx3⟩ : ∃ x3, addressB el nm = x3 := ⟨_, rfl⟩
      have HAD := Lib.hid fun w' => address_any el nm w'
      rw [hx3] at HAD ⊢
      clear hx3
      cases x3 with
      | false =>
        go_enter Tryz.func11, Tryz.ntmps11
        go_wp2_with fail
        rw [HW.out]
        refine Calls.mono HH.out ?_
        rintro e w1 ⟨rfl, b1⟩
        have HB1 := Lib.hid b1
        have q0 := fun i => cell_of_row w1 w.heap.size i _ _ _ ((b1.block _ (by omega)).trans g0)
        have q1 := fun i => cell_of_row w1 (w.heap.size + 1) i _ _ _ ((b1.block _ (by omega)).trans g1)
        clear b1
        go_wp2_with fail
        refine Calls.mono (HC.out _ HB1.out) ?_
        rintro e w2 ⟨rfl, b2⟩
        have b2 := HB1.out.trans (b2.mono HB1.out.size)
        have q2 := fun i => cell_of_row w2 w.heap.size i _ _ _ ((b2.block _ (by omega)).trans g0)
        have q3 := fun i => cell_of_row w2 (w.heap.size + 1) i _ _ _ ((b2.block _ (by omega)).trans g1)
        have HB2 := Lib.hid (HB0.out.trans (b2.mono HB0.out.size))
        clear b2 q0 q1
        go_wp2_with fail
        refine Calls.mono (HAD.out _) ?_
        rintro e w3 ⟨rfl, rfl⟩
        go_wp2
        go_ret
        exact ⟨rfl, HB2.out⟩
      | true =>
        have HSF := Lib.hid fun w' (hw' : Below W.heap.size W w') => safe_any val _ S w' (HG.out.later hw') hs (HS.out.later hw').strs lS
        go_enter Tryz.func11, Tryz.ntmps11
        go_wp2_with fail
        rw [HW.out]
        refine Calls.mono HH.out ?_
        rintro e w1 ⟨rfl, b1⟩
        have HB1 := Lib.hid b1
        have q0 := fun i => cell_of_row w1 w.heap.size i _ _ _ ((b1.block _ (by omega)).trans g0)
        have q1 := fun i => cell_of_row w1 (w.heap.size + 1) i _ _ _ ((b1.block _ (by omega)).trans g1)
        clear b1
        go_wp2_with fail
        refine Calls.mono (HC.out _ HB1.out) ?_
        rintro e w2 ⟨rfl, b2⟩
        have b2 := HB1.out.trans (b2.mono HB1.out.size)
        have q2 := fun i => cell_of_row w2 w.heap.size i _ _ _ ((b2.block _ (by omega)).trans g0)
        have q3 := fun i => cell_of_row w2 (w.heap.size + 1) i _ _ _ ((b2.block _ (by omega)).trans g1)
        have HB2 := Lib.hid b2
        clear b2 q0 q1
        go_wp2_with fail
        refine Calls.mono (HAD.out _) ?_
        rintro e w3 ⟨rfl, rfl⟩
        go_wp2_with fail
        refine Calls.mono (HSF.out _ HB2.out) ?_
        rintro e w4 ⟨rfl, b4⟩
        have HB4 := Lib.hid (HB0.out.trans ((HB2.out.trans (b4.mono HB2.out.size)).mono HB0.out.size))
        clear b4
        go_wp2
        go_ret
        exact ⟨by rw [Bool.not_true, Bool.false_or]; rfl, HB4.out⟩
end
end Go.Proofs.YtdkjenbncmedbaaGreatDoor
