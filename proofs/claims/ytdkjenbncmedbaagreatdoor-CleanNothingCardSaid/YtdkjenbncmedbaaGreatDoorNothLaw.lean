/- tympanlaw20.bareText of one text; CleanNothing. -/
import Derived.Test.YtdkjenbncmedbaaGreatDoorHeavy
import Derived.Test.YtdkjenbncmedbaaGreatDoorClnQ
namespace Go.Proofs.YtdkjenbncmedbaaGreatDoor
open Go.RowKit

theorem empty_app (t : ByteArray) : (⟨#[]⟩ : ByteArray) ++ t = t := ByteArray.ext (by simp)
def StrD (w : World) (u : List UInt8) (e : Ending) (w' : World) : Prop := e = .returned (.string ⟨u.toArray⟩) ∧ w' = w
/-- One text, or none, in memory. -/
theorem tacc_open {D : Nat} {w : World} {S : Nat → Prop} {v : Value} {u : List UInt8} (h : NodesAt D w S v (tacc D u)) : (∃ A c, v = .slice A 0 c ∧ tacc D u = []) ∨ (u ≠ [] ∧ ∃ ad c, v = .slice (some ad) 1 c ∧ S ad.block ∧ w.cell? ad = some (.int .u8 2) ∧ w.cell? ⟨ad.block, ad.off + 4, none⟩ = some (.string ⟨u.toArray⟩) ∧ tacc D u ≠ []) := by
  cases D with
  | zero =>
    obtain ⟨A, c, rfl⟩ := h.none_
    exact .inl ⟨A, c, rfl, rfl⟩
  | succ D =>
    cases u with
    | nil =>
      obtain ⟨A, c, rfl, _⟩ := h.get
      exact .inl ⟨A, c, rfl, rfl⟩
    | cons b u =>
      obtain ⟨A, c, rfl, _, hg⟩ := NodesAt.get (l := [(txtN [] (b :: u) : NodeD (List (NT D)))]) h
      obtain ⟨ad, va, vk, rfl, _, _, _, _, _, _, hS, c0, _, _, _, c4, _⟩ := hg 0 (Nat.zero_lt_succ 0)
      exact .inr ⟨by simp, ad, c, rfl, hS, c0, c4, by show [_] ≠ []; simp⟩
theorem tacc_len {D : Nat} {u : List UInt8} (h : tacc D u = []) : D = 0 ∨ u = [] := by
  cases D with
  | zero => exact .inl rfl
  | succ D =>
    cases u with
    | nil => exact .inr rfl
    | cons b u => exact absurd h (by show [_] ≠ []; simp)
set_option maxHeartbeats 4000000 in
set_option maxRecDepth 100000 in
theorem bare_none (A : Option Addr) (c : Nat) (w : World) : Calls Tryz.prog 24 #[.slice A 0 c] w (StrD w []) := by
  go_enter Tryz.func24, Tryz.ntmps24
  go_wp2_with fail
  go_loopw [3, 4] (fun s i wr => s = .string ⟨#[]⟩ ∧ i = .int .i64 0 ∧ wr = w) (fun _ _ _ => 0)
  case atStart => exact ⟨rfl, rfl, rfl⟩
  case round =>
    obtain ⟨rfl, rfl, rfl⟩ := hrel
    go_wp2
    go_ret
    exact ⟨rfl, rfl⟩
set_option maxHeartbeats 4000000 in
set_option maxRecDepth 100000 in
theorem bare_some (ad : Addr) (c : Nat) (t : ByteArray) (w : World) (h0 : w.cell? ad = some (.int .u8 2)) (h4 : w.cell? ⟨ad.block, ad.off + 4, none⟩ = some (.string t)) (ht : t.size ≤ 1000000000) : Calls Tryz.prog 24 #[.slice (some ad) 1 c] w (fun e w' => e = .returned (.string t) ∧ w' = w) := by
  have hs : ¬ 9223372036854775807 < t.size := by omega
  have hs2 : t.size ≤ 9223372036854775807 := by omega
  go_enter Tryz.func24, Tryz.ntmps24
  go_wp2_with fail
  go_loopw [3, 4] (fun s i wr => (s = .string ⟨#[]⟩ ∧ i = .int .i64 0 ∧ wr = w) ∨ (s = .string t ∧ i = .int .i64 1 ∧ wr = w)) (fun _ i _ => 1 - (intOf i).toNat)
  case atStart => exact .inl ⟨rfl, rfl, rfl⟩
  case round =>
    rcases hrel with ⟨rfl, rfl, rfl⟩ | ⟨rfl, rfl, rfl⟩
    · go_wp2
      go_roundw
      case rel => exact .inr ⟨by (try simp); exact empty_app t, by first | trivial | go_num, by first | trivial | rfl⟩
      case measure => simp [intOf]
    · go_wp2
      go_ret
      exact ⟨rfl, rfl⟩
theorem none_pol (w : World) : PolAt w (.agg #[.slice none 0 0, .slice none 0 0, .slice none 0 0]) [] [] [] :=
  ⟨⟨_, _, _, rfl, ⟨_, _, rfl, Nat.le_refl _, rfl, fun h => absurd h (Nat.lt_irrefl 0)⟩, ⟨_, _, rfl, Nat.le_refl _, rfl, fun h => absurd h (Nat.lt_irrefl 0)⟩, ⟨_, _, rfl, Nat.le_refl _, rfl, fun h => absurd h (Nat.lt_irrefl 0)⟩⟩, by simp, by simp, by simp, by simp, by simp, by simp⟩
/-- bareText of what a policy of nothing lets stay. -/
theorem bare_tacc {D : Nat} {w : World} {S : Nat → Prop} {v : Value} {u : List UInt8} (h : NodesAt D w S v (tacc D u)) (hu : u.length ≤ 1000000000) (h0 : D = 0 → u = []) : Calls Tryz.prog 24 #[v] w (StrD w u) := by
  rcases tacc_open h with ⟨A, c, rfl, he⟩ | ⟨_, ad, c, rfl, _, c0, c4, _⟩
  · have hu0 : u = [] := by
      rcases tacc_len he with e | e
      · exact h0 e
      · exact e
    subst hu0
    exact bare_none A c w
  · exact bare_some ad c ⟨u.toArray⟩ w c0 c4 (by rw [size_list]; exact hu)
theorem flat_le : ∀ (n : Nat) (l : List (NT n)), (flatL n l).length ≤ 8 * wt n l
  | 0, _ => Nat.zero_le _
  | n + 1, l => by
    induction l with
    | nil => exact Nat.zero_le _
    | cons a l ih =>
      have e1 : (flatL (n + 1) (a :: l)).length = (flatO (flatL n) a).length + (flatL (n + 1) l).length := flatN_cons (K := List (NT n)) (flatL n) a l
      have e2 : (flatO (flatL n) a).length ≤ 8 * (1 + (NodeD.text a).size / 8 + (NodeD.name a).size / 8 + attrsWt (NodeD.attrs a) + wt n (NodeD.kids a)) := by
        unfold flatO
        split
        · have h1 := nlL_len (NodeD.text a).data.toList
          have h2 : (NodeD.text a).data.toList.length = (NodeD.text a).size := Array.length_toList
          omega
        · split
          · exact Nat.zero_le _
          · have := flat_le n (NodeD.kids a)
            omega
      rw [e1, wt_cons]
      omega
set_option maxHeartbeats 4000000 in
set_option maxRecDepth 100000 in
theorem nothing_law (n : Nat) (vl v : Value) (l : List (NT n)) (E : List ByteArray) (A : Prs) (S : List ByteArray) (w : World) (h : NodesAt n w (fun k => k < w.heap.size) vl l) (hp : PolAt w v E A S) (ht : SpTab w) (hG : Glob w) : Calls Tryz.prog 8 #[vl, v] w (Yes w) := by
  obtain ⟨vE, vA, vS, rfl, _, _, _⟩ := hp.is
  obtain ⟨Al, m, c, rfl⟩ := h.shape
  obtain ⟨wa, hwa⟩ : ∃ wa, w.alloc (.cells #[vE, vA, vS] 25) = wa := ⟨_, rfl⟩
  have hba : Below w.heap.size w wa := by rw [← hwa]; exact (Below.refl _ w).alloc (Nat.le_refl _) _
  have hna : wa.heap[w.heap.size]? = some (.cells #[vE, vA, vS] 25 (0, 0)) := by rw [← hwa]; exact heap_alloc_new _ _
  have hza : w.heap.size < wa.heap.size := lt_block hna
  have hcells : ∀ w' : World, Below wa.heap.size wa w' → (w'.cell? ⟨w.heap.size, 0, none⟩ = some vE ∧ w'.cell? ⟨w.heap.size, 1, none⟩ = some vA ∧ w'.cell? ⟨w.heap.size, 2, none⟩ = some vS) := fun w' hb' => by
    have q := fun i => cell_of_row w' w.heap.size i _ _ _ ((hb'.block _ hza).trans hna)
    exact ⟨q 0, q 1, q 2⟩
  have HCe := Lib.hid hcells; have HBA := Lib.hid hba; have HWA := Lib.hid hwa
  have hha : NodesAt n wa (fun k => k < w.heap.size) _ l := h.keep fun j hj => hba.block j hj
  have HHv := Lib.hid (heavy_any n _ vE vA vS l E A S (fun k => k < w.heap.size) wa hha (fun k hk => Nat.lt_trans hk hza) (hp.later hba))
  have HKn := Lib.hid fun (w' : World) (hb : Below wa.heap.size wa w') => known_any20 w' (ht.later (below_on hba hb)) (hG.later (below_on hba hb))
  have HC := Lib.hid (show Ctx w vE vA vS E A S from ⟨hp, hG, ht⟩)
  have HC0 := Lib.hid fun (w' : World) (hb : Below w.heap.size w w') => show Ctx w' (.slice none 0 0) (.slice none 0 0) (.slice none 0 0) [] [] [] from ⟨none_pol w', hG.later hb, ht.later hb⟩
  have HH := Lib.hid h
  obtain ⟨p0, p1, p2⟩ := HCe.out wa (Below.refl _ _)
  clear h hp ht hG hba hna hcells hwa hha
  go_enter Tryz.func8, Tryz.ntmps8
  go_upto_region 1 with fail
  rw [HWA.out]
  go_wp2_with fail
  refine Calls.mono HHv.out ?_
  rintro e w1 ⟨hv, rfl, b1, hle⟩
  have HB1 := Lib.hid b1
  clear b1
  cases hv with
  | true =>
    go_wp2_with fail
    refine Calls.mono (HKn.out _ HB1.out) ?_
    rintro e w2 ⟨rfl, b2⟩
    have HB2 := Lib.hid (below_on HB1.out b2)
    clear b2
    go_wp2
    go_ret
    exact ⟨rfl, below_on HBA.out HB2.out⟩
  | false =>
    have hw := (hle rfl).1
    clear hle
    go_wp2_with fail
    refine Calls.mono (HKn.out _ HB1.out) ?_
    rintro e w2 ⟨rfl, b2⟩
    have hb2 := below_on HB1.out b2
    obtain ⟨p0, p1, p2⟩ := HCe.out w2 hb2
    have HB2 := Lib.hid hb2
    have hCl := clean_any [] [] [] n n (.slice none 0 0) (.slice none 0 0) (.slice none 0 0) _ l (fun k => k < w.heap.size) w w2 (Nat.le_refl _) (HC0.out w (Below.refl _ _)) HH.out (fun _ h => h) (below_on HBA.out hb2) (by omega)
    rw [kids_nothing [] [] n n zeroPl l rfl] at hCl
    have HCl := Lib.hid hCl
    clear b2 hb2 hCl
    go_wp2_with fail
    refine Calls.mono HCl.out ?_
    rintro e w3 ⟨v3, rfl, hk3, b3⟩
    have hb3 := below_on HB2.out b3
    obtain ⟨p0, p1, p2⟩ := HCe.out w3 hb3
    have HB3 := Lib.hid hb3
    have hk3' : NodesAt n w3 (fun k => k < w3.heap.size) v3 _ := NodesAt.mono (fun j hj => hj.2) n hk3
    have HK3 := Lib.hid hk3'
    have HY := Lib.hid (clean_any E A S n n vE vA vS _ l (fun k => k < w.heap.size) w w3 (Nat.le_refl _) HC.out HH.out (fun _ h => h) (below_on HBA.out hb3) (by omega))
    have hop := tacc_open hk3'
    clear b3 hb3 hk3 hk3'
    have hrest : ∀ (A3 : Option Addr) (m3 c3 : Nat), v3 = .slice A3 m3 c3 → m3 ≤ 1 → True := fun _ _ _ _ _ => trivial
    clear hrest
    rcases hop with ⟨A3, c3, rfl, _⟩ | ⟨_, ad3, c3, rfl, _, d0, _, _⟩
    all_goals
      go_wp2_with fail
      refine Calls.mono HY.out ?_
      rintro e w4 ⟨v4, rfl, hk4, b4⟩
      obtain ⟨A4, m4, c4, rfl⟩ := hk4.shape
      have hb4 := below_on HB3.out b4
      have HB4 := Lib.hid hb4
      have HB34 := Lib.hid b4
      have hk4' : NodesAt n w4 (fun k => k < w4.heap.size) _ _ := NodesAt.mono (fun j hj => hj.2) n hk4
      have hw4 : wt n (kidsN E A S n n 0 zeroPl l) ≤ 100000 := by have := kids_wt E A S n n 0 zeroPl l; omega
      have hZ := clean_any [] [] [] n n (.slice none 0 0) (.slice none 0 0) (.slice none 0 0) _ _ (fun k => k < w4.heap.size) w4 w4 (Nat.le_refl _) (HC0.out w4 (below_on HBA.out hb4)) hk4' (fun _ h => h) (Below.refl _ _) hw4
      rw [kids_nothing [] [] n n zeroPl _ rfl] at hZ
      have HZ := Lib.hid hZ
      clear b4 hb4 hk4 hk4' hZ hw4
      go_wp2_with fail
      refine Calls.mono HZ.out ?_
      rintro e w5 ⟨v5, rfl, hk5, b5⟩
      have hb5 := below_on HB4.out b5
      have hb35 := below_on HB34.out b5
      have hlz := kids_flat E A S n n 0 zeroPl l
      have hlx := flat_le n l
      have HX := Lib.hid (bare_tacc (w := w5) (NodesAt.keep (fun j hj => hb35.block j hj) n HK3.out) (by omega) (fun e => by subst e; rfl))
      have HZb := Lib.hid (bare_tacc hk5 (by omega) (fun e => by subst e; rfl))
      have HB5 := Lib.hid hb5
      have hle : ((⟨(flatL n (kidsN E A S n n 0 zeroPl l)).toArray⟩ : ByteArray).size : Int) ≤ ((⟨(flatL n l).toArray⟩ : ByteArray).size : Int) := by rw [size_list, size_list]; omega
      have hlen : decide ((⟨(flatL n (kidsN E A S n n 0 zeroPl l)).toArray⟩ : ByteArray).size ≤ (⟨(flatL n l).toArray⟩ : ByteArray).size) = true := by rw [size_list, size_list]; exact decide_eq_true hlz
      obtain ⟨X1, hX1⟩ : ∃ X1 : ByteArray, (⟨(flatL n (kidsN E A S n n 0 zeroPl l)).toArray⟩ : ByteArray) = X1 := ⟨_, rfl⟩
      obtain ⟨X2, hX2⟩ : ∃ X2 : ByteArray, (⟨(flatL n l).toArray⟩ : ByteArray) = X2 := ⟨_, rfl⟩
      unfold StrD at HX HZb
      rw [hX2] at HX
      rw [hX1] at HZb
      rw [hX1, hX2] at hle hlen
      have hop5 := tacc_open hk5
      clear b5 hb5 hb35 hk5 hlz hlx hX1 hX2
      rcases hop5 with ⟨A5, c5, rfl, _⟩ | ⟨_, ad5, c5, rfl, _, _, _, _⟩
      all_goals
        go_wp2_with fail
        refine Calls.mono HZb.out ?_
        rintro e w6 ⟨rfl, rfl⟩
        go_wp2_with fail
        refine Calls.mono HX.out ?_
        rintro e w7 ⟨rfl, rfl⟩
        go_wp2
        go_ret
        exact ⟨rfl, below_on HBA.out HB5.out⟩
end Go.Proofs.YtdkjenbncmedbaaGreatDoor
