/- url.Strip and the reference's Strip: what browsers leave out of an address falls. The reference's Strip. -/
import Derived.Test.YtdkjenbncmedbaaGreatDoorRepl4
import Derived.Test.YtdkjenbncmedbaaGreatDoorAcc
import Derived.Test.YtdkjenbncmedbaaGreatDoorTrim
import Derived.Test.YtdkjenbncmedbaaGreatDoorShelf
namespace Go.Proofs.YtdkjenbncmedbaaGreatDoor
open Go.RowKit

/-- What is asked of the package variables: utf8's tables, bytealg's MaxLen. -/
structure Glob (w : World) : Prop where
  tabs : Lib.Utf8Tabs 3 4 w
  maxLen : ∃ m, w.cell? ⟨2, 0, none⟩ = some (.int .i64 m)
theorem lt_cell {w : World} {a : Addr} {v : Value} (h : w.cell? a = some v) : a.block < w.heap.size := by
  rcases Nat.lt_or_ge a.block w.heap.size with h' | h'
  · exact h'
  · simp [World.cell?, Array.getElem?_eq_none h'] at h
theorem Glob.below {w w' : World} {B : Nat} (h : Glob w) (hb : Below B w w') (hB : w.heap.size ≤ B) : Glob w' := by
  have k : ∀ {a : Addr} {v : Value}, w.cell? a = some v → w'.cell? a = some v := fun hc => (hb.cell (Nat.lt_of_lt_of_le (lt_cell hc) hB)).trans hc
  obtain ⟨⟨t1, t2⟩, m, hm⟩ := h
  exact ⟨⟨fun c hc => k (t1 c hc), fun i hi => ⟨k (t2 i hi).1, k (t2 i hi).2⟩⟩, m, k hm⟩
theorem Glob.later {w w' : World} (h : Glob w) (hb : Below w.heap.size w w') : Glob w' := h.below hb (Nat.le_refl _)
theorem Glob.drew {w : World} (h : Glob w) : Glob w.drew := ⟨h.tabs, h.maxLen⟩
theorem Glob.drewN {w : World} (h : Glob w) (n : Nat) : Glob (w.drewN n) := ⟨h.tabs, h.maxLen⟩
theorem Glob.alloc {w : World} (h : Glob w) (o : Obj) : Glob (w.alloc o) := h.below ((Below.refl w.heap.size w).alloc (Nat.le_refl _) o) (Nat.le_refl _)

def keep3 (b : UInt8) : Bool := !(b == 9 || b == 10 || b == 13)
def strip (l : List UInt8) : List UInt8 := (rcut (lcut l)).filter keep3
theorem lcut_len (l : List UInt8) : (lcut l).length ≤ l.length := by
  unfold lcut
  induction l with
  | nil => exact Nat.le_refl _
  | cons b l ih =>
    rw [List.dropWhile_cons]
    split
    · rw [List.length_cons]; omega
    · exact Nat.le_refl _
theorem rcut_len (l : List UInt8) : (rcut l).length ≤ l.length := by
  have := lcut_len l.reverse
  unfold rcut
  rw [List.length_reverse]
  rw [List.length_reverse] at this
  exact this
theorem strip_len (l : List UInt8) : (strip l).length ≤ l.length :=
  Nat.le_trans (List.length_filter_le _ _) (Nat.le_trans (rcut_len _) (lcut_len _))

def stripPairs : List (UInt8 × ByteArray) := [(9, ⟨#[]⟩), (10, ⟨#[]⟩), (13, ⟨#[]⟩)]
theorem stripPairs_ok : Pairs stripPairs where
  pos := by decide
  few := by decide
  small := by decide
  notOne := by decide
  nodup := by decide
theorem repl_strip : ∀ l : List UInt8, repl stripPairs l = l.filter keep3
  | [] => rfl
  | b :: l => by
    rw [repl_cons, repl_strip l, List.filter_cons]
    unfold rep1 keep3 stripPairs
    simp only [tabv]
    by_cases h1 : (9 : UInt8) = b
    · subst h1; rfl
    · by_cases h2 : (10 : UInt8) = b
      · subst h2; rfl
      · by_cases h3 : (13 : UInt8) = b
        · subst h3; rfl
        · have e1 : (b == 9) = false := by rw [beq_eq_false_iff_ne]; exact fun e => h1 e.symm
          have e2 : (b == 10) = false := by rw [beq_eq_false_iff_ne]; exact fun e => h2 e.symm
          have e3 : (b == 13) = false := by rw [beq_eq_false_iff_ne]; exact fun e => h3 e.symm
          rw [if_neg h1, if_neg h2, if_neg h3, e1, e2, e3]
          rfl

theorem strip_pred (w : World) : PredAt Tryz.prog 104 #[] encR spR w := fun W r _ => by
  unfold FnGives
  by_cases h : r ≤ 32
  all_goals
    have z : (r : Int) ≤ 32 ↔ r ≤ 32 := by omega
    go_enter Tryz.func104, Tryz.ntmps104
    go_wp2
    go_ret
    exact ⟨by simp [spR, h], 0, rfl⟩

set_option maxHeartbeats 1000000 in
set_option maxRecDepth 100000 in
theorem strip_any (s : ByteArray) (w : World) (hG : Glob w) (hs : s.size ≤ 1099511627776) : Calls Tryz.prog 79 #[.string s] w (StrR w (strip s.data.toList)) := by
  obtain ⟨u, hu⟩ : ∃ u, Lib.trimF spR s = u := ⟨_, rfl⟩
  have hut := trim_sp s
  have ht := Tryz.strings_TrimFunc 104 #[] (enters_of Tryz.func104 (by kernel_rfl) rfl) spR s w (by omega) hG.tabs (strip_pred w)
  rw [hu] at hut ht
  have hus : u.size ≤ 1099511627776 := by
    have e1 : u.data.toList.length = u.size := Array.length_toList
    have e2 : s.data.toList.length = s.size := Array.length_toList
    have := rcut_len (lcut s.data.toList)
    have := lcut_len s.data.toList
    rw [hut] at e1
    omega
  have HUT := Lib.hid hut
  have HT := Lib.hid ht
  clear hut hu ht hG
  go_enter Tryz.func79, Tryz.ntmps79
  go_wp2_with fail
  refine Calls.mono HT.out ?_
  rintro e w1 ⟨rfl, b1⟩
  have HB1 := Lib.hid b1
  clear b1
  go_wp2_with fail
  refine Calls.mono (newReplacer_any stripPairs ⟨w1.heap.size, 0, none⟩ 6 6 _ rfl (by decide) (by decide) ?_) ?_
  · intro j v hj
    have h : (w1.alloc (.cells #[.string ⟨#[9]⟩, .string ⟨#[]⟩, .string ⟨#[10]⟩, .string ⟨#[]⟩, .string ⟨#[13]⟩, .string ⟨#[]⟩] 9)).heap[w1.heap.size]? = some (.cells (pairCells stripPairs).toArray 9 (0, 0)) := heap_alloc_new w1 _
    have e : (⟨w1.heap.size, 0, none⟩ : Addr).add j = ⟨w1.heap.size, j, none⟩ := by unfold Addr.add; split <;> simp_all
    rw [e, cell_of_row _ _ j _ _ _ h, List.getElem?_toArray]
    exact hj
  rintro e w2 h2
  obtain ⟨R, rfl, b2, hrep⟩ := repl_use stripPairs stripPairs_ok u _ hus h2
  have HR := Lib.hid hrep
  have HB2 := Lib.hid b2
  clear h2 hrep b2
  go_wp2_with fail
  refine Calls.mono HR.out ?_
  rintro e w3 ⟨rfl, b3⟩
  have hz : w1.heap.size + 1 ≤ w3.heap.size := by have := b3.size; simp at this; omega
  have HB3 := Lib.hid b3
  clear b3
  go_wp2
  go_ret
  refine ⟨?_, ?_⟩
  · rw [repl_strip, HUT.out]; rfl
  · have hal : Below w1.heap.size w1 (w1.alloc (.cells (pairCells stripPairs).toArray 9)) := (Below.refl _ _).alloc (Nat.le_refl _) _
    exact HB1.out.trans ((hal.trans (HB3.out.mono (by simp))).mono HB1.out.size)

theorem lcut_cons (b : UInt8) (r : List UInt8) : lcut (b :: r) = if b.toNat ≤ 32 then lcut r else b :: r := by
  unfold lcut
  rw [List.dropWhile_cons]
  unfold sp
  simp only [decide_eq_true_eq]
theorem rcut_snoc1 (a : List UInt8) (b : UInt8) : rcut (a ++ [b]) = if b.toNat ≤ 32 then rcut a else a ++ [b] := by
  unfold rcut
  rw [List.reverse_append, List.reverse_singleton, List.singleton_append, List.dropWhile_cons]
  unfold sp
  simp only [decide_eq_true_eq]
  split
  · rfl
  · rw [List.reverse_cons, List.reverse_reverse]
theorem lcut_str (u : ByteArray) (h : 0 < u.size) : lcut u.data.toList = if u[0].toNat ≤ 32 then lcut (u.extract 1 u.size).data.toList else u.data.toList := by
  have hl : u.data.toList.length = u.size := Array.length_toList
  have e : (u.extract 1 u.size).data.toList = u.data.toList.drop 1 := by
    rw [Lib.extract_data, List.take_of_length_le (by rw [List.length_drop]; omega)]
  have e2 : u.data.toList = u[0] :: u.data.toList.drop 1 := by
    have := List.drop_eq_getElem_cons (l := u.data.toList) (i := 0) (by omega)
    rw [List.drop_zero] at this
    exact this
  rw [e]
  conv => lhs; rw [e2]
  rw [lcut_cons]
  split
  · rfl
  · exact e2.symm
theorem rcut_str (u : ByteArray) (n : Nat) (h : u.size = n + 1) : rcut u.data.toList = if u[n].toNat ≤ 32 then rcut (u.extract 0 n).data.toList else u.data.toList := by
  have hl : u.data.toList.length = u.size := Array.length_toList
  have e : (u.extract 0 n).data.toList = u.data.toList.take n := by rw [Lib.extract_data]; simp
  have e2 : u.data.toList = u.data.toList.take n ++ [u[n]] := by
    have h1 := List.take_succ_eq_append_getElem (l := u.data.toList) (i := n) (by omega)
    rw [List.take_of_length_le (by omega)] at h1
    exact h1
  rw [e]
  conv => lhs; rw [e2]
  rw [rcut_snoc1]
  split
  · rfl
  · exact e2.symm
def strLen (v : Value) : Nat := match v with | .string u => u.size | _ => 0
def Cut1 (l : List UInt8) (n : Nat) (v : Value) : Prop := ∃ u : ByteArray, v = .string u ∧ lcut u.data.toList = lcut l ∧ u.size ≤ n
def Cut2 (l : List UInt8) (n : Nat) (v : Value) : Prop := ∃ u : ByteArray, v = .string u ∧ rcut u.data.toList = rcut (lcut l) ∧ u.size ≤ n

theorem filt_take (u : ByteArray) (k : Nat) (h : k < u.size) : (u.data.toList.take (k + 1)).filter keep3 = (u.data.toList.take k).filter keep3 ++ (if keep3 u[k] then [u[k]] else []) := by
  rw [List.take_succ_eq_append_getElem (by rw [Array.length_toList]; exact h), List.filter_append]
  show _ ++ List.filter keep3 [u[k]] = _
  rw [List.filter_cons, List.filter_nil]
theorem u8_ne {x c : UInt8} (h : x ≠ c) : ((x.toNat : Int) != (c.toNat : Int)) = true := by
  rw [bne_iff_ne]
  intro e
  exact h (UInt8.toNat_inj.1 (by omega))

set_option maxHeartbeats 4000000 in
set_option maxRecDepth 100000 in
theorem refstrip_any (s : ByteArray) (w : World) (hs : s.size ≤ 1099511627776) : Calls Tryz.prog 116 #[.string s] w (StrR w (strip s.data.toList)) := by
  go_enter Tryz.func116, Tryz.ntmps116
  go_wp2_with fail
  go_loop [0] (fun v => Cut1 s.data.toList s.size v) (fun v => strLen v)
  case atStart => exact ⟨s, rfl, rfl, Nat.le_refl _⟩
  case round =>
    obtain ⟨u, rfl, hu, hus⟩ := hrel
    by_cases hgo : ∃ h : 0 < u.size, u[0].toNat ≤ 32
    · obtain ⟨h0, h1⟩ := hgo
      have z0 : (0 : Int) < (u.size : Int) := by omega
      have z1 : ((u[0].toNat : Nat) : Int) ≤ 32 := by omega
      have hc := lcut_str u h0
      rw [if_pos h1, hu] at hc
      have HC := Lib.hid hc
      clear hc hu
      go_wp2
      go_round
      case rel => exact ⟨_, rfl, HC.out.symm, by rw [ByteArray.size_extract]; omega⟩
      case measure => simp only [strLen, ByteArray.size_extract]; omega
    · have hway : ¬ (0 < u.size) ∨ ∃ h : 0 < u.size, 32 < u[0].toNat := by
        by_cases h : 0 < u.size
        · exact .inr ⟨h, Nat.lt_of_not_le fun q => hgo ⟨h, q⟩⟩
        · exact .inl h
      have hue : u.data.toList = lcut s.data.toList := by
        rw [← hu]
        rcases hway with h | ⟨h, h1⟩
        · have hl : u.data.toList.length = u.size := Array.length_toList
          have : u.data.toList = [] := List.eq_nil_of_length_eq_zero (by omega)
          rw [this]; rfl
        · rw [lcut_str u h, if_neg (by omega)]
      have HUE := Lib.hid hue
      clear hue hu hgo
      rcases hway with h | ⟨h, h1⟩
      · have z0 : ¬ (0 : Int) < (u.size : Int) := by omega
        go_wp2_with fail
        go_loop [0] (fun v => Cut2 s.data.toList s.size v) (fun v => strLen v)
        case atStart => exact ⟨u, rfl, by rw [HUE.out], hus⟩
        case round =>
          obtain ⟨u, rfl, hu, hus⟩ := hrel
          clear HUE
          by_cases hgo : ∃ (n : Nat) (zk : n < u.size) (h : u.size = n + 1), (u[n]'zk).toNat ≤ 32
          · obtain ⟨n, zk, h0, h1⟩ := hgo
            have z0 : (0 : Int) < (u.size : Int) := by omega
            have zn : (u.size : Int) - 1 = (n : Int) := by omega
            have zm : (n : Int) < (u.size : Int) := by omega
            have z1 : ((u[n].toNat : Nat) : Int) ≤ 32 := by omega
            have hc := rcut_str u n h0
            rw [if_pos h1, hu] at hc
            have HC := Lib.hid hc
            have H0 := Lib.hid h0
            clear hc hu h0
            go_wp2
            go_round
            case rel => exact ⟨_, rfl, HC.out.symm, by rw [ByteArray.size_extract]; omega⟩
            case measure => simp only [strLen, ByteArray.size_extract]; have := H0.out; omega
          · have hway : u.size = 0 ∨ ∃ (n : Nat) (zk : n < u.size) (h : u.size = n + 1), 32 < (u[n]'zk).toNat := by
              rcases Nat.eq_zero_or_pos u.size with h | h
              · exact .inl h
              · have h2 : u.size = (u.size - 1) + 1 := by omega
                exact .inr ⟨u.size - 1, by omega, h2, Nat.lt_of_not_le fun q => hgo ⟨u.size - 1, by omega, h2, q⟩⟩
            have hue : u.data.toList = rcut (lcut s.data.toList) := by
              rw [← hu]
              rcases hway with h | ⟨n, zk, h, h1⟩
              · have : u.data.toList = [] := List.eq_nil_of_length_eq_zero (by rw [← h]; exact Array.length_toList)
                rw [this]; rfl
              · rw [rcut_str u n h, if_neg (by omega)]
            have HUE := Lib.hid hue
            clear hue hu hgo
            rcases hway with h | ⟨n, zk, h, h1⟩
            · have z0 : ¬ (0 : Int) < (u.size : Int) := by omega
              clear h
              go_wp2_with fail
              go_loopw [3, 4] (fun v i wr => AccW w (fun k => (u.data.toList.take k).filter keep3) u.size v i wr) (fun _ i _ => u.size - (intOf i).toNat)
              case atStart => exact ⟨0, rfl, Nat.zero_le _, Acc.start w⟩
              case round =>
                obtain ⟨k, rfl, hk, hacc⟩ := hrel
                obtain ⟨A, m, c, rfl⟩ := hacc.slice
                have hacc' : Acc w (.slice A m c) ((u.data.toList.take k).filter keep3) wr := hacc
                have HA := Lib.hid hacc'
                clear hacc hacc'
                by_cases hlt : k < u.size
                · exfalso; omega
                · obtain rfl : k = u.size := by omega
                  have hcv := HA.out.string
                  go_wp2
                  go_ret
                  refine ⟨?_, HA.out.below⟩
                  have e : u.data.toList.take u.size = u.data.toList := List.take_of_length_le (Nat.le_of_eq Array.length_toList)
                  rw [e, HUE.out]
                  rfl
            · have z0 : (0 : Int) < (u.size : Int) := by omega
              have zn : (u.size : Int) - 1 = (n : Int) := by omega
              have zm : (n : Int) < (u.size : Int) := by omega
              have z1 : ¬ ((u[n].toNat : Nat) : Int) ≤ 32 := by omega
              clear h
              go_wp2_with fail
              go_loopw [3, 4] (fun v i wr => AccW w (fun k => (u.data.toList.take k).filter keep3) u.size v i wr) (fun _ i _ => u.size - (intOf i).toNat)
              case atStart => exact ⟨0, rfl, Nat.zero_le _, Acc.start w⟩
              case round =>
                obtain ⟨k, rfl, hk, hacc⟩ := hrel
                obtain ⟨A, m, c, rfl⟩ := hacc.slice
                have hacc' : Acc w (.slice A m c) ((u.data.toList.take k).filter keep3) wr := hacc
                have HA := Lib.hid hacc'
                clear hacc hacc'
                by_cases hlt : k < u.size
                · obtain ⟨x, hx⟩ : ∃ x, u[k] = x := ⟨_, rfl⟩
                  have htt := filt_take u k hlt
                  rw [hx] at htt
                  have hki : (k : Int) < (u.size : Int) := by omega
                  by_cases hxe : x = 9
                  · have z9 : ((x.toNat : Int) != 9) = false := by rw [hxe]; rfl
                    have hk3 : keep3 x = false := by unfold keep3; rw [hxe]; rfl
                    rw [hk3] at htt
                    have HTT := Lib.hid htt
                    clear htt hk3 hxe
                    go_wp2
                    go_roundw
                    case rel =>
                      refine ⟨k + 1, by go_num, by omega, ?_⟩
                      show Acc w _ ((u.data.toList.take (k + 1)).filter keep3) _
                      rw [HTT.out]
                      simpa using HA.out
                    case measure => simp [intOf]; omega
                  · have z9 : ((x.toNat : Int) != 9) = true := u8_ne hxe
                    by_cases hxe2 : x = 10
                    · have z10 : ((x.toNat : Int) != 10) = false := by rw [hxe2]; rfl
                      have hk3 : keep3 x = false := by unfold keep3; rw [hxe2]; rfl
                      rw [hk3] at htt
                      have HTT := Lib.hid htt
                      clear htt hk3 hxe hxe2
                      go_wp2
                      go_roundw
                      case rel =>
                        refine ⟨k + 1, by go_num, by omega, ?_⟩
                        show Acc w _ ((u.data.toList.take (k + 1)).filter keep3) _
                        rw [HTT.out]
                        simpa using HA.out
                      case measure => simp [intOf]; omega
                    · have z10 : ((x.toNat : Int) != 10) = true := u8_ne hxe2
                      by_cases hxe3 : x = 13
                      · have z13 : ((x.toNat : Int) != 13) = false := by rw [hxe3]; rfl
                        have hk3 : keep3 x = false := by unfold keep3; rw [hxe3]; rfl
                        rw [hk3] at htt
                        have HTT := Lib.hid htt
                        clear htt hk3 hxe hxe2 hxe3
                        go_wp2
                        go_roundw
                        case rel =>
                          refine ⟨k + 1, by go_num, by omega, ?_⟩
                          show Acc w _ ((u.data.toList.take (k + 1)).filter keep3) _
                          rw [HTT.out]
                          simpa using HA.out
                        case measure => simp [intOf]; omega
                      · have z13 : ((x.toNat : Int) != 13) = true := u8_ne hxe3
                        have hk3 : keep3 x = true := by unfold keep3; simp [hxe, hxe2, hxe3]
                        rw [hk3] at htt
                        have hll : ((u.data.toList.take k).filter keep3).length ≤ k := Nat.le_trans (List.length_filter_le _ _) (List.length_take_le _ _)
                        have HTT := Lib.hid htt
                        clear htt hk3 hxe hxe2 hxe3
                        obtain ⟨i0, hi, hz0, hz1, hz2⟩ := info_parts acc_byte
                        go_wp2_with (at_builtin; refine wpList_append_own_at _ rfl _ _ 105 rfl w.heap.size 5 i0 _ 1 1 Tryz.underlying105 hi hz0 hz1 hz2 rfl (by decide) _ _ _ rfl (HA.out.1.alloc (.cells #[.int .u8 (x.toNat : Int)] 5)) ⟨wr.heap.size, 0, none⟩ 1 1 [.int .u8 (x.toNat : Int)] rfl rfl (cell_one_new _ _ _) (by intro u hu; rw [List.mem_singleton.1 hu]; rfl) (by unfold maxLen; omega) (by omega) (by have := HA.out.2.size; simp; omega) ?_)
                        intro v' W1 hown hg _ _
                        have hst := Acc.step (xs := [x]) (HA.out.alloc (.cells #[.int .u8 (x.toNat : Int)] 5)) hg hown (by rw [List.length_append]; rfl) (by rw [List.map_append]; rfl)
                        have HST := Lib.hid hst
                        clear hst hown hg
                        go_wp2
                        go_roundw
                        case rel =>
                          refine ⟨k + 1, by go_num, by omega, ?_⟩
                          show Acc w _ ((u.data.toList.take (k + 1)).filter keep3) _
                          rw [HTT.out]
                          exact HST.out
                        case measure => simp [intOf]; omega
                · obtain rfl : k = u.size := by omega
                  have hcv := HA.out.string
                  go_wp2
                  go_ret
                  refine ⟨?_, HA.out.below⟩
                  have e : u.data.toList.take u.size = u.data.toList := List.take_of_length_le (Nat.le_of_eq Array.length_toList)
                  rw [e, HUE.out]
                  rfl
      · have z0 : (0 : Int) < (u.size : Int) := by omega
        have z1 : ¬ ((u[0].toNat : Nat) : Int) ≤ 32 := by omega
        go_wp2_with fail
        go_loop [0] (fun v => Cut2 s.data.toList s.size v) (fun v => strLen v)
        case atStart => exact ⟨u, rfl, by rw [HUE.out], hus⟩
        case round =>
          obtain ⟨u, rfl, hu, hus⟩ := hrel
          clear HUE
          by_cases hgo : ∃ (n : Nat) (zk : n < u.size) (h : u.size = n + 1), (u[n]'zk).toNat ≤ 32
          · obtain ⟨n, zk, h0, h1⟩ := hgo
            have z0 : (0 : Int) < (u.size : Int) := by omega
            have zn : (u.size : Int) - 1 = (n : Int) := by omega
            have zm : (n : Int) < (u.size : Int) := by omega
            have z1 : ((u[n].toNat : Nat) : Int) ≤ 32 := by omega
            have hc := rcut_str u n h0
            rw [if_pos h1, hu] at hc
            have HC := Lib.hid hc
            have H0 := Lib.hid h0
            clear hc hu h0
            go_wp2
            go_round
            case rel => exact ⟨_, rfl, HC.out.symm, by rw [ByteArray.size_extract]; omega⟩
            case measure => simp only [strLen, ByteArray.size_extract]; have := H0.out; omega
          · have hway : u.size = 0 ∨ ∃ (n : Nat) (zk : n < u.size) (h : u.size = n + 1), 32 < (u[n]'zk).toNat := by
              rcases Nat.eq_zero_or_pos u.size with h | h
              · exact .inl h
              · have h2 : u.size = (u.size - 1) + 1 := by omega
                exact .inr ⟨u.size - 1, by omega, h2, Nat.lt_of_not_le fun q => hgo ⟨u.size - 1, by omega, h2, q⟩⟩
            have hue : u.data.toList = rcut (lcut s.data.toList) := by
              rw [← hu]
              rcases hway with h | ⟨n, zk, h, h1⟩
              · have : u.data.toList = [] := List.eq_nil_of_length_eq_zero (by rw [← h]; exact Array.length_toList)
                rw [this]; rfl
              · rw [rcut_str u n h, if_neg (by omega)]
            have HUE := Lib.hid hue
            clear hue hu hgo
            rcases hway with h | ⟨n, zk, h, h1⟩
            · have z0 : ¬ (0 : Int) < (u.size : Int) := by omega
              clear h
              go_wp2_with fail
              go_loopw [3, 4] (fun v i wr => AccW w (fun k => (u.data.toList.take k).filter keep3) u.size v i wr) (fun _ i _ => u.size - (intOf i).toNat)
              case atStart => exact ⟨0, rfl, Nat.zero_le _, Acc.start w⟩
              case round =>
                obtain ⟨k, rfl, hk, hacc⟩ := hrel
                obtain ⟨A, m, c, rfl⟩ := hacc.slice
                have hacc' : Acc w (.slice A m c) ((u.data.toList.take k).filter keep3) wr := hacc
                have HA := Lib.hid hacc'
                clear hacc hacc'
                by_cases hlt : k < u.size
                · exfalso; omega
                · obtain rfl : k = u.size := by omega
                  have hcv := HA.out.string
                  go_wp2
                  go_ret
                  refine ⟨?_, HA.out.below⟩
                  have e : u.data.toList.take u.size = u.data.toList := List.take_of_length_le (Nat.le_of_eq Array.length_toList)
                  rw [e, HUE.out]
                  rfl
            · have z0 : (0 : Int) < (u.size : Int) := by omega
              have zn : (u.size : Int) - 1 = (n : Int) := by omega
              have zm : (n : Int) < (u.size : Int) := by omega
              have z1 : ¬ ((u[n].toNat : Nat) : Int) ≤ 32 := by omega
              clear h
              go_wp2_with fail
              go_loopw [3, 4] (fun v i wr => AccW w (fun k => (u.data.toList.take k).filter keep3) u.size v i wr) (fun _ i _ => u.size - (intOf i).toNat)
              case atStart => exact ⟨0, rfl, Nat.zero_le _, Acc.start w⟩
              case round =>
                obtain ⟨k, rfl, hk, hacc⟩ := hrel
                obtain ⟨A, m, c, rfl⟩ := hacc.slice
                have hacc' : Acc w (.slice A m c) ((u.data.toList.take k).filter keep3) wr := hacc
                have HA := Lib.hid hacc'
                clear hacc hacc'
                by_cases hlt : k < u.size
                · obtain ⟨x, hx⟩ : ∃ x, u[k] = x := ⟨_, rfl⟩
                  have htt := filt_take u k hlt
                  rw [hx] at htt
                  have hki : (k : Int) < (u.size : Int) := by omega
                  by_cases hxe : x = 9
                  · have z9 : ((x.toNat : Int) != 9) = false := by rw [hxe]; rfl
                    have hk3 : keep3 x = false := by unfold keep3; rw [hxe]; rfl
                    rw [hk3] at htt
                    have HTT := Lib.hid htt
                    clear htt hk3 hxe
                    go_wp2
                    go_roundw
                    case rel =>
                      refine ⟨k + 1, by go_num, by omega, ?_⟩
                      show Acc w _ ((u.data.toList.take (k + 1)).filter keep3) _
                      rw [HTT.out]
                      simpa using HA.out
                    case measure => simp [intOf]; omega
                  · have z9 : ((x.toNat : Int) != 9) = true := u8_ne hxe
                    by_cases hxe2 : x = 10
                    · have z10 : ((x.toNat : Int) != 10) = false := by rw [hxe2]; rfl
                      have hk3 : keep3 x = false := by unfold keep3; rw [hxe2]; rfl
                      rw [hk3] at htt
                      have HTT := Lib.hid htt
                      clear htt hk3 hxe hxe2
                      go_wp2
                      go_roundw
                      case rel =>
                        refine ⟨k + 1, by go_num, by omega, ?_⟩
                        show Acc w _ ((u.data.toList.take (k + 1)).filter keep3) _
                        rw [HTT.out]
                        simpa using HA.out
                      case measure => simp [intOf]; omega
                    · have z10 : ((x.toNat : Int) != 10) = true := u8_ne hxe2
                      by_cases hxe3 : x = 13
                      · have z13 : ((x.toNat : Int) != 13) = false := by rw [hxe3]; rfl
                        have hk3 : keep3 x = false := by unfold keep3; rw [hxe3]; rfl
                        rw [hk3] at htt
                        have HTT := Lib.hid htt
                        clear htt hk3 hxe hxe2 hxe3
                        go_wp2
                        go_roundw
                        case rel =>
                          refine ⟨k + 1, by go_num, by omega, ?_⟩
                          show Acc w _ ((u.data.toList.take (k + 1)).filter keep3) _
                          rw [HTT.out]
                          simpa using HA.out
                        case measure => simp [intOf]; omega
                      · have z13 : ((x.toNat : Int) != 13) = true := u8_ne hxe3
                        have hk3 : keep3 x = true := by unfold keep3; simp [hxe, hxe2, hxe3]
                        rw [hk3] at htt
                        have hll : ((u.data.toList.take k).filter keep3).length ≤ k := Nat.le_trans (List.length_filter_le _ _) (List.length_take_le _ _)
                        have HTT := Lib.hid htt
                        clear htt hk3 hxe hxe2 hxe3
                        obtain ⟨i0, hi, hz0, hz1, hz2⟩ := info_parts acc_byte
                        go_wp2_with (at_builtin; refine wpList_append_own_at _ rfl _ _ 105 rfl w.heap.size 5 i0 _ 1 1 Tryz.underlying105 hi hz0 hz1 hz2 rfl (by decide) _ _ _ rfl (HA.out.1.alloc (.cells #[.int .u8 (x.toNat : Int)] 5)) ⟨wr.heap.size, 0, none⟩ 1 1 [.int .u8 (x.toNat : Int)] rfl rfl (cell_one_new _ _ _) (by intro u hu; rw [List.mem_singleton.1 hu]; rfl) (by unfold maxLen; omega) (by omega) (by have := HA.out.2.size; simp; omega) ?_)
                        intro v' W1 hown hg _ _
                        have hst := Acc.step (xs := [x]) (HA.out.alloc (.cells #[.int .u8 (x.toNat : Int)] 5)) hg hown (by rw [List.length_append]; rfl) (by rw [List.map_append]; rfl)
                        have HST := Lib.hid hst
                        clear hst hown hg
                        go_wp2
                        go_roundw
                        case rel =>
                          refine ⟨k + 1, by go_num, by omega, ?_⟩
                          show Acc w _ ((u.data.toList.take (k + 1)).filter keep3) _
                          rw [HTT.out]
                          exact HST.out
                        case measure => simp [intOf]; omega
                · obtain rfl : k = u.size := by omega
                  have hcv := HA.out.string
                  go_wp2
                  go_ret
                  refine ⟨?_, HA.out.below⟩
                  have e : u.data.toList.take u.size = u.data.toList := List.take_of_length_le (Nat.le_of_eq Array.length_toList)
                  rw [e, HUE.out]
                  rfl
end Go.Proofs.YtdkjenbncmedbaaGreatDoor
