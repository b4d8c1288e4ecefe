/- tympanref30: a title, inlines as HTML: what lower.Inlines gives. -/
import Derived.Test.YtibaoocklempnaaGreatDoorLowInl
import Derived.Test.YtibaoocklempnaaGreatDoorRefEscape
import Derived.Deep.RegionHeld3
namespace Go.Proofs.YtibaoocklempnaaGreatDoor
open Go.RowKit

theorem reftitle_any (t : ByteArray) (w : World) (ht : t.size ≤ 1099511627776) : Calls Tryz.prog 65 #[.string t] w fun e w' => e = .returned (.string ⟨(titleOut t).toArray⟩) ∧ w = w' := by
  by_cases h0 : t.data.toList = []
  · have hto : titleOut t = [] := by unfold titleOut; rw [if_pos h0]
    rw [hto]
    have hs1 : t.toList = [] := by rw [ByteArray.toList_eq]; exact h0
    have hs2 : t.toList.isEmpty = true := by rw [hs1]; rfl
    clear hto h0
    go_enter Tryz.func65, Tryz.ntmps65
    go_wp2
    go_ret
    exact ⟨rfl, rfl⟩
  · have hto : titleOut t = cat [⟨#[32, 116, 105, 116, 108, 101, 61, 34]⟩, cs (lowT t.data.toList), ⟨#[34]⟩] := by unfold titleOut; rw [if_neg h0]
    have hs1 : ¬ t.toList = [] := by rw [ByteArray.toList_eq]; exact h0
    have hs2 : t.toList.isEmpty = false := by
      cases h : t.toList with
      | nil => exact absurd h hs1
      | cons a r => rfl
    have hsz := low_cs t
    obtain ⟨T, hT⟩ : ∃ T : ByteArray, cs (lowT t.data.toList) = T := ⟨_, rfl⟩
    rw [hT] at hsz hto
    have hq1 : ¬ (9223372036854775807 < 8 + T.size) := by omega
    have hq2 : ¬ (9223372036854775807 < 8 + T.size + 1) := by omega
    have HT := Lib.hid (show (⟨(lowT t.data.toList).toArray⟩ : ByteArray) = T from hT)
    rw [hto]
    clear hto h0 hT
    go_enter Tryz.func65, Tryz.ntmps65
    go_wp2_with fail
    refine Calls.mono (reflowText_any t _ (by omega)) ?_
    rintro e w1 ⟨rfl, rfl⟩
    rw [HT.out]
    go_wp2
    go_ret
    refine ⟨?_, rfl⟩
    rw [str_mk (⟨#[32, 116, 105, 116, 108, 101, 61, 34]⟩ ++ T ++ ⟨#[34]⟩) (cat [⟨#[32, 116, 105, 116, 108, 101, 61, 34]⟩, T, ⟨#[34]⟩]) (by rw [lt_add, lt_add]; simp [cat])]
    rfl

def RInlR (w : World) (n : Nat) (l : List (IT n)) (e : Ending) (w' : World) : Prop := e = .returned (.string ⟨(inlOut n l).toArray⟩) ∧ Below w.heap.size w w'
def RInlW (w : World) (n : Nat) (l : List (IT (n + 1))) (v i : Value) (wr : World) : Prop :=
  ∃ (k : Nat) (X : ByteArray), i = .int .i64 k ∧ v = .string X ∧ k ≤ l.length ∧ Hid (X.data.toList = inlOut (n + 1) (l.take k)) ∧ Below w.heap.size w wr

theorem bs_step {g n : Nat} {dest title : ByteArray} {v : Value} {w W W1 : World} (h : (W).cell? ⟨g, 2, none⟩ = some (.string dest) ∧ (W).cell? ⟨g, 3, none⟩ = some (.string title) ∧ (W).cell? ⟨g, 4, none⟩ = some v ∧ Below n w (W) ∧ g < (W).heap.size ∧ n ≤ (W).heap.size) (hb : Below W.heap.size W W1) : (W1).cell? ⟨g, 2, none⟩ = some (.string dest) ∧ (W1).cell? ⟨g, 3, none⟩ = some (.string title) ∧ (W1).cell? ⟨g, 4, none⟩ = some v ∧ Below n w (W1) ∧ g < (W1).heap.size ∧ n ≤ (W1).heap.size := by
  obtain ⟨h1, h2, h3, h4, h5, h6⟩ := h
  have hz := hb.size
  exact ⟨(hb.cell (p := ⟨g, 2, none⟩) h5).trans h1, (hb.cell (p := ⟨g, 3, none⟩) h5).trans h2, (hb.cell (p := ⟨g, 4, none⟩) h5).trans h3, h4.trans (hb.mono h6), by omega, by omega⟩
theorem bs_drew {g n : Nat} {dest title : ByteArray} {v : Value} {w W : World} (h : (W).cell? ⟨g, 2, none⟩ = some (.string dest) ∧ (W).cell? ⟨g, 3, none⟩ = some (.string title) ∧ (W).cell? ⟨g, 4, none⟩ = some v ∧ Below n w (W) ∧ g < (W).heap.size ∧ n ≤ (W).heap.size) : (W.drew).cell? ⟨g, 2, none⟩ = some (.string dest) ∧ (W.drew).cell? ⟨g, 3, none⟩ = some (.string title) ∧ (W.drew).cell? ⟨g, 4, none⟩ = some v ∧ Below n w (W.drew) ∧ g < (W.drew).heap.size ∧ n ≤ (W.drew).heap.size := ⟨h.1, h.2.1, h.2.2.1, h.2.2.2.1.drew, h.2.2.2.2.1, h.2.2.2.2.2⟩
theorem bs_below {g n : Nat} {dest title : ByteArray} {v : Value} {w W : World} (h : (W).cell? ⟨g, 2, none⟩ = some (.string dest) ∧ (W).cell? ⟨g, 3, none⟩ = some (.string title) ∧ (W).cell? ⟨g, 4, none⟩ = some v ∧ Below n w (W) ∧ g < (W).heap.size ∧ n ≤ (W).heap.size) : Below n w W := h.2.2.2.1
theorem bs_new {n : Nat} {dest title : ByteArray} {u0 u1 v : Value} {w wr : World} (h : Below n w wr) (hn : n ≤ wr.heap.size) : (wr.alloc (.cells #[u0, u1, .string dest, .string title, v] 80)).cell? ⟨wr.heap.size, 2, none⟩ = some (.string dest) ∧ (wr.alloc (.cells #[u0, u1, .string dest, .string title, v] 80)).cell? ⟨wr.heap.size, 3, none⟩ = some (.string title) ∧ (wr.alloc (.cells #[u0, u1, .string dest, .string title, v] 80)).cell? ⟨wr.heap.size, 4, none⟩ = some v ∧ Below n w (wr.alloc (.cells #[u0, u1, .string dest, .string title, v] 80)) ∧ wr.heap.size < (wr.alloc (.cells #[u0, u1, .string dest, .string title, v] 80)).heap.size ∧ n ≤ (wr.alloc (.cells #[u0, u1, .string dest, .string title, v] 80)).heap.size := by
  have hx := Box.new wr 80 #[u0, u1, .string dest, .string title, v]
  exact ⟨hx.cell 2, hx.cell 3, hx.cell 4, h.alloc hn _, by simp, by simp; omega⟩

set_option maxHeartbeats 40000000 in
set_option maxRecDepth 100000 in
theorem refinlines_any (n : Nat) : ∀ (v : Value) (l : List (IT n)) (S : Nat → Prop) (w : World), InlsAt n w S v l → (∀ k, S k → k < w.heap.size) → iwt n l ≤ 1000000 → Calls Tryz.prog 29 #[v] w (RInlR w n l) := by
  induction n with
  | zero =>
    intro v l S w h hS hw
    obtain ⟨A, c, rfl⟩ := h.none_
    go_enter Tryz.func29, Tryz.ntmps29
    go_wp2
    refine wp_loop_rounds 1 ?_
    rw [rounds_succ]
    go_wp2
    go_ret
    exact ⟨rfl, Below.refl _ _⟩
  | succ n ih =>
    intro v l S w h hS hw
    have hlw := iwt_len n l
    have hlo := inlOut_le (n + 1) l
    obtain ⟨A, c, rfl, hl, hget⟩ := h.get
    have HG := Lib.hid hget
    have IH := Lib.hid ih
    have HS := Lib.hid hS
    clear hget h ih hS
    go_enter Tryz.func29, Tryz.ntmps29
    go_wp2_with fail
    go_loopw [3, 4] (fun v i wr => RInlW w n l v i wr) (fun _ i _ => l.length - (intOf i).toNat)
    case atStart => exact ⟨0, ⟨#[]⟩, rfl, rfl, Nat.zero_le _, rfl, Below.refl _ _⟩
    case round =>
      obtain ⟨k, X, rfl, rfl, hk, HX, hbw⟩ := hrel
      have hws := hbw.size
      by_cases hlt : k < l.length
      · obtain ⟨ad, vk, hA, hkids, htx, hds, htl, hki, hbl, c0, c1, c2, c3, c4⟩ := HG.out k hlt
        subst hA
        obtain ⟨A3, m3, c3x, rfl⟩ := hkids.shape
        have hbl2 := HS.out _ hbl
        have q : ∀ j : Nat, wr.cell? ⟨(ad.add (k * 5)).block, j, none⟩ = w.cell? ⟨(ad.add (k * 5)).block, j, none⟩ := fun j => hbw.cell (by rw [block_of_add]; exact hbl2)
        have d0 := (hbw.cell (p := ad.add (k * 5)) (by rw [block_of_add]; exact hbl2)).trans c0
        have d1 := (q _).trans c1
        have d2 := (q _).trans c2
        have d3 := (q _).trans c3
        have d4 := (q _).trans c4
        have hup := iwt_upto n l k hlt
        have hpo := inlOut_le (n + 1) (l.take k)
        have htk := inlOut_take n l k hlt
        have hxs := HX.out
        have hiy := inlOut_le n (InlD.kids l[k])
        have hip := plainOut_le n (InlD.kids l[k])
        have hk1 : inl1 (inlOut n) (plainOut n) l[k] = inlK (InlD.kind l[k]) (InlD.text l[k]) (InlD.dest l[k]) (InlD.title l[k]) (inlOut n (InlD.kids l[k])) (plainOut n (InlD.kids l[k])) := rfl
        rw [hk1] at htk
        obtain ⟨kd, hkd⟩ : ∃ kd, InlD.kind l[k] = kd := ⟨_, rfl⟩
        obtain ⟨tx, htxe⟩ : ∃ tx, InlD.text l[k] = tx := ⟨_, rfl⟩
        obtain ⟨dest, hdse⟩ : ∃ dest, InlD.dest l[k] = dest := ⟨_, rfl⟩
        obtain ⟨title, htte⟩ : ∃ title, InlD.title l[k] = title := ⟨_, rfl⟩
        obtain ⟨kids, hkde⟩ : ∃ kids, InlD.kids l[k] = kids := ⟨_, rfl⟩
        rw [hkd, htxe, hdse, htte, hkde] at htk
        rw [← hxs] at htk hpo
        rw [len_list] at hpo
        rw [hkd] at d0 hki
        rw [htxe] at d1 htx hup
        rw [hdse] at d2 hds hup
        rw [htte] at d3 htl hup
        rw [hkde] at hkids hup hiy hip
        obtain ⟨Y, hY⟩ : ∃ Y : ByteArray, (⟨(inlOut n kids).toArray⟩ : ByteArray) = Y := ⟨_, rfl⟩
        have hYl : Y.data.toList = inlOut n kids := by rw [← hY]
        obtain ⟨P, hP⟩ : ∃ P : ByteArray, (⟨(plainOut n kids).toArray⟩ : ByteArray) = P := ⟨_, rfl⟩
        have hPl : P.data.toList = plainOut n kids := by rw [← hP]
        rw [← hYl, len_list] at hiy
        rw [← hPl, len_list] at hip
        obtain ⟨T, hT⟩ : ∃ T : ByteArray, cs (lowT tx.data.toList) = T := ⟨_, rfl⟩
        obtain ⟨E, hE⟩ : ∃ E : ByteArray, (⟨(escape dest.data.toList).toArray⟩ : ByteArray) = E := ⟨_, rfl⟩
        have hEl : E.data.toList = escape dest.data.toList := by rw [← hE]
        obtain ⟨TE, hTE⟩ : ∃ TE : ByteArray, cs (lowT E.data.toList) = TE := ⟨_, rfl⟩
        obtain ⟨TP, hTP⟩ : ∃ TP : ByteArray, cs (lowT P.data.toList) = TP := ⟨_, rfl⟩
        obtain ⟨TT, hTT⟩ : ∃ TT : ByteArray, cs (titleOut title) = TT := ⟨_, rfl⟩
        have sT := low_cs tx
        have sE : E.size ≤ 3 * dest.size := by
          have := escape_le dest.data.toList
          rw [← len_list, hEl]
          rw [len_list] at this
          exact this
        have sTE := low_cs E
        have sTP := low_cs P
        have sTT := titleOut_le title
        rw [← cs_size, hTT] at sTT
        rw [hT] at sT
        rw [hTE] at sTE
        rw [hTP] at sTP
        have e1 : tx.size ≤ 10000000 := by omega
        have e2 : dest.size ≤ 10000000 := by omega
        have e3 : title.size ≤ 10000000 := by omega
        have e4 : P.size ≤ 10000000 := by omega
        have e5 : Y.size ≤ 300000000 := by omega
        have e6 : X.size ≤ 1000000000 := by omega
        have HK := Lib.hid hkids
        have HTK := Lib.hid htk
        have HUP := Lib.hid hup
        have HY := Lib.hid hY
        have HYL := Lib.hid hYl
        have HP := Lib.hid hP
        have HPL := Lib.hid hPl
        have HT := Lib.hid (show (⟨(lowT tx.data.toList).toArray⟩ : ByteArray) = T from hT)
        have HE := Lib.hid hE
        have HEL := Lib.hid hEl
        have HTE := Lib.hid (show (⟨(lowT E.data.toList).toArray⟩ : ByteArray) = TE from hTE)
        have HTP := Lib.hid (show (⟨(lowT P.data.toList).toArray⟩ : ByteArray) = TP from hTP)
        have HTT := Lib.hid (show (⟨(titleOut title).toArray⟩ : ByteArray) = TT from hTT)
        have HOLD : Hid (∀ (o : Obj) (b : Nat), b < w.heap.size → (wr.alloc o).heap[b]? = w.heap[b]?) := fun o b hb => (Below.heap_alloc _ _ _ (by omega)).trans (hbw.block b hb)
        clear hkids htk hup c0 c1 c2 c3 c4 q hkd htxe hdse htte hkde hxs hY hYl hP hPl hT hE hEl hTE hTP hTT hk1 hpo hiy hip hds htl htx
        by_cases k1 : kd = 1
        · subst k1
          have hout : inlOut (n + 1) (l.take (k + 1)) = (X ++ T).data.toList := by
            rw [HTK.out]
            show _ ++ cat [cs (lowT tx.data.toList)] = _
            simp only [lt_add, ← HT.out, ← HTE.out, ← HTP.out, ← HTT.out, HYL.out, HPL.out, List.append_assoc]
            simp [cat, cs]
          have hs0 : ¬ (9223372036854775807 < X.size + T.size) := by omega
          have HOUT := Lib.hid hout
          clear hout 
          go_wp2_with fail
          refine Calls.mono (reflowText_any tx _ (by omega)) ?_
          rintro e w1 ⟨rfl, rfl⟩
          rw [HT.out]
          go_wp2
          go_roundw
          case rel => exact ⟨k + 1, _, by go_num, rfl, hlt, Lib.hid HOUT.out.symm, hbw.alloc hws _⟩
          case measure => simp [intOf]; omega
        by_cases k2 : kd = 2
        · subst k2
          have hout : inlOut (n + 1) (l.take (k + 1)) = (X ++ ⟨#[60, 99, 111, 100, 101, 62]⟩ ++ T ++ ⟨#[60, 47, 99, 111, 100, 101, 62]⟩).data.toList := by
            rw [HTK.out]
            show _ ++ cat [⟨#[60, 99, 111, 100, 101, 62]⟩, cs (lowT tx.data.toList), ⟨#[60, 47, 99, 111, 100, 101, 62]⟩] = _
            simp only [lt_add, ← HT.out, ← HTE.out, ← HTP.out, ← HTT.out, HYL.out, HPL.out, List.append_assoc]
            simp [cat, cs]
          have hs0 : ¬ (9223372036854775807 < X.size + 6) := by omega
          have hs1 : ¬ (9223372036854775807 < X.size + 6 + T.size) := by omega
          have hs2 : ¬ (9223372036854775807 < X.size + 6 + T.size + 7) := by omega
          have HOUT := Lib.hid hout
          clear hout k1
          go_wp2_with fail
          refine Calls.mono (reflowText_any tx _ (by omega)) ?_
          rintro e w1 ⟨rfl, rfl⟩
          rw [HT.out]
          go_wp2
          go_roundw
          case rel => exact ⟨k + 1, _, by go_num, rfl, hlt, Lib.hid HOUT.out.symm, hbw.alloc hws _⟩
          case measure => simp [intOf]; omega
        by_cases k3 : kd = 3
        · subst k3
          have hout : inlOut (n + 1) (l.take (k + 1)) = (X ++ ⟨#[60, 101, 109, 62]⟩ ++ Y ++ ⟨#[60, 47, 101, 109, 62]⟩).data.toList := by
            rw [HTK.out]
            show _ ++ aroundOut ⟨#[101, 109]⟩ (inlOut n kids) = _
            simp only [lt_add, ← HT.out, ← HTE.out, ← HTP.out, ← HTT.out, HYL.out, HPL.out, List.append_assoc]
            simp [aroundOut, cat, cs]
          have hs0 : ¬ (9223372036854775807 < X.size + 4) := by omega
          have hs1 : ¬ (9223372036854775807 < X.size + 4 + Y.size) := by omega
          have hs2 : ¬ (9223372036854775807 < X.size + 4 + Y.size + 5) := by omega
          have HOUT := Lib.hid hout
          clear hout k1 k2
          go_wp2_with fail
          refine Calls.mono (IH.out _ kids S _ (InlsAt.keep (fun b hb => HOLD.out _ b (HS.out b hb)) n HK.out) (fun b hb => by have := HS.out b hb; simp; omega) (by have := HUP.out; omega)) ?_
          rintro e w1 ⟨rfl, b1⟩
          rw [HY.out]
          have HB1 := Lib.hid b1
          clear b1
          go_wp2
          go_roundw
          case rel => exact ⟨k + 1, _, by go_num, rfl, hlt, Lib.hid HOUT.out.symm, (hbw.alloc hws _).trans (HB1.out.mono (by simp; omega))⟩
          case measure => simp [intOf]; omega
        by_cases k4 : kd = 4
        · subst k4
          have hout : inlOut (n + 1) (l.take (k + 1)) = (X ++ ⟨#[60, 115, 116, 114, 111, 110, 103, 62]⟩ ++ Y ++ ⟨#[60, 47, 115, 116, 114, 111, 110, 103, 62]⟩).data.toList := by
            rw [HTK.out]
            show _ ++ aroundOut ⟨#[115, 116, 114, 111, 110, 103]⟩ (inlOut n kids) = _
            simp only [lt_add, ← HT.out, ← HTE.out, ← HTP.out, ← HTT.out, HYL.out, HPL.out, List.append_assoc]
            simp [aroundOut, cat, cs]
          have hs0 : ¬ (9223372036854775807 < X.size + 8) := by omega
          have hs1 : ¬ (9223372036854775807 < X.size + 8 + Y.size) := by omega
          have hs2 : ¬ (9223372036854775807 < X.size + 8 + Y.size + 9) := by omega
          have HOUT := Lib.hid hout
          clear hout k1 k2 k3
          go_wp2_with fail
          refine Calls.mono (IH.out _ kids S _ (InlsAt.keep (fun b hb => HOLD.out _ b (HS.out b hb)) n HK.out) (fun b hb => by have := HS.out b hb; simp; omega) (by have := HUP.out; omega)) ?_
          rintro e w1 ⟨rfl, b1⟩
          rw [HY.out]
          have HB1 := Lib.hid b1
          clear b1
          go_wp2
          go_roundw
          case rel => exact ⟨k + 1, _, by go_num, rfl, hlt, Lib.hid HOUT.out.symm, (hbw.alloc hws _).trans (HB1.out.mono (by simp; omega))⟩
          case measure => simp [intOf]; omega
        by_cases k5 : kd = 5
        · subst k5
          have hout : inlOut (n + 1) (l.take (k + 1)) = (X ++ ⟨#[60, 97, 32, 104, 114, 101, 102, 61, 34]⟩ ++ TE ++ ⟨#[34]⟩ ++ TT ++ ⟨#[62]⟩ ++ Y ++ ⟨#[60, 47, 97, 62]⟩).data.toList := by
            rw [HTK.out]
            show _ ++ linkOut dest title (inlOut n kids) = _
            simp only [lt_add, ← HT.out, ← HTE.out, ← HTP.out, ← HTT.out, HYL.out, HPL.out, List.append_assoc]
            simp [linkOut, cat, cs, HEL.out]
          have hs0 : ¬ (9223372036854775807 < X.size + 9) := by omega
          have hs1 : ¬ (9223372036854775807 < X.size + 9 + TE.size) := by omega
          have hs2 : ¬ (9223372036854775807 < X.size + 9 + TE.size + 1) := by omega
          have hs3 : ¬ (9223372036854775807 < X.size + 9 + TE.size + 1 + TT.size) := by omega
          have hs4 : ¬ (9223372036854775807 < X.size + 9 + TE.size + 1 + TT.size + 1) := by omega
          have hs5 : ¬ (9223372036854775807 < X.size + 9 + TE.size + 1 + TT.size + 1 + Y.size) := by omega
          have hs6 : ¬ (9223372036854775807 < X.size + 9 + TE.size + 1 + TT.size + 1 + Y.size + 4) := by omega
          have HOUT := Lib.hid hout
          clear hout k1 k2 k3 k4
          have hs20 := bs_new (u0 := .int .u8 5) (u1 := .string tx) (dest := dest) (title := title) (v := .slice A3 m3 c3x) hbw hws
          have HS20 := Lib.hid hs20
          clear hs20
          go_upto_region 16 with fail
          go_region_held3 (fun w' => (w').cell? ⟨wr.heap.size, 2, none⟩ = some (.string dest) ∧ (w').cell? ⟨wr.heap.size, 3, none⟩ = some (.string title) ∧ (w').cell? ⟨wr.heap.size, 4, none⟩ = some (.slice A3 m3 c3x) ∧ Below w.heap.size w (w') ∧ wr.heap.size < (w').heap.size ∧ w.heap.size ≤ (w').heap.size) (first | assumption | exact HS20.out | exact bs_drew HS20.out | exact bs_step (by assumption) (by assumption)) (first
            | (go_at_call 21; refine Calls.mono (refescape_any dest _ (by omega)) ?_; rintro e w5 ⟨rfl, b5⟩; rw [HE.out])
            | (go_at_call_of 34 E; refine Calls.mono (reflowText_any E _ (by omega)) ?_; rintro e w6 ⟨rfl, rfl⟩; rw [HTE.out])
            | (go_at_call 65; refine Calls.mono (reftitle_any title _ (by omega)) ?_; rintro e w7 ⟨rfl, rfl⟩; rw [HTT.out])
            | (go_at_call 29; refine Calls.mono (IH.out _ kids S _ (by exact InlsAt.keep (fun b hb => (bs_below (by assumption)).block b (HS.out b hb)) n HK.out) (by intro b hb; exact Nat.lt_of_lt_of_le (HS.out b hb) (bs_below (by assumption)).size) (by have := HUP.out; omega)) ?_; rintro e w8 ⟨rfl, b8⟩; rw [HY.out]))
          all_goals
            go_wp2
            go_roundw
            case rel => exact ⟨k + 1, _, by go_num, rfl, hlt, Lib.hid HOUT.out.symm, bs_below (by assumption)⟩
            case measure => simp [intOf]; omega
        by_cases k6 : kd = 6
        · subst k6
          have hout : inlOut (n + 1) (l.take (k + 1)) = (X ++ ⟨#[60, 105, 109, 103, 32, 115, 114, 99, 61, 34]⟩ ++ TE ++ ⟨#[34, 32, 97, 108, 116, 61, 34]⟩ ++ TP ++ ⟨#[34]⟩ ++ TT ++ ⟨#[32, 47, 62]⟩).data.toList := by
            rw [HTK.out]
            show _ ++ imageOut dest title (plainOut n kids) = _
            simp only [lt_add, ← HT.out, ← HTE.out, ← HTP.out, ← HTT.out, HYL.out, HPL.out, List.append_assoc]
            simp [imageOut, cat, cs, HEL.out]
          have hs0 : ¬ (9223372036854775807 < X.size + 10) := by omega
          have hs1 : ¬ (9223372036854775807 < X.size + 10 + TE.size) := by omega
          have hs2 : ¬ (9223372036854775807 < X.size + 10 + TE.size + 7) := by omega
          have hs3 : ¬ (9223372036854775807 < X.size + 10 + TE.size + 7 + TP.size) := by omega
          have hs4 : ¬ (9223372036854775807 < X.size + 10 + TE.size + 7 + TP.size + 1) := by omega
          have hs5 : ¬ (9223372036854775807 < X.size + 10 + TE.size + 7 + TP.size + 1 + TT.size) := by omega
          have hs6 : ¬ (9223372036854775807 < X.size + 10 + TE.size + 7 + TP.size + 1 + TT.size + 3) := by omega
          have HOUT := Lib.hid hout
          clear hout k1 k2 k3 k4 k5
          have hs20 := bs_new (u0 := .int .u8 6) (u1 := .string tx) (dest := dest) (title := title) (v := .slice A3 m3 c3x) hbw hws
          have HS20 := Lib.hid hs20
          clear hs20
          go_upto_region 18 with fail
          go_region_held3 (fun w' => (w').cell? ⟨wr.heap.size, 2, none⟩ = some (.string dest) ∧ (w').cell? ⟨wr.heap.size, 3, none⟩ = some (.string title) ∧ (w').cell? ⟨wr.heap.size, 4, none⟩ = some (.slice A3 m3 c3x) ∧ Below w.heap.size w (w') ∧ wr.heap.size < (w').heap.size ∧ w.heap.size ≤ (w').heap.size) (first | assumption | exact HS20.out | exact bs_drew HS20.out | exact bs_step (by assumption) (by assumption)) (first
            | (go_at_call 21; refine Calls.mono (refescape_any dest _ (by omega)) ?_; rintro e w5 ⟨rfl, b5⟩; rw [HE.out])
            | (go_at_call_of 34 E; refine Calls.mono (reflowText_any E _ (by omega)) ?_; rintro e w6 ⟨rfl, rfl⟩; rw [HTE.out])
            | (go_at_call 31; refine Calls.mono (refplain_any n _ kids S _ (by exact InlsAt.keep (fun b hb => (bs_below (by assumption)).block b (HS.out b hb)) n HK.out) (by intro b hb; exact Nat.lt_of_lt_of_le (HS.out b hb) (bs_below (by assumption)).size) (by have := HUP.out; omega)) ?_; rintro e w8 ⟨rfl, b8⟩; rw [HP.out])
            | (go_at_call 34; refine Calls.mono (reflowText_any P _ (by omega)) ?_; rintro e w9 ⟨rfl, rfl⟩; rw [HTP.out])
            | (go_at_call 65; refine Calls.mono (reftitle_any title _ (by omega)) ?_; rintro e w7 ⟨rfl, rfl⟩; rw [HTT.out]))
          all_goals
            go_wp2
            go_roundw
            case rel => exact ⟨k + 1, _, by go_num, rfl, hlt, Lib.hid HOUT.out.symm, bs_below (by assumption)⟩
            case measure => simp [intOf]; omega
        by_cases k7 : kd = 7
        · subst k7
          have hout : inlOut (n + 1) (l.take (k + 1)) = (X ++ tx).data.toList := by
            rw [HTK.out]
            show _ ++ cat [tx] = _
            simp only [lt_add, ← HT.out, ← HTE.out, ← HTP.out, ← HTT.out, HYL.out, HPL.out, List.append_assoc]
            simp [cat, cs]
          have hs0 : ¬ (9223372036854775807 < X.size + tx.size) := by omega
          have HOUT := Lib.hid hout
          clear hout k1 k2 k3 k4 k5 k6
          go_wp2
          go_roundw
          case rel => exact ⟨k + 1, _, by go_num, rfl, hlt, Lib.hid HOUT.out.symm, hbw.alloc hws _⟩
          case measure => simp [intOf]; omega
        by_cases k8 : kd = 8
        · subst k8
          have hout : inlOut (n + 1) (l.take (k + 1)) = (X ++ ⟨#[10]⟩).data.toList := by
            rw [HTK.out]
            show _ ++ cat [⟨#[10]⟩] = _
            simp only [lt_add, ← HT.out, ← HTE.out, ← HTP.out, ← HTT.out, HYL.out, HPL.out, List.append_assoc]
            simp [cat, cs]
          have hs0 : ¬ (9223372036854775807 < X.size + 1) := by omega
          have HOUT := Lib.hid hout
          clear hout k1 k2 k3 k4 k5 k6 k7
          go_wp2
          go_roundw
          case rel => exact ⟨k + 1, _, by go_num, rfl, hlt, Lib.hid HOUT.out.symm, hbw.alloc hws _⟩
          case measure => simp [intOf]; omega
        by_cases k9 : kd = 9
        · subst k9
          have hout : inlOut (n + 1) (l.take (k + 1)) = (X ++ ⟨#[60, 98, 114, 32, 47, 62, 10]⟩).data.toList := by
            rw [HTK.out]
            show _ ++ cat [⟨#[60, 98, 114, 32, 47, 62, 10]⟩] = _
            simp only [lt_add, ← HT.out, ← HTE.out, ← HTP.out, ← HTT.out, HYL.out, HPL.out, List.append_assoc]
            simp [cat, cs]
          have hs0 : ¬ (9223372036854775807 < X.size + 7) := by omega
          have HOUT := Lib.hid hout
          clear hout k1 k2 k3 k4 k5 k6 k7 k8
          go_wp2
          go_roundw
          case rel => exact ⟨k + 1, _, by go_num, rfl, hlt, Lib.hid HOUT.out.symm, hbw.alloc hws _⟩
          case measure => simp [intOf]; omega
        · have hz : ∀ c : Nat, kd ≠ c → ((kd : Int) == (c : Int)) = false := fun c hc => by rw [beq_eq_false_iff_ne]; omega
          have z1 := hz 1 (by omega)
          have z2 := hz 2 (by omega)
          have z3 := hz 3 (by omega)
          have z4 := hz 4 (by omega)
          have z5 := hz 5 (by omega)
          have z6 := hz 6 (by omega)
          have z7 := hz 7 (by omega)
          have z8 := hz 8 (by omega)
          have z9 := hz 9 (by omega)
          have ho : inlK kd tx dest title (inlOut n kids) (plainOut n kids) = [] := by unfold inlK; rw [if_neg k1, if_neg k2, if_neg k3, if_neg k4, if_neg k5, if_neg k6, if_neg k7, if_neg k8, if_neg k9]
          have hout : inlOut (n + 1) (l.take (k + 1)) = X.data.toList := by rw [HTK.out, ho, List.append_nil]
          have HOUT := Lib.hid hout
          clear hout hz ho k1 k2 k3 k4 k5 k6 k7 k8 k9
          go_wp2
          go_roundw
          case rel => exact ⟨k + 1, X, by go_num, rfl, hlt, Lib.hid HOUT.out.symm, hbw.alloc hws _⟩
          case measure => simp [intOf]; omega
      · obtain rfl : k = l.length := by omega
        have hx := HX.out
        rw [List.take_of_length_le (Nat.le_refl _)] at hx
        have HXX := Lib.hid (str_mk X _ hx)
        clear hx
        go_wp2
        go_ret
        refine ⟨?_, hbw⟩
        rw [← HXX.out]
        rfl
end Go.Proofs.YtibaoocklempnaaGreatDoor
