/- What inlines say, without their forms: lower.Plain and tympanref30.Plain. -/
import Derived.Test.YtibaoocklempnaaGreatDoorISame
import Derived.Test.YtibaoocklempnaaGreatDoorPuts
namespace Go.Proofs.YtibaoocklempnaaGreatDoor
open Go.RowKit

def plain1 {K : Type} (f : K → List UInt8) (x : InlD K) : List UInt8 :=
  if x.kind = 1 ∨ x.kind = 2 then x.text.data.toList else if x.kind = 8 ∨ x.kind = 9 then [10] else if 3 ≤ x.kind ∧ x.kind ≤ 6 then f x.kids else []
def rowPlain {K : Type} (f : K → List UInt8) (l : List (InlD K)) : List UInt8 := (l.map (plain1 f)).flatten
def plainOut : (n : Nat) → List (IT n) → List UInt8
  | 0, _ => []
  | n + 1, l => rowPlain (plainOut n) l
theorem rowPlain_take {K : Type} (f : K → List UInt8) (l : List (InlD K)) (k : Nat) (hk : k < l.length) : rowPlain f (l.take (k + 1)) = rowPlain f (l.take k) ++ plain1 f l[k] := by
  unfold rowPlain
  rw [List.take_succ_eq_append_getElem hk, List.map_append, List.flatten_append]
  simp
theorem plainOut_take (n : Nat) (l : List (IT (n + 1))) (k : Nat) (hk : k < l.length) : plainOut (n + 1) (l.take (k + 1)) = plainOut (n + 1) (l.take k) ++ plain1 (plainOut n) l[k] :=
  rowPlain_take (K := List (IT n)) (plainOut n) l k hk
theorem len_list (s : ByteArray) : s.data.toList.length = s.size := Array.length_toList
theorem plain1_le {K : Type} (f : K → List UInt8) (g : K → Nat) (x : InlD K) (h : (f x.kids).length ≤ 8 * g x.kids) : (plain1 f x).length ≤ 8 * (1 + x.text.size / 8 + x.dest.size / 8 + x.title.size / 8 + g x.kids) := by
  unfold plain1
  split
  · rw [len_list]; omega
  · split
    · simp; omega
    · split
      · omega
      · simp
theorem rowPlain_le {K : Type} (f : K → List UInt8) (g : K → Nat) (h : ∀ k, (f k).length ≤ 8 * g k) : ∀ l : List (InlD K), (rowPlain f l).length ≤ 8 * rowIwt g l
  | [] => by simp [rowPlain]
  | x :: l => by
    have h1 := rowPlain_le f g h l
    have h2 := plain1_le f g x (h _)
    unfold rowPlain rowIwt at *
    rw [List.map_cons, List.flatten_cons, List.length_append, List.map_cons, List.sum_cons]
    omega
theorem plainOut_le : ∀ (n : Nat) (l : List (IT n)), (plainOut n l).length ≤ 8 * iwt n l
  | 0, _ => by simp [plainOut]
  | n + 1, l => rowPlain_le (K := List (IT n)) (plainOut n) (iwt n) (plainOut_le n) l
theorem rowIwt_split {K : Type} (f : K → Nat) (l : List (InlD K)) (k : Nat) : rowIwt f l = rowIwt f (l.take k) + rowIwt f (l.drop k) := by
  unfold rowIwt
  rw [← List.sum_append, ← List.map_append, List.take_append_drop]
theorem iwt_upto (n : Nat) (l : List (IT (n + 1))) (k : Nat) (hk : k < l.length) : iwt (n + 1) (l.take k) + (1 + (InlD.text l[k]).size / 8 + (InlD.dest l[k]).size / 8 + (InlD.title l[k]).size / 8 + iwt n (InlD.kids l[k])) ≤ iwt (n + 1) l := by
  have h1 := iwt_take n l k hk
  have h2 : iwt (n + 1) l = iwt (n + 1) (l.take (k + 1)) + iwt (n + 1) (l.drop (k + 1)) := rowIwt_split (K := List (IT n)) (iwt n) l (k + 1)
  omega

theorem sbT : BldT 70 := ⟨by kernel_rfl, by decide⟩
/-- What plain gives. -/
def PlainR (w : World) (n : Nat) (l : List (IT n)) (e : Ending) (w' : World) : Prop := e = .returned (.string ⟨(plainOut n l).toArray⟩) ∧ Below w.heap.size w w'
def PlainW (w : World) (n : Nat) (l : List (IT (n + 1))) (i : Value) (wr : World) : Prop :=
  ∃ k : Nat, i = .int .i64 k ∧ k ≤ l.length ∧ Bld 70 w.heap.size w.heap.size (plainOut (n + 1) (l.take k)) wr ∧ Below w.heap.size w wr

set_option maxHeartbeats 4000000 in
set_option maxRecDepth 100000 in
theorem plain_any (n : Nat) : ∀ (v : Value) (l : List (IT n)) (S : Nat → Prop) (w : World), InlsAt n w S v l → (∀ k, S k → k < w.heap.size) → iwt n l ≤ 1000000 → Calls Tryz.prog 30 #[v] w (PlainR w n l) := by
  induction n with
  | zero =>
    intro v l S w h hS hw
    obtain ⟨A, c, rfl⟩ := h.none_
    have hf := Bld.fresh 70 w
    have HF := Lib.hid hf
    clear hf
    go_enter Tryz.func30, Tryz.ntmps30
    go_wp2
    refine wp_loop_rounds 1 ?_
    rw [rounds_succ]
    go_wp2_with fail
    refine Calls.mono (bld_String 70 w.heap.size w.heap.size _ _ HF.out (by simp)) ?_
    rintro e w1 ⟨rfl, h1, b1, k1⟩
    go_wp2
    go_ret
    exact ⟨rfl, ((Below.refl _ _).alloc (Nat.le_refl _) _).trans b1⟩
  | succ n ih =>
    intro v l S w h hS hw
    have hlw := iwt_len n l
    obtain ⟨A, c, rfl, hl, hget⟩ := h.get
    have HG := Lib.hid hget
    have IH := Lib.hid ih
    have HF := Lib.hid (Bld.fresh 70 w)
    have HS := Lib.hid hS
    clear hget h ih hS
    go_enter Tryz.func30, Tryz.ntmps30
    go_wp2_with fail
    go_loopw [8] (fun i wr => PlainW w n l i wr) (fun i _ => l.length - (intOf i).toNat)
    case atStart => exact ⟨0, rfl, Nat.zero_le _, HF.out, (Below.refl _ _).alloc (Nat.le_refl _) _⟩
    case round =>
      obtain ⟨k, rfl, hk, hbd, hbw⟩ := hrel
      have hws := hbw.size
      by_cases hlt : k < l.length
      · obtain ⟨ad, vk, hA, hkids, htx, hds, htl, hki, hbl, c0, c1, c2, c3, c4⟩ := HG.out k hlt
        subst hA
        obtain ⟨A3, m3, c3x, rfl⟩ := hkids.shape
        have hbl2 := HS.out _ hbl
        have q : ∀ j : Nat, wr.cell? ⟨(ad.add (k * 5)).block, j, none⟩ = w.cell? ⟨(ad.add (k * 5)).block, j, none⟩ := fun j => hbw.cell (by rw [block_of_add]; exact hbl2)
        have d0 := (hbw.cell (p := ad.add (k * 5)) (by rw [block_of_add]; exact hbl2)).trans c0
        have d1 := (q _).trans c1
        have d2 := (q _).trans c2
        have d3 := (q _).trans c3
        have d4 := (q _).trans c4
        have hup := iwt_upto n l k hlt
        have hpo := plainOut_le (n + 1) (l.take k)
        have hpk := plainOut_le n (InlD.kids l[k])
        have htk := plainOut_take n l k hlt
        obtain ⟨acc, hacc⟩ : ∃ acc, plainOut (n + 1) (l.take k) = acc := ⟨_, rfl⟩
        obtain ⟨kd, hkd⟩ : ∃ kd, InlD.kind l[k] = kd := ⟨_, rfl⟩
        obtain ⟨tx, htxe⟩ : ∃ tx, InlD.text l[k] = tx := ⟨_, rfl⟩
        have hp1 : plain1 (plainOut n) l[k] = if kd = 1 ∨ kd = 2 then tx.data.toList else if kd = 8 ∨ kd = 9 then [10] else if 3 ≤ kd ∧ kd ≤ 6 then plainOut n (InlD.kids l[k]) else [] := by rw [← hkd, ← htxe]; rfl
        rw [hacc] at htk hpo hbd
        rw [hkd] at d0 hki
        rw [htxe] at d1 htx hup
        have HK := Lib.hid hkids
        have HB := Lib.hid hbd
        have HTK := Lib.hid htk
        have HP1 := Lib.hid hp1
        have HUP := Lib.hid hup
        have HOLD : Hid (∀ (o : Obj) (b : Nat), b < w.heap.size → (wr.alloc o).heap[b]? = w.heap[b]?) := fun o b hb => (Below.heap_alloc _ _ _ (by omega)).trans (hbw.block b hb)
        have hal : acc.length + tx.size ≤ 100000000 := by omega
        have hkl : acc.length + (plainOut n (InlD.kids l[k])).length ≤ 100000000 := by omega
        have HKL := Lib.hid hkl
        clear hkids hbd htk hp1 hup c0 c1 c2 c3 c4 q hkd htxe hacc hpo hpk hkl
        by_cases h12 : kd = 1 ∨ kd = 2
        · have hout : plainOut (n + 1) (l.take (k + 1)) = acc ++ tx.data.toList := by rw [HTK.out, HP1.out, if_pos h12]
          have HOUT := Lib.hid hout
          clear hout
          rcases h12 with rfl | rfl
          all_goals
            go_wp2_with fail
            refine Calls.mono (bld_WriteString sbT w.heap.size w.heap.size _ tx _ (HB.out.alloc _) (by omega) (by simp; omega)) ?_
            rintro e w1 ⟨rfl, h1, b1, k1⟩
            have H1 := Lib.hid h1
            have HB1 := Lib.hid b1
            clear h1 b1 k1
            go_wp2
            go_roundw
            case rel => exact ⟨k + 1, by go_num, hlt, by rw [HOUT.out]; exact H1.out, (hbw.alloc hws _).trans HB1.out⟩
            case measure => simp [intOf]; omega
        by_cases h89 : kd = 8 ∨ kd = 9
        · have hout : plainOut (n + 1) (l.take (k + 1)) = acc ++ [10] := by rw [HTK.out, HP1.out, if_neg h12, if_pos h89]
          have HOUT := Lib.hid hout
          clear hout h12
          rcases h89 with rfl | rfl
          all_goals
            go_wp2_with fail
            refine Calls.mono (bld_WriteByte sbT w.heap.size w.heap.size _ 10 _ (HB.out.alloc _) (by omega) (by simp; omega)) ?_
            rintro e w1 ⟨rfl, h1, b1, k1⟩
            have H1 := Lib.hid h1
            have HB1 := Lib.hid b1
            clear h1 b1 k1
            go_wp2
            go_roundw
            case rel => exact ⟨k + 1, by go_num, hlt, by rw [HOUT.out]; exact H1.out, (hbw.alloc hws _).trans HB1.out⟩
            case measure => simp [intOf]; omega
        by_cases h36 : 3 ≤ kd ∧ kd ≤ 6
        · have hout : plainOut (n + 1) (l.take (k + 1)) = acc ++ plainOut n (InlD.kids l[k]) := by rw [HTK.out, HP1.out, if_neg h12, if_neg h89, if_pos h36]
          have HOUT := Lib.hid hout
          have h4 : kd = 3 ∨ kd = 4 ∨ kd = 5 ∨ kd = 6 := by omega
          clear hout h12 h89 h36
          rcases h4 with rfl | rfl | rfl | rfl
          all_goals
            go_wp2_with fail
            refine Calls.mono (IH.out _ (InlD.kids l[k]) S _ (InlsAt.keep (fun b hb => HOLD.out _ b (HS.out b hb)) n HK.out) (fun b hb => by have := HS.out b hb; simp; omega) (by have := HUP.out; omega)) ?_
            rintro e w1 ⟨rfl, b1⟩
            have hzb := b1.size
            have HB1 := Lib.hid b1
            clear b1
            go_wp2_with fail
            refine Calls.mono (bld_WriteString sbT w.heap.size w.heap.size _ _ _ ((HB.out.alloc _).below HB1.out) (by have := HKL.out; rw [← len_list]; simp; omega) (by simp at hzb; omega)) ?_
            rintro e w2 ⟨rfl, h2, b2, k2⟩
            have H2 := Lib.hid h2
            have HB2 := Lib.hid b2
            clear h2 b2 k2
            go_wp2
            go_roundw
            case rel => exact ⟨k + 1, by go_num, hlt, by rw [HOUT.out]; exact H2.out, ((hbw.alloc hws _).trans (HB1.out.mono (by simp; omega))).trans HB2.out⟩
            case measure => simp [intOf]; omega
        · have hout : plainOut (n + 1) (l.take (k + 1)) = acc := by rw [HTK.out, HP1.out, if_neg h12, if_neg h89, if_neg h36, List.append_nil]
          have HOUT := Lib.hid hout
          have hz : ∀ c : Nat, kd ≠ c → ((kd : Int) == (c : Int)) = false := fun c hc => by rw [beq_eq_false_iff_ne]; omega
          have z1 := hz 1 (by omega)
          have z2 := hz 2 (by omega)
          have z3 := hz 3 (by omega)
          have z4 := hz 4 (by omega)
          have z5 := hz 5 (by omega)
          have z6 := hz 6 (by omega)
          have z8 := hz 8 (by omega)
          have z9 := hz 9 (by omega)
          clear hout hz
          by_cases h7 : kd = 7
          · subst h7
            clear z1 z2 z3 z4 z5 z6 z8 z9
            go_wp2
            go_roundw
            case rel => exact ⟨k + 1, by go_num, hlt, by rw [HOUT.out]; exact HB.out.alloc _, hbw.alloc hws _⟩
            case measure => simp [intOf]; omega
          · have z7 : ((kd : Int) == 7) = false := by rw [beq_eq_false_iff_ne]; omega
            go_wp2
            go_roundw
            case rel => exact ⟨k + 1, by go_num, hlt, by rw [HOUT.out]; exact HB.out.alloc _, hbw.alloc hws _⟩
            case measure => simp [intOf]; omega
      · obtain rfl : k = l.length := by omega
        rw [List.take_of_length_le (Nat.le_refl _)] at hbd
        have HB := Lib.hid hbd
        clear hbd
        go_wp2_with fail
        refine Calls.mono (bld_String 70 w.heap.size w.heap.size _ _ HB.out hws) ?_
        rintro e w1 ⟨rfl, h1, b1, k1⟩
        go_wp2
        go_ret
        exact ⟨rfl, hbw.trans b1⟩
end Go.Proofs.YtibaoocklempnaaGreatDoor
