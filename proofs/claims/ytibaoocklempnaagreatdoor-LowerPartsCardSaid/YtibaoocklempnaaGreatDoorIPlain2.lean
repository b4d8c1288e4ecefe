/- tympanref30.Plain: what inlines say. -/
import Derived.Test.YtibaoocklempnaaGreatDoorIPlain
namespace Go.Proofs.YtibaoocklempnaaGreatDoor
open Go.RowKit

def PlainV (w : World) (n : Nat) (l : List (IT (n + 1))) (v i : Value) (wr : World) : Prop :=
  ∃ (k : Nat) (X : ByteArray), i = .int .i64 k ∧ v = .string X ∧ k ≤ l.length ∧ Hid (X.data.toList = plainOut (n + 1) (l.take k)) ∧ Below w.heap.size w wr

set_option maxHeartbeats 4000000 in
set_option maxRecDepth 100000 in
theorem refplain_any (n : Nat) : ∀ (v : Value) (l : List (IT n)) (S : Nat → Prop) (w : World), InlsAt n w S v l → (∀ k, S k → k < w.heap.size) → iwt n l ≤ 1000000 → Calls Tryz.prog 31 #[v] w (PlainR w n l) := by
  induction n with
  | zero =>
    intro v l S w h hS hw
    obtain ⟨A, c, rfl⟩ := h.none_
    go_enter Tryz.func31, Tryz.ntmps31
    go_wp2
    refine wp_loop_rounds 1 ?_
    rw [rounds_succ]
    go_wp2
    go_ret
    exact ⟨rfl, Below.refl _ _⟩
  | succ n ih =>
    intro v l S w h hS hw
    have hlw := iwt_len n l
    obtain ⟨A, c, rfl, hl, hget⟩ := h.get
    have HG := Lib.hid hget
    have IH := Lib.hid ih
    have HS := Lib.hid hS
    clear hget h ih hS
    go_enter Tryz.func31, Tryz.ntmps31
    go_wp2_with fail
    go_loopw [3, 4] (fun v i wr => PlainV w n l v i wr) (fun _ i _ => l.length - (intOf i).toNat)
    case atStart => exact ⟨0, ⟨#[]⟩, rfl, rfl, Nat.zero_le _, rfl, Below.refl _ _⟩
    case round =>
      obtain ⟨k, X, rfl, rfl, hk, HX, hbw⟩ := hrel
      have hws := hbw.size
      by_cases hlt : k < l.length
      · obtain ⟨ad, vk, hA, hkids, htx, hds, htl, hki, hbl, c0, c1, c2, c3, c4⟩ := HG.out k hlt
        subst hA
        obtain ⟨A3, m3, c3x, rfl⟩ := hkids.shape
        have hbl2 := HS.out _ hbl
        have q : ∀ j : Nat, wr.cell? ⟨(ad.add (k * 5)).block, j, none⟩ = w.cell? ⟨(ad.add (k * 5)).block, j, none⟩ := fun j => hbw.cell (by rw [block_of_add]; exact hbl2)
        have d0 := (hbw.cell (p := ad.add (k * 5)) (by rw [block_of_add]; exact hbl2)).trans c0
        have d1 := (q _).trans c1
        have d2 := (q _).trans c2
        have d3 := (q _).trans c3
        have d4 := (q _).trans c4
        have hup := iwt_upto n l k hlt
        have hpo := plainOut_le (n + 1) (l.take k)
        have hpk := plainOut_le n (InlD.kids l[k])
        have htk := plainOut_take n l k hlt
        have hxs := HX.out
        obtain ⟨kd, hkd⟩ : ∃ kd, InlD.kind l[k] = kd := ⟨_, rfl⟩
        obtain ⟨tx, htxe⟩ : ∃ tx, InlD.text l[k] = tx := ⟨_, rfl⟩
        have hp1 : plain1 (plainOut n) l[k] = if kd = 1 ∨ kd = 2 then tx.data.toList else if kd = 8 ∨ kd = 9 then [10] else if 3 ≤ kd ∧ kd ≤ 6 then plainOut n (InlD.kids l[k]) else [] := by rw [← hkd, ← htxe]; rfl
        rw [← hxs] at htk hpo
        rw [len_list] at hpo
        rw [hkd] at d0 hki
        rw [htxe] at d1 htx hup
        obtain ⟨Y, hY⟩ : ∃ Y : ByteArray, (⟨(plainOut n (InlD.kids l[k])).toArray⟩ : ByteArray) = Y := ⟨_, rfl⟩
        have hYl : Y.data.toList = plainOut n (InlD.kids l[k]) := by rw [← hY]
        rw [← hYl, len_list] at hpk
        have HK := Lib.hid hkids
        have HTK := Lib.hid htk
        have HP1 := Lib.hid hp1
        have HUP := Lib.hid hup
        have HY := Lib.hid hY
        have HYL := Lib.hid hYl
        have HOLD : Hid (∀ (o : Obj) (b : Nat), b < w.heap.size → (wr.alloc o).heap[b]? = w.heap[b]?) := fun o b hb => (Below.heap_alloc _ _ _ (by omega)).trans (hbw.block b hb)
        have hs1 : ¬ (9223372036854775807 < X.size + tx.size) := by omega
        have hs2 : ¬ (9223372036854775807 < X.size + Y.size) := by omega
        have hs3 : ¬ (9223372036854775807 < X.size + 1) := by omega
        have hs4 : ¬ (9223372036854775807 < X.size + (⟨#[10]⟩ : ByteArray).size) := by show ¬ (9223372036854775807 < X.size + 1); omega
        clear hkids htk hp1 hup c0 c1 c2 c3 c4 q hkd htxe hpo hpk hxs hY hYl
        by_cases h12 : kd = 1 ∨ kd = 2
        · have hout : plainOut (n + 1) (l.take (k + 1)) = (X ++ tx).data.toList := by rw [HTK.out, HP1.out, if_pos h12, lt_add]
          have HOUT := Lib.hid hout
          clear hout
          rcases h12 with rfl | rfl
          all_goals
            go_wp2
            go_roundw
            case rel => exact ⟨k + 1, _, by go_num, rfl, hlt, Lib.hid HOUT.out.symm, hbw.alloc hws _⟩
            case measure => simp [intOf]; omega
        by_cases h89 : kd = 8 ∨ kd = 9
        · have hout : plainOut (n + 1) (l.take (k + 1)) = (X ++ ⟨#[10]⟩).data.toList := by rw [HTK.out, HP1.out, if_neg h12, if_pos h89, lt_add]
          have HOUT := Lib.hid hout
          clear hout h12
          rcases h89 with rfl | rfl
          all_goals
            go_wp2
            go_roundw
            case rel => exact ⟨k + 1, _, by go_num, rfl, hlt, Lib.hid HOUT.out.symm, hbw.alloc hws _⟩
            case measure => simp [intOf]; omega
        by_cases h36 : 3 ≤ kd ∧ kd ≤ 6
        · have hout : plainOut (n + 1) (l.take (k + 1)) = (X ++ Y).data.toList := by rw [HTK.out, HP1.out, if_neg h12, if_neg h89, if_pos h36, lt_add, HYL.out]
          have HOUT := Lib.hid hout
          have h4 : kd = 3 ∨ kd = 4 ∨ kd = 5 ∨ kd = 6 := by omega
          clear hout h12 h89 h36
          rcases h4 with rfl | rfl | rfl | rfl
          all_goals
            go_wp2_with fail
            refine Calls.mono (IH.out _ (InlD.kids l[k]) S _ (InlsAt.keep (fun b hb => HOLD.out _ b (HS.out b hb)) n HK.out) (fun b hb => by have := HS.out b hb; simp; omega) (by have := HUP.out; omega)) ?_
            rintro e w1 ⟨rfl, b1⟩
            rw [HY.out]
            have HB1 := Lib.hid b1
            clear b1
            go_wp2
            go_roundw
            case rel => exact ⟨k + 1, _, by go_num, rfl, hlt, Lib.hid HOUT.out.symm, (hbw.alloc hws _).trans (HB1.out.mono (by simp; omega))⟩
            case measure => simp [intOf]; omega
        · have hout : plainOut (n + 1) (l.take (k + 1)) = X.data.toList := by rw [HTK.out, HP1.out, if_neg h12, if_neg h89, if_neg h36, List.append_nil]
          have HOUT := Lib.hid hout
          have hz : ∀ c : Nat, kd ≠ c → ((kd : Int) == (c : Int)) = false := fun c hc => by rw [beq_eq_false_iff_ne]; omega
          have z1 := hz 1 (by omega)
          have z2 := hz 2 (by omega)
          have z3 := hz 3 (by omega)
          have z4 := hz 4 (by omega)
          have z5 := hz 5 (by omega)
          have z6 := hz 6 (by omega)
          have z8 := hz 8 (by omega)
          have z9 := hz 9 (by omega)
          clear hout hz
          go_wp2
          go_roundw
          case rel => exact ⟨k + 1, X, by go_num, rfl, hlt, Lib.hid HOUT.out.symm, hbw.alloc hws _⟩
          case measure => simp [intOf]; omega
      · obtain rfl : k = l.length := by omega
        have hx := HX.out
        rw [List.take_of_length_le (Nat.le_refl _)] at hx
        have HXX := Lib.hid (str_mk X _ hx)
        clear hx
        go_wp2
        go_ret
        refine ⟨?_, hbw⟩
        rw [← HXX.out]
        rfl
end Go.Proofs.YtibaoocklempnaaGreatDoor
