/- tympanlaw04.UrlHidden: tabs and newlines anywhere, and blanks around, hide nothing of an address. -/
import Derived.Test.YtibaoocklempnaaDoorKnown4
import Derived.IntWalk
namespace Go.Proofs.YtibaoocklempnaaDoor
open Go.RowKit

theorem keep_sp (b : UInt8) (h : sp b = false) : keep3 b = true := by
  cases hk : keep3 b with
  | true => rfl
  | false =>
    have hh : (b = 9 ∨ b = 10) ∨ b = 13 := by
      unfold keep3 at hk
      rw [Bool.not_eq_false'] at hk
      simpa using hk
    rcases hh with (rfl | rfl) | rfl <;> exact absurd h (by decide)
theorem lcut_filter : ∀ l : List UInt8, (lcut l).filter keep3 = lcut (l.filter keep3)
  | [] => rfl
  | b :: l => by
    have ih := lcut_filter l
    unfold lcut at ih ⊢
    cases hb : sp b with
    | true =>
      rw [List.dropWhile_cons_of_pos hb, ih, List.filter_cons]
      split
      · rw [List.dropWhile_cons_of_pos hb]
      · rfl
    | false =>
      have hn : ¬ sp b = true := by rw [hb]; exact Bool.false_ne_true
      rw [List.dropWhile_cons_of_neg hn, List.filter_cons, if_pos (keep_sp b hb), List.dropWhile_cons_of_neg hn]
theorem rcut_filter (l : List UInt8) : (rcut l).filter keep3 = rcut (l.filter keep3) := by
  have h := lcut_filter l.reverse
  unfold lcut at h
  unfold rcut
  rw [List.filter_reverse, h, List.filter_reverse]
theorem strip_eq (l : List UInt8) : strip l = rcut (lcut (l.filter keep3)) := by
  unfold strip
  rw [rcut_filter, lcut_filter]
theorem all_drop {F : List UInt8} (h : ∀ b ∈ F, sp b = true) : F.dropWhile sp = [] := by
  induction F with
  | nil => rfl
  | cons b l ih =>
    rw [List.dropWhile_cons_of_pos (h b (List.mem_cons_self ..))]
    exact ih fun c hc => h c (List.mem_cons_of_mem _ hc)
theorem drop_sp {F : List UInt8} (h : ∀ b ∈ F, sp b = true) (x : List UInt8) : (F ++ x).dropWhile sp = x.dropWhile sp := by
  rw [List.dropWhile_append, if_pos]
  rw [all_drop h]
  rfl
theorem lcut_sp {F : List UInt8} (h : ∀ b ∈ F, sp b = true) (x : List UInt8) : lcut (F ++ x) = lcut x := drop_sp h x
theorem rcut_sp {F : List UInt8} (h : ∀ b ∈ F, sp b = true) (x : List UInt8) : rcut (x ++ F) = rcut x := by
  unfold rcut
  rw [List.reverse_append, drop_sp (fun b hb => h b (List.mem_reverse.1 hb))]
theorem both_sp {F : List UInt8} (h : ∀ b ∈ F, sp b = true) (x : List UInt8) : rcut (lcut (F ++ (x ++ F))) = rcut (lcut x) := by
  rw [lcut_sp h]
  unfold lcut
  rw [List.dropWhile_append]
  split
  · rename_i he
    rw [List.isEmpty_iff] at he
    rw [he, all_drop h]
  · exact rcut_sp h _
theorem strip_hidden (F T S : List UInt8) (hF : ∀ b ∈ F, sp b = true) (hT : T.filter keep3 = S.filter keep3) : strip (F ++ (T ++ F)) = strip S := by
  rw [strip_eq, strip_eq, List.filter_append, List.filter_append, both_sp (fun b hb => hF b (List.mem_filter.1 hb).1), hT]
theorem scheme_hidden (F T S : List UInt8) (hF : ∀ b ∈ F, sp b = true) (hT : T.filter keep3 = S.filter keep3) : scheme (F ++ (T ++ F)) = scheme S := by
  unfold scheme
  rw [strip_hidden F T S hF hT]
theorem filter_ins (t : List UInt8) (k : Nat) (c : UInt8) (hc : keep3 c = false) : (t.take k ++ [c] ++ t.drop k).filter keep3 = t.filter keep3 := by
  conv => rhs; rw [← List.take_append_drop k t, List.filter_append]
  rw [List.filter_append, List.filter_append, List.filter_cons, hc]
  simp

/-- A slice of uint16 that reads as l. -/
def NumsAt (w : World) (v : Value) (l : List Nat) : Prop :=
  ∃ (A : Option Addr) (c : Nat), v = .slice A l.length c ∧ (∀ n ∈ l, n < 65536) ∧ (0 < l.length → ∃ b off, A = some ⟨b, off, none⟩ ∧ b < w.heap.size ∧ ∀ j (h : j < l.length), w.cell? ⟨b, off + j, none⟩ = some (.int .u16 (l[j] : Int)))
theorem signs_at : ∀ c : Fin 3, ∃ x, keep3 x = false ∧ (⟨#[9, 10, 13]⟩ : ByteArray).extract c.val (c.val + 1) = ⟨#[x]⟩ := by
  intro c
  match c with
  | ⟨0, _⟩ => exact ⟨9, by decide, rfl⟩
  | ⟨1, _⟩ => exact ⟨10, by decide, rfl⟩
  | ⟨2, _⟩ => exact ⟨13, by decide, rfl⟩
theorem conv1h (x : UInt8) (W : World) (g c : Nat) (h0 : W.cell? ⟨g, 0, none⟩ = some (.int .u8 (x.toNat : Int))) :
    (convert 26 9 (.slice (some ⟨g, 0, none⟩) 1 c)).run Tryd.prog W = .ok (.string ⟨#[x]⟩) W := by
  refine run_convert_bytes_back (P := Tryd.prog) W 26 9 5 ⟨g, 0, none⟩ c [x] Tryd.underlying26 Tryd.underlying5 Tryd.underlying9 ?_
  intro j hj
  have hj0 : j = 0 := by simp at hj; exact hj
  subst hj0
  exact h0
theorem sum3 (X Y : ByteArray) : (X ++ Y).data.toList = X.data.toList ++ Y.data.toList := by
  rw [ByteArray.data_append, Array.toList_append]
def HidT (s : ByteArray) (n : Nat) (w : World) (t i : Value) (wr : World) : Prop := ∃ (k : Nat) (T : ByteArray), i = .int .i64 k ∧ k ≤ n ∧ t = .string T ∧ T.size = s.size + k ∧ Hid (T.data.toList.filter keep3 = s.data.toList.filter keep3) ∧ Below w.heap.size w wr
def HidF (n : Nat) (w : World) (f i : Value) (wr : World) : Prop := ∃ (k : Nat) (F : ByteArray), i = .int .i64 k ∧ k ≤ n ∧ f = .string F ∧ F.size = k ∧ Hid (∀ b ∈ F.data.toList, sp b = true) ∧ Below w.heap.size w wr

set_option maxHeartbeats 4000000 in
set_option maxRecDepth 100000 in
theorem hidden_law (s : ByteArray) (v : Value) (l : List Nat) (f : ByteArray) (w : World) (hG : Glob w) (hs : s.size ≤ 9223372036854775807) (hf : f.size ≤ 9223372036854775807) (hl : l.length ≤ 9223372036854775807) (hv : NumsAt w v l) :
    Calls Tryd.prog 3 #[.string s, v, .string f] w (Yes w) := by
  obtain ⟨A, c, rfl, hlt, hA⟩ := hv
  have HG := Lib.hid hG
  clear hG
  obtain ⟨m, hm⟩ : ∃ m, l.length = m := ⟨_, rfl⟩
  rw [hm]
  by_cases hb : 3000 < s.size
  · rw [hm] at hl
    clear hA hlt hm
    go_enter Tryd.func3, Tryd.ntmps3
    go_wp2
    go_ret
    exact ⟨rfl, Below.refl _ _⟩
  by_cases hb2 : 100 < m
  · rw [hm] at hl
    clear hA hlt hm
    go_enter Tryd.func3, Tryd.ntmps3
    go_wp2
    go_ret
    exact ⟨rfl, Below.refl _ _⟩
  by_cases hb3 : 100 < f.size
  · rw [hm] at hl
    clear hA hlt hm
    go_enter Tryd.func3, Tryd.ntmps3
    go_wp2
    go_ret
    exact ⟨rfl, Below.refl _ _⟩
  have hsc := scheme_any s w HG.out (by omega)
  obtain ⟨o, ho⟩ : ∃ o, scheme s.data.toList = o := ⟨_, rfl⟩
  rw [ho] at hsc
  have HSC := Lib.hid hsc
  have HO := Lib.hid ho
  have HM := Lib.hid hm
  have HA := Lib.hid hA
  have HLT := Lib.hid hlt
  clear hsc ho hm hA hlt hl
  go_enter Tryd.func3, Tryd.ntmps3
  go_wp2_with fail
  refine Calls.mono HSC.out ?_
  rintro e w1 ⟨rfl, b1⟩
  obtain ⟨X, hX⟩ : ∃ X : ByteArray, (⟨(o.getD []).toArray⟩ : ByteArray) = X := ⟨_, rfl⟩
  obtain ⟨is, his⟩ : ∃ is : Bool, o.isSome = is := ⟨_, rfl⟩
  rw [hX, his]
  have HX := Lib.hid hX
  have HIS := Lib.hid his
  have HB1 := Lib.hid b1
  clear b1 hX his
  go_wp2_with fail
  go_loopw [9, 11] (fun t i wr => HidT s m w t i wr) (fun _ i _ => m - (intOf i).toNat)
  case atStart => exact ⟨0, s, rfl, Nat.zero_le _, rfl, rfl, rfl, HB1.out⟩
  case round =>
    obtain ⟨k, T, rfl, hk, rfl, hTs, HT, hbl⟩ := hrel
    have HBL := Lib.hid hbl
    clear hbl
    by_cases hkm : k < m
    · have hkl : k < l.length := by rw [HM.out]; exact hkm
      obtain ⟨b, off, rfl, hblt, hc⟩ := HA.out (by omega)
      obtain ⟨n, hn⟩ : ∃ n, l[k] = n := ⟨_, rfl⟩
      have hck := (HBL.out.cell (p := ⟨b, off + k, none⟩) hblt).trans (hc k hkl)
      rw [hn] at hck
      have hn16 : n < 65536 := by rw [← hn]; exact HLT.out _ (List.getElem_mem hkl)
      have hki : (k : Int) < (m : Int) := by omega
      obtain ⟨p, hp⟩ : ∃ p, n % (T.size + 1) = p := ⟨_, rfl⟩
      obtain ⟨q, hq⟩ : ∃ q, n / 7 % 3 = q := ⟨_, rfl⟩
      have hpT : p ≤ T.size := by have := Nat.mod_lt n (show 0 < T.size + 1 by omega); omega
      have hq3 : q < 3 := by omega
      have hpI : (n : Int) % ((T.size : Int) + 1) = (p : Int) := by rw [← hp]; exact (Int.natCast_emod n (T.size + 1)).symm
      have hTb : T.size ≤ 3100 := by omega
      have hqI : (n : Int) / 7 % 3 = (q : Int) := by omega
      obtain ⟨x, hxk, hx⟩ := signs_at ⟨q, hq3⟩
      simp only at hx
      obtain ⟨P, hP⟩ : ∃ P, T.extract 0 p = P := ⟨_, rfl⟩
      obtain ⟨R, hR⟩ : ∃ R, T.extract p T.size = R := ⟨_, rfl⟩
      have hPs : P.size = p := by rw [← hP, ByteArray.size_extract]; omega
      have hRs : R.size = T.size - p := by rw [← hR, ByteArray.size_extract]; omega
      have hY1 : (⟨#[x]⟩ : ByteArray).size = 1 := rfl
      have hpl : (p : Int) ≤ (T.size : Int) := by omega
      have hql : (q : Int) < 3 := by omega
      have hq0 : (0 : Int) ≤ (q : Int) + 1 := by omega
      have hq1 : (q : Int) + 1 ≤ 3 := by omega
      have hqt : ((q : Int) + 1).toNat = q + 1 := by omega
      have hs1 : ¬ (9223372036854775807 < P.size + (⟨#[x]⟩ : ByteArray).size) := by rw [hY1]; omega
      have hs2 : ¬ (9223372036854775807 < (P ++ ⟨#[x]⟩).size + R.size) := by rw [ByteArray.size_append, hY1]; omega
      have hw1 : IntKind.i64.wrap ((q : Int) + 1) = (q : Int) + 1 := IntWalk.i64_in _ (by omega)
      have hend : (P ++ ⟨#[x]⟩ ++ R).data.toList.filter keep3 = s.data.toList.filter keep3 := by
        rw [sum3, sum3, ← hP, ← hR, Lib.extract_data, Lib.extract_data, ← HT.out]
        rw [List.drop_zero, Nat.sub_zero, List.take_of_length_le (l := T.data.toList.drop p) (by rw [List.length_drop, Array.length_toList]; exact Nat.le_refl _)]
        exact filter_ins _ _ _ hxk
      have hsz : (P ++ ⟨#[x]⟩ ++ R).size = s.size + (k + 1) := by rw [ByteArray.size_append, ByteArray.size_append, hY1, hPs, hRs]; omega
      have HEND := Lib.hid hend
      have HSZ := Lib.hid hsz
      clear hc hblt hn hkl hp hq hend hsz hxk hPs hRs hY1 hTs
      go_wp2
      go_region
      go_wp2
      clear hw1 hqt
      go_roundw
      case rel => exact ⟨k + 1, _, by go_num, hkm, rfl, HSZ.out, HEND, HBL.out.drew⟩
      case measure => simp [intOf]; omega
    · obtain rfl : k = m := by omega
      have hTb : T.size ≤ 3100 := by omega
      clear HA HLT HM
      go_wp2_with fail
      go_loopw [14, 15] (fun g i wr => HidF f.size w g i wr) (fun _ i _ => f.size - (intOf i).toNat)
      case atStart => exact ⟨0, ⟨#[]⟩, rfl, Nat.zero_le _, rfl, rfl, fun _ hb => absurd hb (List.not_mem_nil), HBL.out⟩
      case round =>
        obtain ⟨j, F, rfl, hj, rfl, hFs, HF, hbl2⟩ := hrel
        have HBL2 := Lib.hid hbl2
        clear hbl2
        by_cases hjf : j < f.size
        · obtain ⟨y, hy⟩ : ∃ y, f[j] = y := ⟨_, rfl⟩
          have hyl : y.toNat < 256 := UInt8.toNat_lt y
          obtain ⟨z, hz⟩ : ∃ z : UInt8, UInt8.ofNat (y.toNat % 33) = z := ⟨_, rfl⟩
          have hzn : z.toNat = y.toNat % 33 := by rw [← hz]; simp; omega
          have hzI : (y.toNat : Int) % 33 = (z.toNat : Int) := by omega
          have hzT : ((y.toNat : Int).tmod 33) = (z.toNat : Int) := by rw [Int.tmod_eq_emod_of_nonneg (by omega)]; exact hzI
          have hzs : sp z = true := sp_yes (by omega)
          have hji : (j : Int) < (f.size : Int) := by omega
          have hY1 : (⟨#[z]⟩ : ByteArray).size = 1 := rfl
          have hs1 : ¬ (9223372036854775807 < F.size + (⟨#[z]⟩ : ByteArray).size) := by rw [hY1]; omega
          have hs2 : ¬ (9223372036854775807 < F.size + 1) := by omega
          have hcv := conv1h z
          have hsz : (F ++ ⟨#[z]⟩).size = j + 1 := by rw [ByteArray.size_append, hY1]; omega
          have hall : ∀ b ∈ (F ++ ⟨#[z]⟩).data.toList, sp b = true := by
            intro b hb
            rw [sum3] at hb
            rcases List.mem_append.1 hb with h | h
            · exact HF.out b h
            · rw [List.mem_singleton.1 h]; exact hzs
          have HSZ := Lib.hid hsz
          have HALL := Lib.hid hall
          clear hz hzn hzs hsz hall hY1
          go_wp2
          clear hzI hzT
          go_roundw
          case rel => exact ⟨j + 1, _, by go_num, hjf, rfl, HSZ.out, HALL.out, HBL2.out.alloc HBL2.out.size _⟩
          case measure => simp [intOf]; omega
        · obtain rfl : j = f.size := by omega
          obtain ⟨U, hU⟩ : ∃ U, F ++ T ++ F = U := ⟨_, rfl⟩
          have hUs : U.size ≤ 1000000000 := by rw [← hU, ByteArray.size_append, ByteArray.size_append]; omega
          have hs1 : ¬ (9223372036854775807 < F.size + T.size) := by omega
          have hs2 : ¬ (9223372036854775807 < (F ++ T).size + F.size) := by rw [ByteArray.size_append]; omega
          have hUo : scheme U.data.toList = o := by
            rw [← hU, sum3, sum3, List.append_assoc, scheme_hidden _ _ _ HF.out HT.out]
            exact HO.out
          have hG2 := HG.out.later HBL2.out
          have hsc2 := scheme_any U wr hG2 hUs
          rw [hUo] at hsc2
          have HSC2 := Lib.hid hsc2
          have HG2 := Lib.hid hG2
          clear hsc2 hG2 hUo hUs
          go_wp2_with fail
          refine Calls.mono HSC2.out ?_
          rintro e w2 ⟨rfl, b2⟩
          rw [HX.out, HIS.out]
          have HB2 := Lib.hid b2
          clear b2
          go_wp2_with fail
          refine Calls.mono (known_any _ (HG2.out.later HB2.out)) ?_
          rintro e w3 ⟨rfl, b3⟩
          have HB3 := Lib.hid b3
          clear b3
          cases is
          all_goals
            go_wp2
            go_ret
            exact ⟨rfl, below_on (below_on HBL2.out HB2.out) HB3.out⟩
end Go.Proofs.YtibaoocklempnaaDoor
