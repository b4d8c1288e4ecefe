/- The reference's right; its Mark and the program's, plainly. The reference's Mark is the program's. -/
import Derived.Test.YtbcfhpomclkccaaDoorRsRm
import Derived.Test.YtbcfhpomclkccaaDoorRfNames
import Derived.Test.YtbcfhpomclkccaaDoorRsUn0
import Derived.Laws.Cover4
namespace Go.Proofs.YtbcfhpomclkccaaDoor
open Go.RowKit

theorem refright_any (n : Int) (w : World) : Calls Tryd.prog 69 #[.int .i64 n] w (RB w (charB n)) := by
  by_cases h0 : 0 < n
  · by_cases h1 : n ≤ 1114111
    · by_cases h2 : n < 55296
      · have hv : charB n = true := by unfold charB; simp [h0, h1, h2]
        rw [hv]
        clear hv
        go_enter Tryd.func69, Tryd.ntmps69
        go_wp2
        go_ret
        exact ⟨rfl, rfl⟩
      · by_cases h3 : 57343 < n
        · have hv : charB n = true := by unfold charB; simp [h0, h1, h3]
          rw [hv]
          clear hv
          go_enter Tryd.func69, Tryd.ntmps69
          go_wp2
          go_ret
          exact ⟨rfl, rfl⟩
        · have hv : charB n = false := by unfold charB; simp [h2, h3]
          rw [hv]
          clear hv
          go_enter Tryd.func69, Tryd.ntmps69
          go_wp2
          go_ret
          exact ⟨rfl, rfl⟩
    · have hv : charB n = false := by unfold charB; simp [h1]
      rw [hv]
      clear hv
      go_enter Tryd.func69, Tryd.ntmps69
      go_wp2
      go_ret
      exact ⟨rfl, rfl⟩
  · have hv : charB n = false := by unfold charB; simp [h0]
    rw [hv]
    clear hv
    go_enter Tryd.func69, Tryd.ntmps69
    go_wp2
    go_ret
    exact ⟨rfl, rfl⟩
theorem base_pos (l : List UInt8) : 1 ≤ (baseOf l).2 := by unfold baseOf; split <;> decide
theorem num_rel (l : List UInt8) : (refNum l).1 = (numericN l).2.2 ∧ (refNum l).2.1 = (numericN l).2.1 ∧ Alike (numericN l).1 (refNum l).2.2 := by
  unfold refNum numericN
  by_cases hp : Lib.hasPrefix l [38, 35] = true
  · rw [if_pos hp, if_pos hp]
    have hb := base_in l hp
    have h := dig_num l (baseOf l).1 (baseOf l).2 (base_pos l) l.length l.length 0 0 0 (by omega) (by omega) (.inl rfl)
    rw [Nat.add_zero] at h
    obtain ⟨h1, h2⟩ := h
    by_cases h0 : (digF (l.drop (baseOf l).1) (baseOf l).2 l.length 0 0).2 = 0
    · rw [if_pos h0, if_pos (by rw [h1, h0]; rfl)]
      exact ⟨rfl, rfl, .inl rfl⟩
    · rw [if_neg h0, if_neg (by rw [h1]; omega)]
      simp only
      exact ⟨h1.symm, by rw [h1]; omega, h2⟩
  · rw [if_neg hp, if_neg hp]
    exact ⟨rfl, rfl, .inl rfl⟩
theorem alike_char {n m : Nat} (h : Alike n m) : charB (m : Int) = charB (n : Int) ∧ (charB (n : Int) = true → m = n) := by
  rcases h with rfl | ⟨h1, h2⟩
  · exact ⟨rfl, fun _ => rfl⟩
  · have e1 : charB (n : Int) = false := by unfold charB; rw [decide_eq_false (by omega : ¬ (n : Int) ≤ 1114111)]; simp
    have e2 : charB (m : Int) = false := by unfold charB; rw [decide_eq_false (by omega : ¬ (m : Int) ≤ 1114111)]; simp
    rw [e1, e2]
    exact ⟨rfl, fun h => by cases h⟩
/-- The first of the names that a text begins with, between its signs. -/
def firstN (s : List UInt8) : List (ByteArray × ByteArray × Bool) → ByteArray × Nat
  | [] => (⟨#[]⟩, 0)
  | e :: r => if Lib.hasPrefix s (38 :: (e.1.data.toList ++ [59])) then (e.2.1, e.1.size + 2) else firstN s r
theorem firstN_none (s : List UInt8) : ∀ l : List (ByteArray × ByteArray × Bool), (∀ e ∈ l, Lib.hasPrefix s (38 :: (e.1.data.toList ++ [59])) = false) → firstN s l = (⟨#[]⟩, 0)
  | [], _ => rfl
  | e :: r, h => by rw [firstN, if_neg (by rw [h e (by simp)]; exact Bool.false_ne_true), firstN_none s r (fun x hx => h x (List.mem_cons_of_mem _ hx))]
theorem firstN_some (s : List UInt8) : ∀ l : List (ByteArray × ByteArray × Bool), (∃ e ∈ l, Lib.hasPrefix s (38 :: (e.1.data.toList ++ [59])) = true) → ∃ e ∈ l, Lib.hasPrefix s (38 :: (e.1.data.toList ++ [59])) = true ∧ firstN s l = (e.2.1, e.1.size + 2)
  | [], h => by obtain ⟨_, h, _⟩ := h; cases h
  | e :: r, h => by
    by_cases he : Lib.hasPrefix s (38 :: (e.1.data.toList ++ [59])) = true
    · exact ⟨e, by simp, he, by rw [firstN, if_pos he]⟩
    · obtain ⟨x, hx, hp⟩ := h
      have hx' : x ∈ r := by
        rcases List.mem_cons.1 hx with rfl | hx
        · exact absurd hp he
        · exact hx
      obtain ⟨y, hy, h1, h2⟩ := firstN_some s r ⟨x, hx', hp⟩
      exact ⟨y, List.mem_cons_of_mem _ hy, h1, by rw [firstN, if_neg he, h2]⟩
theorem findF_mem (k : List UInt8) : ∀ (l : List (ByteArray × ByteArray × Bool)) (o : Option (ByteArray × Bool)) (x : ByteArray × Bool), findF l k o = some x → o = some x ∨ ∃ e ∈ l, e.1.data.toList = k
  | [], _, _, h => .inl h
  | e :: r, o, x, h => by
    rw [findF] at h
    rcases findF_mem k r _ x h with h | ⟨y, hy, hk⟩
    · split at h
      · rename_i hc
        exact .inr ⟨e, by simp, by simpa using hc⟩
      · exact .inl h
    · exact .inr ⟨y, List.mem_cons_of_mem _ hy, hk⟩
set_option maxRecDepth 100000 in
theorem names_find : ∀ e ∈ namesL, findN e.1.data.toList = some e.2 := by decide +kernel
set_option maxRecDepth 100000 in
theorem names_semi : ∀ e ∈ namesL, ∀ c ∈ e.1.data.toList, ¬ c = 59 := by decide +kernel
set_option maxRecDepth 100000 in
theorem tab_names : tabL.all (fun e => namesL.any fun y => y.1.data.toList == e.1.data.toList) = true := by decide +kernel
theorem index_mid (c : UInt8) : ∀ (u r : List UInt8), (∀ x ∈ u, ¬ x = c) → Lib.indexByte (u ++ c :: r) c = u.length := by
  intro u r h
  rcases indexByte_spec (u ++ c :: r) c with ⟨_, h2⟩ | ⟨a, h1, h2, h3⟩
  · exact absurd (by simp) (h2 u.length)
  · rw [h1]
    have ha : a = u.length := by
      rcases Nat.lt_trichotomy a u.length with hlt | rfl | hgt
      · exfalso
        rw [List.getElem?_append_left hlt] at h2
        exact h _ (List.mem_of_getElem? h2) rfl
      · rfl
      · exact absurd (by simp) (h3 u.length hgt)
    rw [ha]
theorem first_mark (s : ByteArray) (h : (numericN s.data.toList).2.2 = 0) : markN s = firstN s.data.toList namesL := by
  have hl : s.data.toList.length = s.size := Array.length_toList
  have hm : markN s = if (cutS s 59).2.2 = false ∨ ((cutS s 59).1.data.toList[0]? == some 38) = false then (⟨#[]⟩, 0)
      else match findN ((cutS s 59).1.data.toList.drop 1) with
        | none => (⟨#[]⟩, 0)
        | some x => (x.1, (cutS s 59).1.size + 1) := by unfold markN; rw [if_neg (by omega)]; rfl
  rw [hm]
  by_cases hex : ∃ e ∈ namesL, Lib.hasPrefix s.data.toList (38 :: (e.1.data.toList ++ [59])) = true
  · obtain ⟨e, he, hp, hf⟩ := firstN_some s.data.toList namesL hex
    rw [hf]
    unfold Lib.hasPrefix at hp
    obtain ⟨t, ht⟩ := List.isPrefixOf_iff_prefix.1 hp
    have hs : s.data.toList = (38 :: e.1.data.toList) ++ 59 :: t := by rw [← ht]; simp
    have hi : Lib.indexByte s.data.toList 59 = ((e.1.data.toList.length + 1 : Nat) : Int) := by
      rw [hs, index_mid 59 (38 :: e.1.data.toList) t (fun x hx => by
        rcases List.mem_cons.1 hx with rfl | hx
        · decide
        · exact names_semi e he x hx)]
      simp
    have hc : cutS s 59 = (s.extract 0 (e.1.data.toList.length + 1), s.extract (e.1.data.toList.length + 1 + 1) s.size, true) := by
      unfold cutS
      rw [hi, if_neg (by omega), Int.toNat_natCast]
    rw [hc]
    simp only
    have hx : (s.extract 0 (e.1.data.toList.length + 1)).data.toList = 38 :: e.1.data.toList := by
      rw [Lib.extract_data, hs, List.drop_zero, Nat.sub_zero]
      show ((38 :: e.1.data.toList) ++ 59 :: t).take (38 :: e.1.data.toList).length = _
      exact List.take_left
    rw [hx, if_neg (by simp)]
    show (match findN e.1.data.toList with
      | none => _
      | some x => _) = _
    rw [names_find e he]
    simp only
    have hz : (s.extract 0 (e.1.data.toList.length + 1)).size = e.1.data.toList.length + 1 := by
      rw [Lib.size_eq, hx]; rfl
    rw [hz, Lib.size_eq e.1]
  · rw [firstN_none]
    · split
      · rfl
      · rename_i hcn
        rw [not_or] at hcn
        cases hfn : findN ((cutS s 59).1.data.toList.drop 1) with
        | none => rfl
        | some x =>
          exfalso
          apply hex
          unfold findN at hfn
          rcases findF_mem _ _ _ _ hfn with hn | ⟨e, he, hk⟩
          · cases hn
          · have h1 := List.all_eq_true.1 tab_names e he
            obtain ⟨y, hy, hye⟩ := List.any_eq_true.1 h1
            rw [beq_iff_eq] at hye
            refine ⟨y, hy, ?_⟩
            rw [hye, hk]
            obtain ⟨hc1, hc2⟩ := hcn
            unfold cutS at hc1 hc2 ⊢
            rcases indexByte_spec s.data.toList 59 with ⟨h1, _⟩ | ⟨a, h1, h2, _⟩
            · rw [h1, if_pos (by decide)] at hc1
              exact absurd rfl hc1
            · rw [h1, if_neg (by omega), Int.toNat_natCast] at hc2 ⊢
              simp only at hc2 ⊢
              have ha := (List.getElem?_eq_some_iff.1 h2).1
              have hxl : (s.extract 0 a).data.toList = s.data.toList.take a := by rw [Lib.extract_data, List.drop_zero, Nat.sub_zero]
              rw [hxl] at hc2 ⊢
              have hc2' : ((s.data.toList.take a)[0]? == some 38) = true := by simpa using hc2
              have h0 : (s.data.toList.take a)[0]? = some 38 := by simpa using hc2'
              unfold Lib.hasPrefix
              rw [List.isPrefixOf_iff_prefix]
              refine ⟨s.data.toList.drop (a + 1), ?_⟩
              have hd : s.data.toList.drop a = 59 :: s.data.toList.drop (a + 1) := by
                rw [List.drop_eq_getElem_cons ha]
                congr 1
                rw [List.getElem?_eq_getElem ha] at h2
                exact Option.some.inj h2
              have htk : s.data.toList.take a = 38 :: (s.data.toList.take a).drop 1 := by
                cases hq : s.data.toList.take a with
                | nil => rw [hq] at h0; cases h0
                | cons b r => rw [hq] at h0; simp at h0; rw [h0]; rfl
              have : s.data.toList = s.data.toList.take a ++ s.data.toList.drop a := (List.take_append_drop _ _).symm
              conv => rhs; rw [this, htk, hd]
              simp
    · intro e he
      cases hb : Lib.hasPrefix s.data.toList (38 :: (e.1.data.toList ++ [59])) with
      | false => rfl
      | true => exact absurd ⟨e, he, hb⟩ hex

theorem runes_one (n : Int) : runesBytes [n] = Utf8.encode n := by
  unfold runesBytes
  simp
theorem conv_one (w : World) (r : Int) : (convert 74 9 (.slice (some ⟨w.heap.size, 0, none⟩) 1 1)).run Tryd.prog (w.alloc (.cells #[.int .i32 r] 21)) = .ok (.string (Utf8.encode r)) (w.alloc (.cells #[.int .i32 r] 21)) := by
  have h := run_convert_runes (P := Tryd.prog) (w.alloc (.cells #[.int .i32 r] 21)) 74 9 21 ⟨w.heap.size, 0, none⟩ 1 1 [r] (Nat.le_refl _) Tryd.underlying74 Tryd.underlying21 Tryd.underlying9 (fun j hj => by
    have : j = 0 := by simp at hj; omega
    subst this
    exact cell_of_row _ w.heap.size 0 _ _ _ (heap_alloc_new w _))
  rw [show ([r] : List Int).take 1 = [r] from rfl, runes_one] at h
  exact h
set_option maxHeartbeats 4000000 in
set_option maxRecDepth 100000 in
theorem refmark_num (s : ByteArray) (w : World) (hs : s.size ≤ 1099511627776) (h : 0 < (numericN s.data.toList).2.2) : Calls Tryd.prog 34 #[.string s] w (SIb w (markN s).1 ((markN s).2 : Nat)) := by
  have hl : s.data.toList.length = s.size := Array.length_toList
  obtain ⟨hk1, hk2, hk3, hk4⟩ := numericN_in s.data.toList h
  have hrel := num_rel s.data.toList
  have HN := Lib.hid fun w' => refnumeric_any s w' hs
  have hm : markN s = (if (if x2 s.data.toList then 6 else 7) < (numericN s.data.toList).2.1 ∨ (s.data.toList[(numericN s.data.toList).2.2]? == some 59) = false then (⟨#[]⟩, 0)
     else (Utf8.encode (if charB (numericN s.data.toList).1 then ((numericN s.data.toList).1 : Int) else 65533), (numericN s.data.toList).2.2 + 1)) := by unfold markN; rw [if_pos h]
  obtain ⟨⟨n, c, k⟩, hnn⟩ : ∃ x, numericN s.data.toList = x := ⟨_, rfl⟩
  rw [hnn] at h hk1 hk2 hk3 hk4 hrel hm
  simp only at h hk1 hk2 hk3 hk4 hrel hm
  obtain ⟨⟨k', c', m⟩, hrr⟩ : ∃ x, refNum s.data.toList = x := ⟨_, rfl⟩
  rw [hrr] at HN hrel
  simp only at hrel
  obtain ⟨rfl, rfl, hal⟩ := hrel
  obtain ⟨hcm, hcn⟩ := alike_char hal
  rw [hl] at hk2 hk3
  have h2 : 2 < s.size := by omega
  have h2i : (2 : Int) < (s.size : Int) := by omega
  have hki : (0 : Int) < (k' : Int) := by omega
  have hg := get_list s 2 h2
  obtain ⟨b, hb⟩ : ∃ b, s[2] = b := ⟨_, rfl⟩
  rw [hb] at hg
  have hx2 : x2 s.data.toList = isX b := by unfold x2; rw [hg]
  have hix := isX_at b
  rw [hx2] at hm
  have HR := Lib.hid fun w' => refright_any (m : Int) w'
  rw [hcm] at HR
  have HM := Lib.hid hm
  have HCN := Lib.hid hcn
  have hnc : charB (n : Int) = true → 0 < n ∧ n ≤ 1114111 := fun h => by
    unfold charB at h
    simp at h
    omega
  have HNC := Lib.hid hnc
  have hcv := fun (r : Int) => conv_one w r
  clear hm hcn hal hnn hrr hg hx2 hl hcm hnc
  by_cases h120 : b.toNat = 120
  · have i1 : ((b.toNat : Int) == 120) = true := by rw [h120]; rfl
    have hxb : (if isX b = true then 6 else 7) = 6 := by rw [hix, h120]; rfl
    clear hix h120
    by_cases hc : 6 < c'
    · have HV := Lib.hid (show markN s = (⟨#[]⟩, 0) by rw [HM.out, hxb]; exact if_pos (.inl hc))
      have hci : (6 : Int) < (c' : Int) := by omega
      clear hc hxb
      go_enter Tryd.func34, Tryd.ntmps34
      go_wp2_with fail
      refine Calls.mono (HN.out _) ?_
      rintro e w' ⟨rfl, rfl⟩
      go_wp2_with fail
      (try rw [hb])
      go_wp2_with fail
      (try rw [hy])
      go_wp2
      go_ret2
      rw [HV.out]
      exact ⟨rfl, Below.refl _ _⟩
    · have hci : ¬ (6 : Int) < (c' : Int) := by omega
      by_cases hks : k' < s.size
      · have hksi : ¬ (s.size : Int) ≤ (k' : Int) := by omega
        have hksj : (k' : Int) < (s.size : Int) := by omega
        have hgk := get_list s k' hks
        obtain ⟨y, hy⟩ : ∃ y, s[k'] = y := ⟨_, rfl⟩
        rw [hy] at hgk
        by_cases h59 : y = 59
        · have i59 : ((y.toNat : Int) != 59) = false := by rw [show ((y.toNat : Int) != 59) = (y != 59) from bnec y 59, h59]; rfl
          have hv0 : markN s = (Utf8.encode (if charB n then (n : Int) else 65533), k' + 1) := by
            rw [HM.out, hxb]
            refine if_neg ?_
            rw [hgk, h59]
            rintro (h | h)
            · exact hc h
            · exact absurd h (by decide)
          cases hch : charB (n : Int) with
          | true =>
            rw [hch] at HR
            rw [hch, if_pos rfl] at hv0
            have hmn := HCN.out hch
            obtain ⟨hn0, hn1⟩ := HNC.out hch
            subst hmn
            have hcv2 := hcv (m : Int)
            obtain ⟨FF, hFF⟩ : ∃ FF, Utf8.encode (m : Int) = FF := ⟨_, rfl⟩
            rw [hFF] at hv0 hcv2
            have HV := Lib.hid hv0
            clear hc hxb hgk h59 hv0 hch hcv hFF
            go_enter Tryd.func34, Tryd.ntmps34
            go_wp2_with fail
            refine Calls.mono (HN.out _) ?_
            rintro e w' ⟨rfl, rfl⟩
            go_wp2_with fail
            (try rw [hb])
            go_wp2_with fail
            (try rw [hy])
            go_wp2_with fail
            refine Calls.mono (HR.out _) ?_
            rintro e w' ⟨rfl, rfl⟩
            go_wp2
            go_ret2
            rw [HV.out]
            exact ⟨rfl, (Below.refl _ _).alloc (Nat.le_refl _) _⟩
          | false =>
            rw [hch] at HR
            rw [hch, if_neg Bool.false_ne_true] at hv0
            have hcv2 := hcv 65533
            obtain ⟨FF, hFF⟩ : ∃ FF, Utf8.encode 65533 = FF := ⟨_, rfl⟩
            rw [hFF] at hv0 hcv2
            have HV := Lib.hid hv0
            clear hc hxb hgk h59 hv0 hch hcv hFF
            go_enter Tryd.func34, Tryd.ntmps34
            go_wp2_with fail
            refine Calls.mono (HN.out _) ?_
            rintro e w' ⟨rfl, rfl⟩
            go_wp2_with fail
            (try rw [hb])
            go_wp2_with fail
            (try rw [hy])
            go_wp2_with fail
            refine Calls.mono (HR.out _) ?_
            rintro e w' ⟨rfl, rfl⟩
            go_wp2
            go_ret2
            rw [HV.out]
            exact ⟨rfl, (Below.refl _ _).alloc (Nat.le_refl _) _⟩
        · have i59 : ((y.toNat : Int) != 59) = true := by rw [show ((y.toNat : Int) != 59) = (y != 59) from bnec y 59]; simpa using h59
          have HV := Lib.hid (show markN s = (⟨#[]⟩, 0) by rw [HM.out, hxb]; exact if_pos (.inr (by rw [hgk]; simpa using h59)))
          clear hc hxb hgk h59
          go_enter Tryd.func34, Tryd.ntmps34
          go_wp2_with fail
          refine Calls.mono (HN.out _) ?_
          rintro e w' ⟨rfl, rfl⟩
          go_wp2_with fail
          (try rw [hb])
          go_wp2_with fail
          (try rw [hy])
          go_wp2
          go_ret2
          rw [HV.out]
          exact ⟨rfl, Below.refl _ _⟩
      · have hksi : (s.size : Int) ≤ (k' : Int) := by omega
        have HV := Lib.hid (show markN s = (⟨#[]⟩, 0) by rw [HM.out, hxb]; exact if_pos (.inr (by rw [get_none s k' hks]; rfl)))
        clear hc hxb hks
        go_enter Tryd.func34, Tryd.ntmps34
        go_wp2_with fail
        refine Calls.mono (HN.out _) ?_
        rintro e w' ⟨rfl, rfl⟩
        go_wp2_with fail
        (try rw [hb])
        go_wp2_with fail
        go_wp2
        go_ret2
        rw [HV.out]
        exact ⟨rfl, Below.refl _ _⟩
  · have i1 : ((b.toNat : Int) == 120) = false := by rw [beq_eq_false_iff_ne]; omega
    by_cases h88 : b.toNat = 88
    · have i2 : ((b.toNat : Int) == 88) = true := by rw [h88]; rfl
      have hxb : (if isX b = true then 6 else 7) = 6 := by rw [hix, h88]; rfl
      clear hix h88 h120
      by_cases hc : 6 < c'
      · have HV := Lib.hid (show markN s = (⟨#[]⟩, 0) by rw [HM.out, hxb]; exact if_pos (.inl hc))
        have hci : (6 : Int) < (c' : Int) := by omega
        clear hc hxb
        go_enter Tryd.func34, Tryd.ntmps34
        go_wp2_with fail
        refine Calls.mono (HN.out _) ?_
        rintro e w' ⟨rfl, rfl⟩
        go_wp2_with fail
        (try rw [hb])
        go_wp2_with fail
        (try rw [hy])
        go_wp2
        go_ret2
        rw [HV.out]
        exact ⟨rfl, Below.refl _ _⟩
      · have hci : ¬ (6 : Int) < (c' : Int) := by omega
        by_cases hks : k' < s.size
        · have hksi : ¬ (s.size : Int) ≤ (k' : Int) := by omega
          have hksj : (k' : Int) < (s.size : Int) := by omega
          have hgk := get_list s k' hks
          obtain ⟨y, hy⟩ : ∃ y, s[k'] = y := ⟨_, rfl⟩
          rw [hy] at hgk
          by_cases h59 : y = 59
          · have i59 : ((y.toNat : Int) != 59) = false := by rw [show ((y.toNat : Int) != 59) = (y != 59) from bnec y 59, h59]; rfl
            have hv0 : markN s = (Utf8.encode (if charB n then (n : Int) else 65533), k' + 1) := by
              rw [HM.out, hxb]
              refine if_neg ?_
              rw [hgk, h59]
              rintro (h | h)
              · exact hc h
              · exact absurd h (by decide)
            cases hch : charB (n : Int) with
            | true =>
              rw [hch] at HR
              rw [hch, if_pos rfl] at hv0
              have hmn := HCN.out hch
              obtain ⟨hn0, hn1⟩ := HNC.out hch
              subst hmn
              have hcv2 := hcv (m : Int)
              obtain ⟨FF, hFF⟩ : ∃ FF, Utf8.encode (m : Int) = FF := ⟨_, rfl⟩
              rw [hFF] at hv0 hcv2
              have HV := Lib.hid hv0
              clear hc hxb hgk h59 hv0 hch hcv hFF
              go_enter Tryd.func34, Tryd.ntmps34
              go_wp2_with fail
              refine Calls.mono (HN.out _) ?_
              rintro e w' ⟨rfl, rfl⟩
              go_wp2_with fail
              (try rw [hb])
              go_wp2_with fail
              (try rw [hy])
              go_wp2_with fail
              refine Calls.mono (HR.out _) ?_
              rintro e w' ⟨rfl, rfl⟩
              go_wp2
              go_ret2
              rw [HV.out]
              exact ⟨rfl, (Below.refl _ _).alloc (Nat.le_refl _) _⟩
            | false =>
              rw [hch] at HR
              rw [hch, if_neg Bool.false_ne_true] at hv0
              have hcv2 := hcv 65533
              obtain ⟨FF, hFF⟩ : ∃ FF, Utf8.encode 65533 = FF := ⟨_, rfl⟩
              rw [hFF] at hv0 hcv2
              have HV := Lib.hid hv0
              clear hc hxb hgk h59 hv0 hch hcv hFF
              go_enter Tryd.func34, Tryd.ntmps34
              go_wp2_with fail
              refine Calls.mono (HN.out _) ?_
              rintro e w' ⟨rfl, rfl⟩
              go_wp2_with fail
              (try rw [hb])
              go_wp2_with fail
              (try rw [hy])
              go_wp2_with fail
              refine Calls.mono (HR.out _) ?_
              rintro e w' ⟨rfl, rfl⟩
              go_wp2
              go_ret2
              rw [HV.out]
              exact ⟨rfl, (Below.refl _ _).alloc (Nat.le_refl _) _⟩
          · have i59 : ((y.toNat : Int) != 59) = true := by rw [show ((y.toNat : Int) != 59) = (y != 59) from bnec y 59]; simpa using h59
            have HV := Lib.hid (show markN s = (⟨#[]⟩, 0) by rw [HM.out, hxb]; exact if_pos (.inr (by rw [hgk]; simpa using h59)))
            clear hc hxb hgk h59
            go_enter Tryd.func34, Tryd.ntmps34
            go_wp2_with fail
            refine Calls.mono (HN.out _) ?_
            rintro e w' ⟨rfl, rfl⟩
            go_wp2_with fail
            (try rw [hb])
            go_wp2_with fail
            (try rw [hy])
            go_wp2
            go_ret2
            rw [HV.out]
            exact ⟨rfl, Below.refl _ _⟩
        · have hksi : (s.size : Int) ≤ (k' : Int) := by omega
          have HV := Lib.hid (show markN s = (⟨#[]⟩, 0) by rw [HM.out, hxb]; exact if_pos (.inr (by rw [get_none s k' hks]; rfl)))
          clear hc hxb hks
          go_enter Tryd.func34, Tryd.ntmps34
          go_wp2_with fail
          refine Calls.mono (HN.out _) ?_
          rintro e w' ⟨rfl, rfl⟩
          go_wp2_with fail
          (try rw [hb])
          go_wp2_with fail
          go_wp2
          go_ret2
          rw [HV.out]
          exact ⟨rfl, Below.refl _ _⟩
    · have i2 : ((b.toNat : Int) == 88) = false := by rw [beq_eq_false_iff_ne]; omega
      have hxb : (if isX b = true then 6 else 7) = 7 := by rw [hix, decide_eq_false h120, decide_eq_false h88]; rfl
      clear hix h88 h120
      by_cases hc : 7 < c'
      · have HV := Lib.hid (show markN s = (⟨#[]⟩, 0) by rw [HM.out, hxb]; exact if_pos (.inl hc))
        have hci : (7 : Int) < (c' : Int) := by omega
        clear hc hxb
        go_enter Tryd.func34, Tryd.ntmps34
        go_wp2_with fail
        refine Calls.mono (HN.out _) ?_
        rintro e w' ⟨rfl, rfl⟩
        go_wp2_with fail
        (try rw [hb])
        go_wp2_with fail
        (try rw [hy])
        go_wp2
        go_ret2
        rw [HV.out]
        exact ⟨rfl, Below.refl _ _⟩
      · have hci : ¬ (7 : Int) < (c' : Int) := by omega
        by_cases hks : k' < s.size
        · have hksi : ¬ (s.size : Int) ≤ (k' : Int) := by omega
          have hksj : (k' : Int) < (s.size : Int) := by omega
          have hgk := get_list s k' hks
          obtain ⟨y, hy⟩ : ∃ y, s[k'] = y := ⟨_, rfl⟩
          rw [hy] at hgk
          by_cases h59 : y = 59
          · have i59 : ((y.toNat : Int) != 59) = false := by rw [show ((y.toNat : Int) != 59) = (y != 59) from bnec y 59, h59]; rfl
            have hv0 : markN s = (Utf8.encode (if charB n then (n : Int) else 65533), k' + 1) := by
              rw [HM.out, hxb]
              refine if_neg ?_
              rw [hgk, h59]
              rintro (h | h)
              · exact hc h
              · exact absurd h (by decide)
            cases hch : charB (n : Int) with
            | true =>
              rw [hch] at HR
              rw [hch, if_pos rfl] at hv0
              have hmn := HCN.out hch
              obtain ⟨hn0, hn1⟩ := HNC.out hch
              subst hmn
              have hcv2 := hcv (m : Int)
              obtain ⟨FF, hFF⟩ : ∃ FF, Utf8.encode (m : Int) = FF := ⟨_, rfl⟩
              rw [hFF] at hv0 hcv2
              have HV := Lib.hid hv0
              clear hc hxb hgk h59 hv0 hch hcv hFF
              go_enter Tryd.func34, Tryd.ntmps34
              go_wp2_with fail
              refine Calls.mono (HN.out _) ?_
              rintro e w' ⟨rfl, rfl⟩
              go_wp2_with fail
              (try rw [hb])
              go_wp2_with fail
              (try rw [hy])
              go_wp2_with fail
              refine Calls.mono (HR.out _) ?_
              rintro e w' ⟨rfl, rfl⟩
              go_wp2
              go_ret2
              rw [HV.out]
              exact ⟨rfl, (Below.refl _ _).alloc (Nat.le_refl _) _⟩
            | false =>
              rw [hch] at HR
              rw [hch, if_neg Bool.false_ne_true] at hv0
              have hcv2 := hcv 65533
              obtain ⟨FF, hFF⟩ : ∃ FF, Utf8.encode 65533 = FF := ⟨_, rfl⟩
              rw [hFF] at hv0 hcv2
              have HV := Lib.hid hv0
              clear hc hxb hgk h59 hv0 hch hcv hFF
              go_enter Tryd.func34, Tryd.ntmps34
              go_wp2_with fail
              refine Calls.mono (HN.out _) ?_
              rintro e w' ⟨rfl, rfl⟩
              go_wp2_with fail
              (try rw [hb])
              go_wp2_with fail
              (try rw [hy])
              go_wp2_with fail
              refine Calls.mono (HR.out _) ?_
              rintro e w' ⟨rfl, rfl⟩
              go_wp2
              go_ret2
              rw [HV.out]
              exact ⟨rfl, (Below.refl _ _).alloc (Nat.le_refl _) _⟩
          · have i59 : ((y.toNat : Int) != 59) = true := by rw [show ((y.toNat : Int) != 59) = (y != 59) from bnec y 59]; simpa using h59
            have HV := Lib.hid (show markN s = (⟨#[]⟩, 0) by rw [HM.out, hxb]; exact if_pos (.inr (by rw [hgk]; simpa using h59)))
            clear hc hxb hgk h59
            go_enter Tryd.func34, Tryd.ntmps34
            go_wp2_with fail
            refine Calls.mono (HN.out _) ?_
            rintro e w' ⟨rfl, rfl⟩
            go_wp2_with fail
            (try rw [hb])
            go_wp2_with fail
            (try rw [hy])
            go_wp2
            go_ret2
            rw [HV.out]
            exact ⟨rfl, Below.refl _ _⟩
        · have hksi : (s.size : Int) ≤ (k' : Int) := by omega
          have HV := Lib.hid (show markN s = (⟨#[]⟩, 0) by rw [HM.out, hxb]; exact if_pos (.inr (by rw [get_none s k' hks]; rfl)))
          clear hc hxb hks
          go_enter Tryd.func34, Tryd.ntmps34
          go_wp2_with fail
          refine Calls.mono (HN.out _) ?_
          rintro e w' ⟨rfl, rfl⟩
          go_wp2_with fail
          (try rw [hb])
          go_wp2_with fail
          go_wp2
          go_ret2
          rw [HV.out]
          exact ⟨rfl, Below.refl _ _⟩
theorem names_full : ∀ i : Fin 98, ∃ (x y : ByteArray) (z : Bool), namesC[i.val * 3]? = some (.string x) ∧ namesC[i.val * 3 + 1]? = some (.string y) ∧ namesL[i.val]? = some (x, y, z) ∧ x.size ≤ 20 := by
  have key : (List.range 98).all (fun i => match namesC[i * 3]?, namesC[i * 3 + 1]?, namesL[i]? with | some (.string x), some (.string y), some e => decide (x.size ≤ 20) && (decide (x = e.1) && decide (y = e.2.1)) | _, _, _ => false) = true := by decide +kernel
  intro i
  rw [List.all_eq_true] at key
  have := key i.val (List.mem_range.2 i.isLt)
  revert this
  split
  · rename_i x y e h1 h2 h3
    intro h
    simp at h
    obtain ⟨hz, rfl, rfl⟩ := h
    exact ⟨e.1, e.2.1, e.2.2, h1, h2, h3, hz⟩
  · intro h; cases h
def MkW (s : List UInt8) (w : World) (v10 : Value) (wr : World) : Prop := ∃ (i d : Nat), v10 = .int .i64 (i : Int) ∧ i ≤ 98 ∧ firstN s (namesL.drop i) = firstN s namesL ∧ wr = w.drewN d
theorem amp_list (x : ByteArray) : ((⟨#[38]⟩ ++ x ++ ⟨#[59]⟩ : ByteArray)).data.toList = 38 :: (x.data.toList ++ [59]) := by
  simp [ByteArray.data_append]
set_option maxHeartbeats 4000000 in
set_option maxRecDepth 100000 in
theorem refmark_name (s : ByteArray) (w : World) (hs : s.size ≤ 1099511627776) (h : (numericN s.data.toList).2.2 = 0) : Calls Tryd.prog 34 #[.string s] w (SIb w (markN s).1 ((markN s).2 : Nat)) := by
  have HF := Lib.hid (first_mark s h)
  have hrel := (num_rel s.data.toList).1
  rw [h] at hrel
  have HN := Lib.hid fun w' => refnumeric_any s w' hs
  obtain ⟨⟨k', c', m⟩, hrr⟩ : ∃ x, refNum s.data.toList = x := ⟨_, rfl⟩
  rw [hrr] at HN hrel
  simp only at hrel
  subst hrel
  have HB := Lib.hid fun (x : ByteArray) w' => begins_any s x w'
  have HNm := Lib.hid fun w' => names_any w'
  obtain ⟨W, hW⟩ : ∃ W, w.alloc (.cells namesC 95) = W := ⟨_, rfl⟩
  have hbW : Below w.heap.size w W := by rw [← hW]; exact (Below.refl _ _).alloc (Nat.le_refl _) _
  have hcW : ∀ (i : Nat) v, namesC[i]? = some v → W.cell? ⟨w.heap.size, i, none⟩ = some v := fun i v hv => by
    rw [← hW, World.cell?_alloc_new]
    exact hv
  have HW := Lib.hid hW; have HBW := Lib.hid hbW; have HCW := Lib.hid hcW
  clear hrr h hW hbW hcW
  go_enter Tryd.func34, Tryd.ntmps34
  go_wp2_with fail
  refine Calls.mono (HN.out _) ?_
  rintro e w' ⟨rfl, rfl⟩
  go_wp2_with fail
  refine Calls.mono (HNm.out _) ?_
  rintro e w1 ⟨rfl, hw1⟩
  rw [HW.out] at hw1
  rw [hw1]
  clear hw1
  go_wp2_with fail
  go_loopw [10] (fun v10 wr => MkW s.data.toList W v10 wr) (fun v10 _ => 98 - (intOf v10).toNat)
  case atStart => exact ⟨0, 0, rfl, by omega, rfl, rfl⟩
  case round =>
    obtain ⟨i, d, rfl, hi, hf, hwr⟩ := hrel
    subst hwr
    have HFi := Lib.hid hf
    clear hf
    by_cases hlt : i < 98
    · have hii : (i : Int) < 98 := by omega
      obtain ⟨x, y, z, q1, q2, q3, hxz⟩ := names_full ⟨i, hlt⟩
      have c1 : W.cell? ⟨w.heap.size, i * 3, none⟩ = some (.string x) := HCW.out _ _ q1
      have c2 : W.cell? ⟨w.heap.size, i * 3 + 1, none⟩ = some (.string y) := HCW.out _ _ q2
      have hd : namesL.drop i = (x, y, z) :: namesL.drop (i + 1) := by
        have hlt' : i < namesL.length := (List.getElem?_eq_some_iff.1 q3).1
        rw [List.drop_eq_getElem_cons hlt']
        congr 1
        exact (List.getElem?_eq_some_iff.1 q3).2
      have hfi := HFi.out
      rw [hd, firstN] at hfi
      obtain ⟨t, ht⟩ : ∃ t : ByteArray, (⟨#[38]⟩ ++ x ++ ⟨#[59]⟩ : ByteArray) = t := ⟨_, rfl⟩
      have htl : t.data.toList = 38 :: (x.data.toList ++ [59]) := by rw [← ht]; exact amp_list x
      have HT := Lib.hid ht
      have HBt := Lib.hid fun w' => HB.out t w'
      rw [htl] at HBt
      simp only at hfi
      cases hp : Lib.hasPrefix s.data.toList (38 :: (x.data.toList ++ [59])) with
      | true =>
        rw [hp] at HBt hfi
        rw [if_pos rfl] at hfi
        have HV := Lib.hid (show markN s = (y, x.size + 2) by rw [HF.out, ← hfi])
        clear hfi hp htl ht hd q1 q2 q3
        go_wp2_with fail
        rw [HT.out]
        refine Calls.mono (HBt.out _) ?_
        rintro e w' ⟨rfl, rfl⟩
        go_wp2_with fail
        go_quiet (fail)
        go_wp2
        go_ret2
        rw [HV.out]
        exact ⟨rfl, below_drewN (below_drewN HBW.out _) _⟩
      | false =>
        rw [hp] at HBt hfi
        rw [if_neg Bool.false_ne_true] at hfi
        have HN2 := Lib.hid hfi
        clear hfi hp htl ht hd q1 q2 q3
        go_wp2_with fail
        rw [HT.out]
        refine Calls.mono (HBt.out _) ?_
        rintro e w' ⟨rfl, rfl⟩
        go_wp2_with fail
        go_roundw
        case rel => exact ⟨i + 1, _, rfl, by omega, HN2.out, rfl⟩
        case measure => simp [intOf]; omega
    · have hi98 : i = 98 := by omega
      have HV := Lib.hid (show markN s = (⟨#[]⟩, 0) by
        rw [HF.out, ← HFi.out, hi98, List.drop_eq_nil_of_le (by decide)]
        rfl)
      have hii : ¬ (i : Int) < 98 := by omega
      clear hi98
      go_wp2
      go_ret2
      rw [HV.out]
      exact ⟨rfl, below_drewN HBW.out _⟩
theorem refmark_any (s : ByteArray) (w : World) (hs : s.size ≤ 1099511627776) : Calls Tryd.prog 34 #[.string s] w (SIb w (markN s).1 ((markN s).2 : Nat)) := by
  by_cases h : 0 < (numericN s.data.toList).2.2
  · exact refmark_num s w hs h
  · exact refmark_name s w hs (by omega)
end Go.Proofs.YtbcfhpomclkccaaDoor
