/- leaf.HTML; leaf.Ends at an example. -/
import Derived.Test.YtjhfmdfihbkcaaaGreatDoorLfAfter
import Derived.Test.YtjhfmdfihbkcaaaGreatDoorAtEnds
import Derived.Deep.DeepCutAuto
namespace Go.Proofs.YtjhfmdfihbkcaaaGreatDoor
open Go.RowKit

def rawsT : ByteArray := ⟨#[115, 99, 114, 105, 112, 116, 32, 112, 114, 101, 32, 116, 101, 120, 116, 97, 114, 101, 97, 32, 115, 116, 121, 108, 101]⟩
def blocksT : ByteArray := ⟨#[97, 100, 100, 114, 101, 115, 115, 32, 97, 114, 116, 105, 99, 108, 101, 32, 97, 115, 105, 100, 101, 32, 98, 97, 115, 101, 32, 98, 97, 115, 101, 102, 111, 110, 116, 32, 98, 108, 111, 99, 107, 113, 117, 111, 116, 101, 32, 98, 111, 100, 121, 32, 99, 97, 112, 116, 105, 111, 110, 32, 99, 101, 110, 116, 101, 114, 32, 99, 111, 108, 32, 99, 111, 108, 103, 114, 111, 117, 112, 32, 100, 100, 32, 100, 101, 116, 97, 105, 108, 115, 32, 100, 105, 97, 108, 111, 103, 32, 100, 105, 114, 32, 100, 105, 118, 32, 100, 108, 32, 100, 116, 32, 102, 105, 101, 108, 100, 115, 101, 116, 32, 102, 105, 103, 99, 97, 112, 116, 105, 111, 110, 32, 102, 105, 103, 117, 114, 101, 32, 102, 111, 111, 116, 101, 114, 32, 102, 111, 114, 109, 32, 102, 114, 97, 109, 101, 32, 102, 114, 97, 109, 101, 115, 101, 116, 32, 104, 49, 32, 104, 50, 32, 104, 51, 32, 104, 52, 32, 104, 53, 32, 104, 54, 32, 104, 101, 97, 100, 32, 104, 101, 97, 100, 101, 114, 32, 104, 114, 32, 104, 116, 109, 108, 32, 105, 102, 114, 97, 109, 101, 32, 108, 101, 103, 101, 110, 100, 32, 108, 105, 32, 108, 105, 110, 107, 32, 109, 97, 105, 110, 32, 109, 101, 110, 117, 32, 109, 101, 110, 117, 105, 116, 101, 109, 32, 110, 97, 118, 32, 110, 111, 102, 114, 97, 109, 101, 115, 32, 111, 108, 32, 111, 112, 116, 103, 114, 111, 117, 112, 32, 111, 112, 116, 105, 111, 110, 32, 112, 32, 112, 97, 114, 97, 109, 32, 115, 101, 97, 114, 99, 104, 32, 115, 101, 99, 116, 105, 111, 110, 32, 115, 117, 109, 109, 97, 114, 121, 32, 116, 97, 98, 108, 101, 32, 116, 98, 111, 100, 121, 32, 116, 100, 32, 116, 102, 111, 111, 116, 32, 116, 104, 32, 116, 104, 101, 97, 100, 32, 116, 105, 116, 108, 101, 32, 116, 114, 32, 116, 114, 97, 99, 107, 32, 117, 108]⟩
theorem all_ascii {l : List UInt8} (h : l.all (fun b => decide (b.toNat < 128)) = true) : ∀ (j : Nat) b, l[j]? = some b → b.toNat < 128 := ascii_of_all h
theorem raws_ascii : rawsT.data.toList.all (fun b => decide (b.toNat < 128)) = true := by decide +kernel
theorem blocks_ascii : blocksT.data.toList.all (fun b => decide (b.toNat < 128)) = true := by decide +kernel
theorem raws_small : (Lib.fields rawsT.data.toList).all (fun x => decide (x.length ≤ 100)) = true := by decide +kernel
theorem blocks_small : (Lib.fields blocksT.data.toList).all (fun x => decide (x.length ≤ 100)) = true := by decide +kernel
theorem raws_n : (Lib.fields rawsT.data.toList).length = 4 := by decide +kernel
theorem blocks_n : (Lib.fields blocksT.data.toList).length ≤ 100000 := by decide +kernel
theorem small_all {l : List (List UInt8)} (h : l.all (fun x => decide (x.length ≤ 100)) = true) : ∀ x ∈ l, x.length ≤ 100 := fun x hx => by simpa using List.all_eq_true.1 h x hx
def afterR (l : List UInt8) : Bool := aftB (lowerL l) ⟨#[60]⟩ [⟨#[62]⟩] (Lib.fields rawsT.data.toList)
def afterO (l : List UInt8) : Bool := aftB (lowerL l) ⟨#[60]⟩ [⟨#[62]⟩, ⟨#[47, 62]⟩] (Lib.fields blocksT.data.toList)
def afterS (l : List UInt8) : Bool := aftB (lowerL l) ⟨#[60, 47]⟩ [⟨#[62]⟩, ⟨#[47, 62]⟩] (Lib.fields blocksT.data.toList)
theorem after_r (s : ByteArray) (g : Nat) (w : World) (hs : s.size ≤ 1099511627) (hb : Box w g 9 ([⟨#[62]⟩].map Value.string).toArray) (ht : SpTab w) : Calls Tryz.prog 28 #[.string s, .string ⟨#[60]⟩, .string rawsT, .slice (some ⟨g, 0, none⟩) 1 1] w (RBw w (afterR s.data.toList)) :=
  after_any s ⟨#[60]⟩ rawsT g [⟨#[62]⟩] w hs (by decide) (by decide +kernel) (all_ascii raws_ascii) (small_all raws_small) (by rw [raws_n]; decide) hb (by decide) (by decide) ht
theorem after_o (s : ByteArray) (g : Nat) (w : World) (hs : s.size ≤ 1099511627) (hb : Box w g 9 ([⟨#[62]⟩, ⟨#[47, 62]⟩].map Value.string).toArray) (ht : SpTab w) : Calls Tryz.prog 28 #[.string s, .string ⟨#[60]⟩, .string blocksT, .slice (some ⟨g, 0, none⟩) 2 2] w (RBw w (afterO s.data.toList)) :=
  after_any s ⟨#[60]⟩ blocksT g [⟨#[62]⟩, ⟨#[47, 62]⟩] w hs (by decide) (by decide +kernel) (all_ascii blocks_ascii) (small_all blocks_small) blocks_n hb (by decide) (by decide) ht
theorem after_s (s : ByteArray) (g : Nat) (w : World) (hs : s.size ≤ 1099511627) (hb : Box w g 9 ([⟨#[62]⟩, ⟨#[47, 62]⟩].map Value.string).toArray) (ht : SpTab w) : Calls Tryz.prog 28 #[.string s, .string ⟨#[60, 47]⟩, .string blocksT, .slice (some ⟨g, 0, none⟩) 2 2] w (RBw w (afterS s.data.toList)) :=
  after_any s ⟨#[60, 47]⟩ blocksT g [⟨#[62]⟩, ⟨#[47, 62]⟩] w hs (by decide) (by decide +kernel) (all_ascii blocks_ascii) (small_all blocks_small) blocks_n hb (by decide) (by decide) ht
def declB (l : List UInt8) : Bool := decide (2 < l.length) && (l.take 2 == [60, 33]) && (match l[2]? with | some b => letter b | none => false)
def blankB (l : List UInt8) : Bool := decide (0 < tagN l) && (blankT (l.drop (tagN l))).isEmpty
/-- The kind of a block of HTML. -/
def htmlN (l : List UInt8) : Nat :=
  if afterR l = true then 1 else if Lib.hasPrefix l [60, 33, 45, 45] = true then 2 else if Lib.hasPrefix l [60, 63] = true then 3 else if declB l = true then 4 else
  if Lib.hasPrefix l [60, 33, 91, 67, 68, 65, 84, 65, 91] = true then 5 else if afterO l = true then 6 else if afterS l = true then 6 else if blankB l = true then 7 else 0
set_option maxHeartbeats 4000000 in
set_option maxRecDepth 100000 in
theorem html_any (s : ByteArray) (w : World) (hs : s.size ≤ 1099511627) (ht : SpTab w) : Calls Tryz.prog 11 #[.string s] w (RIb w (htmlN s.data.toList : Nat)) := by
  have HR := Lib.hid fun g w' h1 h2 => after_r s g w' hs h1 h2
  have HO := Lib.hid fun g w' h1 h2 => after_o s g w' hs h1 h2
  have HS := Lib.hid fun g w' h1 h2 => after_s s g w' hs h1 h2
  have HTg := Lib.hid fun w' => tag_any s w' hs
  have HP2 := Lib.hid fun w' => Tryz.strings_HasPrefix s ⟨#[60, 33, 45, 45]⟩ w'
  have HP3 := Lib.hid fun w' => Tryz.strings_HasPrefix s ⟨#[60, 63]⟩ w'
  have HP5 := Lib.hid fun w' => Tryz.strings_HasPrefix s ⟨#[60, 33, 91, 67, 68, 65, 84, 65, 91]⟩ w'
  rw [show (⟨#[60, 33, 45, 45]⟩ : ByteArray).data.toList = [60, 33, 45, 45] from rfl] at HP2
  rw [show (⟨#[60, 63]⟩ : ByteArray).data.toList = [60, 63] from rfl] at HP3
  rw [show (⟨#[60, 33, 91, 67, 68, 65, 84, 65, 91]⟩ : ByteArray).data.toList = [60, 33, 91, 67, 68, 65, 84, 65, 91] from rfl] at HP5
  have HT := Lib.hid ht
  clear ht
  obtain ⟨K, hK⟩ : ∃ K, htmlN s.data.toList = K := ⟨_, rfl⟩
  rw [hK]
  have HK := Lib.hid hK
  clear hK
  obtain ⟨C, hC⟩ : ∃ C, declB s.data.toList = C := ⟨_, rfl⟩
  have HC := Lib.hid hC
  clear hC
  go_enter Tryz.func11, Tryz.ntmps11
  go_wp2_with fail
  refine Calls.mono (HTg.out _) ?_
  rintro e w1 ⟨rfl, b1⟩
  have HB1 := Lib.hid b1
  clear b1
  go_wp2_with fail
  refine Calls.mono (HR.out _ _ (Box.new w1 _ _) (HT.out.later (HB1.out.alloc HB1.out.size _))) ?_
  rintro e w2 ⟨rfl, b2⟩
  have b2 := (HB1.out.alloc HB1.out.size _).trans (b2.mono (by simp; exact Nat.le_succ_of_le HB1.out.size))
  have HB2 := Lib.hid b2
  clear b2 HB1
  cases h1 : afterR s.data.toList with
  | true =>
    have HV := Lib.hid (show K = 1 by rw [← HK.out]; unfold htmlN; rw [if_pos h1])
    clear h1
    go_wp2
    go_ret
    rw [HV.out]
    exact ⟨rfl, HB2.out⟩
  | false =>
    have HN1 := Lib.hid h1
    clear h1
    go_wp2_with fail
    refine Calls.mono (HP2.out _) ?_
    rintro e w3 ⟨rfl, rfl⟩
    cases h2 : Lib.hasPrefix s.data.toList [60, 33, 45, 45] with
    | true =>
      have HV := Lib.hid (show K = 2 by rw [← HK.out]; unfold htmlN; rw [if_neg (by rw [HN1.out]; simp), if_pos h2])
      clear h2
      go_wp2
      go_ret
      rw [HV.out]
      exact ⟨rfl, HB2.out⟩
    | false =>
      have HN2 := Lib.hid h2
      clear h2
      go_wp2_with fail
      refine Calls.mono (HP3.out _) ?_
      rintro e w3 ⟨rfl, rfl⟩
      cases h3 : Lib.hasPrefix s.data.toList [60, 63] with
      | true =>
        have HV := Lib.hid (show K = 3 by rw [← HK.out]; unfold htmlN; rw [if_neg (by rw [HN1.out]; simp), if_neg (by rw [HN2.out]; simp), if_pos h3])
        clear h3
        go_wp2
        go_ret
        rw [HV.out]
        exact ⟨rfl, HB2.out⟩
      | false =>
        have HN3 := Lib.hid h3
        clear h3
        go_upto_region 8 with fail
        go_cut [16] (fun s16 wx => s16 = .bool C ∧ wx = w3)
        case first =>
          by_cases hl2 : 2 < s.size
          · have z2 : (2 : Int) < (s.size : Int) := by omega
            obtain ⟨x, hx⟩ : ∃ x, s[2] = x := ⟨_, rfl⟩
            have hg2 : s.data.toList[2]? = some x := by rw [← hx]; exact get_list s 2 hl2
            have hX : (s.extract 0 2).toList = s.data.toList.take 2 := by rw [Lib.toList_data, Lib.extract_data]; simp
            have hd : C = ((s.data.toList.take 2 == [60, 33]) && letter x) := by
              rw [← HC.out]
              unfold declB
              rw [hg2, show s.data.toList.length = s.size from Array.length_toList, show decide (2 < s.size) = true by simpa using hl2, Bool.true_and]
            rw [← hX] at hd
            have HX := Lib.hid hx
            clear hx hg2 hX
            by_cases he : (s.extract 0 2).toList = [60, 33]
            · have he2 : ((s.extract 0 2).toList == [60, 33]) = true := by rw [he]; rfl
              rw [he] at hd
              have hd2 : C = letter x := by rw [hd]; rfl
              have HL := Lib.hid fun w' => letter_any x w'
              obtain ⟨b, hb⟩ : ∃ b, letter x = b := ⟨_, rfl⟩
              rw [hb] at hd2 HL
              clear hd hb
              cases b with
              | true =>
                subst hd2
                go_wp2_with fail
                rw [HX.out]
                refine Calls.mono (HL.out _) ?_
                rintro e w' ⟨rfl, rfl⟩
                go_wp2_with fail
                go_meet
                exact ⟨rfl, rfl⟩
              | false =>
                subst hd2
                go_wp2_with fail
                rw [HX.out]
                refine Calls.mono (HL.out _) ?_
                rintro e w' ⟨rfl, rfl⟩
                go_wp2_with fail
                go_meet
                exact ⟨rfl, rfl⟩
            · have he2 : ((s.extract 0 2).toList == [60, 33]) = false := by simpa using he
              have hd2 : C = false := by rw [hd, he2]; rfl
              subst hd2
              clear hd
              go_wp2_with fail
              go_meet
              exact ⟨rfl, rfl⟩
          · have z2 : ¬ (2 : Int) < (s.size : Int) := by omega
            have hd : C = false := by
              rw [← HC.out]
              unfold declB
              rw [show s.data.toList.length = s.size from Array.length_toList, show decide (2 < s.size) = false by simpa using hl2]
              rfl
            subst hd
            go_wp2_with fail
            go_meet
            exact ⟨rfl, rfl⟩
        case rest =>
          obtain ⟨rfl, rfl⟩ := hcut
          cases h4 : C with
          | true =>
            have HV := Lib.hid (show K = 4 by rw [← HK.out]; unfold htmlN; rw [if_neg (by rw [HN1.out]; simp), if_neg (by rw [HN2.out]; simp), if_neg (by rw [HN3.out]; simp), if_pos (HC.out.trans h4)])
            clear h4
            go_wp2
            go_ret
            rw [HV.out]
            exact ⟨rfl, HB2.out⟩
          | false =>
            have HN4 := Lib.hid (HC.out.trans h4)
            clear h4
            go_wp2_with fail
            refine Calls.mono (HP5.out _) ?_
            rintro e w4 ⟨rfl, rfl⟩
            cases h5 : Lib.hasPrefix s.data.toList [60, 33, 91, 67, 68, 65, 84, 65, 91] with
            | true =>
              have HV := Lib.hid (show K = 5 by rw [← HK.out]; unfold htmlN; rw [if_neg (by rw [HN1.out]; simp), if_neg (by rw [HN2.out]; simp), if_neg (by rw [HN3.out]; simp), if_neg (by rw [HN4.out]; simp), if_pos h5])
              clear h5
              go_wp2
              go_ret
              rw [HV.out]
              exact ⟨rfl, HB2.out⟩
            | false =>
              have HN5 := Lib.hid h5
              clear h5
              go_wp2_with fail
              refine Calls.mono (HO.out _ _ (Box.new _ _ _) (HT.out.later (HB2.out.alloc HB2.out.size _))) ?_
              rintro e w5 ⟨rfl, b5⟩
              have b5 := (HB2.out.alloc HB2.out.size _).trans (b5.mono (by simp; exact Nat.le_succ_of_le HB2.out.size))
              have HB5 := Lib.hid b5
              clear b5
              cases h6 : afterO s.data.toList with
              | true =>
                have HV := Lib.hid (show K = 6 by rw [← HK.out]; unfold htmlN; rw [if_neg (by rw [HN1.out]; simp), if_neg (by rw [HN2.out]; simp), if_neg (by rw [HN3.out]; simp), if_neg (by rw [HN4.out]; simp), if_neg (by rw [HN5.out]; simp), if_pos h6])
                clear h6
                go_wp2
                go_ret
                rw [HV.out]
                exact ⟨rfl, HB5.out⟩
              | false =>
                have HN6 := Lib.hid h6
                clear h6
                go_wp2_with fail
                refine Calls.mono (HS.out _ _ (Box.new _ _ _) (HT.out.later (HB5.out.alloc HB5.out.size _))) ?_
                rintro e w6 ⟨rfl, b6⟩
                have b6 := (HB5.out.alloc HB5.out.size _).trans (b6.mono (by simp; exact Nat.le_succ_of_le HB5.out.size))
                have HB6 := Lib.hid b6
                clear b6
                cases h7 : afterS s.data.toList with
                | true =>
                  have HV := Lib.hid (show K = 6 by rw [← HK.out]; unfold htmlN; rw [if_neg (by rw [HN1.out]; simp), if_neg (by rw [HN2.out]; simp), if_neg (by rw [HN3.out]; simp), if_neg (by rw [HN4.out]; simp), if_neg (by rw [HN5.out]; simp), if_neg (by rw [HN6.out]; simp), if_pos h7])
                  clear h7
                  go_wp2
                  go_ret
                  rw [HV.out]
                  exact ⟨rfl, HB6.out⟩
                | false =>
                  have hv : K = if blankB s.data.toList = true then 7 else 0 := by rw [← HK.out]; unfold htmlN; rw [if_neg (by rw [HN1.out]; simp), if_neg (by rw [HN2.out]; simp), if_neg (by rw [HN3.out]; simp), if_neg (by rw [HN4.out]; simp), if_neg (by rw [HN5.out]; simp), if_neg (by rw [HN6.out]; simp), if_neg (by rw [h7]; simp)]
                  have htn := tagN_le s.data.toList
                  rw [show s.data.toList.length = s.size from Array.length_toList] at htn
                  have HBK := Lib.hid fun w' => show Calls Tryz.prog 20 #[.string (s.extract (tagN s.data.toList) s.size)] w' (RBw w' (blankT (s.data.toList.drop (tagN s.data.toList))).isEmpty) by
                    rw [← ext_drop s]
                    refine colsBlank_any _ w' ?_
                    have h1 := congrArg List.length (ext_drop s (tagN s.data.toList))
                    rw [Array.length_toList, List.length_drop, show s.data.toList.length = s.size from Array.length_toList] at h1
                    have h2 : (s.extract (tagN s.data.toList) s.size).size = _ := h1
                    omega
                  have hbb : blankB s.data.toList = (decide (0 < tagN s.data.toList) && (blankT (s.data.toList.drop (tagN s.data.toList))).isEmpty) := rfl
                  rw [hbb] at hv
                  obtain ⟨n, hn⟩ : ∃ n, tagN s.data.toList = n := ⟨_, rfl⟩
                  rw [hn] at hv HBK htn ⊢
                  have hki : (n : Int) ≤ (s.size : Int) := by omega
                  clear h7 hbb hn
                  by_cases h0 : 0 < n
                  · have z0 : (0 : Int) < (n : Int) := by omega
                    rw [show decide (0 < n) = true by simpa using h0, Bool.true_and] at hv
                    have HV := Lib.hid hv
                    clear hv
                    go_wp2_with fail
                    refine Calls.mono (HBK.out _) ?_
                    rintro e w7 ⟨rfl, b7⟩
                    have b7 := HB6.out.trans (b7.mono HB6.out.size)
                    cases h8 : (blankT (s.data.toList.drop n)).isEmpty with
                    | true =>
                      have HV2 := Lib.hid (show K = 7 by rw [HV.out, if_pos h8])
                      clear h8
                      go_wp2
                      go_ret
                      rw [HV2.out]
                      exact ⟨rfl, b7⟩
                    | false =>
                      have HV2 := Lib.hid (show K = 0 by rw [HV.out, if_neg (by rw [h8]; simp)])
                      clear h8
                      go_wp2
                      go_ret
                      rw [HV2.out]
                      exact ⟨rfl, b7⟩
                  · have z0 : ¬ (0 : Int) < (n : Int) := by omega
                    rw [show decide (0 < n) = false by simpa using h0, Bool.false_and, if_neg (by simp)] at hv
                    have HV := Lib.hid hv
                    clear hv
                    go_wp2
                    go_ret
                    rw [HV.out]
                    exact ⟨rfl, HB6.out⟩
set_option maxHeartbeats 1000000 in
set_option maxRecDepth 100000 in
theorem ends_ex (w : World) (m : Int) (hm : w.cell? ⟨2, 0, none⟩ = some (.int .i64 m)) : Calls Tryz.prog 12 #[.string ⟨#[97, 45, 45, 62]⟩, .int .i64 2] w (RBw w true) := by
  have HC := Lib.hid fun w' (hm' : w'.cell? ⟨2, 0, none⟩ = some (.int .i64 m)) => Tryz.strings_Contains ⟨#[97, 45, 45, 62]⟩ ⟨#[45, 45, 62]⟩ m w' (by decide) hm'
  have HM := Lib.hid fun o => show (w.alloc o).cell? ⟨2, 0, none⟩ = some (.int .i64 m) from cell_later ((Below.refl _ w).alloc (Nat.le_refl _) _) hm
  clear hm
  go_enter Tryz.func12, Tryz.ntmps12
  go_wp2_with fail
  refine Calls.mono (HC.out _ (HM.out _)) ?_
  rintro e w2 ⟨rfl, rfl⟩
  rw [show Lib.contains (⟨#[97, 45, 45, 62]⟩ : ByteArray).data.toList (⟨#[45, 45, 62]⟩ : ByteArray).data.toList = true from by decide +kernel]
  go_wp2
  go_ret
  exact ⟨rfl, (Below.refl _ w).alloc (Nat.le_refl _) _⟩
end Go.Proofs.YtjhfmdfihbkcaaaGreatDoor
