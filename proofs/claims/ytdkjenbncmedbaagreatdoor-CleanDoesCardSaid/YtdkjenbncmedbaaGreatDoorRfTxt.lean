/- The reference's text: one more behind nodes. -/
import Derived.Test.YtdkjenbncmedbaaGreatDoorRfIn
import Derived.Test.YtdkjenbncmedbaaGreatDoorKnown20
import Derived.Deep.CutBlock
import Derived.Deep.DeepCutAuto
namespace Go.Proofs.YtdkjenbncmedbaaGreatDoor
open Go.RowKit

/-- What a row that grows may touch: its own block. -/
def Only (v v' : Value) (w w' : World) : Prop := (∀ j, j < w.heap.size → v.ownBlock ≠ some j → w'.heap[j]? = w.heap[j]?) ∧ (v'.ownBlock = v.ownBlock ∨ ∃ g, v'.ownBlock = some g ∧ w.heap.size ≤ g)
theorem Only.of_below {v : Value} {w w' : World} (h : Below w.heap.size w w') : Only v v w w' := ⟨fun j hj _ => h.block j hj, .inl rfl⟩
theorem Only.trans {v v1 v2 : Value} {w w1 w2 : World} (h : Only v v1 w w1) (k : Only v1 v2 w1 w2) (hz : w.heap.size ≤ w1.heap.size) : Only v v2 w w2 := by
  refine ⟨fun j hj hn => ?_, ?_⟩
  · rw [k.1 j (by omega) ?_, h.1 j hj hn]
    rcases h.2 with e | ⟨g, e, hg⟩
    · rw [e]; exact hn
    · rw [e]; intro e2; cases e2; omega
  · rcases k.2 with e | ⟨g, e, hg⟩
    · rw [e]; exact h.2
    · exact .inr ⟨g, e, by omega⟩
theorem Only.set {v : Value} {w : World} {g : Nat} (h : v.ownBlock = some g) (o : Nat) (u : Value) : Only v v w (w.setCell ⟨g, o, none⟩ u) :=
  ⟨fun j _ hn => Below.heap_setCell _ _ _ _ (fun e => hn (by rw [h, e])), .inl rfl⟩
/-- A row of one's own that reads as nodes is handed back. -/
def RowR (base D : Nat) (w : World) (v : Value) (acc : List (NodeD (List (NT D)))) (e : Ending) (w' : World) : Prop := ∃ v', e = .returned v' ∧ OutAt base D w' v' acc ∧ Below base w w' ∧ Only v v' w w'
theorem ref_push {base D : Nat} {w1 w5 : World} {v v' : Value} {acc : List (NodeD (List (NT D)))} {css : List (List Value)} {ob : Obj} (c : List Value) (y : NodeD (List (NT D))) (h1 : css.length = acc.length) (h2 : ∀ c ∈ css, c.length = 6) (h3 : w1.ownsRow base 48 6 v acc.length css.flatten)
    (h4 : ∀ (j : Nat) (c : List Value) (x : NodeD (List (NT D))), css[j]? = some c → acc[j]? = some x → NodeIs (NodesAt D) w1 (Mine base v w1) c x) (hc6 : c.length = 6) (hy : NodeIs (NodesAt D) w1 (Mine base v w1) c y) (hbase : base ≤ w1.heap.size)
    (hown5 : w5.ownsRow base 48 6 v' (acc.length + 1) (css.flatten ++ c)) (hgrow : (w1.alloc ob).grownBy w5 v.ownBlock) (hob : v'.ownBlock = v.ownBlock ∨ v'.ownBlock = some (w1.alloc ob).heap.size) : OutAt base D w5 v' (acc ++ [y]) ∧ Below base w1 w5 ∧ Only v v' w1 w5 := by
  have hs5 : w1.heap.size + 1 ≤ w5.heap.size := by have := hgrow.size; simpa using this
  have hlow := h3.lt
  have hblk : ∀ j, j < w1.heap.size → v.ownBlock ≠ some j → w5.heap[j]? = w1.heap[j]? := fun j hj hne => by
    rw [hgrow.block j (by simp; omega) (fun e => hne e.symm), Below.heap_alloc _ _ _ hj]
  refine ⟨OutAt.snoc h1 h2 h4 c y hc6 hy (by omega) (fun j _ hj hne => hblk j hj hne) ?_ hown5, ⟨hgrow.os, hgrow.tape, hgrow.output, by omega, fun j hj => hblk j (by omega) fun e => by have := (hlow _ e).1; omega⟩, hblk, ?_⟩
  all_goals
    rcases hob with e | e
    · exact .inl e
    · exact .inr ⟨_, e, by simp⟩
theorem drop_nl (u : ByteArray) (h : 0 < u.size) : u.data.toList.dropWhile (· == 10) = if u[0] = 10 then (u.extract 1 u.size).data.toList.dropWhile (· == 10) else u.data.toList := by
  have hl : u.data.toList.length = u.size := Array.length_toList
  have e : (u.extract 1 u.size).data.toList = u.data.toList.drop 1 := by
    rw [Lib.extract_data, List.take_of_length_le (by rw [List.length_drop]; omega)]
  have e2 : u.data.toList = u[0] :: u.data.toList.drop 1 := by
    have := List.drop_eq_getElem_cons (l := u.data.toList) (i := 0) (by omega)
    rw [List.drop_zero] at this
    exact this
  rw [e]
  conv => lhs; rw [e2]
  rw [List.dropWhile_cons]
  by_cases hb : u[0] = 10
  · rw [if_pos hb, if_pos (by rw [hb]; rfl)]
  · rw [if_neg hb, if_neg (by simpa using hb)]
    exact e2.symm
def NlCut (T : List UInt8) (v : Value) : Prop := ∃ u : ByteArray, v = .string u ∧ u.data.toList.dropWhile (· == 10) = T
set_option maxHeartbeats 8000000 in
set_option maxRecDepth 100000 in
theorem reftext_any (base D : Nat) (v : Value) (acc : List (NodeD (List (NT D)))) (s : ByteArray) (pre : Bool) (w : World) (ho : OutAt base D w v acc) (h2 : base ≤ w.heap.size) (hs : s.size ≤ 1000000) (hl : acc.length ≤ 1000000) (htx : ∀ z ∈ acc, (NodeD.text z).size ≤ 1000000) : Calls Tryz.prog 66 #[v, .string s, .bool pre] w (RowR base D w v (txt [] pre acc s)) := by
  obtain ⟨iN, hiN, hzN0, hzN1, hzN2⟩ := info_parts infoN
  obtain ⟨Av, cv, rfl⟩ := ho.form
  obtain ⟨L, hL⟩ : ∃ L, acc.length = L := ⟨_, rfl⟩
  rw [hL] at ho hl ⊢
  have HL := Lib.hid hL
  obtain ⟨T, hT⟩ : ∃ T : List UInt8, cutNl (pre && acc.isEmpty) (nlL s.data.toList) = T := ⟨_, rfl⟩
  have hres : txt [] pre acc s = txtP [] acc T := by unfold txt; rw [hT]
  have hTl : T.length ≤ 1000000 := by
    have a1 := cutNl_len (pre && acc.isEmpty) (nlL s.data.toList)
    have a2 := nlL_len s.data.toList
    have a3 : s.data.toList.length = s.size := Array.length_toList
    rw [hT] at a1
    omega
  rw [hres]
  have HNl := Lib.hid (refnewlines_any s w (by omega))
  have HO := Lib.hid ho; have HTx := Lib.hid htx
  obtain ⟨N, hN⟩ : ∃ N : ByteArray, (⟨(nlL s.data.toList).toArray⟩ : ByteArray) = N := ⟨_, rfl⟩
  have hNd : N.data.toList = nlL s.data.toList := by rw [← hN]
  rw [← hNd] at hT
  unfold StrR at HNl
  rw [hN] at HNl
  have HT := Lib.hid hT
  clear ho htx hres hT hN hNd hL
  go_enter Tryz.func66, Tryz.ntmps66
  go_wp2_with fail
  refine Calls.mono HNl.out ?_
  rintro e w1 ⟨rfl, b1⟩
  have HB1 := Lib.hid b1
  clear b1
  go_upto_block 0 with fail
  go_cut [1] from 10 to 26 (fun v1 wx => v1 = .string ⟨T.toArray⟩ ∧ wx = w1)
  case first =>
    cases pre with
    | false =>
      have hT := HT.out
      rw [Bool.false_and] at hT
      have hTN : (⟨T.toArray⟩ : ByteArray) = N := by rw [← hT]; rfl
      clear hT
      go_wp2_with fail
      go_loopw [1] (fun v1 wr => v1 = .string N ∧ wr = w1) (fun _ _ => 0)
      case atStart => exact ⟨rfl, rfl⟩
      case round =>
        obtain ⟨rfl, rfl⟩ := hrel
        go_wp2
        go_meet
        exact ⟨by rw [hTN], rfl⟩
    | true =>
      cases acc with
      | cons a0 acc0 =>
        have hT := HT.out
        have hTN : (⟨T.toArray⟩ : ByteArray) = N := by rw [← hT]; rfl
        have hz : ((L : Int) == 0) = false := by have hL := HL.out; rw [List.length_cons] at hL; rw [beq_eq_false_iff_ne]; omega
        clear hT
        go_wp2_with fail
        go_loopw [1] (fun v1 wr => v1 = .string N ∧ wr = w1) (fun _ _ => 0)
        case atStart => exact ⟨rfl, rfl⟩
        case round =>
          obtain ⟨rfl, rfl⟩ := hrel
          go_wp2
          go_meet
          exact ⟨by rw [hTN], rfl⟩
      | nil =>
        have hT : N.data.toList.dropWhile (· == 10) = T := HT.out
        obtain rfl : L = 0 := HL.out.symm
        go_wp2_with fail
        go_loopw [1] (fun v1 wr => NlCut T v1 ∧ wr = w1) (fun v1 _ => strLen v1)
        case atStart => exact ⟨⟨N, rfl, hT⟩, rfl⟩
        case round =>
          obtain ⟨⟨u, rfl, hu⟩, rfl⟩ := hrel
          have hul : u.data.toList.length = u.size := Array.length_toList
          by_cases h0 : u.size = 0
          · have hnil : u.data.toList = [] := List.eq_nil_of_length_eq_zero (by omega)
            have t1 : u.toList = [] := by rw [Lib.toList_data]; exact hnil
            have t2 : u.toList.isEmpty = true := by rw [t1]; rfl
            have hfin : u = ⟨T.toArray⟩ := by
              rw [hnil] at hu
              rw [← hu]
              exact ByteArray.ext (by rw [← Array.toList_inj]; exact hnil)
            have hue : u = ⟨#[]⟩ := ByteArray.ext (by rw [← Array.toList_inj]; exact hnil)
            have HF := Lib.hid hfin; have HU := Lib.hid hue
            clear hu hnil hfin hue
            go_wp2
            go_meet
            exact ⟨by first | (rw [← HF.out]) | (rw [← HF.out, HU.out]), rfl⟩
          · have hpos : 0 < u.size := by omega
            have z0 : (0 : Int) < (u.size : Int) := by omega
            have hne : ¬ u.data.toList = [] := fun e => by rw [e] at hul; exact h0 hul.symm
            have t1 : ¬ u.toList = [] := by rw [Lib.toList_data]; exact hne
            have t2 : u.toList.isEmpty = false := by rw [Lib.toList_data]; simpa using hne
            have hd := drop_nl u hpos
            by_cases hb : u[0] = 10
            · rw [if_pos hb, hu] at hd
              have z1 : ((u[0].toNat : Nat) : Int) = 10 := by rw [hb]; rfl
              have z2 : (((u[0].toNat : Nat) : Int) == 10) = true := by rw [z1]; rfl
              have z3 : (1 : Int) ≤ (u.size : Int) := by omega
              have HD := Lib.hid hd
              clear hu hd hne hb
              go_wp2
              go_roundw
              case rel => exact ⟨⟨_, rfl, HD.out.symm⟩, by first | trivial | rfl⟩
              case measure => simp only [strLen, ByteArray.size_extract]; omega
            · rw [if_neg hb, hu] at hd
              have z1 : ¬ ((u[0].toNat : Nat) : Int) = 10 := fun e => hb (UInt8.toNat_inj.1 (by have : (10 : UInt8).toNat = 10 := rfl; omega))
              have z2 : (((u[0].toNat : Nat) : Int) == 10) = false := by rw [beq_eq_false_iff_ne]; exact z1
              have hfin : u = ⟨T.toArray⟩ := ByteArray.ext (by rw [← Array.toList_inj]; exact hd.symm)
              have HF := Lib.hid hfin
              clear hu hd hne hb hfin
              go_wp2
              go_meet
              exact ⟨by rw [← HF.out], rfl⟩
  case rest =>
    obtain ⟨rfl, hwc⟩ := hcut
    obtain ⟨x, hx⟩ : ∃ x : World, x = wc := ⟨_, rfl⟩
    subst hx
    rw [hwc]
    clear hwc HT HNl
    have hob := HO.out.later HB1.out
    have hz1 := HB1.out.size
    have HOb := Lib.hid hob
    have HTs := Lib.hid (size_list T)
    have hbase1 : base ≤ w1.heap.size := by omega
    have htn := @txtP_nil (List (NT D)) [] acc T
    by_cases hT0 : T = []
    · have HR := Lib.hid (htn hT0)
      have e0 : (⟨T.toArray⟩ : ByteArray) = ⟨#[]⟩ := by rw [hT0]
      rw [e0]
      clear hob htn hT0 e0
      go_wp2
      go_ret
      exact ⟨_, rfl, by rw [HR.out]; exact HOb.out, HB1.out.mono (by omega), Only.of_below HB1.out⟩
    · have t0 : ¬ (⟨T.toArray⟩ : ByteArray).toList = [] := by rw [Lib.toList_data]; simpa using hT0
      have t1 : (⟨T.toArray⟩ : ByteArray).toList.isEmpty = false := by rw [Lib.toList_data]; simpa using hT0
      obtain ⟨X, hX⟩ : ∃ X : ByteArray, (⟨T.toArray⟩ : ByteArray) = X := ⟨_, rfl⟩
      have hXs : X.size = T.length := by rw [← hX]; exact size_list T
      rw [hX] at t0 t1 ⊢
      rcases List.eq_nil_or_concat acc with hac | ⟨p, y, hac⟩
      · subst hac
        obtain rfl : L = 0 := HL.out.symm
        obtain ⟨css, c1, c2, h3, h4⟩ := HOb.out
        have HC1 := Lib.hid c1; have HC2 := Lib.hid c2; have H3 := Lib.hid h3; have H4 := Lib.hid h4
        have h3' : w1.ownsRow base 48 6 (.slice Av (0) cv) (0) css.flatten := by simpa using h3
        have HOw := Lib.hid (World.ownsRow.alloc h3' (.cells #[.int .u8 2, .int .u8 0, .string ⟨#[]⟩, .slice none 0 0, .string X, .slice none 0 0] 48))
        have HNw := Lib.hid fun i => cell_of_row (w1.alloc (.cells #[.int .u8 2, .int .u8 0, .string ⟨#[]⟩, .slice none 0 0, .string X, .slice none 0 0] 48)) w1.heap.size i _ _ _ (heap_alloc_new w1 _)
        have hres : txtP [] ([] : List (NodeD (List (NT D)))) T = [] ++ [⟨2, 0, ByteArray.empty, [], X, []⟩] := by rw [txtP_first [] hT0]; unfold txtN; rw [hX]
        have HRes := Lib.hid hres
        clear c1 c2 h3 h4 h3' hob hres htn hT0
        go_wp2_with (at_builtin; refine wpList_append_own_at _ rfl _ _ 37 rfl base 48 iN _ 6 88 Tryz.underlying37 hiN hzN0 hzN1 hzN2 rfl (by decide) _ (0) css.flatten rfl HOw.out ⟨w1.heap.size, 0, none⟩ 1 1 [.int .u8 2, .int .u8 0, .string ⟨#[]⟩, .slice none 0 0, .string X, .slice none 0 0] rfl rfl ?c1 ?c2 ?c3 ?c4 ?c5 ?_)
        case c1 => exact fun j u hu => by rw [add_off, Nat.zero_add, HNw.out j]; simpa using hu
        case c2 =>
          intro u hu
          simp at hu
          rcases hu with rfl | rfl | rfl | rfl | rfl | rfl <;> rfl
        case c3 => unfold maxLen; omega
        case c4 => omega
        case c5 => rw [World.size_alloc]; omega
        intro v5 w5 hown5 hgrow _ hob5
        obtain ⟨g5, cap5, rfl⟩ := Joins.ownsRow_form hown5 (Nat.succ_pos _)
        have hpush := ref_push (acc := []) (ob := .cells #[.int .u8 2, .int .u8 0, .string ⟨#[]⟩, .slice none 0 0, .string X, .slice none 0 0] 48) [.int .u8 2, .int .u8 0, .string ⟨#[]⟩, .slice none 0 0, .string X, .slice none 0 0] ⟨2, 0, ByteArray.empty, [], X, []⟩ HC1.out HC2.out H3.out H4.out rfl (text_node (by omega)) hbase1 (by simpa using hown5) (by simpa using hgrow) (by simpa using hob5)
        have HPush := Lib.hid hpush
        clear hown5 hgrow hob5 hpush
        go_wp2
        go_ret
        exact ⟨_, rfl, by rw [HRes.out]; exact HPush.out.1, (HB1.out.mono h2).trans HPush.out.2.1, (Only.of_below HB1.out).trans HPush.out.2.2 HB1.out.size⟩
      · rw [List.concat_eq_append] at hac
        subst hac
        obtain rfl : L = p.length + 1 := by have := HL.out; simpa using this.symm
        obtain ⟨g', cap', e', hbg, hgw, hy256, c0, c4, f4, hput⟩ := HOb.out.last
        cases e'
        have hys : y.text.size ≤ 1000000 := HTx.out y (by simp)
        by_cases hyk : y.kind = 2
        · have hres : txtP [] (p ++ [y]) T = p ++ [{ y with text := y.text ++ X }] := by rw [txtP_join [] p y hT0 hyk, hX]
          rw [hyk] at c0
          have hsum : ¬ (9223372036854775807 < y.text.size + X.size) := by omega
          have HPut := Lib.hid hput; have HRes := Lib.hid hres
          clear hput hres htn hT0 hyk hob
          go_wp2
          go_ret
          exact ⟨_, rfl, by rw [HRes.out]; exact HPut.out _ (by rw [ByteArray.size_append]; omega), (HB1.out.mono h2).trans (Below.setCell (p := ⟨g', _, none⟩) (Below.refl _ _) hbg _), (Only.of_below HB1.out).trans (Only.set rfl _ _) HB1.out.size⟩
        · have z2 : ((y.kind : Int) == 2) = false := by rw [beq_eq_false_iff_ne]; omega
          clear hput f4
          obtain ⟨css, c1, c2, h3, h4⟩ := HOb.out
          have HC1 := Lib.hid c1; have HC2 := Lib.hid c2; have H3 := Lib.hid h3; have H4 := Lib.hid h4
          have h3' : w1.ownsRow base 48 6 (.slice (some ⟨g', 0, none⟩) (p.length + 1) cv) (p.length + 1) css.flatten := by simpa using h3
          have HOw := Lib.hid (World.ownsRow.alloc h3' (.cells #[.int .u8 2, .int .u8 0, .string ⟨#[]⟩, .slice none 0 0, .string X, .slice none 0 0] 48))
          have HNw := Lib.hid fun i => cell_of_row (w1.alloc (.cells #[.int .u8 2, .int .u8 0, .string ⟨#[]⟩, .slice none 0 0, .string X, .slice none 0 0] 48)) w1.heap.size i _ _ _ (heap_alloc_new w1 _)
          have hres : txtP [] (p ++ [y]) T = (p ++ [y]) ++ [⟨2, 0, ByteArray.empty, [], X, []⟩] := by rw [txtP_more [] p y hT0 hyk]; unfold txtN; rw [hX]
          have HRes := Lib.hid hres
          clear c1 c2 h3 h4 h3' hob hres htn hT0
          go_wp2_with (at_builtin; refine wpList_append_own_at _ rfl _ _ 37 rfl base 48 iN _ 6 88 Tryz.underlying37 hiN hzN0 hzN1 hzN2 rfl (by decide) _ (p.length + 1) css.flatten rfl HOw.out ⟨w1.heap.size, 0, none⟩ 1 1 [.int .u8 2, .int .u8 0, .string ⟨#[]⟩, .slice none 0 0, .string X, .slice none 0 0] rfl rfl ?c1 ?c2 ?c3 ?c4 ?c5 ?_)
          case c1 => exact fun j u hu => by rw [add_off, Nat.zero_add, HNw.out j]; simpa using hu
          case c2 =>
            intro u hu
            simp at hu
            rcases hu with rfl | rfl | rfl | rfl | rfl | rfl <;> rfl
          case c3 => unfold maxLen; omega
          case c4 => omega
          case c5 => rw [World.size_alloc]; omega
          intro v5 w5 hown5 hgrow _ hob5
          obtain ⟨g5, cap5, rfl⟩ := Joins.ownsRow_form hown5 (Nat.succ_pos _)
          have hpush := ref_push (acc := p ++ [y]) (ob := .cells #[.int .u8 2, .int .u8 0, .string ⟨#[]⟩, .slice none 0 0, .string X, .slice none 0 0] 48) [.int .u8 2, .int .u8 0, .string ⟨#[]⟩, .slice none 0 0, .string X, .slice none 0 0] ⟨2, 0, ByteArray.empty, [], X, []⟩ HC1.out HC2.out H3.out H4.out rfl (text_node (by omega)) hbase1 (by simpa using hown5) (by simpa using hgrow) (by simpa using hob5)
          have HPush := Lib.hid hpush
          clear hown5 hgrow hob5 hpush
          go_wp2
          go_ret
          exact ⟨_, rfl, by rw [HRes.out]; exact HPush.out.1, (HB1.out.mono h2).trans HPush.out.2.1, (Only.of_below HB1.out).trans HPush.out.2.2 HB1.out.size⟩
end Go.Proofs.YtdkjenbncmedbaaGreatDoor
