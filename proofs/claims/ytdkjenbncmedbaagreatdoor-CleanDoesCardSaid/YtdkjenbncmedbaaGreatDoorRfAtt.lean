/- The reference's attrs. -/
import Derived.Test.YtdkjenbncmedbaaGreatDoorRfTxt
import Derived.Test.YtdkjenbncmedbaaGreatDoorRfRight
namespace Go.Proofs.YtdkjenbncmedbaaGreatDoor
open Go.RowKit

def AttR (w : World) (l : List AttrD) (e : Ending) (w' : World) : Prop := ∃ v', e = .returned v' ∧ AttrsAt w' (New w w') v' l ∧ Below w.heap.size w w'
def AttW (W0 : World) (L : Nat → List AttrD) (n : Nat) (v i : Value) (wr : World) : Prop := ∃ (k : Nat) (vO : Value), vO = v ∧ i = .int .i64 k ∧ k ≤ n ∧ wr.ownsRow W0.heap.size 27 2 vO (L k).length ((L k).map attrCells).flatten ∧ (L k).length ≤ k ∧ Fits (L k) ∧ Below W0.heap.size W0 wr
theorem any_name (l : List AttrD) (nm : ByteArray) (j : Nat) (hj : j < l.length) : ((l.take (j + 1)).any fun x => isT x.name nm) = ((l.take j).any (fun x => isT x.name nm) || isT l[j].name nm) := any_take _ l j hj
/-- A round that adds one. -/
theorem att_next {W0 wo w7 w8 : World} {L : Nat → List AttrD} {n k : Nat} {v v' : Value} {nm T : ByteArray} {ob : Obj} (hlt : k < n) (hlk : (L k).length ≤ k) (hown : wo.ownsRow W0.heap.size 27 2 v (L k).length ((L k).map attrCells).flatten) (hfk : Fits (L k)) (hn : nm.size ≤ 9223372036854775807) (hT : T.size ≤ 100000000) (hbs : Below W0.heap.size W0 wo) (hY : L (k + 1) = L k ++ [⟨nm, T⟩]) (hb7 : Below wo.heap.size wo w7)
    (h8 : w8.ownsRow W0.heap.size 27 2 v' ((L k).length + 1) (((L k).map attrCells).flatten ++ [.string nm, .string T])) (hg8 : (w7.alloc ob).grownBy w8 v.ownBlock) : AttW W0 L n v' (.int .i64 ((k : Int) + 1)) w8 := by
  have hz := hbs.size
  have hz7 := hb7.size
  have hs8 : w7.heap.size + 1 ≤ w8.heap.size := by have := hg8.size; simpa using this
  have hlow := hown.lt
  refine ⟨k + 1, v', rfl, rfl, hlt, ?_, ?_, ?_, ?_⟩
  · rw [hY, List.length_append, List.map_append, List.flatten_append]
    exact h8
  · rw [hY, List.length_append]
    show (L k).length + 1 ≤ k + 1
    omega
  · rw [hY]
    intro x hx
    rcases List.mem_append.1 hx with h | h
    · exact hfk x h
    · rw [List.mem_singleton.1 h]
      exact ⟨hn, hT⟩
  · refine (below_on hbs hb7).trans ⟨hg8.os, hg8.tape, hg8.output, by omega, fun j hj => ?_⟩
    rw [hg8.block j (by simp; omega) (fun e => by have := (hlow _ e.symm).1; omega), Below.heap_alloc _ _ _ (by omega)]
set_option maxHeartbeats 16000000 in
set_option maxRecDepth 100000 in
theorem refattrs_any (vE vA vS : Value) (E : List ByteArray) (A : Prs) (S : List ByteArray) (kd sp : Nat) (nm tx : ByteArray) (va vk : Value) (l : List AttrD) (Sa : Nat → Prop) (w : World) (hp : PolAt w (.agg #[vE, vA, vS]) E A S) (ha : AttrsAt w Sa va l) (hSa : ∀ k, Sa k → k < w.heap.size) (hf : Fits l) (hl : l.length ≤ 100000) (hvk : ∃ A m c, vk = .slice A m c) :
    Calls Tryz.prog 69 #[.agg #[.int .u8 kd, .int .u8 sp, .string nm, va, .string tx, vk], .agg #[vE, vA, vS]] w (AttR w (bareA E A S nm l)) := by
  obtain ⟨iR, hiR, hzR0, hzR1, hzR2⟩ := info_parts infoR
  obtain ⟨Ak, mk, ck, rfl⟩ := hvk
  obtain ⟨Aa, ca, rfl, _, hget⟩ := ha.get
  obtain ⟨W0, hW0⟩ : ∃ W0, (w.alloc (.cells #[.int .u8 kd, .int .u8 sp, .string nm, .slice Aa l.length ca, .string tx, .slice Ak mk ck] 48)).alloc (.cells #[vE, vA, vS] 25) = W0 := ⟨_, rfl⟩
  have hb0 : Below w.heap.size w W0 := by rw [← hW0]; exact two_below _ _ _
  have hz0 : w.heap.size + 1 + 1 ≤ W0.heap.size ∧ W0.heap.size ≤ w.heap.size + 1 + 1 := by rw [← hW0]; simp
  have hn0 : W0.heap[w.heap.size]? = some (.cells #[.int .u8 kd, .int .u8 sp, .string nm, .slice Aa l.length ca, .string tx, .slice Ak mk ck] 48 (0, 0)) := by rw [← hW0, Below.heap_alloc _ _ _ (by simp)]; exact heap_alloc_new _ _
  have hn1 : W0.heap[w.heap.size + 1]? = some (.cells #[vE, vA, vS] 25 (0, 0)) := by rw [← hW0]; exact two_new _ _ _ _
  obtain ⟨L, hLd⟩ : ∃ L : Nat → List AttrD, (fun k => bareA E A S nm (l.take k)) = L := ⟨_, rfl⟩
  have hLs : ∀ (k : Nat) (hk : k < l.length), L (k + 1) = bareStep E A S nm (L k) l[k] := fun k hk => by rw [← hLd]; exact bareA_take E A S nm l k hk
  have hLe : bareA E A S nm l = L l.length := by rw [← hLd]; show bareA E A S nm l = bareA E A S nm (l.take l.length); rw [List.take_length]
  have hL0 : L 0 = [] := by rw [← hLd]; rfl
  rw [hLe]
  have HLs := Lib.hid hLs; have HG := Lib.hid hget; have HB0 := Lib.hid hb0; have HW0 := Lib.hid hW0; have HS := Lib.hid hSa; have HF := Lib.hid hf
  have HKp := Lib.hid fun (w' : World) (hb' : Below W0.heap.size W0 w') (nm' val : ByteArray) (hs : val.size ≤ 1000000000) => refkeeps_any (.agg #[vE, vA, vS]) E A S nm nm' val w' (hp.later (below_on hb0 hb')) hs
  have HNc := Lib.hid fun (w' : World) (hb' : Below W0.heap.size W0 w') => (fun i => cell_of_row w' w.heap.size i _ _ _ ((hb'.block _ (by omega)).trans hn0))
  have HPc := Lib.hid fun (w' : World) (hb' : Below W0.heap.size W0 w') => (fun i => cell_of_row w' (w.heap.size + 1) i _ _ _ ((hb'.block _ (by omega)).trans hn1))
  have H0 := Lib.hid (show AttW W0 L l.length (.slice none 0 0) (.int .i64 (0 : Nat)) W0 from ⟨0, _, rfl, rfl, Nat.zero_le _, by rw [hL0]; exact World.ownsRow_nil _ _ _ _, by rw [hL0]; exact Nat.zero_le _, (by rw [hL0]; intro _ h; cases h), Below.refl _ _⟩)
  clear hLd hLs hLe hL0 hget hp hb0 hW0 ha hSa hf hn0 hn1
  go_enter Tryz.func69, Tryz.ntmps69
  go_upto_region 1 with fail
  rw [HW0.out]
  have nn := HNc.out W0 (Below.refl _ _)
  go_wp2_with fail
  go_loopw [5, 6] (fun v i wr => AttW W0 L l.length v i wr) (fun _ i _ => l.length - (intOf i).toNat)
  case atStart => exact H0.out
  case round =>
    obtain ⟨k, vO, hvv, rfl, hk, hown, hlk, hfk, hbs⟩ := hrel
    subst hvv
    obtain ⟨wo, hwo⟩ : ∃ wo : World, wo = wr := ⟨_, rfl⟩
    subst hwo
    have HOwn := Lib.hid hown; have HFk := Lib.hid hfk; have HBs := Lib.hid hbs
    have no := HNc.out wo hbs
    clear hown hfk hbs H0 nn
    by_cases hlt : k < l.length
    · have hki : (k : Int) < (l.length : Int) := by omega
      obtain ⟨ad, hA, hzn, hzv, hbl, c0, c1⟩ := HG.out k hlt
      subst hA
      have hbw := HS.out _ hbl
      have hbwo : Below w.heap.size w wo := below_on HB0.out HBs.out
      have hL := HLs.out k hlt
      have hfa := HF.out _ (List.getElem_mem hlt)
      obtain ⟨a, hae⟩ : ∃ a, l[k] = a := ⟨_, rfl⟩
      rw [hae] at hL hfa c0 c1
      have hcb : ∀ w' : World, Below wo.heap.size wo w' → (w'.cell? ⟨w.heap.size + 1, 0, none⟩ = some vE ∧ w'.cell? ⟨w.heap.size + 1, 1, none⟩ = some vA ∧ w'.cell? ⟨w.heap.size + 1, 2, none⟩ = some vS ∧ w'.cell? ⟨w.heap.size, 2, none⟩ = some (.string nm) ∧ w'.cell? ⟨w.heap.size, 3, none⟩ = some (.slice (some ad) l.length ca) ∧ w'.cell? (ad.add (k * 2)) = some (.string a.name) ∧ w'.cell? ⟨(ad.add (k * 2)).block, (ad.add (k * 2)).off + 1, none⟩ = some (.string a.value) ∧ Below wo.heap.size wo w') := fun w' hb' => by
        have hb2 := below_on HBs.out hb'
        have q := HNc.out w' hb2
        have r := HPc.out w' hb2
        have hb3 := below_on hbwo hb'
        exact ⟨r 0, r 1, r 2, q 2, q 3, (hb3.cell (p := ad.add (k * 2)) (by rw [block_of_add]; exact hbw)).trans c0, (hb3.cell (p := ⟨(ad.add (k * 2)).block, (ad.add (k * 2)).off + 1, none⟩) (by show (ad.add (k * 2)).block < _; rw [block_of_add]; exact hbw)).trans c1, hb'⟩
      have HCb := Lib.hid hcb
      have HSb := Lib.hid (hcb wo (Below.refl _ _))
      have hkq := fun (w' : World) (hb' : Below wo.heap.size wo w') => HKp.out w' (below_on HBs.out hb') a.name a.value (by have := hfa.2; omega)
      obtain ⟨kp, ekp⟩ : ∃ kp, keepsB E A S nm a.name a.value = kp := ⟨_, rfl⟩
      rw [ekp] at hkq
      have HKq := Lib.hid hkq; have HL := Lib.hid hL; have HEk := Lib.hid ekp; have HFa := Lib.hid hfa
      obtain ⟨Ao, co, hvO⟩ : ∃ Ao co, vO = .slice Ao (L k).length co := by
        rcases HOwn.out.2 with ⟨h, h0⟩ | ⟨g, cap, cur, h, _⟩
        · exact ⟨none, 0, by rw [h, h0]⟩
        · exact ⟨_, _, h⟩
      subst hvO
      clear hcb hkq ekp hae hL hfa c0 c1 hbwo
      go_wp2_with fail
      go_region_held3 (fun w' => w'.cell? ⟨w.heap.size + 1, 0, none⟩ = some vE ∧ w'.cell? ⟨w.heap.size + 1, 1, none⟩ = some vA ∧ w'.cell? ⟨w.heap.size + 1, 2, none⟩ = some vS ∧ w'.cell? ⟨w.heap.size, 2, none⟩ = some (.string nm) ∧ w'.cell? ⟨w.heap.size, 3, none⟩ = some (.slice (some ad) l.length ca) ∧ w'.cell? (ad.add (k * 2)) = some (.string a.name) ∧ w'.cell? ⟨(ad.add (k * 2)).block, (ad.add (k * 2)).off + 1, none⟩ = some (.string a.value) ∧ Below wo.heap.size wo w') (first | assumption | exact HSb.out | (with_reducible exact HCb.out _ (Below.drew (Below.refl _ _))) | (with_reducible exact HCb.out _ (Below.drew (s_eight8 (by assumption)))) | (with_reducible exact HCb.out _ (below_on (s_eight8 (by assumption)) (by assumption)))) (first
        | (go_at_call 50; (with_reducible refine Calls.mono (HKq.out _ (s_eight8 (by assumption))) ?_); rintro e w4 ⟨rfl, b4⟩))
      all_goals
        have hb4 := s_eight8 (by assumption)
        obtain ⟨y0, y1, y2, y3, y4, y5, y6, _⟩ := HCb.out w4 hb4
        have hown4 := own_later HOwn.out hb4
        have hoa := own_attrs hown4 HFk.out (by omega)
        obtain ⟨Ao', co', eo, hlo, hgo⟩ := hoa.get
        cases eo
        have HGo := Lib.hid hgo; have HB4 := Lib.hid hb4; have HOwn4 := Lib.hid hown4
        have HAn := Lib.hid (any_name (L k) a.name)
        clear hb4 hoa hgo hown4 b4
        go_wp2_with fail
        go_loopw [7, 8] (fun v7 i wr => ∃ j : Nat, i = .int .i64 j ∧ v7 = .bool (kp && !((L k).take j).any (fun x => isT x.name a.name)) ∧ j ≤ (L k).length ∧ ∃ d, wr = w4.drewN d) (fun _ i _ => (L k).length - (intOf i).toNat)
        case atStart => exact ⟨0, rfl, by rw [List.take_zero]; simp, Nat.zero_le _, 0, rfl⟩
        case round =>
          obtain ⟨j, rfl, rfl, hj, d, hd⟩ := hrel
          have g3 : wr.cell? ⟨w.heap.size, 2, none⟩ = some (.string nm) := by rw [hd]; exact y3
          have g4 : wr.cell? ⟨w.heap.size, 3, none⟩ = some (.slice (some ad) l.length ca) := by rw [hd]; exact y4
          have g5 : wr.cell? (ad.add (k * 2)) = some (.string a.name) := by rw [hd]; exact y5
          have g6 : wr.cell? ⟨(ad.add (k * 2)).block, (ad.add (k * 2)).off + 1, none⟩ = some (.string a.value) := by rw [hd]; exact y6
          obtain ⟨pb, hpb⟩ : ∃ pb, ((L k).take j).any (fun x => isT x.name a.name) = pb := ⟨_, rfl⟩
          rw [hpb]
          by_cases hjt : j < (L k).length
          · have hji : (j : Int) < ((L k).length : Int) := by omega
            obtain ⟨ado, hAo, _, _, hblo, e0, e1⟩ := HGo.out j hjt
            subst hAo
            have o0 : wr.cell? (ado.add (j * 2)) = some (.string (L k)[j].name) := by rw [hd]; exact e0
            have hn := HAn.out j hjt
            rw [hpb] at hn
            obtain ⟨cb, hcb⟩ : ∃ cb, (kp && !pb) = cb := ⟨_, rfl⟩
            rw [hcb]
            obtain ⟨xn, hxn⟩ : ∃ xn, (L k)[j].name = xn := ⟨_, rfl⟩
            rw [hxn] at o0 hn
            have HD := Lib.hid hd
            clear e0 e1 hd hpb hxn y0 y1 y2 y3 y4 y5 y6
            cases cb with
            | false =>
              have HV := Lib.hid (show (kp && !((L k).take (j + 1)).any (fun x => isT x.name a.name)) = false by rw [hn]; revert hcb; cases kp <;> cases pb <;> simp)
              clear hn hcb
              go_wp2_with fail
              go_quiet (fail)
              go_wp2
              go_roundw
              case rel => exact ⟨j + 1, by go_num, by rw [HV.out], hjt, _, by rw [HD.out]; exact World.drewN_drewN _ _ _⟩
              case measure => simp [intOf]; omega
            | true =>
              by_cases h1 : xn.toList = a.name.toList
              · have x1 : (xn.toList != a.name.toList) = false := by rw [h1]; simp
                have x2 : (xn.toList == a.name.toList) = true := by rw [h1]; simp
                have HV := Lib.hid (show (kp && !((L k).take (j + 1)).any (fun x => isT x.name a.name)) = false by rw [hn, show isT xn a.name = true from x2]; simp)
                clear hn hcb
                go_wp2_with fail
                go_quiet (fail)
                go_wp2
                go_roundw
                case rel => exact ⟨j + 1, by go_num, by rw [HV.out], hjt, _, by rw [HD.out]; exact World.drewN_drewN _ _ _⟩
                case measure => simp [intOf]; omega
              · have x1 : (xn.toList != a.name.toList) = true := by simpa using h1
                have x2 : (xn.toList == a.name.toList) = false := by simpa using h1
                have HV := Lib.hid (show (kp && !((L k).take (j + 1)).any (fun x => isT x.name a.name)) = true by rw [hn, show isT xn a.name = false from x2, Bool.or_false]; exact hcb)
                clear hn hcb
                go_wp2_with fail
                go_quiet (fail)
                go_wp2
                go_roundw
                case rel => exact ⟨j + 1, by go_num, by rw [HV.out], hjt, _, by rw [HD.out]; exact World.drewN_drewN _ _ _⟩
                case measure => simp [intOf]; omega
          · obtain rfl : j = (L k).length := by omega
            rw [List.take_length] at hpb
            obtain ⟨cb, hcb⟩ : ∃ cb, (kp && !pb) = cb := ⟨_, rfl⟩
            rw [hcb]
            have hstep : (!((L k).any fun x => isT x.name a.name) && keepsB E A S nm a.name a.value) = cb := by rw [hpb, HEk.out, ← hcb, Bool.and_comm]
            have HBr := Lib.hid (show Below wo.heap.size wo wr by rw [hd]; exact below_drewN HB4.out d)
            have HD := Lib.hid hd
            clear hd hpb hcb y0 y1 y2 y3 y4 y5 y6
            cases cb with
            | false =>
              have HN := Lib.hid (HL.out.trans (bareStep_no hstep))
              clear hstep
              go_wp2
              go_roundw
              case rel => exact ⟨k + 1, _, rfl, by go_num, hlt, by rw [HN.out]; exact own_later HOwn.out HBr.out, by rw [HN.out]; omega, by rw [HN.out]; exact HFk.out, below_on HBs.out HBr.out⟩
              case measure => simp [intOf]; omega
            | true =>
              have HY := Lib.hid (HL.out.trans (bareStep_yes hstep))
              have hva := HFa.out.2
              have hnl := nlL_len a.value.data.toList
              have hvl : a.value.data.toList.length = a.value.size := Array.length_toList
              obtain ⟨T, hT⟩ : ∃ T : ByteArray, (⟨(nlL a.value.data.toList).toArray⟩ : ByteArray) = T := ⟨_, rfl⟩
              have hTs : T.size ≤ 100000000 := by rw [← hT, size_list]; omega
              have hNl := refnewlines_any a.value wr.drew (by omega)
              unfold StrR at hNl
              rw [hT] at hNl
              have HNl := Lib.hid hNl
              rw [hT] at HY
              have hownr := own_later HOwn.out HBr.out
              have HOr := Lib.hid hownr
              have hads := HS.out _ hbl
              have hzr := HBr.out.size
              have hz7 := HBs.out.size
              clear hstep hNl hT hnl hvl hownr
              go_wp2_with fail
              go_region_law (first
                | (refine step_row rfl (.tmp 47) (.tmp 62) 46 rfl W0.heap.size 27 iR _ 2 32 Tryz.underlying46 hiR hzR0 hzR1 hzR2 rfl (by decide) _ rfl (L k).length _ HO7.out ⟨w7.heap.size, 0, none⟩ 1 1 [.string a.name, .string T] rfl rfl HN7.out (by simp [Value.oneCell']) (by unfold maxLen; omega) (by omega) (by rw [World.size_alloc]; omega) ?_; intro v8 w8 hown8 hgrow8 hob8; obtain ⟨g8, cap8, rfl⟩ := Joins.ownsRow_form hown8 (Nat.succ_pos _); have H8 := Lib.hid hown8; have HG8 := Lib.hid hgrow8; clear hown8 hgrow8 hob8)
                | (go_simp; go_at_call 95; (with_reducible refine Calls.mono HNl.out ?_); rintro e w7 ⟨rfl, b7⟩; have hb7 : Below wr.heap.size wr w7 := below_on (Below.drew (Below.refl _ _)) b7; have q4 : w7.cell? ⟨w.heap.size, 3, none⟩ = some (.slice (some ad) l.length ca) := (HNc.out w7 (below_on HBs.out (below_on HBr.out hb7))) 3; have q5 : w7.cell? (ad.add (k * 2)) = some (.string a.name) := (hb7.cell (p := ad.add (k * 2)) (by rw [block_of_add]; omega)).trans g5; have q6 : w7.cell? ⟨(ad.add (k * 2)).block, (ad.add (k * 2)).off + 1, none⟩ = some (.string a.value) := (hb7.cell (p := ⟨(ad.add (k * 2)).block, (ad.add (k * 2)).off + 1, none⟩) (by show (ad.add (k * 2)).block < _; rw [block_of_add]; omega)).trans g6; have HO7 := Lib.hid (World.ownsRow.alloc (own_later HOr.out hb7) (.cells #[.string a.name, .string T] 27)); have HN7 := Lib.hid (cells_two w7 (.string a.name) (.string T) 27); have HB7 := Lib.hid hb7; have hs7 := hb7.size; clear b7 hb7))
              all_goals
                go_wp2
                go_roundw
                case rel => exact att_next hlt hlk HOwn.out HFk.out HFa.out.1 hTs HBs.out HY.out (below_on HBr.out HB7.out) H8.out HG8.out
                case measure => simp [intOf]; omega
    · obtain rfl : k = l.length := by omega
      have hoa := own_attrs HOwn.out HFk.out (by omega)
      obtain ⟨Ao, mo, co, rfl⟩ := hoa.shape
      have HOa := Lib.hid hoa
      clear hoa
      go_wp2
      go_ret
      exact ⟨_, rfl, HOa.out.mono fun j hj => ⟨by have := hj.1; omega, hj.2⟩, below_on HB0.out HBs.out⟩
end Go.Proofs.YtdkjenbncmedbaaGreatDoor
