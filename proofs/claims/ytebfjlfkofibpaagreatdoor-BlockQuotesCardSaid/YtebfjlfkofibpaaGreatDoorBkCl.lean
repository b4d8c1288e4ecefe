/- A block is closed, and all that is open in it. -/
import Derived.Test.YtebfjlfkofibpaaGreatDoorBkOk2
import Derived.Deep.DeepCutAuto
namespace Go.Proofs.YtebfjlfkofibpaaGreatDoor
set_option maxHeartbeats 8000000
set_option maxRecDepth 100000
open Go.RowKit
variable {F : Frm}
def MidW (F : Frm) (w : World) (base rp : Nat) (P : List Nat) (q : Rd) (wx : World) : Prop := ∃ own, St F wx base rp own P q ∧ Below base w wx
def TxtW (F : Frm) (w : World) (base rp : Nat) (P : List Nat) (q : Rd) (b : Nat) (t0 : ByteArray) (l : List ByteArray) (w3 : World) (lv v : Value) (wr : World) : Prop :=
 ∃ (k : Nat) (own : Nat -> Nat), v = .int .i64 (k : Int) ∧ k ≤ l.length ∧ St F wr base rp own P (q.upd b { q.nd b with text := linesN t0 (l.take k) }) ∧ (∀ g, lv.ownBlock = some g -> wr.heap[g]? = w3.heap[g]?) ∧ Below base w wr
theorem close_step {B : Nat} (hB : B ≤ 1000000) (f base rp : Nat) (IH : ∀ (F : Frm) (w : World) (own : Nat -> Nat) (P : List Nat) (r : Rd) (b : Nat), St F w base rp own P r -> base ≤ w.heap.size -> Ok B r -> b < r.nds.length -> (r.nd b).opn = true -> r.nds.length ≤ b + f ->
   Calls Tryz.prog 21 #[.pointer (some ⟨rp, 0, none⟩), .pointer (some ⟨ptN P b, 0, none⟩)] w (Turns F w base rp P (Rd.closeF f r b)))
  {w : World} {own : Nat -> Nat} {P : List Nat} {r : Rd} (b : Nat) (h : St F w base rp own P r) (hb : base ≤ w.heap.size) (hs : Ok B r) (hbl : b < r.nds.length) (ho : (r.nd b).opn = true) (hf : r.nds.length ≤ b + (f + 1)) :
  Calls Tryz.prog 21 #[.pointer (some ⟨rp, 0, none⟩), .pointer (some ⟨ptN P b, 0, none⟩)] w (Turns F w base rp P (Rd.closeF (f + 1) r b)) := by
 obtain ⟨q, hq⟩ : ∃ q, (match r.inner b with | some k => Rd.closeF f r k | none => r) = q := ⟨_, rfl⟩
 have hcl : Rd.closeF (f + 1) r b = q.shut b := by rw [Rd.closeF]; exact congrArg (fun x => Rd.shut x b) hq
 rw [hcl];obtain ⟨hqo, hqb, hql⟩ := inner_ok hB hs hbl ho hf hq;have HI := hdn (inner_any h b hbl (by have := hs.few; omega));have HK := hdn fun k (hi : r.inner b = some k) => IH F w own P r k h hb hs (Rd.inner_lt h.wf hbl hi).2 (Rd.inner_opn hi) (by have := (Rd.inner_lt h.wf hbl hi).1; omega);have HQ := hdn hq;have HS0 := hdn h;have hqbl : b < q.nds.length := by rw [hql.len]; exact hbl
 clear hcl IH h hs hbl ho hf hql hq;go_enter Tryz.func21, Tryz.ntmps21;go_wp2_with fail;refine cMq HI.out ?_;rintro e w1 ⟨rfl, rfl⟩;obtain ⟨X, hX⟩ : ∃ X, ptrV P (r.inner b) = .pointer X := by cases r.inner b with | none => exact ⟨_, rfl⟩ | some k => exact ⟨_, rfl⟩
 rw [hX];have HX := hdn hX;clear hX HI
 go_upto_if 13 with fail
 go_cut [] (fun wx => MidW F w1 base rp P q wx)
 case first =>
  cases hi : r.inner b with
  | none =>
   have hX := HX.out;rw [hi] at hX;obtain rfl : X = none := by injection hX with e; exact e.symm
   have hqr := HQ.out;rw [hi] at hqr;simp only at hqr;have HQr := hdn hqr;clear hi hqr;go_wp2
   go_meet
   case rel => rw [<- HQr.out]; exact ⟨_, HS0.out, Below.refl _ _⟩
  | some k =>
   have hX := HX.out;rw [hi] at hX;obtain rfl : X = some ⟨ptN P k, 0, none⟩ := by injection hX with e; exact e.symm
   have hqr := HQ.out;rw [hi] at hqr;simp only at hqr;have HQr := hdn hqr;have HKk := hdn (HK.out k hi);clear hi hqr;go_wp2_with fail;refine cMq HKk.out ?_;rintro e w2 ⟨own2, ⟨v, rfl⟩, hst, hbb⟩;have HS2 := hdn hst;have HB2 := hdn hbb;clear hst hbb;go_wp2
   go_meet
   case rel => rw [<- HQr.out]; exact ⟨_, HS2.out, HB2.out⟩
 case rest =>
  obtain ⟨own1, hst1, hb1⟩ := hcut;clear HS0 HK HQ HX;have hbz : base ≤ wc.heap.size := by have := hb1.size; omega
  obtain ⟨D, hD⟩ : ∃ D, q.nd b = D := ⟨_, rfl⟩;have hDk := hqo.nd b hqbl;rw [hD] at hDk hqb;have hDn : q.nds[b]? = some D := by rw [<- hD]; exact Rd.at_lt hqbl
  obtain ⟨kv, lv, av, hn1⟩ := hst1.nodes b _ hDn;have hrow1 := hn1.row;unfold ndCells at hrow1;have q1 := fun i => cell_of_row wc (ptN P b) i _ _ _ hrow1;have f1 : ∀ i, wc.frozen? ⟨ptN P b, i, none⟩ = false := fun i => by simp [World.frozen?, hrow1]
  have hset := hst1.set hDn 12 (.bool false) (d' := { D with opn := false }) (fun _ _ _ => rfl) rfl rfl rfl (hst1.wf.upd hDn rfl rfl);have hbb2 := hb1.setCell (p := ⟨ptN P b, 12, none⟩) hn1.ge (.bool false);obtain ⟨EV, hEV⟩ : ∃ EV, (match D.kids.getLast? with | some k => some (⟨ptN P k, 0, none⟩ : Addr) | none => none) = EV := ⟨_, rfl⟩
  have HEV := hdn hEV;have HSet := hdn hset;have HB2 := hdn hbb2;have hkn := hqo.kn hqbl;rw [hD] at hkn;have hqf := hqo.few;have hkids := hn1.kids;have hlines := hn1.lines;obtain ⟨A, c, rfl⟩ := bk_own_slice hkids;have HKids := hdn hkids;have HQo := hdn hqo;have HDn := hdn hDn;have HDk := hdn hDk;have HDD := hdn hD;have HQb := hdn hqb;have hbge := hn1.ge;have hkl : D.kids.length ≤ 100000 := by omega
  obtain ⟨n, hn⟩ : ∃ n, D.kids.length = n := ⟨_, rfl⟩;have HN := hdn hn;rw [hn] at q1 hkl;have HR1 := hdn hrow1;clear hset hbb2 hkn hn1 hst1 hb1 hqo hDn hDk hD hqb hkids hlines hEV hn hrow1
  go_upto_if 26 with fail
  go_cut [5] (fun v5 wx => Value.pointer EV = v5 ∧ wx = wc.setCell ⟨ptN P b, 12, none⟩ (.bool false))
  case first =>
   rcases snoc_cases D.kids with hk | ⟨ks, k, hk⟩
   ·have hn0 : n = 0 := by rw [<- HN.out, hk]; rfl
    have hE : EV = none := by rw [<- HEV.out, hk]; rfl
    subst hE;subst hn0;clear hk;go_wp2
    go_meet
    case rel => exact ⟨rfl, rfl⟩
   ·have hks := HKids.out;rw [hk, List.map_append] at hks;obtain ⟨g, c2, hsl, hc, hcell, hgl⟩ := own_last hks;have hE : EV = some ⟨ptN P k, 0, none⟩ := by rw [<- HEV.out, hk, List.getLast?_concat]
    rw [List.length_map] at hsl hc hcell;have hnk : n = ks.length + 1 := by rw [<- HN.out, hk]; simp
    have hA : A = some ⟨g, 0, none⟩ := by injection hsl
    have hgp : g ≠ ptN P b := row_ne hks HR1.out (by decide) g (by rw [hA]; rfl);subst hE;subst hA;obtain ⟨m, hm⟩ : ∃ m, ks.length = m := ⟨_, rfl⟩;rw [hm] at hcell hc hnk;subst hnk;have hn0 : (0 : Int) < ((m + 1 : Nat) : Int) := by omega
    have hcc : c2 = c := by injection hsl with e1 e2 e3; exact e3.symm
    subst hcc;have hcell2 : (wc.setCell ⟨ptN P b, 12, none⟩ (.bool false)).cell? ⟨g, m, none⟩ = some (.pointer (some ⟨ptN P k, 0, none⟩)) := by
     refine Eq.trans ?_ hcell;unfold World.cell?;rw [Below.heap_setCell _ _ _ _ hgp]
    clear hks hk hcell hgp hsl;go_wp2
    go_meet
    case rel => exact ⟨rfl, rfl⟩
  case rest =>
   obtain ⟨rfl, rfl⟩ := hcut;obtain ⟨W2, hW2⟩ : ∃ W2, wc.setCell ⟨ptN P b, 12, none⟩ (.bool false) = W2 := ⟨_, rfl⟩;have hst2 := HSet.out;have hbb2 := HB2.out;rw [hW2] at hst2 hbb2 ⊢;obtain ⟨D2, hD2⟩ : ∃ D2 : Nd, { D with opn := false } = D2 := ⟨_, rfl⟩;obtain ⟨q2, hq2⟩ : ∃ q2, q.upd b D2 = q2 := ⟨_, rfl⟩;rw [hD2, hq2] at hst2;have hn2 : q2.nds[b]? = some D2 := by rw [<- hq2]; exact Rd.upd_self hqbl
   obtain ⟨kv2, lv2, av2, hN2⟩ := hst2.nodes b _ hn2;have hlines2 := hN2.lines;obtain ⟨Al, cl, rfl⟩ := bk_own_slice hlines2;have hrow2 := hN2.row;unfold ndCells at hrow2;have q2c := fun i => cell_of_row W2 (ptN P b) i _ _ _ hrow2;have f2 : ∀ i, W2.frozen? ⟨ptN P b, i, none⟩ = false := fun i => by simp [World.frozen?, hrow2]
   obtain ⟨K, hK⟩ : ∃ K, D.kind = K := ⟨_, rfl⟩;have hK2 : D2.kind = K := by rw [<- hD2]; exact hK
   rw [hK2] at q2c;have hbz2 : base ≤ W2.heap.size := by have := hbb2.size; omega
   have HSt := hdn hst2; have HB := hdn hbb2; have HN2 := hdn hN2; have HL2 := hdn hlines2;have hqK : (q.nd b).kind = K := by rw [HDD.out]; exact hK
   have HqK := hdn hqK;have HD2 := hdn hD2; have Hq2 := hdn hq2; have Hn2 := hdn hn2;have hl2 : lw D2.lines ≤ B := by rw [<- hD2]; exact HDk.out.lines
   have HLw := hdn hl2;have hrefs : q.refs.length ≤ B := by have := HQo.out.refs; omega
   have HRf := hdn hrefs;clear q1 f1 HSet HB2 HKids HR1 hst2 hbb2 hN2 hlines2 hrow2 hW2 hqK hD2 hq2 hn2 hl2 hrefs hK hK2 hbz HN hkl
   by_cases h5 : K = 5
   ·subst h5;have HJ := hdn (join_own D2.lines _ base W2 HL2.out (by have := HLw.out; omega));obtain ⟨s, hs⟩ : ∃ s, joinN D2.lines = s := ⟨_, rfl⟩;rw [hs] at HJ;have hsz : s.size ≤ 1000000 := by have := joinN_size D2.lines; have := HLw.out; rw [hs] at *; omega
    obtain ⟨X, hX⟩ : ∃ X, defineF s.size s q2.refs = X := ⟨_, rfl⟩;have hqr : q2.refs = q.refs := by rw [<- Hq2.out]; rfl
    have hXl := defineF_len s.size s q2.refs;rw [hX, hqr] at hXl;have HDe := hdn fun (w3 : World) (b3 : Below W2.heap.size W2 w3) => define_b (HSt.out.below b3) (Nat.le_trans hbz2 b3.size) s (by omega) (by rw [hqr]; have := HRf.out; omega);rw [hX] at HDe;obtain ⟨X1, X2⟩ := X;simp only at HDe hXl;have HT := hdn fun w' => trim3_any X1 w' (by have := HRf.out; omega);obtain ⟨T, hT⟩ : ∃ T, trimN X1 = T := ⟨_, rfl⟩;unfold trimN at hT;rw [hT] at HT;have hXq : defineF (joinN (q.nd b).lines).size (joinN (q.nd b).lines) q.refs = (X1, X2) := by
     rw [HDD.out, show D.lines = D2.lines by rw [<- HD2.out], hs, <- hqr]; exact hX
    have HXq := hdn hXq;have HTq := hdn (show trimN (X1, X2).1 = T from hT);clear hs hX hqr hXl hT hXq;go_wp2_with fail;refine cMq HJ.out ?_;rintro e w3 ⟨rfl, b3⟩;have HDe3 := hdn (HDe.out w3 b3);have HB3 := hdn (HB.out.trans (b3.mono hbz2));clear b3;go_wp2_with fail;refine cMq HDe3.out ?_;rintro e w4 ⟨own4, rfl, hst4, b4⟩;have HS4 := hdn hst4;have HB4 := hdn (HB3.out.trans b4);clear hst4 b4;go_wp2_with fail;refine cMq (HT.out _) ?_;rintro e w5 ⟨rfl, b5⟩;have hst5 := HS4.out.below b5;have hn5 : ({ q2 with refs := X2 } : Rd).nds[b]? = some D2 := Hn2.out
    obtain ⟨kv5, lv5, av5, hN5⟩ := hst5.nodes b _ hn5;have hrow5 := hN5.row;unfold ndCells at hrow5;have q5 := fun i => cell_of_row w5 (ptN P b) i _ _ _ hrow5;have f5 : ∀ i, w5.frozen? ⟨ptN P b, i, none⟩ = false := fun i => by simp [World.frozen?, hrow5]
    have hst6 := hst5.set hn5 6 (.string T) (d' := { D2 with text := T }) (fun _ _ _ => rfl) rfl rfl rfl (hst5.wf.upd hn5 rfl rfl);have hb6 := (HB4.out.trans (b5.mono (by have := HB4.out.size; omega))).setCell (p := ⟨ptN P b, 6, none⟩) hbge (.string T);have HS6 := hdn hst6; have HB6 := hdn hb6;clear hst5 b5 hN5 hrow5 hst6 hb6 hn5 q2c f2
    go_upto_region 11 with fail
    obtain ⟨W6, hW6⟩ : ∃ W6, w5.setCell ⟨ptN P b, 6, none⟩ (.string T) = W6 := ⟨_, rfl⟩;have hst6 := HS6.out;have hb6 := HB6.out;rw [hW6] at hst6 hb6 ⊢;clear q5 f5 hW6 HS6 HB6;obtain ⟨q6, hq6⟩ : ∃ q6, ({ q2 with refs := X2 } : Rd).upd b { D2 with text := T } = q6 := ⟨_, rfl⟩;rw [hq6] at hst6;have hqbl2 : b < q2.nds.length := (List.getElem?_eq_some_iff.1 Hn2.out).1;have hn6 : q6.nds[b]? = some { D2 with text := T } := by rw [<- hq6]; exact Rd.upd_self hqbl2
    have hqe : ({ (q.upd b { q.nd b with opn := false, text := T }) with refs := X2 } : Rd) = q6 := by
     rw [<- hq6, <- Hq2.out, <- HD2.out, HDD.out];show _ = Rd.upd { (q.upd b _) with refs := X2 } b _;unfold Rd.upd;simp
    obtain ⟨kv6, lv6, av6, hN6⟩ := hst6.nodes b _ hn6;have hrow6 := hN6.row;unfold ndCells at hrow6;have q6c := fun i => cell_of_row W6 (ptN P b) i _ _ _ hrow6
    by_cases hTz : T.size = 0
    ·obtain ⟨p, hp1, hp2, hp3⟩ := HQo.out.opn b (fun e => by have := HQo.out.d1; rw [<- e, HqK.out] at this; cases this) (by rw [HDD.out]; exact HQb.out);have hpb := (HQo.out.par b p hp1).1;have hqp6 : q6.nds[p]? = some (q.nd p) := by
      rw [<- hqe];show (q.upd b _).nds[p]? = _;rw [Rd.upd_other (by omega)];exact Rd.at_lt (by omega)
     obtain ⟨kvp, lvp, avp, hNp⟩ := hst6.nodes p _ hqp6;obtain ⟨ks, k, hk⟩ : ∃ ks k, (q.nd p).kids = ks ++ [k] := by
      rcases snoc_cases (q.nd p).kids with h0 | h0
      ·rw [h0] at hp3; cases hp3
      ·exact h0
     have hkp := hNp.kids;rw [hk, List.map_append] at hkp;have hkl1 : (ks ++ [k]).length = (ks.map fun k => ptrV P (some k)).length + 1 := by simp
     rw [hkl1] at hkp;obtain ⟨g, c2, rfl, hc, _, _⟩ := own_last hkp;have hless := own_less hkp;rw [List.length_map] at hc hless;have hrowp := hNp.row;unfold ndCells at hrowp;have qp := fun i => cell_of_row W6 (ptN P p) i _ _ _ hrowp;have fp : ∀ i, W6.frozen? ⟨ptN P p, i, none⟩ = false := fun i => by simp [World.frozen?, hrowp]
     rw [List.length_map] at qp;have hpD : D2.parent = some p := by rw [<- HD2.out]; show D.parent = _; rw [<- HDD.out]; exact hp1
     rw [show ({ D2 with text := T } : Nd).parent = some p from hpD, show ptrV P (some p) = Value.pointer (some ⟨ptN P p, 0, none⟩) from rfl] at q6c;have hTe : T.toList.isEmpty = true := by
      have : T = ⟨#[]⟩ := by
       have : T.data = #[] := Array.eq_empty_of_size_eq_zero hTz;rw [<- Lib.mk_data T, this]
      rw [this, ByteArray.toList_eq]; rfl
     have hTn : T.toList = [] := by cases h : T.toList with | nil => rfl | cons a l => rw [h] at hTe; cases hTe
     have hdrop : (q.nd p).kids.dropLast = ks := by rw [hk, List.dropLast_concat]
     have hfin := St.kids (hst6.below (below_drewN (Below.refl _ W6) 1)) hqp6 (hNp.keep (by rw [hst6.len]; exact (List.getElem?_eq_some_iff.1 hqp6).1) (Nat.le_refl _) (fun _ _ => rfl) (fun _ _ => rfl) (fun x hx => by have := hst6.wf.par p _ hqp6 x hx; rw [hst6.len]; have := (List.getElem?_eq_some_iff.1 hqp6).1; omega) (fun x hx => by rw [hst6.len]; exact (hst6.wf.kids p _ hqp6 x hx).2) (fun _ _ _ => rfl)) ks (wa := W6.drewN 1) (w1 := W6.drewN 1) (v' := .slice (some ⟨g, 0, none⟩) ks.length c2) (Below.refl _ _) (grown_refl _ _) (own_keep hless fun _ _ => rfl) (fun g' hg' => by left; rw [<- hg']; rfl) (by
      refine ⟨fun j e he => ?_, fun j e he => ?_, fun j e he => ?_, fun j hj => by rw [Rd.upd_len]; exact hst6.wf.cur j hj, fun j hj => by rw [Rd.upd_len]; exact hst6.wf.tip j hj, by rw [Rd.upd_len]; exact hst6.wf.doc⟩
      ·rw [Rd.upd_len]
       by_cases hij : p = j
       ·subst hij;rw [Rd.upd_self (List.getElem?_eq_some_iff.1 hqp6).1] at he
        cases he
        intro x hx;exact hst6.wf.kids p _ hqp6 x (by rw [hk]; exact List.mem_append_left _ hx)
       ·rw [Rd.upd_other hij] at he; exact hst6.wf.kids j e he
      ·by_cases hij : p = j
       ·subst hij;rw [Rd.upd_self (List.getElem?_eq_some_iff.1 hqp6).1] at he
        cases he
        exact hst6.wf.par p (q.nd p) hqp6
       ·rw [Rd.upd_other hij] at he; exact hst6.wf.par j e he
      ·rw [Rd.upd_len]
       by_cases hij : p = j
       ·subst hij;rw [Rd.upd_self (List.getElem?_eq_some_iff.1 hqp6).1] at he
        cases he
        have := hst6.wf.nk p _ hqp6;rw [hk] at this;simp at this;show ks.length ≤ _;omega
       ·rw [Rd.upd_other hij] at he; exact hst6.wf.nk j e he)
     have hbf := (below_drewN hb6 1).setCell (p := ⟨ptN P p, 11, none⟩) hNp.ge (.slice (some ⟨g, 0, none⟩) ks.length c2);have hshut := shut_gone HqK.out hp1 HXq.out (by rw [HTq.out]; exact hTz) (q := q6) (by rw [HTq.out]; exact hqe);have hnp6 : q6.nd p = q.nd p := Rd.nd_of hqp6;rw [hnp6, hdrop] at hshut;have HSh := hdn hshut; have HFin := hdn hfin; have HBf := hdn hbf;have hkn1 : ks.length ≤ 100000 := by have := HQo.out.kn (i := p) (by omega); rw [hk] at this; simp at this; have := HQo.out.few; omega
     obtain ⟨m, hm⟩ : ∃ m, ks.length = m := ⟨_, rfl⟩;rw [hm] at qp hc hkn1 HFin HBf;clear hfin hbf hshut hnp6 hless hkp hk hp1 hp2 hp3 hpb hqp6 hNp hrowp hpD hdrop hqe hn6 hN6 hrow6 hst6 hb6 hkl1 hq6 hqbl2 hTz hm;go_wp2_with fail
     go_region
     all_goals
      go_wp2
      go_end0
      rw [HSh.out];exact ⟨_, ⟨_, rfl⟩, HFin.out, HBf.out⟩
    ·have hTe : T.toList.isEmpty = false := by
      cases h : T.toList with
      | nil =>
       have : T.data.toList = [] := by rw [<- ByteArray.toList_eq]; exact h
       have h2 : T.data.toList.length = T.size := lTq;rw [this] at h2;exact absurd h2.symm hTz
      | cons _ _ => rfl
     have hTn : ¬ T.toList = [] := fun e => by rw [e] at hTe; cases hTe
     have hshut := shut_five HqK.out HXq.out (by rw [HTq.out]; exact hTz);rw [HTq.out, hqe] at hshut;have HSh := hdn hshut; have HFin := hdn hst6; have HBf := hdn hb6;clear hshut hst6 hb6 hqe hq6 hn6 hN6 hrow6 hqbl2;go_wp2
     go_end0
     rw [HSh.out];exact ⟨_, ⟨_, rfl⟩, HFin.out, HBf.out⟩
   ·have i5 : ((K : Int) == 5) = false := by rw [beq_eq_false_iff_ne]; omega
    by_cases h7 : K = 7
    ·subst h7;have hnd2 : q2.nd b = D2 := Rd.nd_of Hn2.out;have hqbl2 : b < q2.nds.length := (List.getElem?_eq_some_iff.1 Hn2.out).1;have HFe := hdn (fenced_any HSt.out b hqbl2);rw [hnd2] at HFe;obtain ⟨l, hl⟩ : ∃ l, (if 0 < D2.fm then D2.lines else trailL D2.lines) = l := ⟨_, rfl⟩;have hlw : lw l ≤ B := by
      rw [<- hl];split
      ·exact HLw.out
      ·exact Nat.le_trans (trailL_lw _) HLw.out
     have HTr := hdn (trailing_any D2.lines _ base W2 HL2.out (fun x hx => by have := lw_mem hx; have := HLw.out; omega) (by have := HLw.out; unfold lw at this; omega));have HLl := hdn hl;obtain ⟨fe, hfe⟩ : ∃ fe, decide (0 < D2.fm) = fe := ⟨_, rfl⟩;rw [hfe] at HFe;have HFd := hdn hfe;have hnote : (0 < D2.fm) = (fe = true) := by rw [<- hfe]; simp
     clear hnd2 hl hfe;go_wp2_with fail;refine cMq HFe.out ?_;rintro e w3 ⟨rfl, rfl⟩;clear HFe
     go_upto_if 82 with fail
     go_cut [] (fun wx => MidW F w1 base rp P (q2.upd b { D2 with lines := l }) wx)
     case first =>
      cases fe with
      | true =>
       have hll : l = D2.lines := by rw [<- HLl.out, if_pos (by rw [hnote])]
       have HLq := hdn hll;clear hll;go_wp2
       go_meet
       case rel =>
        have hss := HSt.out;rw [show q2 = q2.upd b { D2 with lines := l } by rw [HLq.out]; exact (Rd.upd_same Hn2.out).symm] at hss;exact ⟨_, hss, HB.out⟩
      | false =>
       have hll : l = trailL D2.lines := by rw [<- HLl.out, if_neg (by rw [hnote]; exact Bool.false_ne_true)]
       have HLq := hdn hll;clear hll;go_wp2_with fail;refine cMq HTr.out ?_;rintro e w4 ⟨v4, rfl, b4, hown4, hv4⟩;rw [<- HLq.out] at hown4;obtain ⟨A4, c4, rfl⟩ := bk_own_slice hown4;have hst4 := St.lines HSt.out Hn2.out HN2.out l b4 (grown_refl _ _) hown4 (fun g hg => .inl (hv4 g hg)) (HSt.out.wf.upd Hn2.out rfl rfl);have hb4 := (HB.out.trans (b4.mono hbz2)).setCell (p := ⟨ptN P b, 15, none⟩) hbge (.slice A4 l.length c4);have hrow4 : w4.heap[ptN P b]? = _ := (b4.block _ (gSq.1 HN2.out.row).1).trans HN2.out.row
       have f4 : ∀ i, w4.frozen? ⟨ptN P b, i, none⟩ = false := fun i => by simp [World.frozen?, hrow4]
       unfold ndCells at hrow4;have q4 := fun i => cell_of_row w4 (ptN P b) i _ _ _ hrow4;have HS4 := hdn hst4; have HB4 := hdn hb4;clear hst4 hb4 hrow4 hown4 hv4 b4 HLq q2c f2;go_wp2
       go_meet
       case rel => exact ⟨_, HS4.out, HB4.out⟩
     case rest =>
      obtain ⟨own3, hst3, hb3⟩ := hcut;obtain ⟨D3, hD3⟩ : ∃ D3 : Nd, { D2 with lines := l } = D3 := ⟨_, rfl⟩;rw [hD3] at hst3;obtain ⟨q3, hq3⟩ : ∃ q3, q2.upd b D3 = q3 := ⟨_, rfl⟩;rw [hq3] at hst3;have hn3 : q3.nds[b]? = some D3 := by rw [<- hq3]; exact Rd.upd_self hqbl2
      have hnd3 : q3.nd b = D3 := Rd.nd_of hn3;have hlD3 : D3.lines = l := by rw [<- hD3]
      obtain ⟨kv3, lv3, av3, hN3⟩ := hst3.nodes b _ hn3;have hlines3 := hN3.lines;rw [hlD3] at hlines3;obtain ⟨A3, c3, rfl, hcells⟩ := own_ones hlines3;have hrow3 := hN3.row;unfold ndCells at hrow3;have q3c := fun i => cell_of_row wc (ptN P b) i _ _ _ hrow3;obtain ⟨t0, ht0⟩ : ∃ t0, D3.text = t0 := ⟨_, rfl⟩;have ht0z : t0.size = 0 := by
       rw [<- ht0, <- hD3, <- HD2.out];exact HDk.out.txt (.inr (.inr ⟨HQb.out, .inr (by rw [<- HqK.out, HDD.out])⟩))
      have hfin : q.shut b = q3.upd b { q3.nd b with text := linesN t0 l } := by
       have hll : (if 0 < (q.nd b).fm then (q.nd b).lines else trailL (q.nd b).lines) = l := by
        rw [<- HLl.out, <- HD2.out, HDD.out]
       rw [shut_seven HqK.out hll, hnd3, <- hq3, <- Hq2.out, Rd.upd_upd, Rd.upd_upd, <- ht0, <- hD3, <- HD2.out, HDD.out]
      have H0 := hdn (show TxtW F w1 base rp P q3 b t0 l wc (.slice A3 l.length c3) (.int .i64 0) wc from ⟨0, own3, rfl, Nat.zero_le _, by
       rw [hnd3, List.take_zero];rw [show q3.upd b { D3 with text := linesN t0 [] } = q3 from by
        show q3.upd b { D3 with text := t0 } = q3;rw [<- ht0];exact Rd.upd_same hn3]
       exact hst3, fun _ _ => rfl, hb3⟩)
      have HC := hdn hcells; have HFi := hdn hfin;have hbl3 : b < q3.nds.length := (List.getElem?_eq_some_iff.1 hn3).1;have hrow3k := hdn hN3.row;have hl3k := hdn hlines3;clear HTr HLl HFd hst3 hb3 hq3 hn3 hN3 hlines3 hrow3 ht0 hfin hcells hD3 hlD3 q2c f2 hnd3;go_wp2_with fail;clear q3c
      go_loopw [96] (fun v wr => TxtW F w1 base rp P q3 b t0 l wc (.slice A3 l.length c3) v wr) (fun v _ => l.length - (intOf v).toNat)
      case atStart => exact H0.out
      case round =>
       obtain ⟨k, ow, rfl, hk, hst, hkeep, hb⟩ := hrel;clear H0
       by_cases hlt : k < l.length
       ·have hki : (k : Int) < (l.length : Int) := by omega
        obtain ⟨g, rfl, hgl, hlc, hcell⟩ := HC.out k hlt;have hcell2 : wr.cell? ⟨g, k, none⟩ = some (.string l[k]) := by
         rw [<- hcell];unfold World.cell?;rw [hkeep g rfl]
        have hgp : g ≠ ptN P b := row_ne hl3k.out hrow3k.out (by decide) g rfl;obtain ⟨TX, hTX⟩ : ∃ TX, linesN t0 (l.take k) = TX := ⟨_, rfl⟩;have hTXz : TX.size + l[k].size + 1 ≤ 1000000 := by
         have h1 := linesN_size t0 (l.take k);have h2 := lw_take l k hlt;rw [hTX] at h1;omega
        have hnx := linesN_take t0 l k hlt;rw [hTX] at hnx hst;obtain ⟨x, hx⟩ : ∃ x, l[k] = x := ⟨_, rfl⟩;rw [hx] at hcell2 hTXz hnx;have hnb : (q3.upd b { q3.nd b with text := TX }).nds[b]? = some { q3.nd b with text := TX } := Rd.upd_self hbl3;obtain ⟨kv, lv, av, hN⟩ := hst.nodes b _ hnb;have hrow := hN.row;unfold ndCells at hrow;have qr := fun i => cell_of_row wr (ptN P b) i _ _ _ hrow;have fr : ∀ i, wr.frozen? ⟨ptN P b, i, none⟩ = false := fun i => by simp [World.frozen?, hrow]
        have hset := hst.set hnb 6 (.string (TX ++ (x ++ ⟨#[10]⟩))) (d' := { q3.nd b with text := TX ++ (x ++ ⟨#[10]⟩) }) (fun _ _ _ => rfl) rfl rfl rfl (hst.wf.upd hnb rfl rfl);rw [Rd.upd_upd] at hset;have HSet := hdn hset;have HBs := hdn (hb.setCell (p := ⟨ptN P b, 6, none⟩) hbge (.string (TX ++ (x ++ ⟨#[10]⟩))));have HNx := hdn hnx;have HKp := hdn hkeep;have hk6 : k < 1000000 := by unfold lw at hlw; omega
        have e1 : x.size + 1 ≤ 9223372036854775807 := by omega
        have e2 : TX.size + (x.size + 1) ≤ 9223372036854775807 := by omega
        clear hcell hst hkeep hb hTX hnb hN hrow hset hnx hx;go_wp2
        go_roundw
        case rel => exact ⟨k + 1, _, by go_num, hlt, by rw [HNx.out]; exact HSet.out, fun g' hg' => by rw [<- HKp.out g' hg']; exact Below.heap_setCell wr _ _ _ (by cases hg'; exact hgp), HBs.out⟩
        case measure => simp [intOf]; omega
       ·have hkl : k = l.length := by omega
        subst hkl;rw [List.take_length] at hst;have HSt3 := hdn hst; have HB3 := hdn hb;clear hst hb hkeep;go_wp2
        go_end0
        rw [HFi.out];exact ⟨_, ⟨_, rfl⟩, HSt3.out, HB3.out⟩
    ·have i7 : ((K : Int) == 7) = false := by rw [beq_eq_false_iff_ne]; omega
     by_cases h8 : K = 8
     ·subst h8;have HTr := hdn (trailing_any D2.lines _ base W2 HL2.out (fun x hx => by have := lw_mem hx; have := HLw.out; omega) (by have := HLw.out; unfold lw at this; omega));have hlw := trailL_lw D2.lines;obtain ⟨T, hT⟩ : ∃ T, joinN (trailL D2.lines) = T := ⟨_, rfl⟩;have hfin : q.shut b = q2.upd b { D2 with text := T } := by
       rw [shut_eight HqK.out, <- Hq2.out, Rd.upd_upd, <- hT, <- HD2.out, HDD.out]
      have HFi := hdn hfin;have HJ := hdn fun v (w' : World) (ho : w'.ownsRow base 9 1 v (trailL D2.lines).length ((trailL D2.lines).map Value.string)) => join_own (trailL D2.lines) v base w' ho (by have := HLw.out; omega);rw [hT] at HJ;clear hT hfin hlw;go_wp2_with fail;refine cMq HTr.out ?_;rintro e w4 ⟨v4, rfl, b4, hown4, hv4⟩;have HJ4 := hdn (HJ.out v4 w4 hown4);obtain ⟨A4, c4, rfl⟩ := bk_own_slice hown4;have HB4 := hdn b4;clear hown4 hv4 b4 HJ HTr;go_wp2_with fail;refine cMq HJ4.out ?_;rintro e w5 ⟨rfl, b5⟩
      have hb25 : Below W2.heap.size W2 w5 := below_on HB4.out b5;have hst5 := HSt.out.below hb25;obtain ⟨kv5, lv5, av5, hN5⟩ := hst5.nodes b _ Hn2.out;have hrow5 := hN5.row;unfold ndCells at hrow5;have q5 := fun i => cell_of_row w5 (ptN P b) i _ _ _ hrow5;have f5 : ∀ i, w5.frozen? ⟨ptN P b, i, none⟩ = false := fun i => by simp [World.frozen?, hrow5]
      have hset := hst5.set Hn2.out 6 (.string T) (d' := { D2 with text := T }) (fun _ _ _ => rfl) rfl rfl rfl (hst5.wf.upd Hn2.out rfl rfl);have HSet := hdn hset;have HBs := hdn ((HB.out.trans (hb25.mono hbz2)).setCell (p := ⟨ptN P b, 6, none⟩) hbge (.string T));clear hb25 hst5 hN5 hrow5 hset b5 q2c f2;go_wp2
      go_end0
      rw [HFi.out];exact ⟨_, ⟨_, rfl⟩, HSet.out, HBs.out⟩
     ·have i8 : ((K : Int) == 8) = false := by rw [beq_eq_false_iff_ne]; omega
      by_cases h43 : K = 4 ∨ K = 3
      ·have hDK : (q.nd b).kind = 4 ∨ (q.nd b).kind = 3 := by rw [HqK.out]; exact h43
       have HDK := hdn hDK;have hst4 := HSt.out.set Hn2.out 14 (.int .i64 D2.first) (d' := { D2 with last := D2.first }) (fun _ _ _ => rfl) rfl rfl rfl (HSt.out.wf.upd Hn2.out rfl rfl)
       have hb4 := HB.out.setCell (p := ⟨ptN P b, 14, none⟩) hbge (.int .i64 D2.first)
       have HS4 := hdn hst4; have HB4 := hdn hb4;clear hDK hst4 hb4;rcases h43 with rfl | rfl
       all_goals
        go_upto_if 135 with fail
        obtain ⟨W4, hW4⟩ : ∃ W4, W2.setCell ⟨ptN P b, 14, none⟩ (.int .i64 D2.first) = W4 := ⟨_, rfl⟩
        have hst4 := HS4.out;have hb4 := HB4.out;rw [hW4] at hst4 hb4 ⊢;clear hW4 HS4 HB4 q2c f2;obtain ⟨q4, hq4⟩ : ∃ q4, q2.upd b { D2 with last := D2.first } = q4 := ⟨_, rfl⟩
        rw [hq4] at hst4;have hqbl2 : b < q2.nds.length := (List.getElem?_eq_some_iff.1 Hn2.out).1;have hn4 : q4.nds[b]? = some { D2 with last := D2.first } := by rw [<- hq4]; exact Rd.upd_self hqbl2
        cases hgl : D.kids.getLast? with
        | none =>
         have hE : EV = none := by rw [<- HEV.out, hgl]
         subst hE;have hfin : q.shut b = q4 := by
          rw [shut_four HDK.out, <- hq4, <- Hq2.out, Rd.upd_upd, <- HD2.out];unfold lastI;rw [HDD.out, hgl]
         have HFi := hdn hfin; have HS4 := hdn hst4; have HB4 := hdn hb4;clear hfin hst4 hb4 hq4 hn4 hgl;go_wp2
         go_end0
         rw [HFi.out];exact ⟨_, ⟨_, rfl⟩, HS4.out, HB4.out⟩
        | some k =>
         have hE : EV = some ⟨ptN P k, 0, none⟩ := by rw [<- HEV.out, hgl]
         subst hE;have hkm := HQo.out.kid b k (by rw [HDD.out]; exact List.mem_of_getLast? hgl);have hkb : b ≠ k := by omega
         have hk4 : q4.nds[k]? = some (q.nd k) := by
          rw [<- hq4, Rd.upd_other hkb, <- Hq2.out, Rd.upd_other hkb];exact Rd.at_lt hkm.2.1
         obtain ⟨kv4, lv4, av4, hN4⟩ := hst4.nodes b _ hn4;have hrow4 := hN4.row;unfold ndCells at hrow4;have q4c := fun i => cell_of_row W4 (ptN P b) i _ _ _ hrow4;have f4 : ∀ i, W4.frozen? ⟨ptN P b, i, none⟩ = false := fun i => by simp [World.frozen?, hrow4]
         obtain ⟨kvk, lvk, avk, hNk⟩ := hst4.nodes k _ hk4;have hrowk := hNk.row;unfold ndCells at hrowk;have qkc := fun i => cell_of_row W4 (ptN P k) i _ _ _ hrowk;have hset := hst4.set hn4 14 (.int .i64 (q.nd k).last) (d' := { D2 with last := (q.nd k).last }) (fun _ _ _ => rfl) rfl rfl rfl (hst4.wf.upd hn4 rfl rfl);have hfin : q.shut b = q4.upd b { D2 with last := (q.nd k).last } := by
          rw [shut_four HDK.out, <- hq4, Rd.upd_upd, <- Hq2.out, Rd.upd_upd, <- HD2.out];unfold lastI;rw [HDD.out, hgl]
         have HFi := hdn hfin; have HSet := hdn hset;have HBs := hdn (hb4.setCell (p := ⟨ptN P b, 14, none⟩) hbge (.int .i64 (q.nd k).last));clear hfin hset hst4 hb4 hq4 hn4 hgl hkm hkb hk4 hN4 hrow4 hNk hrowk;go_wp2
         go_end0
         rw [HFi.out];exact ⟨_, ⟨_, rfl⟩, HSet.out, HBs.out⟩
      ·have i4 : ((K : Int) == 4) = false := by rw [beq_eq_false_iff_ne]; omega
       have i3 : ((K : Int) == 3) = false := by rw [beq_eq_false_iff_ne]; omega
       by_cases h2 : K = 2
       ·subst h2
        cases hgl : D.kids.getLast? with
        | none =>
         have hE : EV = none := by rw [<- HEV.out, hgl]
         subst hE;have hfin : q.shut b = q2 := by
          rw [shut_two HqK.out, <- Hq2.out, <- HD2.out];unfold lastQ;rw [HDD.out, hgl]
         have HFi := hdn hfin;clear hfin hgl;go_wp2
         go_end0
         rw [HFi.out];exact ⟨_, ⟨_, rfl⟩, HSt.out, HB.out⟩
        | some k =>
         have hE : EV = some ⟨ptN P k, 0, none⟩ := by rw [<- HEV.out, hgl]
         subst hE;have hkm := HQo.out.kid b k (by rw [HDD.out]; exact List.mem_of_getLast? hgl);have hkb : b ≠ k := by omega
         have hk4 : q2.nds[k]? = some (q.nd k) := by
          rw [<- Hq2.out, Rd.upd_other hkb];exact Rd.at_lt hkm.2.1
         obtain ⟨kvk, lvk, avk, hNk⟩ := HSt.out.nodes k _ hk4;have hrowk := hNk.row;unfold ndCells at hrowk;have qkc := fun i => cell_of_row W2 (ptN P k) i _ _ _ hrowk;have hset := fun n => (HSt.out.below (below_drewN (Below.refl _ W2) n)).set Hn2.out 14 (.int .i64 (max D2.last (q.nd k).last)) (d' := { D2 with last := max D2.last (q.nd k).last }) (fun _ _ _ => rfl) rfl rfl rfl (HSt.out.wf.upd Hn2.out rfl rfl);have hfin : q.shut b = q2.upd b { D2 with last := max D2.last (q.nd k).last } := by
          rw [shut_two HqK.out, <- Hq2.out, Rd.upd_upd, <- HD2.out];unfold lastQ;rw [HDD.out, hgl]
         have HFi := hdn hfin; have HSet := hdn hset;have HBs := hdn fun n => (below_drewN HB.out n).setCell (p := ⟨ptN P b, 14, none⟩) hbge (.int .i64 (max D2.last (q.nd k).last));clear hfin hset hgl hkm hkb hk4 hNk hrowk;go_wp2_with fail
         go_region
         all_goals
          go_wp2
          go_end0
          rw [HFi.out];exact ⟨_, ⟨_, rfl⟩, HSet.out 1, HBs.out 1⟩
       ·have i2 : ((K : Int) == 2) = false := by rw [beq_eq_false_iff_ne]; omega
        have hfin : q.shut b = q2 := by
         rw [shut_else (by rw [HqK.out]; exact h5) (by rw [HqK.out]; exact h7) (by rw [HqK.out]; exact h8) (by rw [HqK.out]; omega) (by rw [HqK.out]; omega) (by rw [HqK.out]; exact h2), <- Hq2.out, <- HD2.out, HDD.out]
        have HFi := hdn hfin;clear hfin;go_wp2
        go_end0
        rw [HFi.out];exact ⟨_, ⟨_, rfl⟩, HSt.out, HB.out⟩
theorem close_f {B : Nat} (hB : B ≤ 1000000) (base rp : Nat) : ∀ (f : Nat) (F : Frm) (w : World) (own : Nat -> Nat) (P : List Nat) (r : Rd) (b : Nat), St F w base rp own P r -> base ≤ w.heap.size -> Ok B r -> b < r.nds.length -> (r.nd b).opn = true -> r.nds.length ≤ b + f ->
   Calls Tryz.prog 21 #[.pointer (some ⟨rp, 0, none⟩), .pointer (some ⟨ptN P b, 0, none⟩)] w (Turns F w base rp P (Rd.closeF f r b))
 | 0, _, _, _, _, _, _, _, _, _, hb, _, hf => absurd hf (by omega)
 | f + 1, _, _, _, _, _, b, h1, h2, h3, h4, h5, h6 => close_step hB f base rp (close_f hB base rp f) b h1 h2 h3 h4 h5 h6
theorem closeC {B : Nat} (hB : B ≤ 1000000) (base rp : Nat) : CloseC (Ok B) base rp := fun F w own P r b h1 h2 h3 h4 h5 => close_f hB base rp r.nds.length F w own P r b h1 h2 h3 h4 h5 (by omega)
