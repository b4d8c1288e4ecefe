/- A line is read. -/
import Derived.Test.YtebfjlfkofibpaaGreatDoorBkKe
import Derived.Deep.LoopGhost
import Derived.LaidEqlPtr
namespace Go.Proofs.YtebfjlfkofibpaaGreatDoor
set_option maxHeartbeats 8000000
set_option maxRecDepth 100000
open Go.RowKit
variable {F : Frm}
theorem St.at_set {w : World} {base rp : Nat} {own : Nat -> Nat} {P : List Nat} {r : Rd} (h : St F w base rp own P r) (k : Nat) (hk : k < r.nds.length) : St F (w.setCell ⟨rp, 4, none⟩ (.pointer (some ⟨ptN P k, 0, none⟩))) base rp own P { r with cur := some k } := by
 obtain ⟨rv, hrd⟩ := h.rd;have h1 := Joins.block_setCell (i := 4) hrd.row (.pointer (some ⟨ptN P k, 0, none⟩));exact h.reader (r' := { r with cur := some k }) (grown_put (grown_refl _ _) 4 _) hrd (by rw [h1]; rfl) rfl rfl ⟨h.wf.kids, h.wf.par, h.wf.nk, fun i e => by cases e; exact hk, h.wf.tip, h.wf.doc⟩
theorem St.tip_set {w : World} {base rp : Nat} {own : Nat -> Nat} {P : List Nat} {r : Rd} (h : St F w base rp own P r) (k : Nat) (hk : k < r.nds.length) : St F (w.setCell ⟨rp, 5, none⟩ (.pointer (some ⟨ptN P k, 0, none⟩))) base rp own P { r with tip := some k } := by
 obtain ⟨rv, hrd⟩ := h.rd;have h1 := Joins.block_setCell (i := 5) hrd.row (.pointer (some ⟨ptN P k, 0, none⟩));exact h.reader (r' := { r with tip := some k }) (grown_put (grown_refl _ _) 5 _) hrd (by rw [h1]; rfl) rfl rfl ⟨h.wf.kids, h.wf.par, h.wf.nk, h.wf.cur, fun i e => by cases e; exact hk, h.wf.doc⟩
theorem St.lzy_set {w : World} {base rp : Nat} {own : Nat -> Nat} {P : List Nat} {r : Rd} (h : St F w base rp own P r) (b : Bool) : St F (w.setCell ⟨rp, 6, none⟩ (.bool b)) base rp own P { r with lzy := b } := by
 obtain ⟨rv, hrd⟩ := h.rd;have h1 := Joins.block_setCell (i := 6) hrd.row (.bool b);exact h.reader (r' := { r with lzy := b }) (grown_put (grown_refl _ _) 6 _) hrd (by rw [h1]; rfl) rfl rfl ⟨h.wf.kids, h.wf.par, h.wf.nk, h.wf.cur, h.wf.tip, h.wf.doc⟩
theorem ptN_inj {w : World} {base rp : Nat} {own : Nat -> Nat} {P : List Nat} {r : Rd} (h : St F w base rp own P r) {i j : Nat} (hi : i < r.nds.length) (hj : j < r.nds.length) (e : ptN P i = ptN P j) : i = j := by
 obtain ⟨_, _, _, h1⟩ := h.nodes i _ (Rd.at_lt hi);obtain ⟨_, _, _, h2⟩ := h.nodes j _ (Rd.at_lt hj);have a := h1.own_p;have b := h2.own_p;rw [e] at a;omega
theorem blk_size : (Tryz.prog.info? 50).map (fun i => i.size) = some 22 := by kernel_rfl
theorem blk_under : Tryz.prog.underlying 44 = some (.pointer 50) := by kernel_rfl
theorem neq_b {w : World} {base rp : Nat} {own : Nat -> Nat} {P : List Nat} {r : Rd} (h : St F w base rp own P r) {i j : Nat} (hi : i < r.nds.length) (hj : j < r.nds.length) {T : Bool} (hT : decide (some i ≠ some j) = T) :
  (binOp .neq 44 (.pointer (some ⟨ptN P i, 0, none⟩)) (.pointer (some ⟨ptN P j, 0, none⟩))).run Tryz.prog w = .ok (.bool T) w := by
 have hs := blk_size
 cases hinf : Tryz.prog.info? 50 with
 | none => rw [hinf] at hs; cases hs
 | some inf =>
  rw [hinf] at hs;have hz : inf.size ≠ 0 := by
   have : inf.size = 22 := by simpa using hs
   omega
  have he : ∀ b : Bool, (binOp .eql 44 (.pointer (some ⟨ptN P i, 0, none⟩)) (.pointer (some ⟨ptN P j, 0, none⟩))).run Tryz.prog w = .ok (.bool b) w -> (binOp .neq 44 (.pointer (some ⟨ptN P i, 0, none⟩)) (.pointer (some ⟨ptN P j, 0, none⟩))).run Tryz.prog w = .ok (.bool (!b)) w := fun b h => by
   simp only [binOp] at h ⊢;obtain ⟨X, hX⟩ : ∃ X, Sem.run Tryz.prog (Op.equal 44 (.pointer (some ⟨ptN P i, 0, none⟩)) (.pointer (some ⟨ptN P j, 0, none⟩))) w = X := ⟨_, rfl⟩;simp [hX] at h ⊢
   cases X with
   | ok v w' => simp [Result.andThen] at h ⊢; exact h
   | _ => simp [Result.andThen] at h
  by_cases e : i = j
  ·subst e;rw [he true (run_eql_ptr_same w _ blk_under hinf), <- hT];simp
  ·obtain ⟨_, _, _, h1⟩ := h.nodes i _ (Rd.at_lt hi);obtain ⟨_, _, _, h2⟩ := h.nodes j _ (Rd.at_lt hj);have hne : ptN P i ≠ ptN P j := fun k => e (ptN_inj h hi hj k);rw [he false (run_eql_ptr_other w blk_under hinf hz (fun k => hne (by injection k)) h1.row h2.row), <- hT];simp [e]
def WlW (F : Frm) (B base rp : Nat) (P : List Nat) (w : World) (n pot nb : Nat) (X : Rd × Bool) (g : Nat) (v4 : Value) (wr : World) : Prop := ∃ (own : Nat -> Nat) (r : Rd) (a f : Nat),
 v4 = ptrV P (r.inner a) ∧ r.cur = some a ∧ St F wr base rp own P r ∧ Below base w wr ∧ Rdy B r ∧ r.pot ≤ pot ∧ r.nb ≤ nb ∧ r.nds.length = n ∧ g = n - a ∧ n ≤ a + f ∧ Rd.walkF f r = X
def WlX (F : Frm) (B base rp : Nat) (P : List Nat) (w : World) (n pot nb : Nat) (X : Rd × Bool) (wr : World) : Prop := ∃ own, St F wr base rp own P X.1 ∧ X.2 = false ∧ Below base w wr ∧ Rdy B X.1 ∧ X.1.pot ≤ pot ∧ X.1.nb ≤ nb ∧ X.1.nds.length = n
def LkW (F : Frm) (B base rp : Nat) (w : World) (pot : Nat) (E : Rd) (g : Nat) (wr : World) : Prop := ∃ (own : Nat -> Nat) (Q : List Nat) (r : Rd) (f : Nat),
 St F wr base rp own Q r ∧ Below base w wr ∧ Rdy B r ∧ TipK r ∧ r.pot ≤ pot ∧ r.nds.length + 2 * r.nb + 3 ≤ 100000 ∧ g = r.nb ∧ r.nb < f ∧ Rd.lookF f r = E
def LkX (F : Frm) (B base rp : Nat) (w : World) (pot : Nat) (E : Rd) (wr : World) : Prop := ∃ (own : Nat -> Nat) (Q : List Nat) (r : Rd),
 St F wr base rp own Q r ∧ Below base w wr ∧ Rdy B r ∧ TipK r ∧ r.pot ≤ pot ∧ r.nds.length + 1 ≤ 100000 ∧ r.left = E
theorem read_b {B C : Nat} (hC : C ≤ 1000000) {w : World} {base rp : Nat} {own : Nat -> Nat} {P : List Nat} {r : Rd} (h : St F w base rp own P r) (hb : base ≤ w.heap.size) (hG : GlobX base w) (hr : Okd B r) (s : ByteArray) (hfew : r.nds.length + 2 * s.size + 3 ≤ 100000) (hs : 4 * s.size ≤ 1000000) (hBC : B + 4 * s.size + 1 ≤ C) :
  Calls Tryz.prog 20 #[.pointer (some ⟨rp, 0, none⟩), .string s] w fun e w' => (∃ v, e = .returned v) ∧ Below base w w' ∧ ∃ own' Q, St F w' base rp own' Q (r.read s) := by
 have hB : B ≤ 1000000 := by omega
 obtain ⟨rv, hrd⟩ := h.rd;have hrow := hrd.row;have hge := hrd.ge;unfold rdCells at hrow;have hrow2 := hrow;rw [show ptrV P (some 0) = Value.pointer (some ⟨ptN P 0, 0, none⟩) from rfl] at hrow;have q := fun i => cell_of_row w rp i _ _ _ hrow;have hrl := (gSq.1 hrow).1;have f0 : ∀ i, w.frozen? ⟨rp, i, none⟩ = false := fun i => by simp [World.frozen?, hrow]
 have h0l := opn_len hr.ok;obtain ⟨W0, hW0⟩ : ∃ W0, ((w.setCell ⟨rp, 0, none⟩ (.string s)).setCell ⟨rp, 1, none⟩ (.int .i64 0)).setCell ⟨rp, 4, none⟩ (.pointer (some ⟨ptN P 0, 0, none⟩)) = W0 := ⟨_, rfl⟩;have hrow0 : W0.heap[rp]? = some (.cells (rdCells P { r with rest := s, col := 0, cur := some 0 } rv) 55 (0, 0)) := by
  rw [<- hW0];have h1 := Joins.block_setCell (i := 0) hrow2 (.string s);have h2 := Joins.block_setCell (i := 1) h1 (.int .i64 0);have h3 := Joins.block_setCell (i := 4) h2 (.pointer (some ⟨ptN P 0, 0, none⟩));rw [h3];rfl
 have hg0 : w.grownBy W0 (some rp) := by
  rw [<- hW0];exact grown_put (grown_put (grown_put (grown_refl _ _) 0 _) 1 _) 4 _
 have hwf0 : Wf { r with rest := s, col := 0, cur := some 0 } := ⟨h.wf.kids, h.wf.par, h.wf.nk, fun i e => by cases e; exact h0l, h.wf.tip, h.wf.doc⟩;have hst0 := h.reader (r' := { r with rest := s, col := 0, cur := some 0 }) hg0 hrd hrow0 rfl rfl hwf0;have hb0 : Below base w W0 := below_grown3 hb hge hg0;obtain ⟨q0, hq0⟩ : ∃ q0, ({ r with rest := s, col := 0, cur := some 0 } : Rd) = q0 := ⟨_, rfl⟩;have hq0R : Rdy B q0 := by rw [<- hq0]; exact ⟨hr.ok.same rfl (Nat.le_refl _) hr.ok.nn, hr.d0, 0, rfl, hr.d0⟩
 have hsl : s.data.toList.length = s.size := lTq;have hq0p : q0.pot ≤ 4 * s.size := by
  rw [<- hq0];have := (len_wz s.data.toList).2;show 0 + wz s.data.toList ≤ _;omega
 have hq0n : q0.nb ≤ s.size := by
  rw [<- hq0];have := nbl_le s.data.toList;show nbl s.data.toList ≤ _;omega
 have hq0l : q0.nds.length = r.nds.length := by rw [<- hq0]
 have hq0c : q0.cur = some 0 := by rw [<- hq0]
 have hrow0' := hrow0;rw [hq0] at hrow0 hst0;unfold rdCells at hrow0;rw [hq0c, show ptrV P (some 0) = Value.pointer (some ⟨ptN P 0, 0, none⟩) from rfl] at hrow0;have qr0 := fun i => cell_of_row W0 rp i _ _ _ hrow0;obtain ⟨X, hX⟩ : ∃ X, Rd.walkF q0.nds.length q0 = X := ⟨_, rfl⟩;have hread : (X.2 = true -> r.read s = X.1) ∧ (X.2 = false -> ∀ tp T, X.1.deepest (X.1.cur.getD 0) = tp -> decide (some tp ≠ X.1.cur) = T -> r.read s = Rd.lookF (X.1.rest.size + 1) { ({ X.1 with tip := some tp } : Rd) with lzy := T }) := by
  unfold Rd.read;rw [hq0, <- hq0l, hX];refine ⟨fun e => by simp only; rw [if_pos e], fun e tp T h1 h2 => ?_⟩;subst h1;subst h2;simp only;rw [if_neg (by rw [e]; exact Bool.false_ne_true)]
 have hin0 := inner_any hst0 0 (by rw [hq0l]; exact h0l) (by omega);have H0 := hdn (show WlW F B base rp P w r.nds.length (4 * s.size) s.size X r.nds.length (ptrV P (q0.inner 0)) W0 from ⟨own, q0, 0, q0.nds.length, rfl, hq0c, hst0, hb0, hq0R, hq0p, hq0n, hq0l, by omega, by omega, hX⟩);obtain ⟨Y, hY⟩ : ∃ Y, ptrV P (q0.inner 0) = Y := ⟨_, rfl⟩;rw [hY] at hin0 H0;have HIn := hdn hin0;have HRe := hdn hread;have HS := hdn h;clear h hrd hst0 hrow2 hrow0' hg0 hwf0 hread hin0 hY hX hq0R hq0p hq0n hb0 hrow hq0 hr hrow0
 go_enter Tryz.func20, Tryz.ntmps20
 go_step3
 go_wp2_with fail
 (try rw [hW0])
 clear q f0 hW0
 go_step3
 go_wp2_with fail;refine cMq HIn.out ?_;rintro e w1 ⟨rfl, rfl⟩;clear HIn qr0
 go_upto_block 0 with fail
 go_cut [] (fun wx => WlX F B base rp P w r.nds.length (4 * s.size) s.size X wx)
 case first =>
  go_wp2_with fail
  go_loopg [4] r.nds.length (fun g v4 wr => WlW F B base rp P w r.nds.length (4 * s.size) s.size X g v4 wr)
  case atStart => exact H0.out
  case round =>
   obtain ⟨own1, q1, a, f, hY1, hc1, hst1, hb1, hq1, hp1, hn1, hl1, hg, hf, hX1⟩ := hrel;clear H0;obtain ⟨a', ha', hao⟩ := hq1.cur;obtain rfl : a' = a := by rw [hc1] at ha'; exact (Option.some.inj ha').symm
   have hal := opn_lt hao;have HX1 := hdn hX1; have HS1 := hdn hst1; have HB1 := hdn hb1; have HQ1 := hdn hq1;have Hc1 := hdn hc1;clear hX1 hst1 hb1 hq1 hc1 ha'
   cases hi : q1.inner a' with
   | none =>
    rw [hi] at hY1;subst hY1;rw [show ptrV P none = Value.pointer none from rfl];have hx : X = (q1, false) := by
     rw [<- HX1.out]
     cases f with
     | zero => rfl
     | succ f => unfold Rd.walkF; rw [Hc1.out]; simp only; rw [hi]
    have HXe := hdn hx;clear hx hi;go_wp2
    go_meet
    rw [HXe.out];exact ⟨own1, HS1.out, rfl, HB1.out, HQ1.out, hp1, hn1, hl1⟩
   | some k =>
    rw [hi] at hY1;subst hY1;rw [show ptrV P (some k) = Value.pointer (some ⟨ptN P k, 0, none⟩) from rfl];obtain ⟨i1, i2⟩ := inner_facts hi;have ik := HQ1.out.ok.kid a' k i1;obtain ⟨f, rfl⟩ : ∃ f', f = f' + 1 := ⟨f - 1, by omega⟩;have hG1 := goes_b hB HS1.out (Nat.le_trans hb HB1.out.size) HQ1.out.ok (by omega) k ik.2.1 i2;have hgk := goes_ok hB HQ1.out.okd (k := k) ik.2.1 i2 (by omega);have hx := HX1.out;unfold Rd.walkF at hx;rw [Hc1.out] at hx;simp only at hx;rw [hi] at hx;simp only at hx;obtain ⟨Z, hZ⟩ : ∃ Z, q1.goes k = Z := ⟨_, rfl⟩;rw [hZ] at hG1 hgk hx;obtain ⟨z, on, dn⟩ := Z
    unfold GoesR at hG1;simp only at hG1 hx;have HGo := hdn hG1; have HGk := hdn hgk;clear hG1 hgk hZ hi i1
    cases dn with
    | true =>
     rw [if_pos rfl] at hx;have HXe := hdn hx;clear hx;go_wp2_with fail;refine cMq HGo.out ?_;rintro e w2 ⟨rfl, b2, own2, s2⟩;have HB2 := hdn (HB1.out.trans b2); have HS2 := hdn s2;clear b2 s2;go_wp2;rw [Exit.noGoto_ret];refine bodyPost_ret (results_none rfl _ _ _) rfl ?_;rw [HRe.out.1 (by rw [<- HXe.out]), <- HXe.out];exact ⟨⟨_, rfl⟩, HB2.out, own2, P, HS2.out⟩
    | false =>
     rw [if_neg Bool.false_ne_true] at hx;obtain ⟨g1, g2, g3, g4⟩ := HGk.out.go rfl;have hzl := HGk.out.len;simp only at g1 g2 g3 g4 hzl
     cases on with
     | false =>
      rw [if_neg Bool.false_ne_true] at hx;have HXe := hdn hx;have hzR : Rdy B z := ⟨HGk.out.okd.ok, HGk.out.okd.d0, a', g2.trans Hc1.out, by rw [g1]; exact hao⟩;have HZR := hdn hzR;clear hx g1 hzR;go_wp2_with fail;refine cMq HGo.out ?_;rintro e w2 ⟨rfl, b2, own2, s2⟩;have HB2 := hdn (HB1.out.trans b2); have HS2 := hdn s2;clear b2 s2;go_wp2
      go_meet
      rw [<- HXe.out];exact ⟨own2, HS2.out, rfl, HB2.out, HZR.out, by show z.pot ≤ _; omega, by show z.nb ≤ _; omega, by show z.nds.length = _; omega⟩
     | true =>
      rw [if_pos rfl] at hx;obtain ⟨z2, hz2⟩ : ∃ z2, ({ z with cur := some k } : Rd) = z2 := ⟨_, rfl⟩;rw [hz2] at hx;have hzR : Rdy B z2 := by rw [<- hz2]; exact ⟨HGk.out.okd.ok.same rfl (Nat.le_refl _) HGk.out.okd.ok.nn, HGk.out.okd.d0, k, rfl, by show (z.nd k).opn = true; rw [g1]; exact i2⟩
      have hz2l : z2.nds.length = z.nds.length := by rw [<- hz2]
      have hz2p : z2.pot = z.pot := by rw [<- hz2]; rfl
      have hz2n : z2.nb = z.nb := by rw [<- hz2]; rfl
      have hz2c : z2.cur = some k := by rw [<- hz2]
      have hkz : k < z.nds.length := by rw [hzl]; exact ik.2.1
      have HXe := hdn hx; have HZR := hdn hzR; have HZ2 := hdn hz2;have HIk := hdn fun (w5 : World) (own5 : Nat -> Nat) (h5 : St F w5 base rp own5 P z2) => inner_any h5 k (by rw [hz2l]; exact hkz) (by omega);obtain ⟨Y3, hY3⟩ : ∃ Y3, ptrV P (z2.inner k) = Y3 := ⟨_, rfl⟩;rw [hY3] at HIk;have HY3 := hdn hY3;clear hx g1 hzR hz2 hY3;go_wp2_with fail;refine cMq HGo.out ?_;rintro e w2 ⟨rfl, b2, own2, s2⟩;obtain ⟨rv2, hrd2⟩ := s2.rd;have hrow2 := hrd2.row;have hge2 := hrd2.ge;have f2 : ∀ i, w2.frozen? ⟨rp, i, none⟩ = false := fun i => by simp [World.frozen?, hrow2]
      unfold rdCells at hrow2;have q2 := fun i => cell_of_row w2 rp i _ _ _ hrow2;have h5 := s2.at_set k hkz;rw [HZ2.out] at h5;have b5 := (HB1.out.trans b2).setCell (p := ⟨rp, 4, none⟩) hge2 (.pointer (some ⟨ptN P k, 0, none⟩));have HI5 := hdn (HIk.out _ _ h5);have H5 := hdn h5; have HB5 := hdn b5;clear b2 s2 hrd2 hrow2 h5 b5;go_wp2_with fail;refine cMq HI5.out ?_;rintro e w6 ⟨rfl, rfl⟩;clear q2;go_wp2
      go_roundg (r.nds.length - k)
      case measure => have := HQ1.out; omega
      case rel => exact ⟨own2, z2, k, f, HY3.out.symm, hz2c, H5.out, HB5.out, HZR.out, by omega, by omega, by omega, rfl, by omega, HXe.out⟩
 case rest =>
  obtain ⟨own1, hst1, hx2, hb1, hq1, hp1, hn1, hl1⟩ := hcut;obtain ⟨a, hc1, hao⟩ := hq1.cur;have hal := opn_lt hao;have hre := HRe.out.2 hx2;obtain ⟨q1, hq⟩ : ∃ q1, X.1 = q1 := ⟨_, rfl⟩;rw [hq] at hst1 hq1 hp1 hn1 hl1 hc1 hao hal hre;have hdp := deepest_any hst1 a hal (by omega);have hdo : (q1.nd (q1.deepest a)).opn = true := deep_ok q1.nds.length q1 a hao;obtain ⟨tp, htp⟩ : ∃ tp, q1.deepest a = tp := ⟨_, rfl⟩;rw [htp] at hdp hdo;have htl := opn_lt hdo;obtain ⟨rv1, hrd1⟩ := hst1.rd;have hrow1 := hrd1.row;have hge1 := hrd1.ge
  have f1 : ∀ i, wc.frozen? ⟨rp, i, none⟩ = false := fun i => by simp [World.frozen?, hrow1]
  have hrow1' := hrow1;unfold rdCells at hrow1;rw [hc1, show ptrV P (some a) = Value.pointer (some ⟨ptN P a, 0, none⟩) from rfl] at hrow1;have q1c := fun i => cell_of_row wc rp i _ _ _ hrow1;have HDp := hdn hdp;obtain ⟨T, hT⟩ : ∃ T, decide (some tp ≠ some a) = T := ⟨_, rfl⟩;have hst5 := hst1.tip_set tp htl;have hcmp := neq_b (hst5.below ((Below.refl _ _).drew)) htl hal hT;have hs2 := (hst1.tip_set tp htl).lzy_set T;obtain ⟨q2, hq2⟩ : ∃ q2, ({ ({ q1 with tip := some tp } : Rd) with lzy := T } : Rd) = q2 := ⟨_, rfl⟩;rw [hq2] at hs2
  have hre2 : r.read s = Rd.lookF (q1.rest.size + 1) q2 := by rw [hre tp T (by rw [hc1]; exact htp) (by rw [hc1]; exact hT), <- hq2]
  have hb2 := (hb1.setCell (p := ⟨rp, 5, none⟩) hge1 (.pointer (some ⟨ptN P tp, 0, none⟩))).setCell (p := ⟨rp, 6, none⟩) hge1 (.bool T);have HS2 := hdn hs2; have HB2 := hdn hb2;clear hst1 hdp hx2 hq hrd1 hb1 hs2 hb2 hrow1' hre HRe H0;go_wp2_with fail;refine cMq HDp.out ?_;rintro e w6 ⟨rfl, rfl⟩;rw [show ptrV P (some tp) = Value.pointer (some ⟨ptN P tp, 0, none⟩) from rfl];go_wp2_with fail
  go_region
  have hs9 := HS2.out.below ((Below.refl _ _).drew);have hb9 := HB2.out.drew;obtain ⟨W9, hW9⟩ : ∃ W9, ((w6.setCell ⟨rp, 5, none⟩ (.pointer (some ⟨ptN P tp, 0, none⟩))).setCell ⟨rp, 6, none⟩ (.bool T)).drew = W9 := ⟨_, rfl⟩;rw [hW9] at hs9 hb9 ⊢;have hR2 : Rdy B q2 := by rw [<- hq2]; exact ⟨hq1.ok.same rfl (Nat.le_refl _) hq1.ok.nn, hq1.d0, a, hc1, hao⟩
  have h2l : q2.nds.length = q1.nds.length := by rw [<- hq2]
  have h2p : q2.pot = q1.pot := by rw [<- hq2]; rfl
  have h2n : q2.nb = q1.nb := by rw [<- hq2]; rfl
  have h2r : q2.rest = q1.rest := by rw [<- hq2]
  have ht2 : TipK q2 := by
   rw [<- hq2];exact ⟨tp, rfl, htl, fun _ => hdo⟩
  have hnb : q2.nb ≤ q2.rest.size := by
   have h1 := nbl_le q2.rest.data.toList;have h2 : q2.rest.data.toList.length = q2.rest.size := lTq;unfold Rd.nb;omega
  have H9 := hdn (show LkW F B base rp w (4 * s.size) (r.read s) q2.nb W9 from ⟨own1, P, q2, q1.rest.size + 1, hs9, hb9, hR2, ht2, by omega, by omega, rfl, by rw [h2r] at hnb; omega, hre2.symm⟩);clear hs9 hb9 hW9 hR2 ht2 hre2 hq2 HS2 HB2 f1 q1c hrow1 hdo hcmp hst5 hT hq1 h2r hnb;obtain ⟨E, hE⟩ : ∃ E, r.read s = E := ⟨_, rfl⟩;rw [hE] at H9;go_wp2_with fail
  go_step3
  go_upto_block 3 with fail
  go_cut [] (fun wx => LkX F B base rp w (4 * s.size) E wx)
  case first =>
   go_wp2_with fail
   go_loopg [] q2.nb (fun g wr => LkW F B base rp w (4 * s.size) E g wr)
   case atStart => exact H9.out
   case round =>
    obtain ⟨own3, Q, r3, f, hs3, hb3, hr3, ht3, hp3, hf3, hg, hnf, hE3⟩ := hrel;clear H9;obtain ⟨a3, hc3, ha3⟩ := hr3.cur;have hal3 := opn_lt ha3;obtain ⟨f, rfl⟩ : ∃ f', f = f' + 1 := ⟨f - 1, by omega⟩;obtain ⟨rv3, hrd3⟩ := hs3.rd;have hrow3 := hrd3.row;unfold rdCells at hrow3;rw [hc3, show ptrV Q (some a3) = Value.pointer (some ⟨ptN Q a3, 0, none⟩) from rfl] at hrow3;have q3 := fun i => cell_of_row wr rp i _ _ _ hrow3;obtain ⟨D, hD⟩ : ∃ D, r3.nd a3 = D := ⟨_, rfl⟩;have hDn : r3.nds[a3]? = some D := by rw [<- hD]; exact Rd.at_lt hal3
    obtain ⟨kv, lv, av, hn⟩ := hs3.nodes a3 _ hDn;have hrowa := hn.row;unfold ndCells at hrowa;have qa := fun i => cell_of_row wr (ptN Q a3) i _ _ _ hrowa;obtain ⟨K, hK⟩ : ∃ K, D.kind = K := ⟨_, rfl⟩;rw [hK] at qa;have hcK : r3.curK = K := by unfold Rd.curK; rw [hc3]; simp only; rw [hD, hK]
    unfold Rd.lookF at hE3;rw [hcK] at hE3;have HS3 := hdn hs3; have HB3 := hdn hb3; have HR3 := hdn hr3; have HT3 := hdn ht3;clear hs3 hb3 hr3 ht3 hrow3 hrowa hrd3 hn hDn hD hcK
    by_cases h7 : K = 7
    ·subst h7;rw [if_pos (.inl rfl)] at hE3;have HE3 := hdn hE3;clear hE3;go_wp2
     go_meet
     exact ⟨own3, Q, r3, HS3.out, HB3.out, HR3.out, HT3.out, hp3, by omega, HE3.out⟩
    ·have i7 : ((K : Int) != 7) = true := by rw [bne_iff_ne]; omega
     by_cases h8 : K = 8
     ·subst h8;rw [if_pos (.inr rfl)] at hE3;have HE3 := hdn hE3;clear hE3;go_wp2
      go_meet
      exact ⟨own3, Q, r3, HS3.out, HB3.out, HR3.out, HT3.out, hp3, by omega, HE3.out⟩
     ·have i8 : ((K : Int) != 8) = true := by rw [bne_iff_ne]; omega
      rw [if_neg (fun h => by omega)] at hE3;obtain ⟨tp3, htp3, htl3, hto3⟩ := HT3.out;have hlk := look_b hC HS3.out (Nat.le_trans hb HB3.out.size) (hG.next HB3.out) HR3.out (by omega) (by omega) (by omega) tp3 htp3
      have hlo := look_ok hC HR3.out (by omega) (by omega) (by omega) HT3.out;obtain ⟨x, hx⟩ : ∃ x, r3.look = x := ⟨_, rfl⟩;rw [hx] at hlk hlo hE3;obtain ⟨x1, x2⟩ := x;have hres := hlo.res;have hll := hlo.len;have hgo := hlo.go;have hag := hlo.again;simp only at hlk hE3 hres hll hgo hag;have HLk := hdn hlk; have HGo := hdn hgo; have HAg := hdn hag;clear hlk hlo hx hgo hag h7 h8;rcases hres with rfl | rfl | rfl
      ·rw [if_neg (by decide), if_pos rfl] at hE3;have HE3 := hdn hE3;obtain ⟨g1, g2, g3⟩ := HGo.out (by decide);have G1 := hdn g1; have G3 := hdn g3;clear hE3 g1 g3;go_wp2_with fail;refine cMq HLk.out ?_;rintro e w4 ⟨rfl, b4, own4, Q4, s4⟩;have HB4 := hdn (HB3.out.trans b4); have HS4 := hdn s4;clear b4 s4 q3 qa;go_wp2
       go_meet
       exact ⟨own4, Q4, x1, HS4.out, HB4.out, G1.out, G3.out, by omega, by omega, HE3.out⟩
      ·rw [if_neg (by decide), if_neg (by decide)] at hE3;have HE3 := hdn hE3;obtain ⟨g1, g2, g3⟩ := HGo.out (by decide);have hag := HAg.out rfl;have G1 := hdn g1; have G3 := hdn g3;clear hE3 g1 g3;go_wp2_with fail;refine cMq HLk.out ?_;rintro e w4 ⟨rfl, b4, own4, Q4, s4⟩;have HB4 := hdn (HB3.out.trans b4); have HS4 := hdn s4;clear b4 s4 q3 qa;go_wp2
       go_roundg x1.nb
       case measure => omega
       case rel => exact ⟨own4, Q4, x1, f, HS4.out, HB4.out, G1.out, G3.out, by omega, by omega, rfl, by omega, HE3.out⟩
      ·rw [if_pos rfl] at hE3;have HE3 := hdn hE3;clear hE3;go_wp2_with fail;refine cMq HLk.out ?_;rintro e w4 ⟨rfl, b4, own4, Q4, s4⟩;have HB4 := hdn (HB3.out.trans b4); have HS4 := hdn s4;clear b4 s4 q3 qa;go_wp2;rw [Exit.noGoto_ret];refine bodyPost_ret (results_none rfl _ _ _) rfl ?_;rw [hE, <- HE3.out];exact ⟨⟨_, rfl⟩, HB4.out, own4, Q4, HS4.out⟩
  case rest =>
   obtain ⟨own3, Q, r3, hs3, hb3, hr3, ht3, hp3, hf3, hE3⟩ := hcut;obtain ⟨tp3, htp3, _, _⟩ := ht3;have HLe := hdn (left_b hC hs3 (Nat.le_trans hb hb3.size) (hG.next hb3) hr3 hf3 (by omega) (by omega) tp3 htp3)
   have HB3 := hdn hb3;clear hs3 hb3 hr3 H9;go_wp2_with fail;refine cMq HLe.out ?_;rintro e w4 ⟨⟨v4, rfl⟩, b4, own4, Q4, s4⟩;have HB4 := hdn (HB3.out.trans b4); have HS4 := hdn s4;clear b4 s4;go_wp2
   (try rw [Exit.noGoto_normal])
   go_end0
   rw [hE, <- hE3];exact ⟨⟨_, rfl⟩, HB4.out, own4, Q4, HS4.out⟩
