/- leaf.Under. -/
import Derived.Test.YtebfjlfkofibpaaGreatDoorAtLeaf
import Derived.Lib.SlBytesConst
import Derived.Lib.SmallJoins
import Derived.Laws.ResultCell
import Derived.Laws.Rows
namespace Go.Proofs.YtebfjlfkofibpaaGreatDoor
set_option maxHeartbeats 4000000
set_option maxRecDepth 100000
section
open Go.RowKit
def underB (l : List UInt8) (c : UInt8) : Bool := decide (0 < frontN l c) && (blankT (l.drop (frontN l c))).isEmpty
def underN (l : List UInt8) : Nat := if underB l 61 = true then 1 else if underB l 45 = true then 2 else 0
def signOf (k : Nat) : UInt8 := if k = 0 then 61 else 45
def UnderW (w : World) (l : List UInt8) (i : Value) (wr : World) : Prop := ∃ k : Nat, i = .int .i64 k ∧ k ≤ 2 ∧ (0 < k -> underB l 61 = false) ∧ (1 < k -> underB l 45 = false) ∧ (∀ j : Nat, j < 2 -> wr.cell? ⟨w.heap.size, j, none⟩ = some (.int .u8 ((signOf j).toNat : Int))) ∧ Below w.heap.size w wr
theorem ext_at (s : ByteArray) (n : Nat) (hn : n ≤ s.size) : (s.extract n s.size).data.toList = s.data.toList.drop n ∧ (s.extract n s.size).size ≤ s.size := by
 have hsl : s.data.toList.length = s.size := lTq;have hXl : (s.extract n s.size).data.toList = s.data.toList.drop n := by
  rw [Lib.extract_data, <- hsl];exact List.take_of_length_le (by rw [List.length_drop]; omega)
 refine ⟨hXl, ?_⟩;have := congrArg List.length hXl;rw [lTq, List.length_drop] at this;have : (s.extract n s.size).size = _ := this;omega
theorem under_any (s : ByteArray) (w : World) (hs : s.size ≤ 1099511627) : Calls Tryz.prog 92 #[.string s] w (RIb w (underN s.data.toList : Nat)) := by
 have HF := hdn fun c (hc : c.toNat < 128) w' => front_any s c w' hs hc;have HLE := hdn fun c => show frontN s.data.toList c ≤ s.size by have := frontN_le s.data.toList c; rw [show s.data.toList.length = s.size from lTq] at this; exact this
 have HBK := hdn fun n (hn : n ≤ s.size) w' => show Calls Tryz.prog 76 #[.string (s.extract n s.size)] w' (RBw w' (blankT (s.data.toList.drop n)).isEmpty) by
  rw [<- (ext_at s n hn).1];exact colsBlank_any _ w' (by have := (ext_at s n hn).2; omega)
 have kc := fun (w : World) (C : Array Value) (n c : Nat) => Lib.run_convert_bytes_const (P := Tryz.prog) w 22 5 C n c Tryz.underlying22 Tryz.underlying5;go_enter Tryz.func92, Tryz.ntmps92;go_wp2_with fail
 go_loopw [9] (fun v wr => UnderW w s.data.toList v wr) (fun v _ => 2 - (intOf v).toNat)
 case atStart =>
  refine ⟨0, rfl, by omega, by omega, by omega, ?_, (Below.refl _ w).alloc (Nat.le_refl _) _⟩;intro j hj;have h : (w.alloc (.cells #[.int .u8 61, .int .u8 45] 5 (2, 3))).heap[w.heap.size]? = some (.cells #[.int .u8 61, .int .u8 45] 5 (2, 3)) := heap_alloc_new w _;rw [cell_of_row _ _ j _ _ _ h];obtain rfl | rfl : j = 0 ∨ j = 1 := by omega
  ·rfl
  ·rfl
 case round =>
  obtain ⟨k, rfl, hk, hu1, hu2, hcs, hb⟩ := hrel;have HB := hdn hb;have HU1 := hdn hu1;have HU2 := hdn hu2;clear hb hu1 hu2
  by_cases hlt : k < 2
  ·have hki : (k : Int) < 2 := by omega
   have x1 := hcs k hlt;obtain ⟨c, hc⟩ : ∃ c, signOf k = c := ⟨_, rfl⟩;have hc128 : c.toNat < 128 := by rw [<- hc]; unfold signOf; split <;> decide
   rw [hc] at x1;have HCS := hdn hcs;have HF1 := hdn fun w' => HF.out c hc128 w';have hle := HLE.out c;obtain ⟨n, hn⟩ : ∃ n, frontN s.data.toList c = n := ⟨_, rfl⟩;rw [hn] at HF1 hle;have hki2 : (n : Int) ≤ (s.size : Int) := by omega
   have HN := hdn hn;have HC := hdn hc;clear hcs hn hc;go_wp2_with fail;refine cMq (HF1.out _) ?_;rintro e w1 ⟨rfl, rfl⟩
   by_cases h0 : 0 < n
   ·have z0 : (0 : Int) < (n : Int) := by omega
    have HBL := hdn fun w' => HBK.out n hle w'
    cases hbl : (blankT (s.data.toList.drop n)).isEmpty with
    | true =>
     rw [hbl] at HBL;have hyes : underB s.data.toList c = true := by unfold underB; rw [HN.out, hbl]; simpa using h0
     have hv : underN s.data.toList = k + 1 := by
      unfold underN;obtain rfl | rfl : k = 0 ∨ k = 1 := by omega
      ·rw [show (61 : UInt8) = c from HC.out, if_pos hyes]
      ·rw [if_neg (by rw [HU1.out (by omega)]; simp), show (45 : UInt8) = c from HC.out, if_pos hyes]
     have HV := hdn hv;clear hv hyes hbl;go_wp2_with fail;refine cMq (HBL.out _) ?_;rintro e w2 ⟨rfl, b2⟩;have b2 := HB.out.trans (b2.mono HB.out.size);go_wp2;go_ret;rw [HV.out];exact ⟨by rfl, b2⟩
    | false =>
     rw [hbl] at HBL;have hno : underB s.data.toList c = false := by unfold underB; rw [HN.out, hbl, Bool.and_false]
     have HNO := hdn hno;clear hno hbl;go_wp2_with fail;refine cMq (HBL.out _) ?_;rintro e w2 ⟨rfl, b2⟩;have HB2 := hdn b2;clear b2;go_wp2
     go_roundw
     case rel =>
      refine ⟨k + 1, by go_num, hlt, ?_, ?_, ?_, HB.out.trans (HB2.out.mono HB.out.size)⟩
      ·intro _
       by_cases hk0 : k = 0
       ·subst hk0; rw [<- HC.out] at HNO; exact HNO.out
       ·exact HU1.out (by omega)
      ·intro _;have hk1 : k = 1 := by omega
       subst hk1;rw [<- HC.out] at HNO;exact HNO.out
      ·intro j hj;have h1 := HCS.out j hj;exact (HB2.out.cell (World.block_lt_of_cell? wr _ h1)).trans h1
     case measure => simp [intOf]; omega
   ·have z0 : ¬ (0 : Int) < (n : Int) := by omega
    have hno : underB s.data.toList c = false := by unfold underB; rw [HN.out, show decide (0 < n) = false by simpa using h0, Bool.false_and]
    have HNO := hdn hno;clear hno;go_wp2
    go_roundw
    case rel =>
     refine ⟨k + 1, by go_num, hlt, ?_, ?_, HCS.out, HB.out⟩
     ·intro _
      by_cases hk0 : k = 0
      ·subst hk0; rw [<- HC.out] at HNO; exact HNO.out
      ·exact HU1.out (by omega)
     ·intro _;have hk1 : k = 1 := by omega
      subst hk1;rw [<- HC.out] at HNO;exact HNO.out
    case measure => simp [intOf]; omega
  ·obtain rfl : k = 2 := by omega
   have hv : underN s.data.toList = 0 := by
    unfold underN;rw [if_neg (by rw [HU1.out (by omega)]; simp), if_neg (by rw [HU2.out (by omega)]; simp)]
   have HV := hdn hv;clear hv hcs;go_wp2;go_ret;rw [HV.out];exact ⟨rfl, HB.out⟩
end
section
open Go.RowKit
def fenceB (l : List UInt8) (c : UInt8) : Bool := decide (3 ≤ frontN l c) && (c == 126 || decide (Lib.indexByte (l.drop (frontN l c)) c < 0))
def fenceOf (k : Nat) : UInt8 := if k = 0 then 96 else 126
def OpenW (W : World) (l : List UInt8) (i : Value) (wr : World) : Prop := ∃ k : Nat, i = .int .i64 k ∧ k ≤ 2 ∧ (0 < k -> fenceB l 96 = false) ∧ (1 < k -> fenceB l 126 = false) ∧ wr = W
theorem fence_end (w w2 : World) (a b c : Value) (hb : Below w.heap.size w w2) (h : w2.heap[w.heap.size]? = some (.cells #[.int .u8 0, .int .i64 0, .string ⟨#[]⟩] 48 (0, 0))) :
  (((w2.setCell ⟨w.heap.size, 0, none⟩ a).setCell ⟨w.heap.size, 1, none⟩ b).setCell ⟨w.heap.size, 2, none⟩ c).heap[w.heap.size]? = some (.cells #[a, b, c] 48 (0, 0)) ∧ Below w.heap.size w (((w2.setCell ⟨w.heap.size, 0, none⟩ a).setCell ⟨w.heap.size, 1, none⟩ b).setCell ⟨w.heap.size, 2, none⟩ c) := by
 have h1 := Joins.block_setCell h (i := 0) a;have h2 := Joins.block_setCell h1 (i := 1) b;have h3 := Joins.block_setCell h2 (i := 2) c;exact ⟨by simpa using h3, ((hb.setCell (Nat.le_refl _) _).setCell (Nat.le_refl _) _).setCell (Nat.le_refl _) _⟩
theorem lf_results_row_tmp {P : Program} {fn : Func} {p u : Tmp} {ty : TypeId} (h : fn.results = #[.cell p ty, .tmp u]) (tmps : Array Value) (w : World) (g : Nat) (t : TypeId) (cs : Array Value) (fr : Nat × Nat) (d : TypeDesc)
  (hp : tmps.getD p undef = .pointer (some ⟨g, 0, none⟩)) (hg : w.heap[g]? = some (.cells cs t fr))
  (hu : P.underlying ty = some d) (hd : (match d with | .struct _ | .array _ _ => true | _ => false) = true) (hi : (P.info? ty).map (·.size) = some cs.size) :
  (results fn tmps).run P w = .ok (.tuple #[.agg cs, tmps.getD u undef]) w := by
 rw [results_cell_tmp h, hp];simp [asAddr, run_loadVar_row w g t ty cs fr d hg hu hd hi, Result.andThen]
end
section
open Go.RowKit
def openV (l : List UInt8) : Option (UInt8 × Nat × List UInt8) :=
 if fenceB l 96 = true then some (96, frontN l 96, blankT (l.drop (frontN l 96)))
 else if fenceB l 126 = true then some (126, frontN l 126, blankT (l.drop (frontN l 126))) else none
theorem openV_at (l : List UInt8) (k : Nat) (hk : k < 2) (hu : 0 < k -> fenceB l 96 = false) (hf : fenceB l (fenceOf k) = true) : openV l = some (fenceOf k, frontN l (fenceOf k), blankT (l.drop (frontN l (fenceOf k)))) := by
 unfold openV;obtain rfl | rfl : k = 0 ∨ k = 1 := by omega
 ·rw [show fenceOf 0 = 96 from rfl] at hf ⊢;rw [if_pos hf]
 ·rw [show fenceOf 1 = 126 from rfl] at hf ⊢;rw [if_neg (by rw [hu (by omega)]; exact Bool.false_ne_true), if_pos hf]
def OpenX (w : World) (o : Option (UInt8 × Nat × List UInt8)) (e : Ending) (w' : World) : Prop := (match o with
 | some (c, n, t) => e = .returned (.tuple #[.agg #[.int .u8 (c.toNat : Int), .int .i64 (n : Int), .string ⟨t.toArray⟩], .bool true])
 | none => e = .returned (.tuple #[.agg #[.int .u8 0, .int .i64 0, .string ⟨#[]⟩], .bool false])) ∧ Below w.heap.size w w'
theorem openx_any (s : ByteArray) (w : World) (hs : s.size ≤ 1099511627) : Calls Tryz.prog 88 #[.string s] w (OpenX w (openV s.data.toList)) := by
 have HF := hdn fun c (hc : c.toNat < 128) w' => front_any s c w' hs hc;have HLE := hdn fun c => show frontN s.data.toList c ≤ s.size by have := frontN_le s.data.toList c; rw [show s.data.toList.length = s.size from lTq] at this; exact this
 have HTR := hdn fun n (hn : n ≤ s.size) w' => show Calls Tryz.prog 113 #[.string (s.extract n s.size)] w' (StrB w' (blankT (s.extract n s.size).data.toList)) from colsTrim_any (s.extract n s.size) w' (by have := (ext_at s n hn).2; omega);have HIB := hdn fun n (hn : n ≤ s.size) (c : UInt8) w' => show Calls Tryz.prog 131 #[.string (s.extract n s.size), .int .u8 (c.toNat : Int)] w' (fun e w'' => e = .returned (.int .i64 (Lib.indexByte (s.data.toList.drop n) c)) ∧ w' = w'') by
  rw [<- (ext_at s n hn).1];exact indexByte_any (s.extract n s.size) c w'
 have kc := fun (w : World) (C : Array Value) (n c g : Nat) (hg : g = w.heap.size) => Joins.run_convert_bytes_const_at (P := Tryz.prog) w 22 5 C n c g hg Tryz.underlying22 Tryz.underlying5;have kc1 := kc (w.alloc (.cells #[.int .u8 0, .int .i64 0, .string ⟨#[]⟩] 48)) #[.int .u8 96, .int .u8 126] 2 2 (w.heap.size + 1) (by simp);have ax : ∀ (n k : Nat), ((⟨n, 0, none⟩ : Addr).add k) = ⟨n, k, none⟩ := fun n k => by unfold Addr.add; split <;> simp_all
 go_enter Tryz.func88, Tryz.ntmps88;go_wp2_with fail;obtain ⟨W, hW⟩ : ∃ W, (w.alloc (.cells #[.int .u8 0, .int .i64 0, .string ⟨#[]⟩] 48)).alloc (.cells #[.int .u8 96, .int .u8 126] 5 (2, 3)) = W := ⟨_, rfl⟩;have hWB : Below w.heap.size w W := by rw [<- hW]; exact ((Below.refl _ w).alloc (Nat.le_refl _) _).alloc (by simp) _
 have hWF : W.heap[w.heap.size]? = some (.cells #[.int .u8 0, .int .i64 0, .string ⟨#[]⟩] 48 (0, 0)) := by
  rw [<- hW];show ((w.heap.push _).push _)[w.heap.size]? = _;rw [Array.getElem?_push, if_neg (by rw [Array.size_push]; omega), Array.getElem?_push, if_pos rfl]
 have hWS : W.heap[w.heap.size + 1]? = some (.cells #[.int .u8 96, .int .u8 126] 5 (2, 3)) := by
  rw [<- hW];show ((w.heap.push _).push _)[w.heap.size + 1]? = _;rw [Array.getElem?_push, if_pos (by rw [Array.size_push])]
 rw [hW];have HWB := hdn hWB;have HWF := hdn hWF;have HWS := hdn hWS;clear hW hWB hWF hWS kc kc1
 go_loopw [10] (fun v wr => OpenW W s.data.toList v wr) (fun v _ => 2 - (intOf v).toNat)
 case atStart => exact ⟨0, rfl, by omega, by omega, by omega, rfl⟩
 case round =>
  obtain ⟨k, rfl, hk, hu1, hu2, rfl⟩ := hrel;have HU1 := hdn hu1;have HU2 := hdn hu2;clear hu1 hu2
  by_cases hlt : k < 2
  ·have hki : (k : Int) < 2 := by omega
   obtain ⟨c, hc⟩ : ∃ c, fenceOf k = c := ⟨_, rfl⟩;have x1 : wr.cell? ⟨w.heap.size + 1, k, none⟩ = some (.int .u8 (c.toNat : Int)) := by
    rw [cell_of_row _ _ k _ _ _ HWS.out, <- hc];obtain rfl | rfl : k = 0 ∨ k = 1 := by omega
    ·rfl
    ·rfl
   have hc128 : c.toNat < 128 := by rw [<- hc]; unfold fenceOf; split <;> decide
   have HF1 := hdn fun w' => HF.out c hc128 w';have hle := HLE.out c;obtain ⟨n, hn⟩ : ∃ n, frontN s.data.toList c = n := ⟨_, rfl⟩;rw [hn] at HF1 hle;have hki2 : (n : Int) ≤ (s.size : Int) := by omega
   have HN := hdn hn;have HC := hdn hc;have HNext := hdn fun (hno : fenceB s.data.toList c = false) => show OpenW wr s.data.toList (.int .i64 ((k : Int) + 1)) wr by
    refine ⟨k + 1, by go_num, hlt, fun _ => ?_, fun h => ?_, rfl⟩
    ·by_cases hk0 : k = 0
     ·subst hk0; rw [<- hc] at hno; exact hno
     ·exact HU1.out (by omega)
    ·have hk1 : k = 1 := by omega
     subst hk1;rw [<- hc] at hno;exact hno
   clear hn hc;go_wp2_with fail;refine cMq (HF1.out _) ?_;rintro e w1 ⟨rfl, rfl⟩
   by_cases h0 : 3 ≤ n
   ·have z0 : (3 : Int) ≤ (n : Int) := by omega
    have HIBn := hdn fun w' => HIB.out n hle c w';have hTR := fun w' => HTR.out n hle w';unfold StrB at hTR;obtain ⟨T, hT⟩ : ∃ T : ByteArray, (⟨(blankT (s.extract n s.size).data.toList).toArray⟩ : ByteArray) = T := ⟨_, rfl⟩;rw [hT] at hTR;have HTRn := hdn hTR;have HTx := hdn hT;clear hT hTR
    by_cases hc126 : c = 126
    ·have z1 : ((c.toNat : Int) == 126) = true := by rw [hc126]; rfl
     have hyes : openV s.data.toList = some (c, n, blankT (s.extract n s.size).data.toList) := by
      have hf : fenceB s.data.toList c = true := by
       unfold fenceB;rw [HN.out, show decide (3 ≤ n) = true by simpa using h0, hc126];simp
      have := openV_at s.data.toList k hlt HU1.out (by rw [HC.out]; exact hf);rw [HC.out, HN.out] at this;rw [this, (ext_at s n hle).1]
     have HY := hdn hyes;clear hyes hc126;go_wp2_with fail;refine cMq (HTRn.out _) ?_;rintro e w2 ⟨rfl, b2⟩;have g2 : w2.heap[w.heap.size]? = some (.cells #[.int .u8 0, .int .i64 0, .string ⟨#[]⟩] 48 (0, 0)) := (b2.block _ (by have := (gSq.1 HWF.out).1; omega)).trans HWF.out;have q0 := fun i => cell_of_row w2 w.heap.size i _ _ _ g2;have f0 : ∀ i, w2.frozen? ⟨w.heap.size, i, none⟩ = false := fun i => by simp [World.frozen?, g2]
     go_wp2;have HE := hdn (fence_end w w2 (.int .u8 (c.toNat : Int)) (.int .i64 (n : Int)) (.string T) (HWB.out.trans (b2.mono HWB.out.size)) g2);obtain ⟨W3, hW3⟩ : ∃ W3, ((w2.setCell ⟨w.heap.size, 0, none⟩ (.int .u8 (c.toNat : Int))).setCell ⟨w.heap.size, 1, none⟩ (.int .i64 (n : Int))).setCell ⟨w.heap.size, 2, none⟩ (.string T) = W3 := ⟨_, rfl⟩;rw [hW3] at HE ⊢
     (try simp only [Exit.inBlock, Exit.then])
     refine bodyPost_ret (lf_results_row_tmp rfl _ W3 w.heap.size _ _ _ _ rfl HE.out.1 Tryz.underlying48 rfl (by kernel_rfl)) rfl ?_;rw [HY.out];exact ⟨by show _ = _; rw [HTx.out]; rfl, HE.out.2⟩
    ·have z1 : ((c.toNat : Int) == 126) = false := by
      have : c.toNat ≠ 126 := fun h => hc126 (UInt8.toNat_inj.1 (by rw [h]; rfl));simp; omega
     obtain ⟨q, hq⟩ : ∃ q, Lib.indexByte (s.data.toList.drop n) c = q := ⟨_, rfl⟩;have HI := hdn (show ∀ w', Calls Tryz.prog 131 #[.string (s.extract n s.size), .int .u8 (c.toNat : Int)] w' (fun e w'' => e = .returned (.int .i64 q) ∧ w' = w'') from fun w' => (HIBn.out w').mono fun _ _ h => by rw [<- hq]; exact h);have HQ := hdn hq;clear hq
     by_cases hq0 : q < 0
     ·have hyes : openV s.data.toList = some (c, n, blankT (s.extract n s.size).data.toList) := by
       have hf : fenceB s.data.toList c = true := by
        unfold fenceB;rw [HN.out, show decide (3 ≤ n) = true by simpa using h0, HQ.out, show decide (q < 0) = true by simpa using hq0];simp
       have := openV_at s.data.toList k hlt HU1.out (by rw [HC.out]; exact hf);rw [HC.out, HN.out] at this;rw [this, (ext_at s n hle).1]
      have HY := hdn hyes;clear hyes hc126;go_wp2_with fail;refine cMq (HI.out _) ?_;rintro e w1 ⟨rfl, rfl⟩;go_wp2_with fail;refine cMq (HTRn.out _) ?_;rintro e w2 ⟨rfl, b2⟩;have g2 : w2.heap[w.heap.size]? = some (.cells #[.int .u8 0, .int .i64 0, .string ⟨#[]⟩] 48 (0, 0)) := (b2.block _ (by have := (gSq.1 HWF.out).1; omega)).trans HWF.out;have q0 := fun i => cell_of_row w2 w.heap.size i _ _ _ g2;have f0 : ∀ i, w2.frozen? ⟨w.heap.size, i, none⟩ = false := fun i => by simp [World.frozen?, g2]
      go_wp2;have HE := hdn (fence_end w w2 (.int .u8 (c.toNat : Int)) (.int .i64 (n : Int)) (.string T) (HWB.out.trans (b2.mono HWB.out.size)) g2);obtain ⟨W3, hW3⟩ : ∃ W3, ((w2.setCell ⟨w.heap.size, 0, none⟩ (.int .u8 (c.toNat : Int))).setCell ⟨w.heap.size, 1, none⟩ (.int .i64 (n : Int))).setCell ⟨w.heap.size, 2, none⟩ (.string T) = W3 := ⟨_, rfl⟩;rw [hW3] at HE ⊢
      (try simp only [Exit.inBlock, Exit.then])
      refine bodyPost_ret (lf_results_row_tmp rfl _ W3 w.heap.size _ _ _ _ rfl HE.out.1 Tryz.underlying48 rfl (by kernel_rfl)) rfl ?_;rw [HY.out];exact ⟨by show _ = _; rw [HTx.out]; rfl, HE.out.2⟩
     ·have hno : fenceB s.data.toList c = false := by
       unfold fenceB;rw [HN.out, HQ.out, show decide (q < 0) = false by simpa using hq0, show (c == 126) = false by simpa using hc126];simp
      have HNO := hdn (HNext.out hno);clear hno hc126;go_wp2_with fail;refine cMq (HI.out _) ?_;rintro e w1 ⟨rfl, rfl⟩;go_wp2
      go_roundw
      case rel => exact HNO.out
      case measure => simp [intOf]; omega
   ·have z0 : ¬ (3 : Int) ≤ (n : Int) := by omega
    have hno : fenceB s.data.toList c = false := by unfold fenceB; rw [HN.out, show decide (3 ≤ n) = false by simpa using h0, Bool.false_and]
    have HNO := hdn (HNext.out hno);clear hno;go_wp2
    go_roundw
    case rel => exact HNO.out
    case measure => simp [intOf]; omega
  ·obtain rfl : k = 2 := by omega
   have hv : openV s.data.toList = none := by
    unfold openV;rw [HU1.out (by omega), HU2.out (by omega)];rfl
   have HV := hdn hv;clear hv;have g2 := HWF.out;have q0 := fun i => cell_of_row wr w.heap.size i _ _ _ g2;have f0 : ∀ i, wr.frozen? ⟨w.heap.size, i, none⟩ = false := fun i => by simp [World.frozen?, g2]
   go_wp2;have HE := hdn (fence_end w wr (.int .u8 0) (.int .i64 0) (.string ⟨#[]⟩) HWB.out g2);obtain ⟨W3, hW3⟩ : ∃ W3, ((wr.setCell ⟨w.heap.size, 0, none⟩ (.int .u8 0)).setCell ⟨w.heap.size, 1, none⟩ (.int .i64 0)).setCell ⟨w.heap.size, 2, none⟩ (.string ⟨#[]⟩) = W3 := ⟨_, rfl⟩;rw [hW3] at HE ⊢
   (try simp only [Exit.inBlock, Exit.then])
   refine bodyPost_ret (lf_results_row_tmp rfl _ W3 w.heap.size _ _ _ _ rfl HE.out.1 Tryz.underlying48 rfl (by kernel_rfl)) rfl ?_;rw [HV.out];exact ⟨rfl, HE.out.2⟩
def shutB (l : List UInt8) (c : Nat) (m : Int) : Bool := (c == 96 || c == 126) && decide (max m 3 ≤ (frontN l (UInt8.ofNat c) : Int)) && (blankT (l.drop (frontN l (UInt8.ofNat c)))).isEmpty
end
section
open Go.RowKit
theorem mark_end (w w2 : World) (g : Nat) (x : Array Value) (hx : x.size = 3) (a b c : Value) (hb : Below w.heap.size w w2) (hg : w.heap.size ≤ g) (h : w2.heap[g]? = some (.cells x 127 (0, 0))) :
  (((w2.setCell ⟨g, 0, none⟩ a).setCell ⟨g, 1, none⟩ b).setCell ⟨g, 2, none⟩ c).heap[g]? = some (.cells #[a, b, c] 127 (0, 0)) ∧ Below w.heap.size w (((w2.setCell ⟨g, 0, none⟩ a).setCell ⟨g, 1, none⟩ b).setCell ⟨g, 2, none⟩ c) := by
 have h1 := Joins.block_setCell h (i := 0) a;have h2 := Joins.block_setCell h1 (i := 1) b;have h3 := Joins.block_setCell h2 (i := 2) c;obtain ⟨l⟩ := x
 match l, hx with
 | [_, _, _], _ => exact ⟨by simpa using h3, ((hb.setCell hg _).setCell hg _).setCell hg _⟩
def digitsS : List UInt8 := [48, 49, 50, 51, 52, 53, 54, 55, 56, 57]
theorem left_digits (s : ByteArray) (w : World) : Calls Tryz.prog 83 #[.string s, .string ⟨#[48, 49, 50, 51, 52, 53, 54, 55, 56, 57]⟩] w (StrB w (Lib.trimLeftS s.data.toList digitsS)) :=
 Any.strings_TrimLeft_laid Tryz.lays161 (by kernel_rfl) s ⟨#[48, 49, 50, 51, 52, 53, 54, 55, 56, 57]⟩ w (by decide) (ascii_of_all (by decide))
theorem below_bytes (w : World) (t : TypeId) (x : ByteArray) : Below w.heap.size w (Lib.bytesWorld w t x) :=
 ⟨rfl, rfl, rfl, by rw [Lib.bytesWorld_size]; omega, fun j hj => Lib.bytesWorld_at_old w t x j hj⟩
end
section
open Go.RowKit
def digB (b : UInt8) : Bool := decide (48 ≤ b.toNat) && decide (b.toNat ≤ 57)
def digN (l : List UInt8) : Nat := (l.takeWhile digB).length
def digV (l : List UInt8) : Int := (Lib.atoi (l.take (digN l))).getD 0
def itemN (l : List UInt8) : Option (UInt8 × Int × Nat) :=
 if 9 < digN l then none else match l[digN l]? with
 | none => none
 | some c => if (if 0 < digN l then c == 46 || c == 41 else c == 45 || c == 43 || c == 42) && apartB (l.drop (digN l + 1)) then
   some (c, if 0 < digN l then digV l else 0, digN l + 1) else none
theorem digB_all : ∀ n : Fin 256, digitsS.contains (UInt8.ofNat n.val) = digB (UInt8.ofNat n.val) := by decide +kernel
theorem digB_at (b : UInt8) : digitsS.contains b = digB b := by
 have := digB_all ⟨b.toNat, b.toNat_lt⟩;simpa using this
theorem digN_le (l : List UInt8) : digN l ≤ l.length := by
 unfold digN;have := congrArg List.length (List.takeWhile_append_dropWhile (p := digB) (l := l));rw [List.length_append] at this;omega
theorem dig_trim (l : List UInt8) : (Lib.trimLeftS l digitsS).length + digN l = l.length := by
 unfold Lib.trimLeftS digN;have h : (l.dropWhile fun b => digitsS.contains b) = l.dropWhile digB := congrArg (fun f => l.dropWhile f) (funext digB_at);rw [h];have := congrArg List.length (List.takeWhile_append_dropWhile (p := digB) (l := l));rw [List.length_append] at this;omega
theorem signs_zero_all : ∀ n : Fin 256, (UInt8.ofNat n.val == 45 || UInt8.ofNat n.val == 43 || UInt8.ofNat n.val == 42) = decide (0 ≤ Lib.indexByte (⟨#[45, 43, 42]⟩ : ByteArray).data.toList (UInt8.ofNat n.val)) := by decide +kernel
theorem signs_zero (c : UInt8) : (c == 45 || c == 43 || c == 42) = decide (0 ≤ Lib.indexByte (⟨#[45, 43, 42]⟩ : ByteArray).data.toList c) := by
 have := signs_zero_all ⟨c.toNat, c.toNat_lt⟩;simpa using this
theorem signs_more_all : ∀ n : Fin 256, (UInt8.ofNat n.val == 46 || UInt8.ofNat n.val == 41) = decide (0 ≤ Lib.indexByte (⟨#[46, 41]⟩ : ByteArray).data.toList (UInt8.ofNat n.val)) := by decide +kernel
theorem signs_more (c : UInt8) : (c == 46 || c == 41) = decide (0 ≤ Lib.indexByte (⟨#[46, 41]⟩ : ByteArray).data.toList c) := by
 have := signs_more_all ⟨c.toNat, c.toNat_lt⟩;simpa using this
theorem decFrom_dig : ∀ (l : List UInt8) (acc : Nat), (∀ b ∈ l, digB b = true) -> ∃ n, Lib.decFrom acc l = some n
 | [], acc, _ => ⟨acc, rfl⟩
 | b :: l, acc, h => by
  have hb := h b (by simp);unfold digB at hb;simp only [Bool.and_eq_true, decide_eq_true_eq] at hb;have hd : ∃ d, Lib.digitVal b = some d := by
   unfold Lib.digitVal;rw [if_pos hb];exact ⟨_, rfl⟩
  obtain ⟨d, hd⟩ := hd;rw [Lib.decFrom, hd];exact decFrom_dig l _ fun x hx => h x (List.mem_cons_of_mem _ hx)
theorem takeWhile_dig (l : List UInt8) : l.take (digN l) = l.takeWhile digB := by
 have h : l.take (digN l) = ((l.takeWhile digB) ++ (l.dropWhile digB)).take (l.takeWhile digB).length := by rw [List.takeWhile_append_dropWhile]; rfl
 rw [h];exact List.take_left
theorem atoi_digits (l : List UInt8) (h : 0 < digN l) : Lib.atoi (l.take (digN l)) = some (digV l) := by
 unfold digV;have ha : ∀ b ∈ l.take (digN l), digB b = true := by
  rw [takeWhile_dig];intro b hb;exact List.all_eq_true.1 (List.all_takeWhile (p := digB) (l := l)) b hb
 have hne : l.take (digN l) ≠ [] := by
  rw [takeWhile_dig];intro e;unfold digN at h;rw [e] at h;simp at h
 cases hl : l.take (digN l) with
 | nil => exact absurd hl hne
 | cons b r =>
  rw [hl] at ha;have hb := ha b (by simp);unfold digB at hb;simp only [Bool.and_eq_true, decide_eq_true_eq] at hb;have h1 : (b == 45) = false := by rw [beq_eq_false_iff_ne]; intro e; rw [e] at hb; exact absurd hb.1 (by decide)
  have h2 : (b == 43) = false := by rw [beq_eq_false_iff_ne]; intro e; rw [e] at hb; exact absurd hb.1 (by decide)
  obtain ⟨n, hn⟩ := decFrom_dig (b :: r) 0 ha;have hdn : Lib.decNat (b :: r) = some n := by unfold Lib.decNat; rw [if_neg (by simp)]; exact hn
  have hx : Lib.atoi (b :: r) = some (n : Int) := by
   show (if (b == 45) = true then _ else if (b == 43) = true then _ else _) = _;rw [h1, h2, if_neg Bool.false_ne_true, if_neg Bool.false_ne_true, hdn];rfl
  rw [hx];rfl
theorem list_end (w w2 : World) (g : Nat) (x y z : Value) (a b c : Value) (hb : Below w.heap.size w w2) (hg : w.heap.size ≤ g) (h : w2.heap[g]? = some (.cells #[x, y, z] 127 (0, 0))) :
  (((w2.setCell ⟨g, 0, none⟩ a).setCell ⟨g, 1, none⟩ b).setCell ⟨g, 2, none⟩ c).heap[g]? = some (.cells #[a, b, c] 127 (0, 0)) ∧ Below w.heap.size w (((w2.setCell ⟨g, 0, none⟩ a).setCell ⟨g, 1, none⟩ b).setCell ⟨g, 2, none⟩ c) :=
 mark_end w w2 g _ rfl a b c hb hg h
def ItemR (w : World) (o : Option (UInt8 × Int × Nat)) (e : Ending) (w' : World) : Prop := (match o with
 | some (c, n, k) => e = .returned (.tuple #[.agg #[.int .u8 (c.toNat : Int), .int .i64 n, .int .i64 (k : Int)], .bool true])
 | none => e = .returned (.tuple #[.agg #[.int .u8 0, .int .i64 0, .int .i64 0], .bool false])) ∧ Below w.heap.size w w'
theorem list_any (s : ByteArray) (w : World) (hs : s.size ≤ 1099511627) : Calls Tryz.prog 94 #[.string s] w (ItemR w (itemN s.data.toList)) := by
 have hl : s.data.toList.length = s.size := lTq;have hdt := dig_trim s.data.toList;have hdl := digN_le s.data.toList;have H1 := fun w' => left_digits s w';obtain ⟨TT, hTT⟩ : ∃ x : ByteArray, (⟨(Lib.trimLeftS s.data.toList digitsS).toArray⟩ : ByteArray) = x := ⟨_, rfl⟩;have hTz : TT.size = (Lib.trimLeftS s.data.toList digitsS).length := by rw [<- hTT]; rfl
 unfold StrB at H1;rw [hTT] at H1;have H1 := hdn H1;have hat := atoi_digits s.data.toList;obtain ⟨V, hV⟩ : ∃ V, itemN s.data.toList = V := ⟨_, rfl⟩;rw [hV];have hVn := hV;unfold itemN at hVn;have hv0 : 0 < digN s.data.toList -> digN s.data.toList ≤ 9 -> ∀ w', Calls Tryz.prog 141 #[.string (s.extract 0 (digN s.data.toList))] w' fun e w'' => e = .returned (.tuple #[.int .i64 (digV s.data.toList), .nilIface]) ∧ Below w'.heap.size w' w'' := fun h0 h9 w' =>
  (Tryz.strconv_Atoi (s.extract 0 (digN s.data.toList)) (digV s.data.toList) (by rw [ByteArray.size_extract]; omega) (by rw [Lib.extract_data, List.drop_zero, Nat.sub_zero]; exact hat h0) w').mono fun _ _ ⟨h1, t, h2⟩ => ⟨h1, by rw [h2]; exact below_bytes _ _ _⟩;obtain ⟨n, hn⟩ : ∃ n, digN s.data.toList = n := ⟨_, rfl⟩;obtain ⟨v, hv⟩ : ∃ v, digV s.data.toList = v := ⟨_, rfl⟩;rw [hn] at hdt hdl hVn hv0;rw [hv] at hVn hv0;have hTs : TT.size + n = s.size := by omega
 have hsub : (s.size : Int) - (TT.size : Int) = (n : Int) := by omega
 clear hTT hTz hdt hat hV hn hv
 by_cases h9 : 9 < n
 ·have i9 : (9 : Int) < (n : Int) := by omega
  have HV := hdn (show V = none by rw [<- hVn, if_pos h9]);clear hVn hv0;go_enter Tryz.func94, Tryz.ntmps94;go_wp2_with fail;refine cMq (H1.out _) ?_;rintro e w1 ⟨rfl, b1⟩;have hsz : w.heap.size + 1 ≤ w1.heap.size := by have := b1.size; simpa using this
  have b1' : Below w.heap.size w w1 := ((Below.refl _ w).alloc (Nat.le_refl _) _).trans (b1.mono (by simp));have g1 : w1.heap[w.heap.size]? = some (.cells #[.int .u8 0, .int .i64 0, .int .i64 0] 127 (0, 0)) := (b1.block _ (by simp)).trans (heap_alloc_new w _);have HB1 := hdn b1';have HG1 := hdn g1;clear b1 b1' g1;have q0 := fun i => cell_of_row w1 w.heap.size i _ _ _ (show (w1 : World).heap[w.heap.size]? = _ from HG1.out);have f0 : ∀ i, (w1 : World).frozen? ⟨w.heap.size, i, none⟩ = false := fun i => by simp [World.frozen?, show (w1 : World).heap[w.heap.size]? = _ from HG1.out]
  go_wp2;have HE := hdn (list_end w w1 w.heap.size _ _ _ (.int .u8 0) (.int .i64 0) (.int .i64 0) HB1.out (Nat.le_refl _) HG1.out);obtain ⟨W3, hW3⟩ : ∃ W3, (((w1 : World).setCell ⟨w.heap.size, 0, none⟩ (.int .u8 0)).setCell ⟨w.heap.size, 1, none⟩ (.int .i64 0)).setCell ⟨w.heap.size, 2, none⟩ (.int .i64 0) = W3 := ⟨_, rfl⟩;rw [hW3] at HE ⊢
  (try simp only [Exit.inBlock, Exit.then])
  refine bodyPost_ret (lf_results_row_tmp rfl _ W3 w.heap.size _ _ _ _ rfl HE.out.1 Tryz.underlying127 rfl (by kernel_rfl)) rfl ?_;rw [HV.out];exact ⟨rfl, HE.out.2⟩
 ·have i9 : ¬ (9 : Int) < (n : Int) := by omega
  rw [if_neg h9] at hVn
  by_cases hns : n < s.size
  ·have ins : ((n : Int) == (s.size : Int)) = false := by rw [beq_eq_false_iff_ne]; omega
   have ins2 : (n : Int) < (s.size : Int) := by omega
   rw [get_list s n hns] at hVn;obtain ⟨c, hc⟩ : ∃ c, s[n] = c := ⟨_, rfl⟩;rw [hc] at hVn;simp only at hVn;have HA := fun w' => apart_any (s.extract (n + 1) s.size) w';rw [(ext_at s (n + 1) (by omega)).1] at HA;obtain ⟨ap, hap⟩ : ∃ x, apartB (s.data.toList.drop (n + 1)) = x := ⟨_, rfl⟩;rw [hap] at HA hVn;have HA := hdn HA;clear hap
   by_cases h0 : n = 0
   ·have h0' : ¬ 0 < n := by omega
    have i0 : ¬ (0 : Int) < (n : Int) := by omega
    rw [if_neg h0', if_neg h0'] at hVn;clear h0 h0';have HI0 := fun w' => indexByte_any ⟨#[45, 43, 42]⟩ c w';obtain ⟨q, hq⟩ : ∃ q, Lib.indexByte (⟨#[45, 43, 42]⟩ : ByteArray).data.toList c = q := ⟨_, rfl⟩;rw [hq] at HI0;have HI := hdn HI0;have hqs : (c == 45 || c == 43 || c == 42) = decide (0 ≤ q) := by rw [<- hq]; exact signs_zero c
    rw [hqs] at hVn;clear HI0 hq hqs
    by_cases hq0 : 0 ≤ q
    ·cases ap with
     | false =>
      have HV := hdn (show V = none by rw [<- hVn, decide_eq_true hq0]; rfl);clear hVn hv0;have iq : ¬ q < 0 := by omega
      go_enter Tryz.func94, Tryz.ntmps94;go_wp2_with fail;refine cMq (H1.out _) ?_;rintro e w1 ⟨rfl, b1⟩;have hsz : w.heap.size + 1 ≤ w1.heap.size := by have := b1.size; simpa using this
      have b1' : Below w.heap.size w w1 := ((Below.refl _ w).alloc (Nat.le_refl _) _).trans (b1.mono (by simp));have g1 : w1.heap[w.heap.size]? = some (.cells #[.int .u8 0, .int .i64 0, .int .i64 0] 127 (0, 0)) := (b1.block _ (by simp)).trans (heap_alloc_new w _);have HB1 := hdn b1';have HG1 := hdn g1;clear b1 b1' g1;have G2 : (w1.alloc (.cells #[.int .u8 (c.toNat : Int), .int .i64 0, .int .i64 ((n : Int) + 1)] 127)).heap[w1.heap.size]? = some (.cells #[.int .u8 (c.toNat : Int), .int .i64 0, .int .i64 ((n : Int) + 1)] 127 (0, 0)) := heap_alloc_new w1 _
      have G1 : (w1.alloc (.cells #[.int .u8 (c.toNat : Int), .int .i64 0, .int .i64 ((n : Int) + 1)] 127)).heap[w.heap.size]? = some (.cells #[.int .u8 0, .int .i64 0, .int .i64 0] 127 (0, 0)) := (Below.heap_alloc w1 _ _ (show w.heap.size < w1.heap.size by omega)).trans HG1.out;have BB : Below w.heap.size w (w1.alloc (.cells #[.int .u8 (c.toNat : Int), .int .i64 0, .int .i64 ((n : Int) + 1)] 127)) := HB1.out.alloc (by omega) _
      obtain ⟨W2, hW2⟩ : ∃ W2, w1.alloc (.cells #[.int .u8 (c.toNat : Int), .int .i64 0, .int .i64 ((n : Int) + 1)] 127) = W2 := ⟨_, rfl⟩;rw [hW2] at G1 G2 BB;have HW2 := hdn hW2;have HBB := hdn BB;have HG1' := hdn G1;have hne : ¬ w.heap.size = w1.heap.size := by omega
      clear hW2 BB;have q0 := fun i => cell_of_row W2 w.heap.size i _ _ _ (show (W2 : World).heap[w.heap.size]? = _ from G1);have f0 : ∀ i, (W2 : World).frozen? ⟨w.heap.size, i, none⟩ = false := fun i => by simp [World.frozen?, show (W2 : World).heap[w.heap.size]? = _ from G1]
      have q1 := fun i => cell_of_row W2 w1.heap.size i _ _ _ G2;have f1 : ∀ i, W2.frozen? ⟨w1.heap.size, i, none⟩ = false := fun i => by simp [World.frozen?, G2]
      go_wp2_with fail;rw [HW2.out];go_wp2_with fail;refine cMq (HI.out _) ?_;rintro e w3 ⟨rfl, rfl⟩;go_wp2_with fail;refine cMq (HA.out _) ?_;rintro e w4 ⟨rfl, rfl⟩;go_wp2;have HE := hdn (list_end w W2 w.heap.size _ _ _ (.int .u8 0) (.int .i64 0) (.int .i64 0) HBB.out (Nat.le_refl _) HG1'.out);obtain ⟨W3, hW3⟩ : ∃ W3, (((W2 : World).setCell ⟨w.heap.size, 0, none⟩ (.int .u8 0)).setCell ⟨w.heap.size, 1, none⟩ (.int .i64 0)).setCell ⟨w.heap.size, 2, none⟩ (.int .i64 0) = W3 := ⟨_, rfl⟩;rw [hW3] at HE ⊢
      (try simp only [Exit.inBlock, Exit.then])
      refine bodyPost_ret (lf_results_row_tmp rfl _ W3 w.heap.size _ _ _ _ rfl HE.out.1 Tryz.underlying127 rfl (by kernel_rfl)) rfl ?_;rw [HV.out];exact ⟨rfl, HE.out.2⟩
     | true =>
      have HV := hdn (show V = some (c, 0, n + 1) by rw [<- hVn, decide_eq_true hq0]; rfl);clear hVn hv0;have iq : ¬ q < 0 := by omega
      go_enter Tryz.func94, Tryz.ntmps94;go_wp2_with fail;refine cMq (H1.out _) ?_;rintro e w1 ⟨rfl, b1⟩;have hsz : w.heap.size + 1 ≤ w1.heap.size := by have := b1.size; simpa using this
      have b1' : Below w.heap.size w w1 := ((Below.refl _ w).alloc (Nat.le_refl _) _).trans (b1.mono (by simp));have g1 : w1.heap[w.heap.size]? = some (.cells #[.int .u8 0, .int .i64 0, .int .i64 0] 127 (0, 0)) := (b1.block _ (by simp)).trans (heap_alloc_new w _);have HB1 := hdn b1';have HG1 := hdn g1;clear b1 b1' g1;have G2 : (w1.alloc (.cells #[.int .u8 (c.toNat : Int), .int .i64 0, .int .i64 ((n : Int) + 1)] 127)).heap[w1.heap.size]? = some (.cells #[.int .u8 (c.toNat : Int), .int .i64 0, .int .i64 ((n : Int) + 1)] 127 (0, 0)) := heap_alloc_new w1 _
      have G1 : (w1.alloc (.cells #[.int .u8 (c.toNat : Int), .int .i64 0, .int .i64 ((n : Int) + 1)] 127)).heap[w.heap.size]? = some (.cells #[.int .u8 0, .int .i64 0, .int .i64 0] 127 (0, 0)) := (Below.heap_alloc w1 _ _ (show w.heap.size < w1.heap.size by omega)).trans HG1.out;have BB : Below w.heap.size w (w1.alloc (.cells #[.int .u8 (c.toNat : Int), .int .i64 0, .int .i64 ((n : Int) + 1)] 127)) := HB1.out.alloc (by omega) _
      obtain ⟨W2, hW2⟩ : ∃ W2, w1.alloc (.cells #[.int .u8 (c.toNat : Int), .int .i64 0, .int .i64 ((n : Int) + 1)] 127) = W2 := ⟨_, rfl⟩;rw [hW2] at G1 G2 BB;have HW2 := hdn hW2;have HBB := hdn BB;have HG1' := hdn G1;have hne : ¬ w.heap.size = w1.heap.size := by omega
      clear hW2 BB;have q0 := fun i => cell_of_row W2 w.heap.size i _ _ _ (show (W2 : World).heap[w.heap.size]? = _ from G1);have f0 : ∀ i, (W2 : World).frozen? ⟨w.heap.size, i, none⟩ = false := fun i => by simp [World.frozen?, show (W2 : World).heap[w.heap.size]? = _ from G1]
      have q1 := fun i => cell_of_row W2 w1.heap.size i _ _ _ G2;have f1 : ∀ i, W2.frozen? ⟨w1.heap.size, i, none⟩ = false := fun i => by simp [World.frozen?, G2]
      go_wp2_with fail;rw [HW2.out];go_wp2_with fail;refine cMq (HI.out _) ?_;rintro e w3 ⟨rfl, rfl⟩;go_wp2_with fail;refine cMq (HA.out _) ?_;rintro e w4 ⟨rfl, rfl⟩;go_wp2;have HE := hdn (list_end w W2 w.heap.size _ _ _ (.int .u8 (c.toNat : Int)) (.int .i64 0) (.int .i64 ((n : Int) + 1)) HBB.out (Nat.le_refl _) HG1'.out);obtain ⟨W3, hW3⟩ : ∃ W3, (((W2 : World).setCell ⟨w.heap.size, 0, none⟩ (.int .u8 (c.toNat : Int))).setCell ⟨w.heap.size, 1, none⟩ (.int .i64 0)).setCell ⟨w.heap.size, 2, none⟩ (.int .i64 ((n : Int) + 1)) = W3 := ⟨_, rfl⟩;rw [hW3] at HE ⊢
      (try simp only [Exit.inBlock, Exit.then])
      refine bodyPost_ret (lf_results_row_tmp rfl _ W3 w.heap.size _ _ _ _ rfl HE.out.1 Tryz.underlying127 rfl (by kernel_rfl)) rfl ?_;rw [HV.out];exact ⟨rfl, HE.out.2⟩
    ·have HV := hdn (show V = none by rw [<- hVn, decide_eq_false hq0]; rfl);clear hVn hv0;have iq : q < 0 := by omega
     go_enter Tryz.func94, Tryz.ntmps94;go_wp2_with fail;refine cMq (H1.out _) ?_;rintro e w1 ⟨rfl, b1⟩;have hsz : w.heap.size + 1 ≤ w1.heap.size := by have := b1.size; simpa using this
     have b1' : Below w.heap.size w w1 := ((Below.refl _ w).alloc (Nat.le_refl _) _).trans (b1.mono (by simp));have g1 : w1.heap[w.heap.size]? = some (.cells #[.int .u8 0, .int .i64 0, .int .i64 0] 127 (0, 0)) := (b1.block _ (by simp)).trans (heap_alloc_new w _);have HB1 := hdn b1';have HG1 := hdn g1;clear b1 b1' g1;have G2 : (w1.alloc (.cells #[.int .u8 (c.toNat : Int), .int .i64 0, .int .i64 ((n : Int) + 1)] 127)).heap[w1.heap.size]? = some (.cells #[.int .u8 (c.toNat : Int), .int .i64 0, .int .i64 ((n : Int) + 1)] 127 (0, 0)) := heap_alloc_new w1 _
     have G1 : (w1.alloc (.cells #[.int .u8 (c.toNat : Int), .int .i64 0, .int .i64 ((n : Int) + 1)] 127)).heap[w.heap.size]? = some (.cells #[.int .u8 0, .int .i64 0, .int .i64 0] 127 (0, 0)) := (Below.heap_alloc w1 _ _ (show w.heap.size < w1.heap.size by omega)).trans HG1.out;have BB : Below w.heap.size w (w1.alloc (.cells #[.int .u8 (c.toNat : Int), .int .i64 0, .int .i64 ((n : Int) + 1)] 127)) := HB1.out.alloc (by omega) _
     obtain ⟨W2, hW2⟩ : ∃ W2, w1.alloc (.cells #[.int .u8 (c.toNat : Int), .int .i64 0, .int .i64 ((n : Int) + 1)] 127) = W2 := ⟨_, rfl⟩;rw [hW2] at G1 G2 BB;have HW2 := hdn hW2;have HBB := hdn BB;have HG1' := hdn G1;have hne : ¬ w.heap.size = w1.heap.size := by omega
     clear hW2 BB;have q0 := fun i => cell_of_row W2 w.heap.size i _ _ _ (show (W2 : World).heap[w.heap.size]? = _ from G1);have f0 : ∀ i, (W2 : World).frozen? ⟨w.heap.size, i, none⟩ = false := fun i => by simp [World.frozen?, show (W2 : World).heap[w.heap.size]? = _ from G1]
     have q1 := fun i => cell_of_row W2 w1.heap.size i _ _ _ G2;have f1 : ∀ i, W2.frozen? ⟨w1.heap.size, i, none⟩ = false := fun i => by simp [World.frozen?, G2]
     go_wp2_with fail;rw [HW2.out];go_wp2_with fail;refine cMq (HI.out _) ?_;rintro e w3 ⟨rfl, rfl⟩;go_wp2;have HE := hdn (list_end w W2 w.heap.size _ _ _ (.int .u8 0) (.int .i64 0) (.int .i64 0) HBB.out (Nat.le_refl _) HG1'.out);obtain ⟨W3, hW3⟩ : ∃ W3, (((W2 : World).setCell ⟨w.heap.size, 0, none⟩ (.int .u8 0)).setCell ⟨w.heap.size, 1, none⟩ (.int .i64 0)).setCell ⟨w.heap.size, 2, none⟩ (.int .i64 0) = W3 := ⟨_, rfl⟩;rw [hW3] at HE ⊢
     (try simp only [Exit.inBlock, Exit.then])
     refine bodyPost_ret (lf_results_row_tmp rfl _ W3 w.heap.size _ _ _ _ rfl HE.out.1 Tryz.underlying127 rfl (by kernel_rfl)) rfl ?_;rw [HV.out];exact ⟨rfl, HE.out.2⟩
   ·have h0' : 0 < n := by omega
    have i0 : (0 : Int) < (n : Int) := by omega
    rw [if_pos h0', if_pos h0'] at hVn;have HAt := hdn (hv0 h0' (by omega));clear hv0;have HI0 := fun w' => indexByte_any ⟨#[46, 41]⟩ c w';obtain ⟨q, hq⟩ : ∃ q, Lib.indexByte (⟨#[46, 41]⟩ : ByteArray).data.toList c = q := ⟨_, rfl⟩;rw [hq] at HI0;have HI := hdn HI0;have hqs : (c == 46 || c == 41) = decide (0 ≤ q) := by rw [<- hq]; exact signs_more c
    rw [hqs] at hVn;clear HI0 hq hqs
    by_cases hq0 : 0 ≤ q
    ·cases ap with
     | false =>
      have HV := hdn (show V = none by rw [<- hVn, decide_eq_true hq0]; rfl);clear hVn;have iq : ¬ q < 0 := by omega
      go_enter Tryz.func94, Tryz.ntmps94;go_wp2_with fail;refine cMq (H1.out _) ?_;rintro e w1 ⟨rfl, b1⟩;have hsz : w.heap.size + 1 ≤ w1.heap.size := by have := b1.size; simpa using this
      have b1' : Below w.heap.size w w1 := ((Below.refl _ w).alloc (Nat.le_refl _) _).trans (b1.mono (by simp));have g1 : w1.heap[w.heap.size]? = some (.cells #[.int .u8 0, .int .i64 0, .int .i64 0] 127 (0, 0)) := (b1.block _ (by simp)).trans (heap_alloc_new w _);have HB1 := hdn b1';have HG1 := hdn g1;clear b1 b1' g1;go_wp2_with fail;refine cMq (HAt.out _) ?_;rintro e w2 ⟨rfl, b2⟩;have g2 : w2.heap[w1.heap.size]? = some (.cells #[.int .u8 (c.toNat : Int), .int .i64 0, .int .i64 ((n : Int) + 1)] 127 (0, 0)) := (b2.block _ (by simp)).trans (heap_alloc_new w1 _)
      have g1 : w2.heap[w.heap.size]? = some (.cells #[.int .u8 0, .int .i64 0, .int .i64 0] 127 (0, 0)) := (b2.block _ (by simp; omega)).trans ((Below.heap_alloc w1 _ _ (show w.heap.size < w1.heap.size by omega)).trans HG1.out);have b2' : Below w.heap.size w w2 := HB1.out.trans ((Below.alloc (Below.refl _ w1) (by omega) _).trans (b2.mono (by simp; omega)));have hs2 : w1.heap.size + 1 ≤ w2.heap.size := by simpa using b2.size
      have q0 := fun i => cell_of_row w2 w.heap.size i _ _ _ g1;have q1 := fun i => cell_of_row w2 w1.heap.size i _ _ _ g2;have f0 : ∀ i, w2.frozen? ⟨w.heap.size, i, none⟩ = false := fun i => by simp [World.frozen?, g1]
      have f1 : ∀ i, w2.frozen? ⟨w1.heap.size, i, none⟩ = false := fun i => by simp [World.frozen?, g2]
      have HB2 := hdn b2';clear b2 b2';have G2 : (w2.setCell ⟨w1.heap.size, 1, none⟩ (.int .i64 v)).heap[w1.heap.size]? = some (.cells #[.int .u8 (c.toNat : Int), .int .i64 v, .int .i64 ((n : Int) + 1)] 127 (0, 0)) := by simpa using Joins.block_setCell g2 (i := 1) (.int .i64 v)
      have G1 : (w2.setCell ⟨w1.heap.size, 1, none⟩ (.int .i64 v)).heap[w.heap.size]? = some (.cells #[.int .u8 0, .int .i64 0, .int .i64 0] 127 (0, 0)) := (Below.heap_setCell w2 _ _ _ (show w.heap.size ≠ w1.heap.size by omega)).trans g1;have BB : Below w.heap.size w (w2.setCell ⟨w1.heap.size, 1, none⟩ (.int .i64 v)) := HB2.out.setCell (show w.heap.size ≤ w1.heap.size by omega) _;obtain ⟨W2, hW2⟩ : ∃ W2, w2.setCell ⟨w1.heap.size, 1, none⟩ (.int .i64 v) = W2 := ⟨_, rfl⟩;rw [hW2] at G1 G2 BB;have HW2 := hdn hW2;have HBB := hdn BB;have HG1' := hdn G1
      have hne : ¬ w.heap.size = w1.heap.size := by omega
      have qq0 := fun i => cell_of_row W2 w.heap.size i _ _ _ G1;have qq1 := fun i => cell_of_row W2 w1.heap.size i _ _ _ G2;have ff0 : ∀ i, W2.frozen? ⟨w.heap.size, i, none⟩ = false := fun i => by simp [World.frozen?, G1]
      clear hW2 BB;go_wp2_with fail;rw [HW2.out];go_wp2_with fail;refine cMq (HI.out _) ?_;rintro e w3 ⟨rfl, rfl⟩;go_wp2_with fail;refine cMq (HA.out _) ?_;rintro e w4 ⟨rfl, rfl⟩;go_wp2;have HE := hdn (list_end w W2 w.heap.size _ _ _ (.int .u8 0) (.int .i64 0) (.int .i64 0) HBB.out (Nat.le_refl _) HG1'.out);obtain ⟨W3, hW3⟩ : ∃ W3, (((W2 : World).setCell ⟨w.heap.size, 0, none⟩ (.int .u8 0)).setCell ⟨w.heap.size, 1, none⟩ (.int .i64 0)).setCell ⟨w.heap.size, 2, none⟩ (.int .i64 0) = W3 := ⟨_, rfl⟩;rw [hW3] at HE ⊢
      (try simp only [Exit.inBlock, Exit.then])
      refine bodyPost_ret (lf_results_row_tmp rfl _ W3 w.heap.size _ _ _ _ rfl HE.out.1 Tryz.underlying127 rfl (by kernel_rfl)) rfl ?_;rw [HV.out];exact ⟨rfl, HE.out.2⟩
     | true =>
      have HV := hdn (show V = some (c, v, n + 1) by rw [<- hVn, decide_eq_true hq0]; rfl);clear hVn;have iq : ¬ q < 0 := by omega
      go_enter Tryz.func94, Tryz.ntmps94;go_wp2_with fail;refine cMq (H1.out _) ?_;rintro e w1 ⟨rfl, b1⟩;have hsz : w.heap.size + 1 ≤ w1.heap.size := by have := b1.size; simpa using this
      have b1' : Below w.heap.size w w1 := ((Below.refl _ w).alloc (Nat.le_refl _) _).trans (b1.mono (by simp));have g1 : w1.heap[w.heap.size]? = some (.cells #[.int .u8 0, .int .i64 0, .int .i64 0] 127 (0, 0)) := (b1.block _ (by simp)).trans (heap_alloc_new w _);have HB1 := hdn b1';have HG1 := hdn g1;clear b1 b1' g1;go_wp2_with fail;refine cMq (HAt.out _) ?_;rintro e w2 ⟨rfl, b2⟩;have g2 : w2.heap[w1.heap.size]? = some (.cells #[.int .u8 (c.toNat : Int), .int .i64 0, .int .i64 ((n : Int) + 1)] 127 (0, 0)) := (b2.block _ (by simp)).trans (heap_alloc_new w1 _)
      have g1 : w2.heap[w.heap.size]? = some (.cells #[.int .u8 0, .int .i64 0, .int .i64 0] 127 (0, 0)) := (b2.block _ (by simp; omega)).trans ((Below.heap_alloc w1 _ _ (show w.heap.size < w1.heap.size by omega)).trans HG1.out);have b2' : Below w.heap.size w w2 := HB1.out.trans ((Below.alloc (Below.refl _ w1) (by omega) _).trans (b2.mono (by simp; omega)));have hs2 : w1.heap.size + 1 ≤ w2.heap.size := by simpa using b2.size
      have q0 := fun i => cell_of_row w2 w.heap.size i _ _ _ g1;have q1 := fun i => cell_of_row w2 w1.heap.size i _ _ _ g2;have f0 : ∀ i, w2.frozen? ⟨w.heap.size, i, none⟩ = false := fun i => by simp [World.frozen?, g1]
      have f1 : ∀ i, w2.frozen? ⟨w1.heap.size, i, none⟩ = false := fun i => by simp [World.frozen?, g2]
      have HB2 := hdn b2';clear b2 b2';have G2 : (w2.setCell ⟨w1.heap.size, 1, none⟩ (.int .i64 v)).heap[w1.heap.size]? = some (.cells #[.int .u8 (c.toNat : Int), .int .i64 v, .int .i64 ((n : Int) + 1)] 127 (0, 0)) := by simpa using Joins.block_setCell g2 (i := 1) (.int .i64 v)
      have G1 : (w2.setCell ⟨w1.heap.size, 1, none⟩ (.int .i64 v)).heap[w.heap.size]? = some (.cells #[.int .u8 0, .int .i64 0, .int .i64 0] 127 (0, 0)) := (Below.heap_setCell w2 _ _ _ (show w.heap.size ≠ w1.heap.size by omega)).trans g1;have BB : Below w.heap.size w (w2.setCell ⟨w1.heap.size, 1, none⟩ (.int .i64 v)) := HB2.out.setCell (show w.heap.size ≤ w1.heap.size by omega) _;obtain ⟨W2, hW2⟩ : ∃ W2, w2.setCell ⟨w1.heap.size, 1, none⟩ (.int .i64 v) = W2 := ⟨_, rfl⟩;rw [hW2] at G1 G2 BB;have HW2 := hdn hW2;have HBB := hdn BB;have HG1' := hdn G1
      have hne : ¬ w.heap.size = w1.heap.size := by omega
      have qq0 := fun i => cell_of_row W2 w.heap.size i _ _ _ G1;have qq1 := fun i => cell_of_row W2 w1.heap.size i _ _ _ G2;have ff0 : ∀ i, W2.frozen? ⟨w.heap.size, i, none⟩ = false := fun i => by simp [World.frozen?, G1]
      clear hW2 BB;go_wp2_with fail;rw [HW2.out];go_wp2_with fail;refine cMq (HI.out _) ?_;rintro e w3 ⟨rfl, rfl⟩;go_wp2_with fail;refine cMq (HA.out _) ?_;rintro e w4 ⟨rfl, rfl⟩;go_wp2;have HE := hdn (list_end w W2 w.heap.size _ _ _ (.int .u8 (c.toNat : Int)) (.int .i64 v) (.int .i64 ((n : Int) + 1)) HBB.out (Nat.le_refl _) HG1'.out);obtain ⟨W3, hW3⟩ : ∃ W3, (((W2 : World).setCell ⟨w.heap.size, 0, none⟩ (.int .u8 (c.toNat : Int))).setCell ⟨w.heap.size, 1, none⟩ (.int .i64 v)).setCell ⟨w.heap.size, 2, none⟩ (.int .i64 ((n : Int) + 1)) = W3 := ⟨_, rfl⟩;rw [hW3] at HE ⊢
      (try simp only [Exit.inBlock, Exit.then])
      refine bodyPost_ret (lf_results_row_tmp rfl _ W3 w.heap.size _ _ _ _ rfl HE.out.1 Tryz.underlying127 rfl (by kernel_rfl)) rfl ?_;rw [HV.out];exact ⟨rfl, HE.out.2⟩
    ·have HV := hdn (show V = none by rw [<- hVn, decide_eq_false hq0]; rfl);clear hVn;have iq : q < 0 := by omega
     go_enter Tryz.func94, Tryz.ntmps94;go_wp2_with fail;refine cMq (H1.out _) ?_;rintro e w1 ⟨rfl, b1⟩;have hsz : w.heap.size + 1 ≤ w1.heap.size := by have := b1.size; simpa using this
     have b1' : Below w.heap.size w w1 := ((Below.refl _ w).alloc (Nat.le_refl _) _).trans (b1.mono (by simp));have g1 : w1.heap[w.heap.size]? = some (.cells #[.int .u8 0, .int .i64 0, .int .i64 0] 127 (0, 0)) := (b1.block _ (by simp)).trans (heap_alloc_new w _);have HB1 := hdn b1';have HG1 := hdn g1;clear b1 b1' g1;go_wp2_with fail;refine cMq (HAt.out _) ?_;rintro e w2 ⟨rfl, b2⟩;have g2 : w2.heap[w1.heap.size]? = some (.cells #[.int .u8 (c.toNat : Int), .int .i64 0, .int .i64 ((n : Int) + 1)] 127 (0, 0)) := (b2.block _ (by simp)).trans (heap_alloc_new w1 _)
     have g1 : w2.heap[w.heap.size]? = some (.cells #[.int .u8 0, .int .i64 0, .int .i64 0] 127 (0, 0)) := (b2.block _ (by simp; omega)).trans ((Below.heap_alloc w1 _ _ (show w.heap.size < w1.heap.size by omega)).trans HG1.out);have b2' : Below w.heap.size w w2 := HB1.out.trans ((Below.alloc (Below.refl _ w1) (by omega) _).trans (b2.mono (by simp; omega)));have hs2 : w1.heap.size + 1 ≤ w2.heap.size := by simpa using b2.size
     have q0 := fun i => cell_of_row w2 w.heap.size i _ _ _ g1;have q1 := fun i => cell_of_row w2 w1.heap.size i _ _ _ g2;have f0 : ∀ i, w2.frozen? ⟨w.heap.size, i, none⟩ = false := fun i => by simp [World.frozen?, g1]
     have f1 : ∀ i, w2.frozen? ⟨w1.heap.size, i, none⟩ = false := fun i => by simp [World.frozen?, g2]
     have HB2 := hdn b2';clear b2 b2';have G2 : (w2.setCell ⟨w1.heap.size, 1, none⟩ (.int .i64 v)).heap[w1.heap.size]? = some (.cells #[.int .u8 (c.toNat : Int), .int .i64 v, .int .i64 ((n : Int) + 1)] 127 (0, 0)) := by simpa using Joins.block_setCell g2 (i := 1) (.int .i64 v)
     have G1 : (w2.setCell ⟨w1.heap.size, 1, none⟩ (.int .i64 v)).heap[w.heap.size]? = some (.cells #[.int .u8 0, .int .i64 0, .int .i64 0] 127 (0, 0)) := (Below.heap_setCell w2 _ _ _ (show w.heap.size ≠ w1.heap.size by omega)).trans g1;have BB : Below w.heap.size w (w2.setCell ⟨w1.heap.size, 1, none⟩ (.int .i64 v)) := HB2.out.setCell (show w.heap.size ≤ w1.heap.size by omega) _;obtain ⟨W2, hW2⟩ : ∃ W2, w2.setCell ⟨w1.heap.size, 1, none⟩ (.int .i64 v) = W2 := ⟨_, rfl⟩;rw [hW2] at G1 G2 BB;have HW2 := hdn hW2;have HBB := hdn BB;have HG1' := hdn G1
     have hne : ¬ w.heap.size = w1.heap.size := by omega
     have qq0 := fun i => cell_of_row W2 w.heap.size i _ _ _ G1;have qq1 := fun i => cell_of_row W2 w1.heap.size i _ _ _ G2;have ff0 : ∀ i, W2.frozen? ⟨w.heap.size, i, none⟩ = false := fun i => by simp [World.frozen?, G1]
     clear hW2 BB;go_wp2_with fail;rw [HW2.out];go_wp2_with fail;refine cMq (HI.out _) ?_;rintro e w3 ⟨rfl, rfl⟩;go_wp2;have HE := hdn (list_end w W2 w.heap.size _ _ _ (.int .u8 0) (.int .i64 0) (.int .i64 0) HBB.out (Nat.le_refl _) HG1'.out);obtain ⟨W3, hW3⟩ : ∃ W3, (((W2 : World).setCell ⟨w.heap.size, 0, none⟩ (.int .u8 0)).setCell ⟨w.heap.size, 1, none⟩ (.int .i64 0)).setCell ⟨w.heap.size, 2, none⟩ (.int .i64 0) = W3 := ⟨_, rfl⟩;rw [hW3] at HE ⊢
     (try simp only [Exit.inBlock, Exit.then])
     refine bodyPost_ret (lf_results_row_tmp rfl _ W3 w.heap.size _ _ _ _ rfl HE.out.1 Tryz.underlying127 rfl (by kernel_rfl)) rfl ?_;rw [HV.out];exact ⟨rfl, HE.out.2⟩
  ·have hns2 : n = s.size := by omega
   have ins : ((n : Int) == (s.size : Int)) = true := by rw [hns2, beq_self_eq_true]
   have HV := hdn (show V = none by rw [<- hVn, get_none s n hns]);clear hVn hv0;go_enter Tryz.func94, Tryz.ntmps94;go_wp2_with fail;refine cMq (H1.out _) ?_;rintro e w1 ⟨rfl, b1⟩;have hsz : w.heap.size + 1 ≤ w1.heap.size := by have := b1.size; simpa using this
   have b1' : Below w.heap.size w w1 := ((Below.refl _ w).alloc (Nat.le_refl _) _).trans (b1.mono (by simp));have g1 : w1.heap[w.heap.size]? = some (.cells #[.int .u8 0, .int .i64 0, .int .i64 0] 127 (0, 0)) := (b1.block _ (by simp)).trans (heap_alloc_new w _);have HB1 := hdn b1';have HG1 := hdn g1;clear b1 b1' g1;have q0 := fun i => cell_of_row w1 w.heap.size i _ _ _ (show (w1 : World).heap[w.heap.size]? = _ from HG1.out);have f0 : ∀ i, (w1 : World).frozen? ⟨w.heap.size, i, none⟩ = false := fun i => by simp [World.frozen?, show (w1 : World).heap[w.heap.size]? = _ from HG1.out]
   go_wp2;have HE := hdn (list_end w w1 w.heap.size _ _ _ (.int .u8 0) (.int .i64 0) (.int .i64 0) HB1.out (Nat.le_refl _) HG1.out);obtain ⟨W3, hW3⟩ : ∃ W3, (((w1 : World).setCell ⟨w.heap.size, 0, none⟩ (.int .u8 0)).setCell ⟨w.heap.size, 1, none⟩ (.int .i64 0)).setCell ⟨w.heap.size, 2, none⟩ (.int .i64 0) = W3 := ⟨_, rfl⟩;rw [hW3] at HE ⊢
   (try simp only [Exit.inBlock, Exit.then])
   refine bodyPost_ret (lf_results_row_tmp rfl _ W3 w.heap.size _ _ _ _ rfl HE.out.1 Tryz.underlying127 rfl (by kernel_rfl)) rfl ?_;rw [HV.out];exact ⟨rfl, HE.out.2⟩
end
