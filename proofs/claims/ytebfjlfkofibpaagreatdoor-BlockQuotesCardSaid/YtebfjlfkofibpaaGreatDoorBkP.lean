/- leaf.Shut, leaf.Ends. -/
import Derived.Test.YtebfjlfkofibpaaGreatDoorLfItem
import Derived.Test.YtebfjlfkofibpaaGreatDoorLfHtml
import Derived.Test.YtebfjlfkofibpaaGreatDoorRsDefA
import Derived.Test.YtebfjlfkofibpaaGreatDoorBkCut
namespace Go.Proofs.YtebfjlfkofibpaaGreatDoor
set_option maxHeartbeats 4000000
set_option maxRecDepth 100000
section
open Go.RowKit
theorem shut_any (s : ByteArray) (c : Nat) (m : Int) (i : ByteArray) (w : World) (hs : s.size ≤ 1099511627) (hc : c < 256) : Calls Tryz.prog 50 #[.string s, .agg #[.int .u8 (c : Int), .int .i64 m, .string i]] w (RBw w (shutB s.data.toList c m)) := by
 obtain ⟨V, hV⟩ : ∃ V, shutB s.data.toList c m = V := ⟨_, rfl⟩;rw [hV];unfold shutB at hV;have HB0 := hdn (show Below w.heap.size w (w.alloc (.cells #[.int .u8 (c : Int), .int .i64 m, .string i] 48)) from (Below.refl _ w).alloc (Nat.le_refl _) _)
 by_cases hcc : c = 96 ∨ c = 126
 ·have hcb : (c == 96 || c == 126) = true := by rcases hcc with h | h <;> rw [h] <;> rfl
  rw [hcb, Bool.true_and] at hV;obtain ⟨cc, hcd⟩ : ∃ cc : UInt8, UInt8.ofNat c = cc := ⟨_, rfl⟩;have hct : cc.toNat = c := by rw [<- hcd, UInt8.toNat_ofNat']; omega
  have hF := fun w' => front_any s cc w' hs (by omega);have hle := frontN_le s.data.toList cc;rw [show s.data.toList.length = s.size from lTq] at hle;rw [hcd] at hV;obtain ⟨n, hn⟩ : ∃ n, frontN s.data.toList cc = n := ⟨_, rfl⟩;rw [hn] at hF hle hV;rw [hct] at hF;have HF := hdn hF;have hni : (n : Int) ≤ (s.size : Int) := by omega
  have HBl := fun w' => colsBlank_any (s.extract n s.size) w' (by have := (ext_at s n hle).2; omega);rw [(ext_at s n hle).1] at HBl;obtain ⟨q, hq⟩ : ∃ q, (blankT (s.data.toList.drop n)).isEmpty = q := ⟨_, rfl⟩;rw [hq] at HBl hV;have HBl := hdn HBl;clear hF hcd hn hq;have key : ∀ b : Bool, (((c : Int) != 96) = b) -> (b = true -> ((c : Int) != 126) = false) -> Calls Tryz.prog 50 #[.string s, .agg #[.int .u8 (c : Int), .int .i64 m, .string i]] w (RBw w V) := by
   intro b hb1 hb2
   by_cases hm : max m 3 ≤ (n : Int)
   ·rw [decide_eq_true hm, Bool.true_and] at hV;subst hV
    cases b with
    | true =>
     have hb3 := hb2 rfl;clear hb2 hcb hcc hct;go_enter Tryz.func50, Tryz.ntmps50;go_wp2_with fail;refine cMq (HF.out _) ?_;rintro e w1 ⟨rfl, rfl⟩;go_wp2_with fail;refine cMq (HBl.out _) ?_;rintro e w2 ⟨rfl, b2⟩;have B2 := hdn (below_on HB0.out b2);clear b2;go_wp2;go_ret;exact ⟨rfl, B2.out⟩
    | false =>
     clear hb2 hcb hcc hct;go_enter Tryz.func50, Tryz.ntmps50;go_wp2_with fail;refine cMq (HF.out _) ?_;rintro e w1 ⟨rfl, rfl⟩;go_wp2_with fail;refine cMq (HBl.out _) ?_;rintro e w2 ⟨rfl, b2⟩;have B2 := hdn (below_on HB0.out b2);clear b2;go_wp2;go_ret;exact ⟨rfl, B2.out⟩
   ·rw [decide_eq_false hm, Bool.false_and] at hV;subst hV
    cases b with
    | true =>
     have hb3 := hb2 rfl;clear hb2 hcb hcc hct;go_enter Tryz.func50, Tryz.ntmps50;go_wp2_with fail;refine cMq (HF.out _) ?_;rintro e w1 ⟨rfl, rfl⟩;go_wp2;go_ret;exact ⟨rfl, HB0.out⟩
    | false =>
     clear hb2 hcb hcc hct;go_enter Tryz.func50, Tryz.ntmps50;go_wp2_with fail;refine cMq (HF.out _) ?_;rintro e w1 ⟨rfl, rfl⟩;go_wp2;go_ret;exact ⟨rfl, HB0.out⟩
  refine key _ rfl fun h => ?_;rcases hcc with h2 | h2
  ·rw [h2] at h; cases h
  ·rw [h2]; rfl
 ·rw [not_or] at hcc;have h1 : ((c : Int) != 96) = true := by rw [bne_iff_ne]; omega
  have h2 : ((c : Int) != 126) = true := by rw [bne_iff_ne]; omega
  have hcb : (c == 96 || c == 126) = false := by simp [hcc.1, hcc.2]
  rw [hcb, Bool.false_and, Bool.false_and] at hV;subst hV;clear hcc hcb;go_enter Tryz.func50, Tryz.ntmps50;go_wp2;go_ret;exact ⟨rfl, HB0.out⟩
def endW (l : List UInt8) (w : List UInt8) : Bool := Lib.contains (lowerL l) ([60, 47] ++ w ++ [62])
def endL (k : Int) : ByteArray := if k = 2 then ⟨#[45, 45, 62]⟩ else if k = 3 then ⟨#[63, 62]⟩ else if k = 4 then ⟨#[62]⟩ else ⟨#[93, 93, 62]⟩
def endsB (l : List UInt8) (k : Int) : Bool :=
 if k = 1 then (Lib.fields rawsT.data.toList).any (endW l)
 else if k = 2 ∨ k = 3 ∨ k = 4 ∨ k = 5 then Lib.contains l (endL k).data.toList else false
structure GlobB (w : World) : Prop where
 sp : SpTab w
 max : ∃ m, w.cell? ⟨0, 0, none⟩ = some (.int .i64 m)
theorem GlobB.later {w w' : World} (h : GlobB w) (hb : Below w.heap.size w w') : GlobB w' := by
 refine ⟨h.sp.later hb, ?_⟩;obtain ⟨m, hm⟩ := h.max;have hlt : 0 < w.heap.size := World.block_lt_of_cell? w _ hm;exact ⟨m, (hb.cell (p := ⟨0, 0, none⟩) hlt).trans hm⟩
def EndW (W : World) (l : List UInt8) (ws : List (List UInt8)) (i : Value) (wr : World) : Prop := ∃ k : Nat, i = .int .i64 k ∧ k ≤ ws.length ∧ (ws.take k).any (endW l) = false ∧ Below W.heap.size W wr
theorem end_take (l : List UInt8) (ws : List (List UInt8)) (k : Nat) (hk : k < ws.length) : (ws.take (k + 1)).any (endW l) = ((ws.take k).any (endW l) || endW l ws[k]) := by
 rw [List.take_succ_eq_append_getElem hk, List.any_append];simp
theorem ends_one (s : ByteArray) (w : World) (hs : s.size ≤ 1099511627) (hG : GlobB w) : Calls Tryz.prog 61 #[.string s, .int .i64 1] w (RBw w (endsB s.data.toList 1)) := by
 have HL := hdn fun w' => lower_any s w' (by omega);have hll : (lowerL s.data.toList).length ≤ s.size := by unfold lowerL; rw [List.length_map]; exact Nat.le_of_eq lTq
 obtain ⟨L, hLe⟩ : ∃ L : ByteArray, (⟨(lowerL s.data.toList).toArray⟩ : ByteArray) = L := ⟨_, rfl⟩;have hLd : lowerL s.data.toList = L.data.toList := by rw [<- hLe]
 have hLs : L.size ≤ s.size := by rw [<- hLe]; exact hll
 unfold StrR at HL;rw [hLe] at HL;have hF := fun w' (h : SpTab w') => Tryz.strings_Fields rawsT w' (by decide) (all_ascii raws_ascii) h;have hws := small_all raws_small;have hwn := raws_n;obtain ⟨V, hV⟩ : ∃ V, endsB s.data.toList 1 = V := ⟨_, rfl⟩;rw [hV];unfold endsB at hV;rw [if_pos rfl] at hV;obtain ⟨ws, hwse⟩ : ∃ ws, Lib.fields rawsT.data.toList = ws := ⟨_, rfl⟩;rw [hwse] at hF hws hwn hV;obtain ⟨m, hm⟩ := hG.max;have hml := World.block_lt_of_cell? w _ hm
 have HC := hdn fun (sub : ByteArray) w' (hb : Below w.heap.size w w') => Tryz.strings_Contains L sub m w' (by omega) ((hb.cell (p := ⟨0, 0, none⟩) hml).trans hm);have HF := hdn hF;have HWS := hdn hws;have HV := hdn hV;have HLd := hdn hLd;have HSp := hdn hG.sp;clear hF hws hV hwse hLe hll hLd hm hml hG;go_enter Tryz.func61, Tryz.ntmps61;go_wp2_with fail;refine cMq (HF.out _ HSp.out) ?_;rintro e w2 ⟨rfl, hw2⟩;have bw : Below w.heap.size w w2 := by rw [hw2]; exact (Below.refl _ w).alloc (Nat.le_refl _) _
 have hbw : Box w2 w.heap.size 9 (ws.map fun l => Value.string ⟨l.toArray⟩).toArray := by rw [hw2]; exact Box.new w _ _
 have HBW := hdn bw;have HBX := hdn hbw;clear hw2 bw hbw;go_wp2_with fail
 go_loopw [6, 12] (fun _ v wr => EndW w2 s.data.toList ws v wr) (fun _ v _ => ws.length - (intOf v).toNat)
 case atStart => exact ⟨0, rfl, Nat.zero_le _, rfl, Below.refl _ _⟩
 case round =>
  obtain ⟨k, rfl, hk, hu, hbr⟩ := hrel;have HU := hdn hu;have HBR := hdn hbr;have HBWR := hdn (below_on HBW.out hbr);have hbx := HBX.out.below hbr (gSq.1 HBX.out).1;clear hu hbr
  by_cases hlt : k < ws.length
  ·have hki : (k : Int) < (ws.length : Int) := by omega
   have x1 := box_lie hbx k (.string ⟨ws[k].toArray⟩) (by simp);have x2 := hbx.cell k;rw [show (ws.map fun l => Value.string ⟨l.toArray⟩).toArray[k]? = some (.string ⟨ws[k].toArray⟩) by simp] at x2;have hsz := HWS.out _ (List.getElem_mem hlt);have ht1 := end_take s.data.toList ws k hlt;rw [HU.out, Bool.false_or] at ht1;obtain ⟨p, hp⟩ : ∃ p : ByteArray, p = ⟨ws[k].toArray⟩ := ⟨_, rfl⟩;have hpd : p.data.toList = ws[k] := by rw [hp]
   have hps : p.size ≤ 100 := by rw [hp]; exact hsz
   have hyes : endW s.data.toList ws[k] = true -> V = true := fun h => by
    rw [<- HV.out];exact List.any_eq_true.2 ⟨_, List.getElem_mem hlt, h⟩
   rw [<- hp] at x1 x2;have hcon : Lib.contains L.data.toList ((⟨#[60, 47]⟩ ++ p ++ ⟨#[62]⟩ : ByteArray)).data.toList = endW s.data.toList ws[k] := by
    unfold endW;rw [HLd.out, <- hpd];simp [ByteArray.data_append]
   have HC1 := hdn fun w' (hb : Below w.heap.size w w') => HC.out (⟨#[60, 47]⟩ ++ p ++ ⟨#[62]⟩) w' hb;rw [hcon] at HC1;clear hp hpd hsz hcon;obtain ⟨q, hq⟩ : ∃ q, endW s.data.toList ws[k] = q := ⟨_, rfl⟩;rw [hq] at HC1 ht1 hyes;have HT1 := hdn ht1;clear ht1 hq
   cases q with
   | true =>
    have HY := hdn (hyes rfl);clear hyes;go_wp2_with fail;refine cMq (HL.out _) ?_;rintro e w3 ⟨rfl, b3⟩;have B3 := hdn (below_on HBWR.out b3);clear b3;go_wp2_with fail;refine cMq (HC1.out _ B3.out) ?_;rintro e w4 ⟨rfl, rfl⟩;go_wp2;go_ret;rw [HY.out];exact ⟨rfl, B3.out⟩
   | false =>
    clear hyes;go_wp2_with fail;refine cMq (HL.out _) ?_;rintro e w3 ⟨rfl, b3⟩;have B3 := hdn (below_on HBWR.out b3);have B4 := hdn (below_on HBR.out b3);clear b3;go_wp2_with fail;refine cMq (HC1.out _ B3.out) ?_;rintro e w4 ⟨rfl, rfl⟩;go_wp2
    go_roundw
    case rel => exact ⟨k + 1, rfl, by omega, HT1.out, B4.out⟩
    case measure => simp [intOf]; omega
  ·have hki : ¬ (k : Int) < (ws.length : Int) := by omega
   have hkl : ws.take k = ws := List.take_of_length_le (by omega);have hv : V = false := by
    have h1 := HU.out;rw [hkl] at h1;rw [<- HV.out]; exact h1
   subst hv;clear hkl hbx HU HV;go_wp2;go_ret;exact ⟨rfl, HBWR.out⟩
theorem ends_any (s : ByteArray) (k : Nat) (w : World) (hs : s.size ≤ 1099511627) (hG : GlobB w) : Calls Tryz.prog 61 #[.string s, .int .i64 (k : Int)] w (RBw w (endsB s.data.toList (k : Int))) := by
 by_cases h1 : k = 1
 ·subst h1;exact ends_one s w hs hG
 ·obtain ⟨m, hm⟩ := hG.max;have hml := World.block_lt_of_cell? w _ hm;have HC := hdn fun (sub : ByteArray) w' (hb : Below w.heap.size w w') => Tryz.strings_Contains s sub m w' (by omega) ((hb.cell (p := ⟨0, 0, none⟩) hml).trans hm);have i1 : ((k : Int) == 1) = false := by rw [beq_eq_false_iff_ne]; omega
  have hb : Below w.heap.size w (w.alloc (.cells #[.string ⟨#[45, 45, 62]⟩, .string ⟨#[63, 62]⟩, .string ⟨#[62]⟩, .string ⟨#[93, 93, 62]⟩] 9)) := (Below.refl _ w).alloc (Nat.le_refl _) _;have HB := hdn hb;have HX := hdn (Box.new w 9 #[.string ⟨#[45, 45, 62]⟩, .string ⟨#[63, 62]⟩, .string ⟨#[62]⟩, .string ⟨#[93, 93, 62]⟩]);clear hm hml hb hG
  by_cases h25 : 2 ≤ k ∧ k ≤ 5
  ·obtain rfl | rfl | rfl | rfl : k = 2 ∨ k = 3 ∨ k = 4 ∨ k = 5 := by omega
   all_goals
    have x1 := fun j => HX.out.cell j;clear h1 h25;go_enter Tryz.func61, Tryz.ntmps61;go_wp2_with fail;refine cMq (HC.out _ _ HB.out) ?_;rintro e w1 ⟨rfl, rfl⟩;go_wp2;go_ret;exact ⟨rfl, HB.out⟩
  ·have hV : endsB s.data.toList (k : Int) = false := by
    unfold endsB;rw [if_neg (by omega), if_neg (by omega)]
   rw [hV];have i2 : ((k : Int) == 2) = false := by rw [beq_eq_false_iff_ne]; omega
   have i3 : ((k : Int) == 3) = false := by rw [beq_eq_false_iff_ne]; omega
   have i4 : ((k : Int) == 4) = false := by rw [beq_eq_false_iff_ne]; omega
   have i5 : ((k : Int) == 5) = false := by rw [beq_eq_false_iff_ne]; omega
   clear h1 h25 hV;go_enter Tryz.func61, Tryz.ntmps61;go_wp2;go_ret;exact ⟨rfl, Below.refl _ w⟩
end
section
open Go.RowKit
def cutCells : List UInt8 -> UInt8 -> List UInt8 -> List (List UInt8)
 | [], _, acc => [acc]
 | c :: l, p, acc => if c = 124 ∧ p ≠ 92 then acc :: cutCells l c [] else cutCells l c (acc ++ [c])
def unbar : List UInt8 -> List UInt8
 | [] => []
 | [c] => [c]
 | c :: d :: l => if c = 92 ∧ d = 124 then 124 :: unbar l else c :: unbar (d :: l)
def barS (l : List UInt8) : List UInt8 :=
 let t := blankT l
 let u := if t.head? = some 124 then t.drop 1 else t
 if u.getLast? = some 124 ∧ u.dropLast.getLast? ≠ some 92 then u.dropLast else u
def cellsL (l : List UInt8) : List (List UInt8) := (cutCells (barS l) 0 []).map fun c => blankT (unbar c)
def rowL (s : ByteArray) : List ByteArray := (cellsL s.data.toList).map fun c => ⟨c.toArray⟩
def alignC (c : List UInt8) : Option UInt8 :=
 let bare := Lib.trimB c 58
 let left := c.head? == some 58
 let right := c.getLast? == some 58
 let n := c.length - bare.length
 if bare = [] ∨ Lib.trimB bare 45 ≠ [] ∨ 2 < n ∨ (n = 2 ∧ ¬ (left = true ∧ right = true)) ∨ c.take 2 = [58, 58] ∨ (c.reverse.take 2 = [58, 58]) then none
 else some (if left = true ∧ right = true then 2 else if left = true then 1 else if right = true then 3 else 0)
def alignsF : List (List UInt8) -> Option (List UInt8)
 | [] => some []
 | c :: l => match alignC c, alignsF l with
  | some a, some r => some (a :: r)
  | _, _ => none
def alignsL (s : ByteArray) : Option (List UInt8) := if (124 : UInt8) ∈ s.data.toList then alignsF (cellsL s.data.toList) else none
end
section
open Go.RowKit
structure Nd where
 kind : Nat
 level : Int
 mark : Nat
 start : Int
 info : ByteArray
 text : ByteArray
 align : List UInt8
 parent : Option Nat
 kids : List Nat
 opn : Bool
 first : Int
 last : Int
 lines : List ByteArray
 indent : Int
 fc : Nat
 fm : Int
 fi : ByteArray
 offset : Int
 html : Int
def Nd.new (k : Nat) : Nd := ⟨k, 0, 0, 0, ⟨#[]⟩, ⟨#[]⟩, [], none, [], false, 0, 0, [], 0, 0, 0, ⟨#[]⟩, 0, 0⟩
abbrev RefT : Type := ByteArray × ByteArray × ByteArray
structure Rd where
 nds : List Nd
 rest : ByteArray
 col : Nat
 n : Nat
 cur : Option Nat
 tip : Option Nat
 lzy : Bool
 refs : List RefT
def Rd.nd (r : Rd) (i : Nat) : Nd := r.nds.getD i (Nd.new 0)
def Rd.upd (r : Rd) (i : Nat) (d : Nd) : Rd := { r with nds := r.nds.set i d }
def Rd.inner (r : Rd) (b : Nat) : Option Nat := match (r.nd b).kids.getLast? with
 | some k => if (r.nd k).opn = true then some k else none
 | none => none
def Rd.deepF : Nat -> Rd -> Nat -> Nat
 | 0, _, b => b
 | f + 1, r, b => match r.inner b with
  | some k => Rd.deepF f r k
  | none => b
def Rd.deepest (r : Rd) (b : Nat) : Nat := Rd.deepF r.nds.length r b
def holdsB (k kind : Nat) : Bool := if k = 3 then kind == 4 else if k = 1 ∨ k = 2 ∨ k = 4 then kind != 4 else false
def Rd.bareT (r : Rd) : ByteArray := ⟨(Lib.trimLeftS r.rest.data.toList [32, 9]).toArray⟩
def Rd.bareW (r : Rd) : Nat := widthN r.rest.data.toList r.col
def Rd.cut (r : Rd) (n : Nat) : Rd := { r with rest := ⟨(cutN r.rest.data.toList r.col n).1.toArray⟩, col := (cutN r.rest.data.toList r.col n).2 }
def Rd.pass (r : Rd) (n : Nat) : Rd := { r with rest := r.bareT.extract n r.bareT.size, col := r.col + r.bareW + n }
def defineF : Nat -> ByteArray -> List RefT -> ByteArray × List RefT
 | 0, s, l => (s, l)
 | f + 1, s, l => if (defV s).2.2.2 = 0 then (s, l) else
  defineF f (s.extract (defV s).2.2.2 s.size) (if l.any (fun y => decide (y.1 = (defV s).1)) then l else l ++ [((defV s).1, (defV s).2.1, (defV s).2.2.1)])
def trailL (l : List ByteArray) : List ByteArray := (l.reverse.dropWhile fun x => (blankT x.data.toList).isEmpty).reverse
def joinN (l : List ByteArray) : ByteArray := ⟨(joinLK l).toArray⟩
def linesN (t : ByteArray) (l : List ByteArray) : ByteArray := l.foldl (fun a y => a ++ (y ++ ⟨#[10]⟩)) t
def trimN (s : ByteArray) : ByteArray := ⟨(Lib.trimS s.data.toList [32, 9, 10]).toArray⟩
def Rd.shut (r : Rd) (b : Nat) : Rd :=
 let d := { r.nd b with opn := false }
 if d.kind = 5 then
  let x := defineF (joinN d.lines).size (joinN d.lines) r.refs
  let r1 := { (r.upd b { d with text := trimN x.1 }) with refs := x.2 }
  if (trimN x.1).size = 0 then
   match d.parent with
   | some p => r1.upd p { r1.nd p with kids := (r1.nd p).kids.dropLast }
   | none => r1
  else r1
 else if d.kind = 7 then
  let l := if 0 < d.fm then d.lines else trailL d.lines
  r.upd b { d with lines := l, text := linesN d.text l }
 else if d.kind = 8 then r.upd b { d with text := joinN (trailL d.lines) }
 else if d.kind = 4 ∨ d.kind = 3 then
  r.upd b { d with last := match d.kids.getLast? with | some k => (r.nd k).last | none => d.first }
 else if d.kind = 2 then
  r.upd b { d with last := match d.kids.getLast? with | some k => max d.last (r.nd k).last | none => d.last }
 else r.upd b d
def Rd.closeF : Nat -> Rd -> Nat -> Rd
 | 0, r, _ => r
 | f + 1, r, b => (match r.inner b with | some k => Rd.closeF f r k | none => r).shut b
def Rd.close (r : Rd) (b : Nat) : Rd := Rd.closeF r.nds.length r b
def Rd.settle (r : Rd) : Rd := match r.cur with
 | some a => match r.inner a with
  | some k => r.close k
  | none => r
 | none => r
end
