/- ent.table. -/
import Derived.Test.YtebfjlfkofibpaaGreatDoorRsCur
import Derived.Maps.OwnOps
import Derived.Maps.OwnSet
import Derived.StringKeys
import Derived.Deep.DeepCutAuto
import Derived.Laws.Runes
import Derived.Deep.RegionWith
namespace Go.Proofs.YtebfjlfkofibpaaGreatDoor
set_option maxHeartbeats 40000000
set_option maxRecDepth 1000000
section
open Go.RowKit Go.Maps
def entR (v : Value) : Option (DataW Unit × List MemPlace) := match v with
 | .agg a => match a.toList with
  | [.string s, .bool b] => some (.lit (.string ((if b then 1 else 0) :: s.data.toList)), [])
  | _ => none
 | _ => none
def entD (is : ByteArray) (b : Bool) : DataW Unit := .lit (.string ((if b then 1 else 0) :: is.data.toList))
theorem entR_mk (is : ByteArray) (b : Bool) : entR (.agg #[.string is, .bool b]) = some (entD is b, []) := rfl
theorem entR_inv {v : Value} {is : ByteArray} {b : Bool} {ps : List MemPlace} (h : entR v = some (entD is b, ps)) : v = .agg #[.string is, .bool b] := by
 unfold entR at h
 cases v <;> simp only at h <;> try cases h
 rename_i a;split at h
 ·rename_i s b' ha;have h1 := Option.some.inj h;have h2 : (DataW.lit (.string ((if b' then 1 else 0) :: s.data.toList)) : DataW Unit) = entD is b := congrArg Prod.fst h1;unfold entD at h2;injection h2 with h3;injection h3 with h4;have h5 : s = is := ByteArray.ext (Array.toList_inj.1 (List.cons.inj h4).2);have h6 : b' = b := by
   have := (List.cons.inj h4).1
   revert this
   cases b' <;> cases b <;> decide
  rw [h5, h6] at ha;have : a = #[.string is, .bool b] := by rw [<- Array.toList_inj]; exact ha
  rw [this]
 ·cases h
def tabL : List (ByteArray × ByteArray × Bool) := [(⟨#[97, 109, 112]⟩, ⟨#[38]⟩, true), (⟨#[65, 77, 80]⟩, ⟨#[38]⟩, true), (⟨#[108, 116]⟩, ⟨#[60]⟩, true), (⟨#[76, 84]⟩, ⟨#[60]⟩, true), (⟨#[103, 116]⟩, ⟨#[62]⟩, true), (⟨#[71, 84]⟩, ⟨#[62]⟩, true), (⟨#[113, 117, 111, 116]⟩, ⟨#[34]⟩, true), (⟨#[81, 85, 79, 84]⟩, ⟨#[34]⟩, true), (⟨#[110, 98, 115, 112]⟩, ⟨#[194, 160]⟩, true), (⟨#[99, 111, 112, 121]⟩, ⟨#[194, 169]⟩, true), (⟨#[67, 79, 80, 89]⟩, ⟨#[194, 169]⟩, true), (⟨#[114, 101, 103]⟩, ⟨#[194, 174]⟩, true), (⟨#[110, 111, 116]⟩, ⟨#[194, 172]⟩, true), (⟨#[112, 97, 114, 97]⟩, ⟨#[194, 182]⟩, true), (⟨#[115, 101, 99, 116]⟩, ⟨#[194, 167]⟩, true), (⟨#[99, 101, 110, 116]⟩, ⟨#[194, 162]⟩, true), (⟨#[112, 111, 117, 110, 100]⟩, ⟨#[194, 163]⟩, true), (⟨#[121, 101, 110]⟩, ⟨#[194, 165]⟩, true), (⟨#[100, 101, 103]⟩, ⟨#[194, 176]⟩, true), (⟨#[109, 105, 99, 114, 111]⟩, ⟨#[194, 181]⟩, true), (⟨#[116, 105, 109, 101, 115]⟩, ⟨#[195, 151]⟩, true), (⟨#[100, 105, 118, 105, 100, 101]⟩, ⟨#[195, 183]⟩, true), (⟨#[102, 114, 97, 99, 49, 50]⟩, ⟨#[194, 189]⟩, true), (⟨#[108, 97, 113, 117, 111]⟩, ⟨#[194, 171]⟩, true), (⟨#[114, 97, 113, 117, 111]⟩, ⟨#[194, 187]⟩, true), (⟨#[105, 101, 120, 99, 108]⟩, ⟨#[194, 161]⟩, true), (⟨#[105, 113, 117, 101, 115, 116]⟩, ⟨#[194, 191]⟩, true), (⟨#[109, 105, 100, 100, 111, 116]⟩, ⟨#[194, 183]⟩, true), (⟨#[112, 108, 117, 115, 109, 110]⟩, ⟨#[194, 177]⟩, true), (⟨#[101, 97, 99, 117, 116, 101]⟩, ⟨#[195, 169]⟩, true), (⟨#[69, 97, 99, 117, 116, 101]⟩, ⟨#[195, 137]⟩, true), (⟨#[97, 103, 114, 97, 118, 101]⟩, ⟨#[195, 160]⟩, true), (⟨#[99, 99, 101, 100, 105, 108]⟩, ⟨#[195, 167]⟩, true), (⟨#[111, 117, 109, 108]⟩, ⟨#[195, 182]⟩, true), (⟨#[79, 117, 109, 108]⟩, ⟨#[195, 150]⟩, true), (⟨#[97, 117, 109, 108]⟩, ⟨#[195, 164]⟩, true), (⟨#[65, 117, 109, 108]⟩, ⟨#[195, 132]⟩, true), (⟨#[117, 117, 109, 108]⟩, ⟨#[195, 188]⟩, true), (⟨#[85, 117, 109, 108]⟩, ⟨#[195, 156]⟩, true), (⟨#[115, 122, 108, 105, 103]⟩, ⟨#[195, 159]⟩, true), (⟨#[110, 116, 105, 108, 100, 101]⟩, ⟨#[195, 177]⟩, true), (⟨#[115, 104, 121]⟩, ⟨#[194, 173]⟩, true), (⟨#[97, 112, 111, 115]⟩, ⟨#[39]⟩, false), (⟨#[104, 101, 108, 108, 105, 112]⟩, ⟨#[226, 128, 166]⟩, false), (⟨#[109, 100, 97, 115, 104]⟩, ⟨#[226, 128, 148]⟩, false), (⟨#[110, 100, 97, 115, 104]⟩, ⟨#[226, 128, 147]⟩, false), (⟨#[108, 115, 113, 117, 111]⟩, ⟨#[226, 128, 152]⟩, false), (⟨#[114, 115, 113, 117, 111]⟩, ⟨#[226, 128, 153]⟩, false), (⟨#[108, 100, 113, 117, 111]⟩, ⟨#[226, 128, 156]⟩, false), (⟨#[114, 100, 113, 117, 111]⟩, ⟨#[226, 128, 157]⟩, false), (⟨#[98, 117, 108, 108]⟩, ⟨#[226, 128, 162]⟩, false), (⟨#[101, 117, 114, 111]⟩, ⟨#[226, 130, 172]⟩, false), (⟨#[116, 114, 97, 100, 101]⟩, ⟨#[226, 132, 162]⟩, false), (⟨#[108, 97, 114, 114]⟩, ⟨#[226, 134, 144]⟩, false), (⟨#[114, 97, 114, 114]⟩, ⟨#[226, 134, 146]⟩, false), (⟨#[104, 97, 114, 114]⟩, ⟨#[226, 134, 148]⟩, false), (⟨#[105, 110, 102, 105, 110]⟩, ⟨#[226, 136, 158]⟩, false), (⟨#[110, 101]⟩, ⟨#[226, 137, 160]⟩, false), (⟨#[108, 101]⟩, ⟨#[226, 137, 164]⟩, false), (⟨#[103, 101]⟩, ⟨#[226, 137, 165]⟩, false), (⟨#[115, 117, 109]⟩, ⟨#[226, 136, 145]⟩, false), (⟨#[112, 114, 111, 100]⟩, ⟨#[226, 136, 143]⟩, false), (⟨#[114, 97, 100, 105, 99]⟩, ⟨#[226, 136, 154]⟩, false), (⟨#[110, 111, 116, 105, 110]⟩, ⟨#[226, 136, 137]⟩, false), (⟨#[97, 108, 112, 104, 97]⟩, ⟨#[206, 177]⟩, false), (⟨#[98, 101, 116, 97]⟩, ⟨#[206, 178]⟩, false), (⟨#[103, 97, 109, 109, 97]⟩, ⟨#[206, 179]⟩, false), (⟨#[100, 101, 108, 116, 97]⟩, ⟨#[206, 180]⟩, false), (⟨#[101, 112, 115, 105, 108, 111, 110]⟩, ⟨#[206, 181]⟩, false), (⟨#[108, 97, 109, 98, 100, 97]⟩, ⟨#[206, 187]⟩, false), (⟨#[109, 117]⟩, ⟨#[206, 188]⟩, false), (⟨#[112, 105]⟩, ⟨#[207, 128]⟩, false), (⟨#[115, 105, 103, 109, 97]⟩, ⟨#[207, 131]⟩, false), (⟨#[111, 109, 101, 103, 97]⟩, ⟨#[207, 137]⟩, false), (⟨#[79, 109, 101, 103, 97]⟩, ⟨#[206, 169]⟩, false), (⟨#[83, 105, 103, 109, 97]⟩, ⟨#[206, 163]⟩, false), (⟨#[108, 98, 114, 97, 99, 101]⟩, ⟨#[123]⟩, false), (⟨#[114, 98, 114, 97, 99, 101]⟩, ⟨#[125]⟩, false), (⟨#[108, 98, 114, 97, 99, 107]⟩, ⟨#[91]⟩, false), (⟨#[114, 98, 114, 97, 99, 107]⟩, ⟨#[93]⟩, false), (⟨#[108, 112, 97, 114]⟩, ⟨#[40]⟩, false), (⟨#[114, 112, 97, 114]⟩, ⟨#[41]⟩, false), (⟨#[97, 115, 116]⟩, ⟨#[42]⟩, false), (⟨#[110, 117, 109]⟩, ⟨#[35]⟩, false), (⟨#[115, 111, 108]⟩, ⟨#[47]⟩, false), (⟨#[98, 115, 111, 108]⟩, ⟨#[92]⟩, false), (⟨#[99, 111, 108, 111, 110]⟩, ⟨#[58]⟩, false), (⟨#[115, 101, 109, 105]⟩, ⟨#[59]⟩, false), (⟨#[101, 120, 99, 108]⟩, ⟨#[33]⟩, false), (⟨#[101, 113, 117, 97, 108, 115]⟩, ⟨#[61]⟩, false), (⟨#[103, 114, 97, 118, 101]⟩, ⟨#[96]⟩, false), (⟨#[108, 111, 119, 98, 97, 114]⟩, ⟨#[95]⟩, false), (⟨#[118, 101, 114, 116]⟩, ⟨#[124]⟩, false), (⟨#[84, 97, 98]⟩, ⟨#[9]⟩, false), (⟨#[78, 101, 119, 76, 105, 110, 101]⟩, ⟨#[10]⟩, false), (⟨#[110, 103, 69]⟩, ⟨#[226, 137, 167, 204, 184]⟩, false), (⟨#[110, 118, 108, 116]⟩, ⟨#[60, 226, 131, 146]⟩, false), (⟨#[97, 99, 69]⟩, ⟨#[226, 136, 190, 204, 179]⟩, false)]
def tabD : List (ByteArray × ByteArray × Bool) -> DataW Unit -> DataW Unit
 | [], D => D
 | x :: r, D => tabD r (D.put (.string x.1.data.toList) (entD x.2.1 x.2.2))
def TabAt (w : World) (B : Nat) : Prop := w.ownsMap (H := Unit) Tryz.prog 9 entR B 98 (tabD tabL (.map []))
theorem TabAt.later {w w' : World} {B : Nat} (h : TabAt w B) (hb : Below w.heap.size w w') : TabAt w' B := by
 obtain ⟨es, clock, h1, h2⟩ := h;exact ⟨es, clock, (hb.block _ (gSq.1 h1).1).trans h1, h2⟩
theorem tab_keyed : Keyed Tryz.prog 9 := string_keyed Tryz.underlying9
theorem put_size (a : Act) (d : Option Nat) (v : Value) : (a.put d v).tmps.size = a.tmps.size := by
 cases d with
 | none => rfl
 | some k => simp [Act.put]
theorem put_defers (a : Act) (d : Option Nat) (v : Value) : (a.put d v).defers = a.defers := by
 cases d with
 | none => rfl
 | some k => rfl
theorem put_other (a : Act) (k j : Nat) (v : Value) (h : k ≠ j) : (a.put (some k) v).eval (.tmp j) = a.eval (.tmp j) := by
 simp [Act.put, Act.eval, Array.getD_eq_getD_getElem?, h]
theorem put_same (a : Act) (k : Nat) (v : Value) (h : k < a.tmps.size) : (a.put (some k) v).eval (.tmp k) = v := by
 simp [Act.put, Act.eval, Array.getD_eq_getD_getElem?, h]
theorem run_entry (is : ByteArray) (b : Bool) (w : World) : (Instr.build 177 #[(0, .string is), (1, .bool b)]).run Tryz.prog w = .ok (.agg #[.string is, .bool b]) w := by kernel_rfl
theorem wp_pair {ops : Array Oper} {rest : List Oper} {o1 o2 : Oper} {a : Act} {Q : Exit -> Act -> World -> Prop} (w : World) (k b n : Nat) (key is : ByteArray) (bare : Bool) (D : DataW Unit) (h1 : o1.op = Op.build 177 #[(0, .const (.string is)), (1, .const (.bool bare))]) (hd1 : o1.dst = some k) (hg1 : o1.guard = none)
  (h2 : o2.op = Op.insert 179 (.tmp 1) (.const (.string key)) (.tmp k)) (hd2 : o2.dst = none) (hg2 : o2.guard = none) (hk : k ≠ 1) (hks : k < 101) (hs : a.tmps.size = 101) (hm : a.eval (.tmp 1) = .map (some b)) (hown : w.ownsMap (H := Unit) Tryz.prog 9 entR b n D) (hn : n < maxLen) (hkey : key.size ≤ maxLen)
  (hK : ∀ (a' : Act) (w' : World), a'.tmps.size = 101 -> a'.defers = a.defers -> a'.eval (.tmp 1) = .map (some b) -> w'.ownsMap (H := Unit) Tryz.prog 9 entR b (n + 1) (D.put (.string key.data.toList) (entD is bare)) -> w.grownBy w' (some b) -> wpList Tryz.prog ops Q rest a' w') : wpList Tryz.prog ops Q (o1 :: o2 :: rest) a w := by
 refine wpList_plain hg1 fun K hK1 => ?_;have r1 : (execOp a.eval o1).run Tryz.prog w = .ok (.value (.agg #[.string is, .bool bare])) w := by
  have := run_entry is bare w;simp [execOp, h1, Act.eval, this, Result.andThen]
 unfold Oper.wp;rw [r1];refine hK1 _ _ ?_;refine wpList_plain hg2 fun K2 hK2 => ?_;rw [hd1];obtain ⟨w2, hrun, q1, q2⟩ := hown.update tab_keyed Tryz.underlying179 hn (WideMaps.keyOf_string_mk Tryz.underlying9 hkey) (entR_mk is bare);have e1 := put_other a k 1 (.agg #[.string is, .bool bare]) hk;have e2 := put_same a k (.agg #[.string is, .bool bare]) (by omega);have r2 : (execOp (a.put (some k) (.agg #[.string is, .bool bare])).eval o2).run Tryz.prog w = .ok .skip w2 := by
  simp only [execOp, h2, e1, hm, e2];simp [Act.eval, hrun, Result.andThen]
 unfold Oper.wp;rw [r2];refine hK2 _ _ (hK _ _ ?_ ?_ ?_ q1 q2)
 ·rw [put_size, put_size, hs]
 ·rw [put_defers, put_defers]
 ·rw [hd2];exact e1.trans hm
theorem wp_make {ops : Array Oper} {rest : List Oper} {o : Oper} {a : Act} {Q : Exit -> Act -> World -> Prop} (w : World) (h1 : o.op = Op.makeMap 179 none) (hd : o.dst = some 1) (hg : o.guard = none) (hs : a.tmps.size = 101)
  (hK : ∀ (a' : Act), a'.tmps.size = 101 -> a'.defers = a.defers -> a'.eval (.tmp 1) = .map (some w.heap.size) -> wpList Tryz.prog ops Q rest a' (w.alloc (.map #[] 0))) : wpList Tryz.prog ops Q (o :: rest) a w := by
 refine wpList_plain hg fun K hK1 => ?_;have hr := @run_makeMap Tryz.prog;have r1 : (execOp a.eval o).run Tryz.prog w = .ok (.value (.map (some w.heap.size))) (w.alloc (.map #[] 0)) := by
  simp [execOp, h1, hr, Result.andThen]
 unfold Oper.wp;rw [r1];refine hK1 _ _ ?_;rw [hd];refine hK _ ?_ ?_ ?_
 ·rw [put_size, hs]
 ·rw [put_defers]
 ·exact put_same a 1 _ (by omega)
theorem wp_mv {ops : Array Oper} {rest : List Oper} {o : Oper} {a : Act} {Q : Exit -> Act -> World -> Prop} (w : World) (j k : Nat) (v : Value) (h1 : o.op = Op.move (.tmp j) ∨ o.op = Op.assign (.tmp j)) (hd : o.dst = some k) (hg : o.guard = none) (hs : a.tmps.size = 101) (hk : k < 101) (hm : a.eval (.tmp j) = v)
  (hK : ∀ (a' : Act), a'.tmps.size = 101 -> a'.defers = a.defers -> a'.eval (.tmp k) = v -> wpList Tryz.prog ops Q rest a' w) : wpList Tryz.prog ops Q (o :: rest) a w := by
 refine wpList_plain hg fun K hK1 => ?_;have r1 : (execOp a.eval o).run Tryz.prog w = .ok (.value v) w := by
  rcases h1 with h1 | h1
  ·simp [execOp, h1, hm]
  ·simp [execOp, h1, hm]
 unfold Oper.wp;rw [r1];refine hK1 _ _ ?_;rw [hd];refine hK _ ?_ ?_ ?_
 ·rw [put_size, hs]
 ·rw [put_defers]
 ·exact put_same a k _ (by omega)
structure PairS (w0 : World) (a0 a : Act) (w : World) (n : Nat) (D : DataW Unit) : Prop where
 s : a.tmps.size = 101
 d : a.defers = a0.defers
 m : a.eval (.tmp 1) = .map (some w0.heap.size)
 own : w.ownsMap (H := Unit) Tryz.prog 9 entR w0.heap.size n D
 b : Below w0.heap.size w0 w
theorem wp_p {ops : Array Oper} {rest : List Oper} {a a0 : Act} {Q : Exit -> Act -> World -> Prop} {w0 w : World} {k n : Nat} {key is : ByteArray} {bare : Bool} {D : DataW Unit} {g1 g2 : TypeId} {p1 p2 : String} {f1 f2 : Array Edge} (hk : k ≠ 1 ∧ k < 101 ∧ n < maxLen ∧ key.size ≤ maxLen) (h : PairS w0 a0 a w n D)
  (hK : ∀ (a' : Act) (w' : World), PairS w0 a0 a' w' (n + 1) (D.put (.string key.data.toList) (entD is bare)) -> wpList Tryz.prog ops Q rest a' w') :
  wpList Tryz.prog ops Q (⟨some k, Op.build 177 #[(0, .const (.string is)), (1, .const (.bool bare))], g1, p1, f1, none⟩ :: ⟨none, Op.insert 179 (.tmp 1) (.const (.string key)) (.tmp k), g2, p2, f2, none⟩ :: rest) a w :=
 wp_pair w k w0.heap.size n key is bare D rfl rfl rfl rfl rfl rfl hk.1 hk.2.1 h.s h.m h.own hk.2.2.1 hk.2.2.2 fun a' w' s d m o g => hK a' w' ⟨s, d.trans h.d, m, o, h.b.grown g h.b.size (fun j hj => by cases hj; exact Nat.le_refl _)⟩
theorem table_any (w : World) : Calls Tryz.prog 170 #[] w fun e w' => ∃ B, e = .returned (.map (some B)) ∧ TabAt w' B ∧ w.heap.size ≤ B ∧ Below w.heap.size w w' := by
 go_enter Tryz.func170, Tryz.ntmps170
 go_upto_region 1 with fail
 refine wp_region_lit ?_;generalize hops : List.toArray _ = ops;clear hops;rename_i K hKK;refine wp_make _ rfl rfl rfl rfl (fun a1 s1 d1 m1 => ?_);have h : PairS w _ a1 (w.alloc (.map #[] 0)) 0 _ := ⟨s1, d1, m1, World.ownsMap_made w Tryz.prog 9 entR, (Below.refl _ w).alloc (Nat.le_refl _) _⟩;generalize w.alloc (.map #[] 0) = w0 at *;refine wp_p (by decide) h fun a v h => ?_;refine wp_p (by decide) h fun a v h => ?_;refine wp_p (by decide) h fun a v h => ?_;refine wp_p (by decide) h fun a v h => ?_;refine wp_p (by decide) h fun a v h => ?_;refine wp_p (by decide) h fun a v h => ?_
 refine wp_p (by decide) h fun a v h => ?_;refine wp_p (by decide) h fun a v h => ?_;refine wp_p (by decide) h fun a v h => ?_;refine wp_p (by decide) h fun a v h => ?_;refine wp_p (by decide) h fun a v h => ?_;refine wp_p (by decide) h fun a v h => ?_;refine wp_p (by decide) h fun a v h => ?_;refine wp_p (by decide) h fun a v h => ?_;refine wp_p (by decide) h fun a v h => ?_;refine wp_p (by decide) h fun a v h => ?_;refine wp_p (by decide) h fun a v h => ?_;refine wp_p (by decide) h fun a v h => ?_;refine wp_p (by decide) h fun a v h => ?_;refine wp_p (by decide) h fun a v h => ?_
 refine wp_p (by decide) h fun a v h => ?_;refine wp_p (by decide) h fun a v h => ?_;refine wp_p (by decide) h fun a v h => ?_;refine wp_p (by decide) h fun a v h => ?_;refine wp_p (by decide) h fun a v h => ?_;refine wp_p (by decide) h fun a v h => ?_;refine wp_p (by decide) h fun a v h => ?_;refine wp_p (by decide) h fun a v h => ?_;refine wp_p (by decide) h fun a v h => ?_;refine wp_p (by decide) h fun a v h => ?_;refine wp_p (by decide) h fun a v h => ?_;refine wp_p (by decide) h fun a v h => ?_;refine wp_p (by decide) h fun a v h => ?_;refine wp_p (by decide) h fun a v h => ?_
 refine wp_p (by decide) h fun a v h => ?_;refine wp_p (by decide) h fun a v h => ?_;refine wp_p (by decide) h fun a v h => ?_;refine wp_p (by decide) h fun a v h => ?_;refine wp_p (by decide) h fun a v h => ?_;refine wp_p (by decide) h fun a v h => ?_;refine wp_p (by decide) h fun a v h => ?_;refine wp_p (by decide) h fun a v h => ?_;refine wp_p (by decide) h fun a v h => ?_;refine wp_p (by decide) h fun a v h => ?_;refine wp_p (by decide) h fun a v h => ?_;refine wp_p (by decide) h fun a v h => ?_;refine wp_p (by decide) h fun a v h => ?_;refine wp_p (by decide) h fun a v h => ?_
 refine wp_p (by decide) h fun a v h => ?_;refine wp_p (by decide) h fun a v h => ?_;refine wp_p (by decide) h fun a v h => ?_;refine wp_p (by decide) h fun a v h => ?_;refine wp_p (by decide) h fun a v h => ?_;refine wp_p (by decide) h fun a v h => ?_;refine wp_p (by decide) h fun a v h => ?_;refine wp_p (by decide) h fun a v h => ?_;refine wp_p (by decide) h fun a v h => ?_;refine wp_p (by decide) h fun a v h => ?_;refine wp_p (by decide) h fun a v h => ?_;refine wp_p (by decide) h fun a v h => ?_;refine wp_p (by decide) h fun a v h => ?_;refine wp_p (by decide) h fun a v h => ?_
 refine wp_p (by decide) h fun a v h => ?_;refine wp_p (by decide) h fun a v h => ?_;refine wp_p (by decide) h fun a v h => ?_;refine wp_p (by decide) h fun a v h => ?_;refine wp_p (by decide) h fun a v h => ?_;refine wp_p (by decide) h fun a v h => ?_;refine wp_p (by decide) h fun a v h => ?_;refine wp_p (by decide) h fun a v h => ?_;refine wp_p (by decide) h fun a v h => ?_;refine wp_p (by decide) h fun a v h => ?_;refine wp_p (by decide) h fun a v h => ?_;refine wp_p (by decide) h fun a v h => ?_;refine wp_p (by decide) h fun a v h => ?_;refine wp_p (by decide) h fun a v h => ?_
 refine wp_p (by decide) h fun a v h => ?_;refine wp_p (by decide) h fun a v h => ?_;refine wp_p (by decide) h fun a v h => ?_;refine wp_p (by decide) h fun a v h => ?_;refine wp_p (by decide) h fun a v h => ?_;refine wp_p (by decide) h fun a v h => ?_;refine wp_p (by decide) h fun a v h => ?_;refine wp_p (by decide) h fun a v h => ?_;refine wp_p (by decide) h fun a v h => ?_;refine wp_p (by decide) h fun a v h => ?_;refine wp_p (by decide) h fun a v h => ?_;refine wp_p (by decide) h fun a v h => ?_;refine wp_p (by decide) h fun a v h => ?_;refine wp_p (by decide) h fun a v h => ?_
 refine wp_p (by decide) h fun a v h => ?_;refine wp_p (by decide) h fun a v h => ?_;refine wp_p (by decide) h fun a v h => ?_;refine wp_p (by decide) h fun a v h => ?_;refine wp_p (by decide) h fun a v h => ?_;refine wp_p (by decide) h fun a v h => ?_;refine wp_p (by decide) h fun a v h => ?_;refine wp_p (by decide) h fun a v h => ?_;refine wp_mv _ 1 100 _ (.inl rfl) rfl rfl h.s (by decide) h.m (fun a100 s100 d100 m100 => ?_);refine wp_mv _ 100 0 _ (.inr rfl) rfl rfl s100 (by decide) m100 (fun a101 s101 d101 m101 => ?_);refine wpList_nil ?_
 have hd : a101.defers = [] := by rw [d101, d100, h.d]
 refine hKK _ _ ?_;clear hKK;have hg : a101.tmps.getD 0 undef = .map (some w.heap.size) := m101;have hr : (results Tryz.f170 a101.tmps).run Tryz.prog v = .ok (.map (some w.heap.size)) v := by
  have hg2 : a101.tmps[0]?.getD undef = .map (some w.heap.size) := by simpa [Array.getD_eq_getD_getElem?] using hg
  simp [results, Tryz.results170, go_sem, hg2]
 refine wp_ret ?_;exact bodyPost_ret (v := .map (some w.heap.size)) (R := fun e w' => ∃ B, e = Ending.returned (.map (some B)) ∧ TabAt w' B ∧ w.heap.size ≤ B ∧ Below w.heap.size w w') hr hd ⟨_, rfl, h.own, Nat.le_refl _, h.b⟩
end
section
open Go.RowKit
def hexT : ByteArray := ⟨#[48, 49, 50, 51, 52, 53, 54, 55, 56, 57, 97, 98, 99, 100, 101, 102]⟩
def hexI (b : UInt8) : Int := Lib.indexByte hexT.data.toList (small b)
theorem hexI_all : ∀ n : Fin 256, -1 ≤ hexI (UInt8.ofNat n.val) ∧ hexI (UInt8.ofNat n.val) ≤ 15 := by decide +kernel
theorem hexI_in (b : UInt8) : -1 ≤ hexI b ∧ hexI b ≤ 15 := by
 have := hexI_all ⟨b.toNat, UInt8.toNat_lt b⟩;simpa using this
theorem hex_any (b : UInt8) (w : World) : Calls Tryz.prog 186 #[.int .u8 (b.toNat : Int)] w (IntR w (hexI b)) := by
 have HI := hdn (indexByte_any hexT (small b) w);unfold hexT at HI;go_enter Tryz.func186, Tryz.ntmps186;go_wp2_with fail;refine cMq (small_any b _) ?_;rintro e w1 ⟨rfl, rfl⟩;go_wp2_with fail;refine cMq HI.out ?_;rintro e w2 ⟨rfl, rfl⟩;go_wp2;go_ret;exact ⟨rfl, rfl⟩
def charB (n : Int) : Bool := decide (0 < n) && decide (n ≤ 1114111) && (decide (n < 55296) || decide (57343 < n))
theorem char_any (n : Int) (w : World) : Calls Tryz.prog 169 #[.int .i64 n] w (RB w (charB n)) := by
 obtain ⟨q, hq⟩ : ∃ q, charB n = q := ⟨_, rfl⟩;rw [hq];unfold charB at hq
 by_cases h1 : 0 < n
 ·by_cases h2 : n ≤ 1114111
  ·by_cases h3 : n < 55296
   ·have : q = true := by rw [<- hq, decide_eq_true h1, decide_eq_true h2, decide_eq_true h3]; rfl
    subst this;clear hq;go_enter Tryz.func169, Tryz.ntmps169;go_wp2;go_ret;exact ⟨rfl, rfl⟩
   ·by_cases h4 : 57343 < n
    ·have : q = true := by rw [<- hq, decide_eq_true h1, decide_eq_true h2, decide_eq_false h3, decide_eq_true h4]; rfl
     subst this;clear hq;go_enter Tryz.func169, Tryz.ntmps169;go_wp2;go_ret;exact ⟨rfl, rfl⟩
    ·have : q = false := by rw [<- hq, decide_eq_true h1, decide_eq_true h2, decide_eq_false h3, decide_eq_false h4]; rfl
     subst this;clear hq;go_enter Tryz.func169, Tryz.ntmps169;go_wp2;go_ret;exact ⟨rfl, rfl⟩
  ·have : q = false := by rw [<- hq, decide_eq_true h1, decide_eq_false h2]; rfl
   subst this;clear hq;go_enter Tryz.func169, Tryz.ntmps169;go_wp2;go_ret;exact ⟨rfl, rfl⟩
 ·have : q = false := by rw [<- hq, decide_eq_false h1]; rfl
  subst this;clear hq;go_enter Tryz.func169, Tryz.ntmps169;go_wp2;go_ret;exact ⟨rfl, rfl⟩
def isX (b : UInt8) : Bool := decide (b.toNat ||| 32 = 120)
def numF (l : List UInt8) (base : Nat) : Nat -> Nat -> Nat -> Nat × Nat
 | 0, i, n => (n, i)
 | f + 1, i, n => match l[i]? with
  | none => (n, i)
  | some b => if hexI b < 0 ∨ (base : Int) ≤ hexI b then (n, i) else numF l base f (i + 1) (min (n * base + (hexI b).toNat) 16777216)
theorem numF_in (l : List UInt8) (base : Nat) : ∀ f i n, i ≤ l.length -> i ≤ (numF l base f i n).2 ∧ (numF l base f i n).2 ≤ l.length
 | 0, i, n, h => ⟨Nat.le_refl _, h⟩
 | f + 1, i, n, h => by
  rw [numF]
  cases hg : l[i]? with
  | none => exact ⟨Nat.le_refl _, h⟩
  | some b =>
   have hlt := (List.getElem?_eq_some_iff.1 hg).1;simp only;split
   ·exact ⟨Nat.le_refl _, h⟩
   ·have := numF_in l base f (i + 1) (min (n * base + (hexI b).toNat) 16777216) (by omega);omega
def x2 (l : List UInt8) : Bool := match l[2]? with
 | some b => isX b
 | none => false
def baseOf (l : List UInt8) : Nat × Nat := if x2 l then (3, 16) else (2, 10)
def numericN (l : List UInt8) : Nat × Nat × Nat :=
 if Lib.hasPrefix l [38, 35] then (if (numF l (baseOf l).2 l.length (baseOf l).1 0).2 = (baseOf l).1 then (0, 0, 0) else ((numF l (baseOf l).2 l.length (baseOf l).1 0).1, (numF l (baseOf l).2 l.length (baseOf l).1 0).2 - (baseOf l).1, (numF l (baseOf l).2 l.length (baseOf l).1 0).2)) else (0, 0, 0)
def TriR (w : World) (x : Nat × Nat × Nat) (e : Ending) (w' : World) : Prop := e = .returned (.tuple #[.int .i64 (x.1 : Int), .int .i64 (x.2.1 : Int), .int .i64 (x.2.2 : Int)]) ∧ w = w'
theorem tri_eq {a b c x y z : Int} (h : a = x) (k : b = y) (m : c = z) : Ending.returned (.tuple #[.int .i64 a, .int .i64 b, .int .i64 c]) = .returned (.tuple #[.int .i64 x, .int .i64 y, .int .i64 z]) := by rw [h, k, m]
def NumW (l : List UInt8) (base : Nat) (E : Nat × Nat) (w : World) (v2 v4 : Value) (wr : World) : Prop := wr = w ∧ ∃ k n f : Nat, v4 = .int .i64 (k : Int) ∧ v2 = .int .i64 (n : Int) ∧ k ≤ l.length ∧ l.length ≤ k + f ∧ n ≤ 16777216 ∧ numF l base f k n = E
theorem numeric_loop (s : ByteArray) (at' base : Nat) (w : World) (hs : s.size ≤ 1099511627776) (hb : Lib.hasPrefix s.data.toList [38, 35] = true) (hbo : baseOf s.data.toList = (at', base)) (ha : at' ≤ s.size) : Calls Tryz.prog 168 #[.string s] w (TriR w (numericN s.data.toList)) := by
 have hl : s.data.toList.length = s.size := lTq;have hv : numericN s.data.toList = if (numF s.data.toList base s.size at' 0).2 = at' then (0, 0, 0) else ((numF s.data.toList base s.size at' 0).1, (numF s.data.toList base s.size at' 0).2 - at', (numF s.data.toList base s.size at' 0).2) := by unfold numericN; rw [hb, if_pos rfl, hbo, hl]
 rw [hv];obtain ⟨⟨en, ee⟩, hE⟩ : ∃ E, numF s.data.toList base s.size at' 0 = E := ⟨_, rfl⟩;have hei := numF_in s.data.toList base s.size at' 0 (by omega);rw [hE] at hei ⊢;simp only at hei ⊢;obtain ⟨xv, hxv⟩ : ∃ xv, (if ee = at' then (0, 0, 0) else (en, ee - at', ee)) = xv := ⟨_, rfl⟩;rw [hxv];have HXV := hdn hxv;have HP := hdn (Tryz.strings_HasPrefix s ⟨#[38, 35]⟩ w);rw [show Lib.hasPrefix s.data.toList (⟨#[38, 35]⟩ : ByteArray).data.toList = true from hb] at HP
 have H0 := hdn (show NumW s.data.toList base (en, ee) w (.int .i64 (0 : Nat)) (.int .i64 (at' : Int)) w from ⟨rfl, at', 0, s.size, rfl, rfl, by omega, by omega, by omega, hE⟩);have hx : (2 < s.size ∧ x2 s.data.toList = true ∧ at' = 3 ∧ base = 16) ∨ (2 < s.size ∧ x2 s.data.toList = false ∧ at' = 2 ∧ base = 10) ∨ (¬ 2 < s.size ∧ at' = 2 ∧ base = 10) := by
  unfold baseOf at hbo
  by_cases h2 : 2 < s.size
  ·cases hq : x2 s.data.toList with
   | true => rw [hq, if_pos rfl] at hbo; cases hbo; exact .inl ⟨h2, rfl, rfl, rfl⟩
   | false => rw [hq, if_neg (by decide)] at hbo; cases hbo; exact .inr (.inl ⟨h2, rfl, rfl, rfl⟩)
  ·have hq : x2 s.data.toList = false := by unfold x2; rw [get_none s 2 h2]
   rw [hq, if_neg (by decide)] at hbo
   cases hbo
   exact .inr (.inr ⟨h2, rfl, rfl⟩)
 have hxe : ∀ h2 : 2 < s.size, ∀ q, x2 s.data.toList = q -> ((((s[2]'h2).toNat ||| 32 : Nat) : Int) == 120) = q := fun h2 q h => by
  rw [<- h];unfold x2;rw [get_list s 2 h2];simp only;unfold isX;rw [Bool.eq_iff_iff, beq_iff_eq, decide_eq_true_iff];omega
 have HXE := hdn hxe;have hat : at' ≤ 3 := by rcases hx with h | h | h <;> omega
 clear hv hE hb hbo hl hxe hxv;rcases hx with ⟨h2, hq, rfl, rfl⟩ | ⟨h2, hq, rfl, rfl⟩ | ⟨h2, rfl, rfl⟩
 ·have he := HXE.out h2 _ hq;have ho := orb (s[2]'h2);clear hq;go_enter Tryz.func168, Tryz.ntmps168;go_wp2_with fail;refine cMq HP.out ?_;rintro e w1 ⟨rfl, hw1⟩;rw [hw1];clear hw1;go_wp2_with fail
  go_loopw [2, 4] (fun v2 v4 wr => NumW s.data.toList 16 (en, ee) w v2 v4 wr) (fun _ v4 _ => s.size - (intOf v4).toNat)
  case atStart => exact H0.out
  case round =>
   obtain ⟨hww, k, n, f, rfl, rfl, hk, hf, hn, hu⟩ := hrel;obtain ⟨wo, hwo⟩ : ∃ wo : World, wo = wr := ⟨_, rfl⟩;subst hwo;have HWW := hdn hww;have hl2 : s.data.toList.length = s.size := lTq;have HU := hdn hu; have HK := hdn hk; have HF := hdn hf;clear hu hww H0
   by_cases hlt : k < s.size
   ·have hki : (k : Int) < (s.size : Int) := by omega
    have hu := HU.out;obtain ⟨f', rfl⟩ : ∃ f', f = f' + 1 := ⟨f - 1, by omega⟩;rw [numF, get_list s k hlt] at hu;simp only at hu;obtain ⟨b, hb⟩ : ∃ b, s[k] = b := ⟨_, rfl⟩;rw [hb] at hu;have hxin := hexI_in b;have HHx := hdn (hex_any b);obtain ⟨d, hd⟩ : ∃ d, hexI b = d := ⟨_, rfl⟩;rw [hd] at hu hxin HHx;have HU2 := hdn hu;have hf2 : s.size ≤ k + 1 + f' := by omega
    clear hu hd HU hf hk hl2 HF
    by_cases hbad : d < 0 ∨ 16 ≤ d
    ·have HE := hdn (show (n, k) = (en, ee) by have := HU2.out; rw [if_pos (show d < 0 ∨ ((16 : Nat) : Int) ≤ d by omega)] at this; exact this);clear HU2
     by_cases hd0 : d < 0
     ·clear hbad;go_wp2_with fail;refine cMq (HHx.out _) ?_;rintro e w2 ⟨rfl, rfl⟩;obtain ⟨rfl, rfl⟩ : n = en ∧ k = ee := by have := HE.out; simpa using this
      clear HE
      by_cases hee : k = 3
      ·subst hee;have HXf := hdn (show (0, 0, 0) = xv by rw [<- HXV.out, if_pos rfl]);clear HXV
       first
        | (exfalso; omega)
        | (go_wp2; go_ret3; rw [<- HXf.out, HWW.out]; exact ⟨rfl, rfl⟩)
      ·have hz : ((k : Int) == 3) = false := by simp; omega
       have hk3 : 3 ≤ k := by omega
       have HXf := hdn (show (n, k - 3, k) = xv by rw [<- HXV.out, if_neg hee]);have HK3 := hdn (show (k : Int) - 3 = ((k - 3 : Nat) : Int) by omega);clear HXV hee;go_wp2
       go_ret3
       rw [<- HXf.out, HWW.out];exact ⟨tri_eq rfl HK3.out rfl, rfl⟩
     ·have hd1 : 16 ≤ d := by omega
      clear hbad;go_wp2_with fail;refine cMq (HHx.out _) ?_;rintro e w2 ⟨rfl, rfl⟩;obtain ⟨rfl, rfl⟩ : n = en ∧ k = ee := by have := HE.out; simpa using this
      clear HE
      by_cases hee : k = 3
      ·subst hee;have HXf := hdn (show (0, 0, 0) = xv by rw [<- HXV.out, if_pos rfl]);clear HXV
       first
        | (exfalso; omega)
        | (go_wp2; go_ret3; rw [<- HXf.out, HWW.out]; exact ⟨rfl, rfl⟩)
      ·have hz : ((k : Int) == 3) = false := by simp; omega
       have hk3 : 3 ≤ k := by omega
       have HXf := hdn (show (n, k - 3, k) = xv by rw [<- HXV.out, if_neg hee]);have HK3 := hdn (show (k : Int) - 3 = ((k - 3 : Nat) : Int) by omega);clear HXV hee;go_wp2
       go_ret3
       rw [<- HXf.out, HWW.out];exact ⟨tri_eq rfl HK3.out rfl, rfl⟩
    ·have hd0 : ¬ d < 0 := by omega
     have hd1 : ¬ 16 ≤ d := by omega
     obtain ⟨m, rfl⟩ : ∃ m : Nat, d = m := ⟨d.toNat, by omega⟩;have hm : m ≤ 15 := by omega
     have HE := hdn (show numF s.data.toList 16 f' (k + 1) (min (n * 16 + m) 16777216) = (en, ee) by have := HU2.out; rw [if_neg (by omega), Int.toNat_natCast] at this; exact this);clear HU2 hbad;go_wp2_with fail;refine cMq (HHx.out _) ?_;rintro e w2 ⟨rfl, rfl⟩;go_wp2
     go_roundw
     case rel => exact ⟨HWW.out, k + 1, min (n * 16 + m) 16777216, f', by go_num, by first | rfl | (congr 1; omega), by have := HK.out; have hl2 : s.data.toList.length = s.size := lTq; omega, by have hl2 : s.data.toList.length = s.size := lTq; omega, by omega, HE.out⟩
     case measure => simp [intOf]; omega
   ·have HE := hdn (show (n, k) = (en, ee) by
     rw [<- HU.out]
     cases f with
     | zero => rfl
     | succ f => rw [numF, get_none s k hlt])
    have hkb : k ≤ 1099511627776 := by omega
    clear HU hf hk hl2;obtain ⟨rfl, rfl⟩ : n = en ∧ k = ee := by have := HE.out; simpa using this
    clear HE
    by_cases hee : k = 3
    ·subst hee;have HXf := hdn (show (0, 0, 0) = xv by rw [<- HXV.out, if_pos rfl]);clear HXV
     first
      | (exfalso; omega)
      | (go_wp2; go_ret3; rw [<- HXf.out, HWW.out]; exact ⟨rfl, rfl⟩)
    ·have hz : ((k : Int) == 3) = false := by simp; omega
     have hk3 : 3 ≤ k := by omega
     have HXf := hdn (show (n, k - 3, k) = xv by rw [<- HXV.out, if_neg hee]);have HK3 := hdn (show (k : Int) - 3 = ((k - 3 : Nat) : Int) by omega);clear HXV hee;go_wp2
     go_ret3
     rw [<- HXf.out, HWW.out];exact ⟨tri_eq rfl HK3.out rfl, rfl⟩
 ·have he := HXE.out h2 _ hq;have ho := orb (s[2]'h2);clear hq;go_enter Tryz.func168, Tryz.ntmps168;go_wp2_with fail;refine cMq HP.out ?_;rintro e w1 ⟨rfl, hw1⟩;rw [hw1];clear hw1;go_wp2_with fail
  go_loopw [2, 4] (fun v2 v4 wr => NumW s.data.toList 10 (en, ee) w v2 v4 wr) (fun _ v4 _ => s.size - (intOf v4).toNat)
  case atStart => exact H0.out
  case round =>
   obtain ⟨hww, k, n, f, rfl, rfl, hk, hf, hn, hu⟩ := hrel;obtain ⟨wo, hwo⟩ : ∃ wo : World, wo = wr := ⟨_, rfl⟩;subst hwo;have HWW := hdn hww;have hl2 : s.data.toList.length = s.size := lTq;have HU := hdn hu; have HK := hdn hk; have HF := hdn hf;clear hu hww H0
   by_cases hlt : k < s.size
   ·have hki : (k : Int) < (s.size : Int) := by omega
    have hu := HU.out;obtain ⟨f', rfl⟩ : ∃ f', f = f' + 1 := ⟨f - 1, by omega⟩;rw [numF, get_list s k hlt] at hu;simp only at hu;obtain ⟨b, hb⟩ : ∃ b, s[k] = b := ⟨_, rfl⟩;rw [hb] at hu;have hxin := hexI_in b;have HHx := hdn (hex_any b);obtain ⟨d, hd⟩ : ∃ d, hexI b = d := ⟨_, rfl⟩;rw [hd] at hu hxin HHx;have HU2 := hdn hu;have hf2 : s.size ≤ k + 1 + f' := by omega
    clear hu hd HU hf hk hl2 HF
    by_cases hbad : d < 0 ∨ 10 ≤ d
    ·have HE := hdn (show (n, k) = (en, ee) by have := HU2.out; rw [if_pos (show d < 0 ∨ ((10 : Nat) : Int) ≤ d by omega)] at this; exact this);clear HU2
     by_cases hd0 : d < 0
     ·clear hbad;go_wp2_with fail;refine cMq (HHx.out _) ?_;rintro e w2 ⟨rfl, rfl⟩;obtain ⟨rfl, rfl⟩ : n = en ∧ k = ee := by have := HE.out; simpa using this
      clear HE
      by_cases hee : k = 2
      ·subst hee;have HXf := hdn (show (0, 0, 0) = xv by rw [<- HXV.out, if_pos rfl]);clear HXV
       first
        | (exfalso; omega)
        | (go_wp2; go_ret3; rw [<- HXf.out, HWW.out]; exact ⟨rfl, rfl⟩)
      ·have hz : ((k : Int) == 2) = false := by simp; omega
       have hk3 : 2 ≤ k := by omega
       have HXf := hdn (show (n, k - 2, k) = xv by rw [<- HXV.out, if_neg hee]);have HK3 := hdn (show (k : Int) - 2 = ((k - 2 : Nat) : Int) by omega);clear HXV hee;go_wp2
       go_ret3
       rw [<- HXf.out, HWW.out];exact ⟨tri_eq rfl HK3.out rfl, rfl⟩
     ·have hd1 : 10 ≤ d := by omega
      clear hbad;go_wp2_with fail;refine cMq (HHx.out _) ?_;rintro e w2 ⟨rfl, rfl⟩;obtain ⟨rfl, rfl⟩ : n = en ∧ k = ee := by have := HE.out; simpa using this
      clear HE
      by_cases hee : k = 2
      ·subst hee;have HXf := hdn (show (0, 0, 0) = xv by rw [<- HXV.out, if_pos rfl]);clear HXV
       first
        | (exfalso; omega)
        | (go_wp2; go_ret3; rw [<- HXf.out, HWW.out]; exact ⟨rfl, rfl⟩)
      ·have hz : ((k : Int) == 2) = false := by simp; omega
       have hk3 : 2 ≤ k := by omega
       have HXf := hdn (show (n, k - 2, k) = xv by rw [<- HXV.out, if_neg hee]);have HK3 := hdn (show (k : Int) - 2 = ((k - 2 : Nat) : Int) by omega);clear HXV hee;go_wp2
       go_ret3
       rw [<- HXf.out, HWW.out];exact ⟨tri_eq rfl HK3.out rfl, rfl⟩
    ·have hd0 : ¬ d < 0 := by omega
     have hd1 : ¬ 10 ≤ d := by omega
     obtain ⟨m, rfl⟩ : ∃ m : Nat, d = m := ⟨d.toNat, by omega⟩;have hm : m ≤ 15 := by omega
     have HE := hdn (show numF s.data.toList 10 f' (k + 1) (min (n * 10 + m) 16777216) = (en, ee) by have := HU2.out; rw [if_neg (by omega), Int.toNat_natCast] at this; exact this);clear HU2 hbad;go_wp2_with fail;refine cMq (HHx.out _) ?_;rintro e w2 ⟨rfl, rfl⟩;go_wp2
     go_roundw
     case rel => exact ⟨HWW.out, k + 1, min (n * 10 + m) 16777216, f', by go_num, by first | rfl | (congr 1; omega), by have := HK.out; have hl2 : s.data.toList.length = s.size := lTq; omega, by have hl2 : s.data.toList.length = s.size := lTq; omega, by omega, HE.out⟩
     case measure => simp [intOf]; omega
   ·have HE := hdn (show (n, k) = (en, ee) by
     rw [<- HU.out]
     cases f with
     | zero => rfl
     | succ f => rw [numF, get_none s k hlt])
    have hkb : k ≤ 1099511627776 := by omega
    clear HU hf hk hl2;obtain ⟨rfl, rfl⟩ : n = en ∧ k = ee := by have := HE.out; simpa using this
    clear HE
    by_cases hee : k = 2
    ·subst hee;have HXf := hdn (show (0, 0, 0) = xv by rw [<- HXV.out, if_pos rfl]);clear HXV
     first
      | (exfalso; omega)
      | (go_wp2; go_ret3; rw [<- HXf.out, HWW.out]; exact ⟨rfl, rfl⟩)
    ·have hz : ((k : Int) == 2) = false := by simp; omega
     have hk3 : 2 ≤ k := by omega
     have HXf := hdn (show (n, k - 2, k) = xv by rw [<- HXV.out, if_neg hee]);have HK3 := hdn (show (k : Int) - 2 = ((k - 2 : Nat) : Int) by omega);clear HXV hee;go_wp2
     go_ret3
     rw [<- HXf.out, HWW.out];exact ⟨tri_eq rfl HK3.out rfl, rfl⟩
 ·go_enter Tryz.func168, Tryz.ntmps168;go_wp2_with fail;refine cMq HP.out ?_;rintro e w1 ⟨rfl, hw1⟩;rw [hw1];clear hw1;go_wp2_with fail
  go_loopw [2, 4] (fun v2 v4 wr => NumW s.data.toList 10 (en, ee) w v2 v4 wr) (fun _ v4 _ => s.size - (intOf v4).toNat)
  case atStart => exact H0.out
  case round =>
   obtain ⟨hww, k, n, f, rfl, rfl, hk, hf, hn, hu⟩ := hrel;obtain ⟨wo, hwo⟩ : ∃ wo : World, wo = wr := ⟨_, rfl⟩;subst hwo;have HWW := hdn hww;have hl2 : s.data.toList.length = s.size := lTq;have HU := hdn hu; have HK := hdn hk; have HF := hdn hf;clear hu hww H0
   by_cases hlt : k < s.size
   ·have hki : (k : Int) < (s.size : Int) := by omega
    have hu := HU.out;obtain ⟨f', rfl⟩ : ∃ f', f = f' + 1 := ⟨f - 1, by omega⟩;rw [numF, get_list s k hlt] at hu;simp only at hu;obtain ⟨b, hb⟩ : ∃ b, s[k] = b := ⟨_, rfl⟩;rw [hb] at hu;have hxin := hexI_in b;have HHx := hdn (hex_any b);obtain ⟨d, hd⟩ : ∃ d, hexI b = d := ⟨_, rfl⟩;rw [hd] at hu hxin HHx;have HU2 := hdn hu;have hf2 : s.size ≤ k + 1 + f' := by omega
    clear hu hd HU hf hk hl2 HF
    by_cases hbad : d < 0 ∨ 10 ≤ d
    ·have HE := hdn (show (n, k) = (en, ee) by have := HU2.out; rw [if_pos (show d < 0 ∨ ((10 : Nat) : Int) ≤ d by omega)] at this; exact this);clear HU2
     by_cases hd0 : d < 0
     ·clear hbad;go_wp2_with fail;refine cMq (HHx.out _) ?_;rintro e w2 ⟨rfl, rfl⟩;obtain ⟨rfl, rfl⟩ : n = en ∧ k = ee := by have := HE.out; simpa using this
      clear HE
      by_cases hee : k = 2
      ·subst hee;have HXf := hdn (show (0, 0, 0) = xv by rw [<- HXV.out, if_pos rfl]);clear HXV
       first
        | (exfalso; omega)
        | (go_wp2; go_ret3; rw [<- HXf.out, HWW.out]; exact ⟨rfl, rfl⟩)
      ·have hz : ((k : Int) == 2) = false := by simp; omega
       have hk3 : 2 ≤ k := by omega
       have HXf := hdn (show (n, k - 2, k) = xv by rw [<- HXV.out, if_neg hee]);have HK3 := hdn (show (k : Int) - 2 = ((k - 2 : Nat) : Int) by omega);clear HXV hee;go_wp2
       go_ret3
       rw [<- HXf.out, HWW.out];exact ⟨tri_eq rfl HK3.out rfl, rfl⟩
     ·have hd1 : 10 ≤ d := by omega
      clear hbad;go_wp2_with fail;refine cMq (HHx.out _) ?_;rintro e w2 ⟨rfl, rfl⟩;obtain ⟨rfl, rfl⟩ : n = en ∧ k = ee := by have := HE.out; simpa using this
      clear HE
      by_cases hee : k = 2
      ·subst hee;have HXf := hdn (show (0, 0, 0) = xv by rw [<- HXV.out, if_pos rfl]);clear HXV
       first
        | (exfalso; omega)
        | (go_wp2; go_ret3; rw [<- HXf.out, HWW.out]; exact ⟨rfl, rfl⟩)
      ·have hz : ((k : Int) == 2) = false := by simp; omega
       have hk3 : 2 ≤ k := by omega
       have HXf := hdn (show (n, k - 2, k) = xv by rw [<- HXV.out, if_neg hee]);have HK3 := hdn (show (k : Int) - 2 = ((k - 2 : Nat) : Int) by omega);clear HXV hee;go_wp2
       go_ret3
       rw [<- HXf.out, HWW.out];exact ⟨tri_eq rfl HK3.out rfl, rfl⟩
    ·have hd0 : ¬ d < 0 := by omega
     have hd1 : ¬ 10 ≤ d := by omega
     obtain ⟨m, rfl⟩ : ∃ m : Nat, d = m := ⟨d.toNat, by omega⟩;have hm : m ≤ 15 := by omega
     have HE := hdn (show numF s.data.toList 10 f' (k + 1) (min (n * 10 + m) 16777216) = (en, ee) by have := HU2.out; rw [if_neg (by omega), Int.toNat_natCast] at this; exact this);clear HU2 hbad;go_wp2_with fail;refine cMq (HHx.out _) ?_;rintro e w2 ⟨rfl, rfl⟩;go_wp2
     go_roundw
     case rel => exact ⟨HWW.out, k + 1, min (n * 10 + m) 16777216, f', by go_num, by first | rfl | (congr 1; omega), by have := HK.out; have hl2 : s.data.toList.length = s.size := lTq; omega, by have hl2 : s.data.toList.length = s.size := lTq; omega, by omega, HE.out⟩
     case measure => simp [intOf]; omega
   ·have HE := hdn (show (n, k) = (en, ee) by
     rw [<- HU.out]
     cases f with
     | zero => rfl
     | succ f => rw [numF, get_none s k hlt])
    have hkb : k ≤ 1099511627776 := by omega
    clear HU hf hk hl2;obtain ⟨rfl, rfl⟩ : n = en ∧ k = ee := by have := HE.out; simpa using this
    clear HE
    by_cases hee : k = 2
    ·subst hee;have HXf := hdn (show (0, 0, 0) = xv by rw [<- HXV.out, if_pos rfl]);clear HXV
     first
      | (exfalso; omega)
      | (go_wp2; go_ret3; rw [<- HXf.out, HWW.out]; exact ⟨rfl, rfl⟩)
    ·have hz : ((k : Int) == 2) = false := by simp; omega
     have hk3 : 2 ≤ k := by omega
     have HXf := hdn (show (n, k - 2, k) = xv by rw [<- HXV.out, if_neg hee]);have HK3 := hdn (show (k : Int) - 2 = ((k - 2 : Nat) : Int) by omega);clear HXV hee;go_wp2
     go_ret3
     rw [<- HXf.out, HWW.out];exact ⟨tri_eq rfl HK3.out rfl, rfl⟩
theorem numeric_any (s : ByteArray) (w : World) (hs : s.size ≤ 1099511627776) : Calls Tryz.prog 168 #[.string s] w (TriR w (numericN s.data.toList)) := by
 have hl : s.data.toList.length = s.size := lTq
 cases hp : Lib.hasPrefix s.data.toList [38, 35] with
 | false =>
  have hv : numericN s.data.toList = (0, 0, 0) := by unfold numericN; rw [hp]; rfl
  rw [hv];have HP := hdn (Tryz.strings_HasPrefix s ⟨#[38, 35]⟩ w);rw [show Lib.hasPrefix s.data.toList (⟨#[38, 35]⟩ : ByteArray).data.toList = false from hp] at HP;clear hv hp hl;go_enter Tryz.func168, Tryz.ntmps168;go_wp2_with fail;refine cMq HP.out ?_;rintro e w1 ⟨rfl, hw1⟩;rw [hw1];clear hw1;go_wp2
  go_ret3
  exact ⟨rfl, rfl⟩
 | true =>
  have h2 : 2 ≤ s.size := by
   have : ([38, 35] : List UInt8).isPrefixOf s.data.toList = true := hp;have := (List.isPrefixOf_iff_prefix.1 this).length_le;rw [hl] at this;exact this
  obtain ⟨⟨a, b⟩, hb⟩ : ∃ x, baseOf s.data.toList = x := ⟨_, rfl⟩;refine numeric_loop s a b w hs hp hb ?_;unfold baseOf at hb
  cases hx : x2 s.data.toList with
  | false => rw [hx, if_neg (by decide)] at hb; cases hb; exact h2
  | true =>
   rw [hx, if_pos rfl] at hb
   cases hb
   unfold x2 at hx
   by_cases h3 : 2 < s.size
   ·omega
   ·rw [get_none s 2 h3] at hx; cases hx
end
section
open Go.RowKit Go.Maps
def findF : List (ByteArray × ByteArray × Bool) -> List UInt8 -> Option (ByteArray × Bool) -> Option (ByteArray × Bool)
 | [], _, o => o
 | x :: r, k, o => findF r k (if x.1.data.toList == k then some x.2 else o)
def findN (k : List UInt8) : Option (ByteArray × Bool) := findF tabL k none
theorem lit_ne {x y : List UInt8} (h : x ≠ y) : Lit.string x ≠ Lit.string y := fun e => h (by injection e)
theorem tabD_at (k : List UInt8) (zd : DataW Unit) : ∀ (l : List (ByteArray × ByteArray × Bool)) (D : DataW Unit) (o : Option (ByteArray × Bool)), IsMap D -> Maps.has D (.string k) = o.isSome -> D.atKey (.string k) zd = (match o with
   | some x => entD x.1 x.2
   | none => zd) ->
  Maps.has (tabD l D) (.string k) = (findF l k o).isSome ∧ (tabD l D).atKey (.string k) zd = (match findF l k o with
   | some x => entD x.1 x.2
   | none => zd)
 | [], D, o, _, h1, h2 => ⟨h1, h2⟩
 | x :: r, D, o, hm, h1, h2 => by
  show Maps.has (tabD r (D.put (.string x.1.data.toList) (entD x.2.1 x.2.2))) _ = (findF r k (if x.1.data.toList == k then some x.2 else o)).isSome ∧ _
  by_cases hx : x.1.data.toList = k
  ·subst hx;rw [if_pos (by simp)];have := tabD_at x.1.data.toList zd r (D.put (.string x.1.data.toList) (entD x.2.1 x.2.2)) (some x.2) (hm.put _ _) (has_put_same hm (show WideAt.IsKeyLit (Lit.string _) from trivial) _) (atKey_put_same hm (show WideAt.IsKeyLit (Lit.string _) from trivial) _ _);refine ⟨this.1, this.2.trans ?_⟩;show _ = (match findF r x.1.data.toList (if x.1.data.toList == x.1.data.toList then some x.2 else o) with
    | some x => entD x.1 x.2
    | none => zd)
   rw [if_pos (by simp)]
  ·have hb : (x.1.data.toList == k) = false := by simpa using hx
   rw [hb, if_neg (by decide)];have hne : Lit.string k ≠ Lit.string x.1.data.toList := lit_ne fun e => hx e.symm;have := tabD_at k zd r (D.put (.string x.1.data.toList) (entD x.2.1 x.2.2)) o (hm.put _ _) ((has_put_other hne _).trans h1) ((atKey_put_other hne _ _).trans h2);refine ⟨this.1, this.2.trans ?_⟩;show _ = (match findF r k (if x.1.data.toList == k then some x.2 else o) with
    | some x => entD x.1 x.2
    | none => zd)
   rw [hb, if_neg (by decide)]
theorem tab_at (k : List UInt8) (zd : DataW Unit) : Maps.has (tabD tabL (.map [])) (.string k) = (findN k).isSome ∧ (tabD tabL (.map [])).atKey (.string k) zd = (match findN k with
   | some x => entD x.1 x.2
   | none => zd) := tabD_at k zd tabL (.map []) none isMap_empty rfl rfl
theorem zeroE (w : World) : (zeroValue 177).run Tryz.prog w = .ok (.agg #[.string ⟨#[]⟩, .bool false]) w := by kernel_rfl
theorem look_some {w : World} {B : Nat} (h : TabAt w B) (k : ByteArray) (hk : k.size ≤ maxLen) {is : ByteArray} {b : Bool} (hf : findN k.data.toList = some (is, b)) : (Instr.lookup 179 (.map (some B)) (.string k) true).run Tryz.prog w = .ok (.tuple #[.agg #[.string is, .bool b], .bool true]) w := by
 obtain ⟨v, ps, hrun, hv⟩ := World.ownsMap.look_ok h tab_keyed Tryz.underlying179 (zeroE w) (entR_mk ⟨#[]⟩ false) (WideMaps.keyOf_string_mk Tryz.underlying9 hk);obtain ⟨h1, h2⟩ := tab_at k.data.toList (entD ⟨#[]⟩ false);rw [hf] at h1 h2;simp only at h2;rw [h2] at hv;rw [h1] at hrun;rw [entR_inv hv] at hrun;exact hrun
theorem look_none {w : World} {B : Nat} (h : TabAt w B) (k : ByteArray) (hk : k.size ≤ maxLen) (hf : findN k.data.toList = none) : (Instr.lookup 179 (.map (some B)) (.string k) true).run Tryz.prog w = .ok (.tuple #[.agg #[.string ⟨#[]⟩, .bool false], .bool false]) w := by
 obtain ⟨v, ps, hrun, hv⟩ := World.ownsMap.look_ok h tab_keyed Tryz.underlying179 (zeroE w) (entR_mk ⟨#[]⟩ false) (WideMaps.keyOf_string_mk Tryz.underlying9 hk);obtain ⟨h1, h2⟩ := tab_at k.data.toList (entD ⟨#[]⟩ false);rw [hf] at h1 h2;simp only at h2;rw [h2] at hv;rw [h1] at hrun;rw [entR_inv hv] at hrun;exact hrun
end
section
open Go.RowKit Go.Maps
def markN (s : ByteArray) : ByteArray × Nat :=
 if 0 < (numericN s.data.toList).2.2 then
  (if (if x2 s.data.toList then 6 else 7) < (numericN s.data.toList).2.1 ∨ (s.data.toList[(numericN s.data.toList).2.2]? == some 59) = false then (⟨#[]⟩, 0)
    else (Utf8.encode (if charB (numericN s.data.toList).1 then ((numericN s.data.toList).1 : Int) else 65533), (numericN s.data.toList).2.2 + 1))
 else if (cutS s 59).2.2 = false ∨ ((cutS s 59).1.data.toList[0]? == some 38) = false then (⟨#[]⟩, 0)
 else match findN ((cutS s 59).1.data.toList.drop 1) with
  | none => (⟨#[]⟩, 0)
  | some x => (x.1, (cutS s 59).1.size + 1)
theorem ret_si {a b : ByteArray} {n m : Int} (h : a = b) (k : n = m) : Ending.returned (.tuple #[.string a, .int .i64 n]) = .returned (.tuple #[.string b, .int .i64 m]) := by rw [h, k]
theorem fffd : Utf8.encode 65533 = ⟨#[239, 191, 189]⟩ := by decide +kernel
theorem numF_n (l : List UInt8) (base : Nat) : ∀ f i n, n ≤ 16777216 -> (numF l base f i n).1 ≤ 16777216
 | 0, i, n, h => h
 | f + 1, i, n, h => by
  rw [numF];split
  ·exact h
  ·split
   ·exact h
   ·exact numF_n l base f _ _ (Nat.min_le_right _ _)
theorem base_in (l : List UInt8) (h : Lib.hasPrefix l [38, 35] = true) : 2 ≤ (baseOf l).1 ∧ (baseOf l).1 ≤ l.length := by
 have h2 : 2 ≤ l.length := by
  have : ([38, 35] : List UInt8).isPrefixOf l = true := h;exact (List.isPrefixOf_iff_prefix.1 this).length_le
 unfold baseOf
 cases hx : x2 l with
 | false => rw [if_neg (by decide)]; exact ⟨Nat.le_refl _, h2⟩
 | true =>
  rw [if_pos rfl];refine ⟨by show 2 ≤ 3; omega, ?_⟩;unfold x2 at hx
  cases hg : l[2]? with
  | none => rw [hg] at hx; cases hx
  | some b => exact (List.getElem?_eq_some_iff.1 hg).1
theorem numericN_in (l : List UInt8) (h : 0 < (numericN l).2.2) : 2 < (numericN l).2.2 ∧ (numericN l).2.2 ≤ l.length ∧ (numericN l).2.1 ≤ l.length ∧ (numericN l).1 ≤ 16777216 := by
 unfold numericN at h ⊢
 by_cases hp : Lib.hasPrefix l [38, 35] = true
 ·rw [if_pos hp] at h ⊢;obtain ⟨b1, b2⟩ := base_in l hp;obtain ⟨c1, c2⟩ := numF_in l (baseOf l).2 l.length (baseOf l).1 0 b2;have c3 := numF_n l (baseOf l).2 l.length (baseOf l).1 0 (by omega)
  by_cases he : (numF l (baseOf l).2 l.length (baseOf l).1 0).2 = (baseOf l).1
  ·rw [if_pos he] at h; cases h
  ·rw [if_neg he];simp only;omega
 ·rw [if_neg hp] at h; cases h
theorem mark_num (s : ByteArray) (w : World) (hs : s.size ≤ 1099511627776) (h : 0 < (numericN s.data.toList).2.2) : Calls Tryz.prog 135 #[.string s] w (SIb w (markN s).1 ((markN s).2 : Nat)) := by
 have hl : s.data.toList.length = s.size := lTq;obtain ⟨i1, i2, i3, i4⟩ := numericN_in _ h;have hv : markN s = if (if x2 s.data.toList then 6 else 7) < (numericN s.data.toList).2.1 ∨ (s.data.toList[(numericN s.data.toList).2.2]? == some 59) = false then (⟨#[]⟩, 0)
    else (Utf8.encode (if charB (numericN s.data.toList).1 then ((numericN s.data.toList).1 : Int) else 65533), (numericN s.data.toList).2.2 + 1) := by unfold markN; rw [if_pos h]
 obtain ⟨x, hx⟩ : ∃ x, markN s = x := ⟨_, rfl⟩;rw [hx] at hv ⊢;have HN := hdn (numeric_any s w hs);obtain ⟨⟨n, dg, en⟩, hn⟩ : ∃ y, numericN s.data.toList = y := ⟨_, rfl⟩;rw [hn] at hv i1 i2 i3 i4 h HN;simp only at hv i1 i2 i3 i4 h;have h2 : 2 < s.size := by omega
 have hor := orb (s[2]'h2);obtain ⟨q, hq⟩ : ∃ q, x2 s.data.toList = q := ⟨_, rfl⟩;have hxe : ((((s[2]'h2).toNat ||| 32 : Nat) : Int) == 120) = q := by
  rw [<- hq];unfold x2;rw [get_list s 2 h2];simp only;unfold isX;rw [Bool.eq_iff_iff, beq_iff_eq, decide_eq_true_iff];omega
 rw [hq] at hv;have hen : en ≤ s.size := by omega
 have hei : (en : Int) ≤ (s.size : Int) := by omega
 have hpre := prefix_at s en 59 hen;obtain ⟨sm, hsm⟩ : ∃ sm, (s.data.toList[en]? == some 59) = sm := ⟨_, rfl⟩;rw [hsm] at hpre hv;have HP := hdn fun (w' : World) => Tryz.strings_HasPrefix (s.extract en s.size) ⟨#[59]⟩ w';have HPR := hdn hpre;have HCh := hdn (char_any (n : Int));obtain ⟨ch, hch⟩ : ∃ ch, charB (n : Int) = ch := ⟨_, rfl⟩;rw [hch] at HCh hv;have HV := hdn hv;have hpos : (0 : Int) < (en : Int) := by omega
 have hnn : (n : Int) ≤ 16777216 := by omega
 clear hx hv hn hq hl hpre hsm hch h i1 i2;have hmost : ∀ m : Nat, (if q then 6 else 7) = m -> x = (if m < dg ∨ sm = false then (⟨#[]⟩, 0) else (Utf8.encode (if ch then (n : Int) else 65533), en + 1)) := fun m hm => by rw [HV.out, hm]
 have HMo := hdn hmost;clear hmost HV
 cases q with
 | true =>
  have hx6 := HMo.out 6 rfl
  by_cases hd : 6 < dg
  ·have hdi : (6 : Int) < (dg : Int) := by omega
   have HX := hdn (show x = (⟨#[]⟩, 0) by rw [hx6, if_pos (.inl hd)]);clear hx6 HMo hd;go_enter Tryz.func135, Tryz.ntmps135;go_wp2_with fail;refine cMq HN.out ?_;rintro e w1 ⟨rfl, hw1⟩;rw [<- hw1];clear hw1;go_wp2
   go_ret2
   rw [HX.out];exact ⟨rfl, Below.refl _ _⟩
  ·have hdi : ¬ (6 : Int) < (dg : Int) := by omega
   cases sm with
   | false =>
    have HX := hdn (show x = (⟨#[]⟩, 0) by rw [hx6, if_pos (.inr rfl)]);clear hx6 HMo hd;go_enter Tryz.func135, Tryz.ntmps135;go_wp2_with fail;refine cMq HN.out ?_;rintro e w1 ⟨rfl, hw1⟩;rw [<- hw1];clear hw1;go_wp2_with fail;refine cMq (HP.out _) ?_;rintro e w2 ⟨rfl, hw2⟩;rw [hw2, show Lib.hasPrefix (s.extract en s.size).data.toList (⟨#[59]⟩ : ByteArray).data.toList = _ from HPR.out];clear hw2;go_wp2
    go_ret2
    rw [HX.out];exact ⟨rfl, Below.refl _ _⟩
   | true =>
    have hx7 : x = (Utf8.encode (if ch then (n : Int) else 65533), en + 1) := by rw [hx6, if_neg (by rintro (h | h); exact hd h; cases h)]
    clear hx6 HMo hd
    cases ch with
    | true =>
     have HX := hdn (show x = (Utf8.encode (n : Int), en + 1) by rw [hx7]; rfl);clear hx7;go_enter Tryz.func135, Tryz.ntmps135;go_wp2_with fail;refine cMq HN.out ?_;rintro e w1 ⟨rfl, hw1⟩;rw [<- hw1];clear hw1;go_wp2_with fail;refine cMq (HP.out _) ?_;rintro e w2 ⟨rfl, hw2⟩;rw [hw2, show Lib.hasPrefix (s.extract en s.size).data.toList (⟨#[59]⟩ : ByteArray).data.toList = _ from HPR.out];clear hw2;go_wp2_with fail;refine cMq (HCh.out _) ?_;rintro e w3 ⟨rfl, hw3⟩;rw [<- hw3];clear hw3;go_wp2
     go_ret2
     rw [HX.out];generalize Utf8.encode (n : Int) = E0;exact ⟨rfl, Below.refl _ _⟩
    | false =>
     have HX := hdn (show x = (⟨#[239, 191, 189]⟩, en + 1) by rw [hx7, <- fffd]; rfl);clear hx7;go_enter Tryz.func135, Tryz.ntmps135;go_wp2_with fail;refine cMq HN.out ?_;rintro e w1 ⟨rfl, hw1⟩;rw [<- hw1];clear hw1;go_wp2_with fail;refine cMq (HP.out _) ?_;rintro e w2 ⟨rfl, hw2⟩;rw [hw2, show Lib.hasPrefix (s.extract en s.size).data.toList (⟨#[59]⟩ : ByteArray).data.toList = _ from HPR.out];clear hw2;go_wp2_with fail;refine cMq (HCh.out _) ?_;rintro e w3 ⟨rfl, hw3⟩;rw [<- hw3];clear hw3;go_wp2
     go_ret2
     rw [HX.out];exact ⟨ret_si fffd rfl, Below.refl _ _⟩
 | false =>
  have hx6 := HMo.out 7 rfl
  by_cases hd : 7 < dg
  ·have hdi : (7 : Int) < (dg : Int) := by omega
   have HX := hdn (show x = (⟨#[]⟩, 0) by rw [hx6, if_pos (.inl hd)]);clear hx6 HMo hd;go_enter Tryz.func135, Tryz.ntmps135;go_wp2_with fail;refine cMq HN.out ?_;rintro e w1 ⟨rfl, hw1⟩;rw [<- hw1];clear hw1;go_wp2
   go_ret2
   rw [HX.out];exact ⟨rfl, Below.refl _ _⟩
  ·have hdi : ¬ (7 : Int) < (dg : Int) := by omega
   cases sm with
   | false =>
    have HX := hdn (show x = (⟨#[]⟩, 0) by rw [hx6, if_pos (.inr rfl)]);clear hx6 HMo hd;go_enter Tryz.func135, Tryz.ntmps135;go_wp2_with fail;refine cMq HN.out ?_;rintro e w1 ⟨rfl, hw1⟩;rw [<- hw1];clear hw1;go_wp2_with fail;refine cMq (HP.out _) ?_;rintro e w2 ⟨rfl, hw2⟩;rw [hw2, show Lib.hasPrefix (s.extract en s.size).data.toList (⟨#[59]⟩ : ByteArray).data.toList = _ from HPR.out];clear hw2;go_wp2
    go_ret2
    rw [HX.out];exact ⟨rfl, Below.refl _ _⟩
   | true =>
    have hx7 : x = (Utf8.encode (if ch then (n : Int) else 65533), en + 1) := by rw [hx6, if_neg (by rintro (h | h); exact hd h; cases h)]
    clear hx6 HMo hd
    cases ch with
    | true =>
     have HX := hdn (show x = (Utf8.encode (n : Int), en + 1) by rw [hx7]; rfl);clear hx7;go_enter Tryz.func135, Tryz.ntmps135;go_wp2_with fail;refine cMq HN.out ?_;rintro e w1 ⟨rfl, hw1⟩;rw [<- hw1];clear hw1;go_wp2_with fail;refine cMq (HP.out _) ?_;rintro e w2 ⟨rfl, hw2⟩;rw [hw2, show Lib.hasPrefix (s.extract en s.size).data.toList (⟨#[59]⟩ : ByteArray).data.toList = _ from HPR.out];clear hw2;go_wp2_with fail;refine cMq (HCh.out _) ?_;rintro e w3 ⟨rfl, hw3⟩;rw [<- hw3];clear hw3;go_wp2
     go_ret2
     rw [HX.out];generalize Utf8.encode (n : Int) = E0;exact ⟨rfl, Below.refl _ _⟩
    | false =>
     have HX := hdn (show x = (⟨#[239, 191, 189]⟩, en + 1) by rw [hx7, <- fffd]; rfl);clear hx7;go_enter Tryz.func135, Tryz.ntmps135;go_wp2_with fail;refine cMq HN.out ?_;rintro e w1 ⟨rfl, hw1⟩;rw [<- hw1];clear hw1;go_wp2_with fail;refine cMq (HP.out _) ?_;rintro e w2 ⟨rfl, hw2⟩;rw [hw2, show Lib.hasPrefix (s.extract en s.size).data.toList (⟨#[59]⟩ : ByteArray).data.toList = _ from HPR.out];clear hw2;go_wp2_with fail;refine cMq (HCh.out _) ?_;rintro e w3 ⟨rfl, hw3⟩;rw [<- hw3];clear hw3;go_wp2
     go_ret2
     rw [HX.out];exact ⟨ret_si fffd rfl, Below.refl _ _⟩
theorem mark_name (s : ByteArray) (w : World) (hs : s.size ≤ 1099511627776) (h : (numericN s.data.toList).2.2 = 0) : Calls Tryz.prog 135 #[.string s] w (SIb w (markN s).1 ((markN s).2 : Nat)) := by
 have hl : s.data.toList.length = s.size := lTq;have HN := hdn (numeric_any s w hs);obtain ⟨⟨n, dg, en⟩, hn⟩ : ∃ y, numericN s.data.toList = y := ⟨_, rfl⟩;have hv : markN s = if (cutS s 59).2.2 = false ∨ ((cutS s 59).1.data.toList[0]? == some 38) = false then (⟨#[]⟩, 0)
  else match findN ((cutS s 59).1.data.toList.drop 1) with
   | none => (⟨#[]⟩, 0)
   | some x => (x.1, (cutS s 59).1.size + 1) := by unfold markN; rw [if_neg (by omega)]
 rw [hn] at h HN;simp only at h;subst h;obtain ⟨x, hx⟩ : ∃ x, markN s = x := ⟨_, rfl⟩;rw [hx] at hv ⊢;have hns : (cutS s 59).1.size ≤ s.size := by
  unfold cutS;split
  ·exact Nat.le_refl _
  ·rw [ByteArray.size_extract]; omega
 have HC := hdn fun (w' : World) => cut_any s 59 w' hs;obtain ⟨⟨nm, rs, fd⟩, hc⟩ : ∃ y, cutS s 59 = y := ⟨_, rfl⟩;rw [hc] at hv hns HC;simp only at hv hns;have hpre := prefix_one nm.data.toList 38;obtain ⟨am, ham⟩ : ∃ am, (nm.data.toList[0]? == some 38) = am := ⟨_, rfl⟩;rw [ham] at hpre hv;have HP := hdn fun (w' : World) => Tryz.strings_HasPrefix nm ⟨#[38]⟩ w';have HPR := hdn hpre;have HAm := hdn ham;clear hx hn hc hpre ham hl
 cases fd with
 | false =>
  have HX := hdn (show x = (⟨#[]⟩, 0) by rw [hv, if_pos (.inl rfl)]);clear hv;go_enter Tryz.func135, Tryz.ntmps135;go_wp2_with fail;refine cMq HN.out ?_;rintro e w1 ⟨rfl, hw1⟩;rw [<- hw1];clear hw1;go_wp2_with fail;refine cMq (HC.out _) ?_;rintro e w2 ⟨rfl, d2, hw2⟩;rw [hw2];clear hw2;go_wp2
  go_ret2
  rw [HX.out];exact ⟨rfl, row_drewN (Below.refl _ _) _⟩
 | true =>
  cases am with
  | false =>
   have HX := hdn (show x = (⟨#[]⟩, 0) by rw [hv, if_pos (.inr rfl)]);clear hv;go_enter Tryz.func135, Tryz.ntmps135;go_wp2_with fail;refine cMq HN.out ?_;rintro e w1 ⟨rfl, hw1⟩;rw [<- hw1];clear hw1;go_wp2_with fail;refine cMq (HC.out _) ?_;rintro e w2 ⟨rfl, d2, hw2⟩;rw [hw2];clear hw2;go_wp2_with fail;refine cMq (HP.out _) ?_;rintro e w3 ⟨rfl, hw3⟩;rw [hw3, show Lib.hasPrefix nm.data.toList (⟨#[38]⟩ : ByteArray).data.toList = _ from HPR.out];clear hw3;go_wp2
   go_ret2
   rw [HX.out];exact ⟨rfl, row_drewN (Below.refl _ _) _⟩
  | true =>
   have hv2 : x = (match findN (nm.data.toList.drop 1) with
    | none => (⟨#[]⟩, 0)
    | some x => (x.1, nm.size + 1)) := by rw [hv, if_neg (by rintro (h | h) <;> cases h)]
   have hn1 : 1 ≤ nm.size := by
    have h2 : nm.data.toList[0]? = some 38 := by simpa using HAm.out
    have := (List.getElem?_eq_some_iff.1 h2).1;have hl2 : nm.data.toList.length = nm.size := lTq;omega
   have hni : (1 : Int) ≤ (nm.size : Int) := by omega
   have hl2 : nm.data.toList.length = nm.size := lTq;have hxd : (nm.extract 1 nm.size).data.toList = nm.data.toList.drop 1 := by rw [Lib.extract_data, List.take_of_length_le (by rw [List.length_drop]; omega)]
   have hxs : (nm.extract 1 nm.size).size ≤ maxLen := by rw [ByteArray.size_extract]; unfold maxLen; omega
   rw [<- hxd] at hv2
   cases hf : findN (nm.extract 1 nm.size).data.toList with
   | none =>
    have HX := hdn (show x = (⟨#[]⟩, 0) by rw [hv2, hf]);have HL := hdn fun (w' : World) (B : Nat) (ht : TabAt w' B) => look_none ht (nm.extract 1 nm.size) hxs hf;clear hv hv2 hf hxd hxs hl2;go_enter Tryz.func135, Tryz.ntmps135;go_wp2_with fail;refine cMq HN.out ?_;rintro e w1 ⟨rfl, hw1⟩;rw [<- hw1];clear hw1;go_wp2_with fail;refine cMq (HC.out _) ?_;rintro e w2 ⟨rfl, d2, hw2⟩;rw [hw2];clear hw2;go_wp2_with fail;refine cMq (HP.out _) ?_;rintro e w3 ⟨rfl, hw3⟩
    rw [hw3, show Lib.hasPrefix nm.data.toList (⟨#[38]⟩ : ByteArray).data.toList = _ from HPR.out];clear hw3;go_wp2_with fail
    go_region_with (first
     | (go_at_call 170; refine cMq (table_any _) ?_; rintro e w3 ⟨B, rfl, ht, hB, hb3⟩; have r3 := HL.out w3 B ht; have r4 := fun (o : Obj) => HL.out (w3.alloc o) B (ht.later ((Below.refl _ _).alloc (Nat.le_refl _) _)); have HB3 := hdn hb3; (first | (have hx3 : w3.heap[w.heap.size]? = some (.cells #[.string ⟨#[]⟩, .bool false] 177 (0, 0)) := (hb3.block w.heap.size (by simp)).trans (heap_alloc_new w _); have x3 := (fun i => cell_of_row w3 w.heap.size i _ _ _ hx3); have f3 : ∀ i, w3.frozen? ⟨w.heap.size, i, none⟩ = false := (fun i => by simp [World.frozen?, hx3]); clear hx3) | skip); clear hb3 ht))
    all_goals
     have hbw : Below w.heap.size w w3 := by
      first
       | exact below_on (row_drewN (Below.refl _ _) _) HB3.out
       | exact below_on (row_drewN ((Below.refl _ w).alloc (Nat.le_refl _) _) _) HB3.out
     have HBW := hdn hbw;clear hbw;go_wp2
     go_ret2
     rw [HX.out];refine ⟨rfl, ?_⟩
     first
      | exact HBW.out
      | exact HBW.out.alloc HBW.out.size _
      | exact (HBW.out.setCell (p := ⟨w.heap.size, 0, none⟩) (Nat.le_refl _) _).setCell (p := ⟨w.heap.size, 1, none⟩) (Nat.le_refl _) _
   | some y =>
    obtain ⟨is, ba⟩ := y;have HX := hdn (show x = (is, nm.size + 1) by rw [hv2, hf]);have HL := hdn fun (w' : World) (B : Nat) (ht : TabAt w' B) => look_some ht (nm.extract 1 nm.size) hxs hf;clear hv hv2 hf hxd hxs hl2;go_enter Tryz.func135, Tryz.ntmps135;go_wp2_with fail;refine cMq HN.out ?_;rintro e w1 ⟨rfl, hw1⟩;rw [<- hw1];clear hw1;go_wp2_with fail;refine cMq (HC.out _) ?_;rintro e w2 ⟨rfl, d2, hw2⟩;rw [hw2];clear hw2;go_wp2_with fail;refine cMq (HP.out _) ?_;rintro e w3 ⟨rfl, hw3⟩
    rw [hw3, show Lib.hasPrefix nm.data.toList (⟨#[38]⟩ : ByteArray).data.toList = _ from HPR.out];clear hw3;go_wp2_with fail
    go_region_with (first
     | (go_at_call 170; refine cMq (table_any _) ?_; rintro e w3 ⟨B, rfl, ht, hB, hb3⟩; have r3 := HL.out w3 B ht; have r4 := fun (o : Obj) => HL.out (w3.alloc o) B (ht.later ((Below.refl _ _).alloc (Nat.le_refl _) _)); have HB3 := hdn hb3; (first | (have hx3 : w3.heap[w.heap.size]? = some (.cells #[.string ⟨#[]⟩, .bool false] 177 (0, 0)) := (hb3.block w.heap.size (by simp)).trans (heap_alloc_new w _); have x3 := (fun i => cell_of_row w3 w.heap.size i _ _ _ hx3); have f3 : ∀ i, w3.frozen? ⟨w.heap.size, i, none⟩ = false := (fun i => by simp [World.frozen?, hx3]); clear hx3) | skip); clear hb3 ht))
    all_goals
     have hbw : Below w.heap.size w w3 := by
      first
       | exact below_on (row_drewN (Below.refl _ _) _) HB3.out
       | exact below_on (row_drewN ((Below.refl _ w).alloc (Nat.le_refl _) _) _) HB3.out
     have HBW := hdn hbw;clear hbw;go_wp2
     go_ret2
     rw [HX.out];refine ⟨rfl, ?_⟩
     first
      | exact HBW.out
      | exact HBW.out.alloc HBW.out.size _
      | exact (HBW.out.setCell (p := ⟨w.heap.size, 0, none⟩) (Nat.le_refl _) _).setCell (p := ⟨w.heap.size, 1, none⟩) (Nat.le_refl _) _
theorem mark_any (s : ByteArray) (w : World) (hs : s.size ≤ 1099511627776) : Calls Tryz.prog 135 #[.string s] w (SIb w (markN s).1 ((markN s).2 : Nat)) := by
 rcases Nat.eq_zero_or_pos (numericN s.data.toList).2.2 with h | h
 ·exact mark_name s w hs h
 ·exact mark_num s w hs h
end
