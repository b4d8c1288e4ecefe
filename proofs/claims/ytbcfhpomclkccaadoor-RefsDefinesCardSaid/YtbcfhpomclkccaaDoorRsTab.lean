/- ent.table: a map of 98 names. -/
import Derived.Test.YtbcfhpomclkccaaDoorRsBase
import Derived.Test.YtbcfhpomclkccaaDoorRow
import Derived.Maps.OwnOps
import Derived.Maps.OwnSet
import Derived.StringKeys
import Derived.Deep.DeepCutAuto
namespace Go.Proofs.YtbcfhpomclkccaaDoor
open Go.RowKit Go.Maps

/-- How an entry reads: whether it counts bare, and what it stands for. -/
def entR (v : Value) : Option (DataW Unit × List MemPlace) := match v with
  | .agg a => match a.toList with
    | [.string s, .bool b] => some (.lit (.string ((if b then 1 else 0) :: s.data.toList)), [])
    | _ => none
  | _ => none
def entD (is : ByteArray) (b : Bool) : DataW Unit := .lit (.string ((if b then 1 else 0) :: is.data.toList))
theorem entR_mk (is : ByteArray) (b : Bool) : entR (.agg #[.string is, .bool b]) = some (entD is b, []) := rfl
theorem entR_inv {v : Value} {is : ByteArray} {b : Bool} {ps : List MemPlace} (h : entR v = some (entD is b, ps)) : v = .agg #[.string is, .bool b] := by
  unfold entR at h
  cases v <;> simp only at h <;> try cases h
  rename_i a
  split at h
  · rename_i s b' ha
    have h1 := Option.some.inj h
    have h2 : (DataW.lit (.string ((if b' then 1 else 0) :: s.data.toList)) : DataW Unit) = entD is b := congrArg Prod.fst h1
    unfold entD at h2
    injection h2 with h3
    injection h3 with h4
    have h5 : s = is := ByteArray.ext (Array.toList_inj.1 (List.cons.inj h4).2)
    have h6 : b' = b := by
      have := (List.cons.inj h4).1
      revert this
      cases b' <;> cases b <;> decide
    rw [h5, h6] at ha
    have : a = #[.string is, .bool b] := by rw [← Array.toList_inj]; exact ha
    rw [this]
  · cases h
def tabL : List (ByteArray × ByteArray × Bool) := [(⟨#[97, 109, 112]⟩, ⟨#[38]⟩, true), (⟨#[65, 77, 80]⟩, ⟨#[38]⟩, true), (⟨#[108, 116]⟩, ⟨#[60]⟩, true), (⟨#[76, 84]⟩, ⟨#[60]⟩, true), (⟨#[103, 116]⟩, ⟨#[62]⟩, true), (⟨#[71, 84]⟩, ⟨#[62]⟩, true), (⟨#[113, 117, 111, 116]⟩, ⟨#[34]⟩, true), (⟨#[81, 85, 79, 84]⟩, ⟨#[34]⟩, true), (⟨#[110, 98, 115, 112]⟩, ⟨#[194, 160]⟩, true), (⟨#[99, 111, 112, 121]⟩, ⟨#[194, 169]⟩, true), (⟨#[67, 79, 80, 89]⟩, ⟨#[194, 169]⟩, true), (⟨#[114, 101, 103]⟩, ⟨#[194, 174]⟩, true), (⟨#[110, 111, 116]⟩, ⟨#[194, 172]⟩, true), (⟨#[112, 97, 114, 97]⟩, ⟨#[194, 182]⟩, true), (⟨#[115, 101, 99, 116]⟩, ⟨#[194, 167]⟩, true), (⟨#[99, 101, 110, 116]⟩, ⟨#[194, 162]⟩, true), (⟨#[112, 111, 117, 110, 100]⟩, ⟨#[194, 163]⟩, true), (⟨#[121, 101, 110]⟩, ⟨#[194, 165]⟩, true), (⟨#[100, 101, 103]⟩, ⟨#[194, 176]⟩, true), (⟨#[109, 105, 99, 114, 111]⟩, ⟨#[194, 181]⟩, true), (⟨#[116, 105, 109, 101, 115]⟩, ⟨#[195, 151]⟩, true), (⟨#[100, 105, 118, 105, 100, 101]⟩, ⟨#[195, 183]⟩, true), (⟨#[102, 114, 97, 99, 49, 50]⟩, ⟨#[194, 189]⟩, true), (⟨#[108, 97, 113, 117, 111]⟩, ⟨#[194, 171]⟩, true), (⟨#[114, 97, 113, 117, 111]⟩, ⟨#[194, 187]⟩, true), (⟨#[105, 101, 120, 99, 108]⟩, ⟨#[194, 161]⟩, true), (⟨#[105, 113, 117, 101, 115, 116]⟩, ⟨#[194, 191]⟩, true), (⟨#[109, 105, 100, 100, 111, 116]⟩, ⟨#[194, 183]⟩, true), (⟨#[112, 108, 117, 115, 109, 110]⟩, ⟨#[194, 177]⟩, true), (⟨#[101, 97, 99, 117, 116, 101]⟩, ⟨#[195, 169]⟩, true), (⟨#[69, 97, 99, 117, 116, 101]⟩, ⟨#[195, 137]⟩, true), (⟨#[97, 103, 114, 97, 118, 101]⟩, ⟨#[195, 160]⟩, true), (⟨#[99, 99, 101, 100, 105, 108]⟩, ⟨#[195, 167]⟩, true), (⟨#[111, 117, 109, 108]⟩, ⟨#[195, 182]⟩, true), (⟨#[79, 117, 109, 108]⟩, ⟨#[195, 150]⟩, true), (⟨#[97, 117, 109, 108]⟩, ⟨#[195, 164]⟩, true), (⟨#[65, 117, 109, 108]⟩, ⟨#[195, 132]⟩, true), (⟨#[117, 117, 109, 108]⟩, ⟨#[195, 188]⟩, true), (⟨#[85, 117, 109, 108]⟩, ⟨#[195, 156]⟩, true), (⟨#[115, 122, 108, 105, 103]⟩, ⟨#[195, 159]⟩, true), (⟨#[110, 116, 105, 108, 100, 101]⟩, ⟨#[195, 177]⟩, true), (⟨#[115, 104, 121]⟩, ⟨#[194, 173]⟩, true), (⟨#[97, 112, 111, 115]⟩, ⟨#[39]⟩, false), (⟨#[104, 101, 108, 108, 105, 112]⟩, ⟨#[226, 128, 166]⟩, false), (⟨#[109, 100, 97, 115, 104]⟩, ⟨#[226, 128, 148]⟩, false), (⟨#[110, 100, 97, 115, 104]⟩, ⟨#[226, 128, 147]⟩, false), (⟨#[108, 115, 113, 117, 111]⟩, ⟨#[226, 128, 152]⟩, false), (⟨#[114, 115, 113, 117, 111]⟩, ⟨#[226, 128, 153]⟩, false), (⟨#[108, 100, 113, 117, 111]⟩, ⟨#[226, 128, 156]⟩, false), (⟨#[114, 100, 113, 117, 111]⟩, ⟨#[226, 128, 157]⟩, false), (⟨#[98, 117, 108, 108]⟩, ⟨#[226, 128, 162]⟩, false), (⟨#[101, 117, 114, 111]⟩, ⟨#[226, 130, 172]⟩, false), (⟨#[116, 114, 97, 100, 101]⟩, ⟨#[226, 132, 162]⟩, false), (⟨#[108, 97, 114, 114]⟩, ⟨#[226, 134, 144]⟩, false), (⟨#[114, 97, 114, 114]⟩, ⟨#[226, 134, 146]⟩, false), (⟨#[104, 97, 114, 114]⟩, ⟨#[226, 134, 148]⟩, false), (⟨#[105, 110, 102, 105, 110]⟩, ⟨#[226, 136, 158]⟩, false), (⟨#[110, 101]⟩, ⟨#[226, 137, 160]⟩, false), (⟨#[108, 101]⟩, ⟨#[226, 137, 164]⟩, false), (⟨#[103, 101]⟩, ⟨#[226, 137, 165]⟩, false), (⟨#[115, 117, 109]⟩, ⟨#[226, 136, 145]⟩, false), (⟨#[112, 114, 111, 100]⟩, ⟨#[226, 136, 143]⟩, false), (⟨#[114, 97, 100, 105, 99]⟩, ⟨#[226, 136, 154]⟩, false), (⟨#[110, 111, 116, 105, 110]⟩, ⟨#[226, 136, 137]⟩, false), (⟨#[97, 108, 112, 104, 97]⟩, ⟨#[206, 177]⟩, false), (⟨#[98, 101, 116, 97]⟩, ⟨#[206, 178]⟩, false), (⟨#[103, 97, 109, 109, 97]⟩, ⟨#[206, 179]⟩, false), (⟨#[100, 101, 108, 116, 97]⟩, ⟨#[206, 180]⟩, false), (⟨#[101, 112, 115, 105, 108, 111, 110]⟩, ⟨#[206, 181]⟩, false), (⟨#[108, 97, 109, 98, 100, 97]⟩, ⟨#[206, 187]⟩, false), (⟨#[109, 117]⟩, ⟨#[206, 188]⟩, false), (⟨#[112, 105]⟩, ⟨#[207, 128]⟩, false), (⟨#[115, 105, 103, 109, 97]⟩, ⟨#[207, 131]⟩, false), (⟨#[111, 109, 101, 103, 97]⟩, ⟨#[207, 137]⟩, false), (⟨#[79, 109, 101, 103, 97]⟩, ⟨#[206, 169]⟩, false), (⟨#[83, 105, 103, 109, 97]⟩, ⟨#[206, 163]⟩, false), (⟨#[108, 98, 114, 97, 99, 101]⟩, ⟨#[123]⟩, false), (⟨#[114, 98, 114, 97, 99, 101]⟩, ⟨#[125]⟩, false), (⟨#[108, 98, 114, 97, 99, 107]⟩, ⟨#[91]⟩, false), (⟨#[114, 98, 114, 97, 99, 107]⟩, ⟨#[93]⟩, false), (⟨#[108, 112, 97, 114]⟩, ⟨#[40]⟩, false), (⟨#[114, 112, 97, 114]⟩, ⟨#[41]⟩, false), (⟨#[97, 115, 116]⟩, ⟨#[42]⟩, false), (⟨#[110, 117, 109]⟩, ⟨#[35]⟩, false), (⟨#[115, 111, 108]⟩, ⟨#[47]⟩, false), (⟨#[98, 115, 111, 108]⟩, ⟨#[92]⟩, false), (⟨#[99, 111, 108, 111, 110]⟩, ⟨#[58]⟩, false), (⟨#[115, 101, 109, 105]⟩, ⟨#[59]⟩, false), (⟨#[101, 120, 99, 108]⟩, ⟨#[33]⟩, false), (⟨#[101, 113, 117, 97, 108, 115]⟩, ⟨#[61]⟩, false), (⟨#[103, 114, 97, 118, 101]⟩, ⟨#[96]⟩, false), (⟨#[108, 111, 119, 98, 97, 114]⟩, ⟨#[95]⟩, false), (⟨#[118, 101, 114, 116]⟩, ⟨#[124]⟩, false), (⟨#[84, 97, 98]⟩, ⟨#[9]⟩, false), (⟨#[78, 101, 119, 76, 105, 110, 101]⟩, ⟨#[10]⟩, false), (⟨#[110, 103, 69]⟩, ⟨#[226, 137, 167, 204, 184]⟩, false), (⟨#[110, 118, 108, 116]⟩, ⟨#[60, 226, 131, 146]⟩, false), (⟨#[97, 99, 69]⟩, ⟨#[226, 136, 190, 204, 179]⟩, false)]
def tabD : List (ByteArray × ByteArray × Bool) → DataW Unit → DataW Unit
  | [], D => D
  | x :: r, D => tabD r (D.put (.string x.1.data.toList) (entD x.2.1 x.2.2))
def TabAt (w : World) (B : Nat) : Prop := w.ownsMap (H := Unit) Tryd.prog 9 entR B 98 (tabD tabL (.map []))
theorem TabAt.later {w w' : World} {B : Nat} (h : TabAt w B) (hb : Below w.heap.size w w') : TabAt w' B := by
  obtain ⟨es, clock, h1, h2⟩ := h
  exact ⟨es, clock, (hb.block _ (Array.getElem?_eq_some_iff.1 h1).1).trans h1, h2⟩
theorem tab_keyed : Keyed Tryd.prog 9 := string_keyed Tryd.underlying9
theorem put_size (a : Act) (d : Option Nat) (v : Value) : (a.put d v).tmps.size = a.tmps.size := by
  cases d with
  | none => rfl
  | some k => simp [Act.put]
theorem put_defers (a : Act) (d : Option Nat) (v : Value) : (a.put d v).defers = a.defers := by
  cases d with
  | none => rfl
  | some k => rfl
theorem put_other (a : Act) (k j : Nat) (v : Value) (h : k ≠ j) : (a.put (some k) v).eval (.tmp j) = a.eval (.tmp j) := by
  simp [Act.put, Act.eval, Array.getD_eq_getD_getElem?, h]
theorem put_same (a : Act) (k : Nat) (v : Value) (h : k < a.tmps.size) : (a.put (some k) v).eval (.tmp k) = v := by
  simp [Act.put, Act.eval, Array.getD_eq_getD_getElem?, h]
theorem run_entry (is : ByteArray) (b : Bool) (w : World) : (Instr.build 88 #[(0, .string is), (1, .bool b)]).run Tryd.prog w = .ok (.agg #[.string is, .bool b]) w := by kernel_rfl
/-- An entry, made and laid in. -/
theorem wp_pair {ops : Array Oper} {rest : List Oper} {o1 o2 : Oper} {a : Act} {Q : Exit → Act → World → Prop} (w : World) (k b n : Nat) (key is : ByteArray) (bare : Bool) (D : DataW Unit) (h1 : o1.op = Op.build 88 #[(0, .const (.string is)), (1, .const (.bool bare))]) (hd1 : o1.dst = some k) (hg1 : o1.guard = none)
    (h2 : o2.op = Op.insert 90 (.tmp 1) (.const (.string key)) (.tmp k)) (hd2 : o2.dst = none) (hg2 : o2.guard = none) (hk : k ≠ 1) (hks : k < 101) (hs : a.tmps.size = 101) (hm : a.eval (.tmp 1) = .map (some b)) (hown : w.ownsMap (H := Unit) Tryd.prog 9 entR b n D) (hn : n < maxLen) (hkey : key.size ≤ maxLen)
    (hK : ∀ (a' : Act) (w' : World), a'.tmps.size = 101 → a'.defers = a.defers → a'.eval (.tmp 1) = .map (some b) → w'.ownsMap (H := Unit) Tryd.prog 9 entR b (n + 1) (D.put (.string key.data.toList) (entD is bare)) → w.grownBy w' (some b) → wpList Tryd.prog ops Q rest a' w') : wpList Tryd.prog ops Q (o1 :: o2 :: rest) a w := by
  refine wpList_plain hg1 fun K hK1 => ?_
  have r1 : (execOp a.eval o1).run Tryd.prog w = .ok (.value (.agg #[.string is, .bool bare])) w := by
    have := run_entry is bare w
    simp [execOp, h1, Act.eval, this, Result.andThen]
  unfold Oper.wp
  rw [r1]
  refine hK1 _ _ ?_
  refine wpList_plain hg2 fun K2 hK2 => ?_
  rw [hd1]
  obtain ⟨w2, hrun, q1, q2⟩ := hown.update tab_keyed Tryd.underlying90 hn (WideMaps.keyOf_string_mk Tryd.underlying9 hkey) (entR_mk is bare)
  have e1 := put_other a k 1 (.agg #[.string is, .bool bare]) hk
  have e2 := put_same a k (.agg #[.string is, .bool bare]) (by omega)
  have r2 : (execOp (a.put (some k) (.agg #[.string is, .bool bare])).eval o2).run Tryd.prog w = .ok .skip w2 := by
    simp only [execOp, h2, e1, hm, e2]
    simp [Act.eval, hrun, Result.andThen]
  unfold Oper.wp
  rw [r2]
  refine hK2 _ _ (hK _ _ ?_ ?_ ?_ q1 q2)
  · rw [put_size, put_size, hs]
  · rw [put_defers, put_defers]
  · rw [hd2]
    exact e1.trans hm
theorem wp_make {ops : Array Oper} {rest : List Oper} {o : Oper} {a : Act} {Q : Exit → Act → World → Prop} (w : World) (h1 : o.op = Op.makeMap 90 none) (hd : o.dst = some 1) (hg : o.guard = none) (hs : a.tmps.size = 101)
    (hK : ∀ (a' : Act), a'.tmps.size = 101 → a'.defers = a.defers → a'.eval (.tmp 1) = .map (some w.heap.size) → wpList Tryd.prog ops Q rest a' (w.alloc (.map #[] 0))) : wpList Tryd.prog ops Q (o :: rest) a w := by
  refine wpList_plain hg fun K hK1 => ?_
  have hr := @run_makeMap Tryd.prog
  have r1 : (execOp a.eval o).run Tryd.prog w = .ok (.value (.map (some w.heap.size))) (w.alloc (.map #[] 0)) := by
    simp [execOp, h1, hr, Result.andThen]
  unfold Oper.wp
  rw [r1]
  refine hK1 _ _ ?_
  rw [hd]
  refine hK _ ?_ ?_ ?_
  · rw [put_size, hs]
  · rw [put_defers]
  · exact put_same a 1 _ (by omega)
theorem wp_mv {ops : Array Oper} {rest : List Oper} {o : Oper} {a : Act} {Q : Exit → Act → World → Prop} (w : World) (j k : Nat) (v : Value) (h1 : o.op = Op.move (.tmp j) ∨ o.op = Op.assign (.tmp j)) (hd : o.dst = some k) (hg : o.guard = none) (hs : a.tmps.size = 101) (hk : k < 101) (hm : a.eval (.tmp j) = v)
    (hK : ∀ (a' : Act), a'.tmps.size = 101 → a'.defers = a.defers → a'.eval (.tmp k) = v → wpList Tryd.prog ops Q rest a' w) : wpList Tryd.prog ops Q (o :: rest) a w := by
  refine wpList_plain hg fun K hK1 => ?_
  have r1 : (execOp a.eval o).run Tryd.prog w = .ok (.value v) w := by
    rcases h1 with h1 | h1
    · simp [execOp, h1, hm]
    · simp [execOp, h1, hm]
  unfold Oper.wp
  rw [r1]
  refine hK1 _ _ ?_
  rw [hd]
  refine hK _ ?_ ?_ ?_
  · rw [put_size, hs]
  · rw [put_defers]
  · exact put_same a k _ (by omega)
set_option maxRecDepth 1000000 in
set_option maxHeartbeats 40000000 in
theorem table_any (w : World) : Calls Tryd.prog 66 #[] w fun e w' => ∃ B, e = .returned (.map (some B)) ∧ TabAt w' B ∧ w.heap.size ≤ B ∧ Below w.heap.size w w' := by
  go_enter Tryd.func66, Tryd.ntmps66
  go_upto_region 1 with fail
  refine wp_region_lit ?_
  generalize hops : List.toArray _ = ops
  clear hops
  refine wp_make _ rfl rfl rfl rfl (fun a1 s1 d1 m1 => ?_)
  have hown0 := World.ownsMap_made w Tryd.prog 9 entR
  have hb0 : Below w.heap.size w (w.alloc (.map #[] 0)) := (Below.refl _ w).alloc (Nat.le_refl _) _
  generalize w.alloc (.map #[] 0) = w0 at *
  refine wp_pair _ 2 w.heap.size 0 ⟨#[97, 109, 112]⟩ ⟨#[38]⟩ true _ rfl rfl rfl rfl rfl rfl (by decide) (by decide) s1 m1 hown0 (by decide) (by decide) (fun a2 w1 s2 d2 m2 hown1 hg1 => ?_)
  have hb1 := hb0.grown hg1 hb0.size (fun j hj => by cases hj; exact Nat.le_refl _)
  clear s1 m1 hown0 hg1 hb0
  refine wp_pair _ 3 w.heap.size 1 ⟨#[65, 77, 80]⟩ ⟨#[38]⟩ true _ rfl rfl rfl rfl rfl rfl (by decide) (by decide) s2 m2 hown1 (by decide) (by decide) (fun a3 w2 s3 d3 m3 hown2 hg2 => ?_)
  have hb2 := hb1.grown hg2 hb1.size (fun j hj => by cases hj; exact Nat.le_refl _)
  clear s2 m2 hown1 hg2 hb1
  refine wp_pair _ 4 w.heap.size 2 ⟨#[108, 116]⟩ ⟨#[60]⟩ true _ rfl rfl rfl rfl rfl rfl (by decide) (by decide) s3 m3 hown2 (by decide) (by decide) (fun a4 w3 s4 d4 m4 hown3 hg3 => ?_)
  have hb3 := hb2.grown hg3 hb2.size (fun j hj => by cases hj; exact Nat.le_refl _)
  clear s3 m3 hown2 hg3 hb2
  refine wp_pair _ 5 w.heap.size 3 ⟨#[76, 84]⟩ ⟨#[60]⟩ true _ rfl rfl rfl rfl rfl rfl (by decide) (by decide) s4 m4 hown3 (by decide) (by decide) (fun a5 w4 s5 d5 m5 hown4 hg4 => ?_)
  have hb4 := hb3.grown hg4 hb3.size (fun j hj => by cases hj; exact Nat.le_refl _)
  clear s4 m4 hown3 hg4 hb3
  refine wp_pair _ 6 w.heap.size 4 ⟨#[103, 116]⟩ ⟨#[62]⟩ true _ rfl rfl rfl rfl rfl rfl (by decide) (by decide) s5 m5 hown4 (by decide) (by decide) (fun a6 w5 s6 d6 m6 hown5 hg5 => ?_)
  have hb5 := hb4.grown hg5 hb4.size (fun j hj => by cases hj; exact Nat.le_refl _)
  clear s5 m5 hown4 hg5 hb4
  refine wp_pair _ 7 w.heap.size 5 ⟨#[71, 84]⟩ ⟨#[62]⟩ true _ rfl rfl rfl rfl rfl rfl (by decide) (by decide) s6 m6 hown5 (by decide) (by decide) (fun a7 w6 s7 d7 m7 hown6 hg6 => ?_)
  have hb6 := hb5.grown hg6 hb5.size (fun j hj => by cases hj; exact Nat.le_refl _)
  clear s6 m6 hown5 hg6 hb5
  refine wp_pair _ 8 w.heap.size 6 ⟨#[113, 117, 111, 116]⟩ ⟨#[34]⟩ true _ rfl rfl rfl rfl rfl rfl (by decide) (by decide) s7 m7 hown6 (by decide) (by decide) (fun a8 w7 s8 d8 m8 hown7 hg7 => ?_)
  have hb7 := hb6.grown hg7 hb6.size (fun j hj => by cases hj; exact Nat.le_refl _)
  clear s7 m7 hown6 hg7 hb6
  refine wp_pair _ 9 w.heap.size 7 ⟨#[81, 85, 79, 84]⟩ ⟨#[34]⟩ true _ rfl rfl rfl rfl rfl rfl (by decide) (by decide) s8 m8 hown7 (by decide) (by decide) (fun a9 w8 s9 d9 m9 hown8 hg8 => ?_)
  have hb8 := hb7.grown hg8 hb7.size (fun j hj => by cases hj; exact Nat.le_refl _)
  clear s8 m8 hown7 hg8 hb7
  refine wp_pair _ 10 w.heap.size 8 ⟨#[110, 98, 115, 112]⟩ ⟨#[194, 160]⟩ true _ rfl rfl rfl rfl rfl rfl (by decide) (by decide) s9 m9 hown8 (by decide) (by decide) (fun a10 w9 s10 d10 m10 hown9 hg9 => ?_)
  have hb9 := hb8.grown hg9 hb8.size (fun j hj => by cases hj; exact Nat.le_refl _)
  clear s9 m9 hown8 hg9 hb8
  refine wp_pair _ 11 w.heap.size 9 ⟨#[99, 111, 112, 121]⟩ ⟨#[194, 169]⟩ true _ rfl rfl rfl rfl rfl rfl (by decide) (by decide) s10 m10 hown9 (by decide) (by decide) (fun a11 w10 s11 d11 m11 hown10 hg10 => ?_)
  have hb10 := hb9.grown hg10 hb9.size (fun j hj => by cases hj; exact Nat.le_refl _)
  clear s10 m10 hown9 hg10 hb9
  refine wp_pair _ 12 w.heap.size 10 ⟨#[67, 79, 80, 89]⟩ ⟨#[194, 169]⟩ true _ rfl rfl rfl rfl rfl rfl (by decide) (by decide) s11 m11 hown10 (by decide) (by decide) (fun a12 w11 s12 d12 m12 hown11 hg11 => ?_)
  have hb11 := hb10.grown hg11 hb10.size (fun j hj => by cases hj; exact Nat.le_refl _)
  clear s11 m11 hown10 hg11 hb10
  refine wp_pair _ 13 w.heap.size 11 ⟨#[114, 101, 103]⟩ ⟨#[194, 174]⟩ true _ rfl rfl rfl rfl rfl rfl (by decide) (by decide) s12 m12 hown11 (by decide) (by decide) (fun a13 w12 s13 d13 m13 hown12 hg12 => ?_)
  have hb12 := hb11.grown hg12 hb11.size (fun j hj => by cases hj; exact Nat.le_refl _)
  clear s12 m12 hown11 hg12 hb11
  refine wp_pair _ 14 w.heap.size 12 ⟨#[110, 111, 116]⟩ ⟨#[194, 172]⟩ true _ rfl rfl rfl rfl rfl rfl (by decide) (by decide) s13 m13 hown12 (by decide) (by decide) (fun a14 w13 s14 d14 m14 hown13 hg13 => ?_)
  have hb13 := hb12.grown hg13 hb12.size (fun j hj => by cases hj; exact Nat.le_refl _)
  clear s13 m13 hown12 hg13 hb12
  refine wp_pair _ 15 w.heap.size 13 ⟨#[112, 97, 114, 97]⟩ ⟨#[194, 182]⟩ true _ rfl rfl rfl rfl rfl rfl (by decide) (by decide) s14 m14 hown13 (by decide) (by decide) (fun a15 w14 s15 d15 m15 hown14 hg14 => ?_)
  have hb14 := hb13.grown hg14 hb13.size (fun j hj => by cases hj; exact Nat.le_refl _)
  clear s14 m14 hown13 hg14 hb13
  refine wp_pair _ 16 w.heap.size 14 ⟨#[115, 101, 99, 116]⟩ ⟨#[194, 167]⟩ true _ rfl rfl rfl rfl rfl rfl (by decide) (by decide) s15 m15 hown14 (by decide) (by decide) (fun a16 w15 s16 d16 m16 hown15 hg15 => ?_)
  have hb15 := hb14.grown hg15 hb14.size (fun j hj => by cases hj; exact Nat.le_refl _)
  clear s15 m15 hown14 hg15 hb14
  refine wp_pair _ 17 w.heap.size 15 ⟨#[99, 101, 110, 116]⟩ ⟨#[194, 162]⟩ true _ rfl rfl rfl rfl rfl rfl (by decide) (by decide) s16 m16 hown15 (by decide) (by decide) (fun a17 w16 s17 d17 m17 hown16 hg16 => ?_)
  have hb16 := hb15.grown hg16 hb15.size (fun j hj => by cases hj; exact Nat.le_refl _)
  clear s16 m16 hown15 hg16 hb15
  refine wp_pair _ 18 w.heap.size 16 ⟨#[112, 111, 117, 110, 100]⟩ ⟨#[194, 163]⟩ true _ rfl rfl rfl rfl rfl rfl (by decide) (by decide) s17 m17 hown16 (by decide) (by decide) (fun a18 w17 s18 d18 m18 hown17 hg17 => ?_)
  have hb17 := hb16.grown hg17 hb16.size (fun j hj => by cases hj; exact Nat.le_refl _)
  clear s17 m17 hown16 hg17 hb16
  refine wp_pair _ 19 w.heap.size 17 ⟨#[121, 101, 110]⟩ ⟨#[194, 165]⟩ true _ rfl rfl rfl rfl rfl rfl (by decide) (by decide) s18 m18 hown17 (by decide) (by decide) (fun a19 w18 s19 d19 m19 hown18 hg18 => ?_)
  have hb18 := hb17.grown hg18 hb17.size (fun j hj => by cases hj; exact Nat.le_refl _)
  clear s18 m18 hown17 hg18 hb17
  refine wp_pair _ 20 w.heap.size 18 ⟨#[100, 101, 103]⟩ ⟨#[194, 176]⟩ true _ rfl rfl rfl rfl rfl rfl (by decide) (by decide) s19 m19 hown18 (by decide) (by decide) (fun a20 w19 s20 d20 m20 hown19 hg19 => ?_)
  have hb19 := hb18.grown hg19 hb18.size (fun j hj => by cases hj; exact Nat.le_refl _)
  clear s19 m19 hown18 hg19 hb18
  refine wp_pair _ 21 w.heap.size 19 ⟨#[109, 105, 99, 114, 111]⟩ ⟨#[194, 181]⟩ true _ rfl rfl rfl rfl rfl rfl (by decide) (by decide) s20 m20 hown19 (by decide) (by decide) (fun a21 w20 s21 d21 m21 hown20 hg20 => ?_)
  have hb20 := hb19.grown hg20 hb19.size (fun j hj => by cases hj; exact Nat.le_refl _)
  clear s20 m20 hown19 hg20 hb19
  refine wp_pair _ 22 w.heap.size 20 ⟨#[116, 105, 109, 101, 115]⟩ ⟨#[195, 151]⟩ true _ rfl rfl rfl rfl rfl rfl (by decide) (by decide) s21 m21 hown20 (by decide) (by decide) (fun a22 w21 s22 d22 m22 hown21 hg21 => ?_)
  have hb21 := hb20.grown hg21 hb20.size (fun j hj => by cases hj; exact Nat.le_refl _)
  clear s21 m21 hown20 hg21 hb20
  refine wp_pair _ 23 w.heap.size 21 ⟨#[100, 105, 118, 105, 100, 101]⟩ ⟨#[195, 183]⟩ true _ rfl rfl rfl rfl rfl rfl (by decide) (by decide) s22 m22 hown21 (by decide) (by decide) (fun a23 w22 s23 d23 m23 hown22 hg22 => ?_)
  have hb22 := hb21.grown hg22 hb21.size (fun j hj => by cases hj; exact Nat.le_refl _)
  clear s22 m22 hown21 hg22 hb21
  refine wp_pair _ 24 w.heap.size 22 ⟨#[102, 114, 97, 99, 49, 50]⟩ ⟨#[194, 189]⟩ true _ rfl rfl rfl rfl rfl rfl (by decide) (by decide) s23 m23 hown22 (by decide) (by decide) (fun a24 w23 s24 d24 m24 hown23 hg23 => ?_)
  have hb23 := hb22.grown hg23 hb22.size (fun j hj => by cases hj; exact Nat.le_refl _)
  clear s23 m23 hown22 hg23 hb22
  refine wp_pair _ 25 w.heap.size 23 ⟨#[108, 97, 113, 117, 111]⟩ ⟨#[194, 171]⟩ true _ rfl rfl rfl rfl rfl rfl (by decide) (by decide) s24 m24 hown23 (by decide) (by decide) (fun a25 w24 s25 d25 m25 hown24 hg24 => ?_)
  have hb24 := hb23.grown hg24 hb23.size (fun j hj => by cases hj; exact Nat.le_refl _)
  clear s24 m24 hown23 hg24 hb23
  refine wp_pair _ 26 w.heap.size 24 ⟨#[114, 97, 113, 117, 111]⟩ ⟨#[194, 187]⟩ true _ rfl rfl rfl rfl rfl rfl (by decide) (by decide) s25 m25 hown24 (by decide) (by decide) (fun a26 w25 s26 d26 m26 hown25 hg25 => ?_)
  have hb25 := hb24.grown hg25 hb24.size (fun j hj => by cases hj; exact Nat.le_refl _)
  clear s25 m25 hown24 hg25 hb24
  refine wp_pair _ 27 w.heap.size 25 ⟨#[105, 101, 120, 99, 108]⟩ ⟨#[194, 161]⟩ true _ rfl rfl rfl rfl rfl rfl (by decide) (by decide) s26 m26 hown25 (by decide) (by decide) (fun a27 w26 s27 d27 m27 hown26 hg26 => ?_)
  have hb26 := hb25.grown hg26 hb25.size (fun j hj => by cases hj; exact Nat.le_refl _)
  clear s26 m26 hown25 hg26 hb25
  refine wp_pair _ 28 w.heap.size 26 ⟨#[105, 113, 117, 101, 115, 116]⟩ ⟨#[194, 191]⟩ true _ rfl rfl rfl rfl rfl rfl (by decide) (by decide) s27 m27 hown26 (by decide) (by decide) (fun a28 w27 s28 d28 m28 hown27 hg27 => ?_)
  have hb27 := hb26.grown hg27 hb26.size (fun j hj => by cases hj; exact Nat.le_refl _)
  clear s27 m27 hown26 hg27 hb26
  refine wp_pair _ 29 w.heap.size 27 ⟨#[109, 105, 100, 100, 111, 116]⟩ ⟨#[194, 183]⟩ true _ rfl rfl rfl rfl rfl rfl (by decide) (by decide) s28 m28 hown27 (by decide) (by decide) (fun a29 w28 s29 d29 m29 hown28 hg28 => ?_)
  have hb28 := hb27.grown hg28 hb27.size (fun j hj => by cases hj; exact Nat.le_refl _)
  clear s28 m28 hown27 hg28 hb27
  refine wp_pair _ 30 w.heap.size 28 ⟨#[112, 108, 117, 115, 109, 110]⟩ ⟨#[194, 177]⟩ true _ rfl rfl rfl rfl rfl rfl (by decide) (by decide) s29 m29 hown28 (by decide) (by decide) (fun a30 w29 s30 d30 m30 hown29 hg29 => ?_)
  have hb29 := hb28.grown hg29 hb28.size (fun j hj => by cases hj; exact Nat.le_refl _)
  clear s29 m29 hown28 hg29 hb28
  refine wp_pair _ 31 w.heap.size 29 ⟨#[101, 97, 99, 117, 116, 101]⟩ ⟨#[195, 169]⟩ true _ rfl rfl rfl rfl rfl rfl (by decide) (by decide) s30 m30 hown29 (by decide) (by decide) (fun a31 w30 s31 d31 m31 hown30 hg30 => ?_)
  have hb30 := hb29.grown hg30 hb29.size (fun j hj => by cases hj; exact Nat.le_refl _)
  clear s30 m30 hown29 hg30 hb29
  refine wp_pair _ 32 w.heap.size 30 ⟨#[69, 97, 99, 117, 116, 101]⟩ ⟨#[195, 137]⟩ true _ rfl rfl rfl rfl rfl rfl (by decide) (by decide) s31 m31 hown30 (by decide) (by decide) (fun a32 w31 s32 d32 m32 hown31 hg31 => ?_)
  have hb31 := hb30.grown hg31 hb30.size (fun j hj => by cases hj; exact Nat.le_refl _)
  clear s31 m31 hown30 hg31 hb30
  refine wp_pair _ 33 w.heap.size 31 ⟨#[97, 103, 114, 97, 118, 101]⟩ ⟨#[195, 160]⟩ true _ rfl rfl rfl rfl rfl rfl (by decide) (by decide) s32 m32 hown31 (by decide) (by decide) (fun a33 w32 s33 d33 m33 hown32 hg32 => ?_)
  have hb32 := hb31.grown hg32 hb31.size (fun j hj => by cases hj; exact Nat.le_refl _)
  clear s32 m32 hown31 hg32 hb31
  refine wp_pair _ 34 w.heap.size 32 ⟨#[99, 99, 101, 100, 105, 108]⟩ ⟨#[195, 167]⟩ true _ rfl rfl rfl rfl rfl rfl (by decide) (by decide) s33 m33 hown32 (by decide) (by decide) (fun a34 w33 s34 d34 m34 hown33 hg33 => ?_)
  have hb33 := hb32.grown hg33 hb32.size (fun j hj => by cases hj; exact Nat.le_refl _)
  clear s33 m33 hown32 hg33 hb32
  refine wp_pair _ 35 w.heap.size 33 ⟨#[111, 117, 109, 108]⟩ ⟨#[195, 182]⟩ true _ rfl rfl rfl rfl rfl rfl (by decide) (by decide) s34 m34 hown33 (by decide) (by decide) (fun a35 w34 s35 d35 m35 hown34 hg34 => ?_)
  have hb34 := hb33.grown hg34 hb33.size (fun j hj => by cases hj; exact Nat.le_refl _)
  clear s34 m34 hown33 hg34 hb33
  refine wp_pair _ 36 w.heap.size 34 ⟨#[79, 117, 109, 108]⟩ ⟨#[195, 150]⟩ true _ rfl rfl rfl rfl rfl rfl (by decide) (by decide) s35 m35 hown34 (by decide) (by decide) (fun a36 w35 s36 d36 m36 hown35 hg35 => ?_)
  have hb35 := hb34.grown hg35 hb34.size (fun j hj => by cases hj; exact Nat.le_refl _)
  clear s35 m35 hown34 hg35 hb34
  refine wp_pair _ 37 w.heap.size 35 ⟨#[97, 117, 109, 108]⟩ ⟨#[195, 164]⟩ true _ rfl rfl rfl rfl rfl rfl (by decide) (by decide) s36 m36 hown35 (by decide) (by decide) (fun a37 w36 s37 d37 m37 hown36 hg36 => ?_)
  have hb36 := hb35.grown hg36 hb35.size (fun j hj => by cases hj; exact Nat.le_refl _)
  clear s36 m36 hown35 hg36 hb35
  refine wp_pair _ 38 w.heap.size 36 ⟨#[65, 117, 109, 108]⟩ ⟨#[195, 132]⟩ true _ rfl rfl rfl rfl rfl rfl (by decide) (by decide) s37 m37 hown36 (by decide) (by decide) (fun a38 w37 s38 d38 m38 hown37 hg37 => ?_)
  have hb37 := hb36.grown hg37 hb36.size (fun j hj => by cases hj; exact Nat.le_refl _)
  clear s37 m37 hown36 hg37 hb36
  refine wp_pair _ 39 w.heap.size 37 ⟨#[117, 117, 109, 108]⟩ ⟨#[195, 188]⟩ true _ rfl rfl rfl rfl rfl rfl (by decide) (by decide) s38 m38 hown37 (by decide) (by decide) (fun a39 w38 s39 d39 m39 hown38 hg38 => ?_)
  have hb38 := hb37.grown hg38 hb37.size (fun j hj => by cases hj; exact Nat.le_refl _)
  clear s38 m38 hown37 hg38 hb37
  refine wp_pair _ 40 w.heap.size 38 ⟨#[85, 117, 109, 108]⟩ ⟨#[195, 156]⟩ true _ rfl rfl rfl rfl rfl rfl (by decide) (by decide) s39 m39 hown38 (by decide) (by decide) (fun a40 w39 s40 d40 m40 hown39 hg39 => ?_)
  have hb39 := hb38.grown hg39 hb38.size (fun j hj => by cases hj; exact Nat.le_refl _)
  clear s39 m39 hown38 hg39 hb38
  refine wp_pair _ 41 w.heap.size 39 ⟨#[115, 122, 108, 105, 103]⟩ ⟨#[195, 159]⟩ true _ rfl rfl rfl rfl rfl rfl (by decide) (by decide) s40 m40 hown39 (by decide) (by decide) (fun a41 w40 s41 d41 m41 hown40 hg40 => ?_)
  have hb40 := hb39.grown hg40 hb39.size (fun j hj => by cases hj; exact Nat.le_refl _)
  clear s40 m40 hown39 hg40 hb39
  refine wp_pair _ 42 w.heap.size 40 ⟨#[110, 116, 105, 108, 100, 101]⟩ ⟨#[195, 177]⟩ true _ rfl rfl rfl rfl rfl rfl (by decide) (by decide) s41 m41 hown40 (by decide) (by decide) (fun a42 w41 s42 d42 m42 hown41 hg41 => ?_)
  have hb41 := hb40.grown hg41 hb40.size (fun j hj => by cases hj; exact Nat.le_refl _)
  clear s41 m41 hown40 hg41 hb40
  refine wp_pair _ 43 w.heap.size 41 ⟨#[115, 104, 121]⟩ ⟨#[194, 173]⟩ true _ rfl rfl rfl rfl rfl rfl (by decide) (by decide) s42 m42 hown41 (by decide) (by decide) (fun a43 w42 s43 d43 m43 hown42 hg42 => ?_)
  have hb42 := hb41.grown hg42 hb41.size (fun j hj => by cases hj; exact Nat.le_refl _)
  clear s42 m42 hown41 hg42 hb41
  refine wp_pair _ 44 w.heap.size 42 ⟨#[97, 112, 111, 115]⟩ ⟨#[39]⟩ false _ rfl rfl rfl rfl rfl rfl (by decide) (by decide) s43 m43 hown42 (by decide) (by decide) (fun a44 w43 s44 d44 m44 hown43 hg43 => ?_)
  have hb43 := hb42.grown hg43 hb42.size (fun j hj => by cases hj; exact Nat.le_refl _)
  clear s43 m43 hown42 hg43 hb42
  refine wp_pair _ 45 w.heap.size 43 ⟨#[104, 101, 108, 108, 105, 112]⟩ ⟨#[226, 128, 166]⟩ false _ rfl rfl rfl rfl rfl rfl (by decide) (by decide) s44 m44 hown43 (by decide) (by decide) (fun a45 w44 s45 d45 m45 hown44 hg44 => ?_)
  have hb44 := hb43.grown hg44 hb43.size (fun j hj => by cases hj; exact Nat.le_refl _)
  clear s44 m44 hown43 hg44 hb43
  refine wp_pair _ 46 w.heap.size 44 ⟨#[109, 100, 97, 115, 104]⟩ ⟨#[226, 128, 148]⟩ false _ rfl rfl rfl rfl rfl rfl (by decide) (by decide) s45 m45 hown44 (by decide) (by decide) (fun a46 w45 s46 d46 m46 hown45 hg45 => ?_)
  have hb45 := hb44.grown hg45 hb44.size (fun j hj => by cases hj; exact Nat.le_refl _)
  clear s45 m45 hown44 hg45 hb44
  refine wp_pair _ 47 w.heap.size 45 ⟨#[110, 100, 97, 115, 104]⟩ ⟨#[226, 128, 147]⟩ false _ rfl rfl rfl rfl rfl rfl (by decide) (by decide) s46 m46 hown45 (by decide) (by decide) (fun a47 w46 s47 d47 m47 hown46 hg46 => ?_)
  have hb46 := hb45.grown hg46 hb45.size (fun j hj => by cases hj; exact Nat.le_refl _)
  clear s46 m46 hown45 hg46 hb45
  refine wp_pair _ 48 w.heap.size 46 ⟨#[108, 115, 113, 117, 111]⟩ ⟨#[226, 128, 152]⟩ false _ rfl rfl rfl rfl rfl rfl (by decide) (by decide) s47 m47 hown46 (by decide) (by decide) (fun a48 w47 s48 d48 m48 hown47 hg47 => ?_)
  have hb47 := hb46.grown hg47 hb46.size (fun j hj => by cases hj; exact Nat.le_refl _)
  clear s47 m47 hown46 hg47 hb46
  refine wp_pair _ 49 w.heap.size 47 ⟨#[114, 115, 113, 117, 111]⟩ ⟨#[226, 128, 153]⟩ false _ rfl rfl rfl rfl rfl rfl (by decide) (by decide) s48 m48 hown47 (by decide) (by decide) (fun a49 w48 s49 d49 m49 hown48 hg48 => ?_)
  have hb48 := hb47.grown hg48 hb47.size (fun j hj => by cases hj; exact Nat.le_refl _)
  clear s48 m48 hown47 hg48 hb47
  refine wp_pair _ 50 w.heap.size 48 ⟨#[108, 100, 113, 117, 111]⟩ ⟨#[226, 128, 156]⟩ false _ rfl rfl rfl rfl rfl rfl (by decide) (by decide) s49 m49 hown48 (by decide) (by decide) (fun a50 w49 s50 d50 m50 hown49 hg49 => ?_)
  have hb49 := hb48.grown hg49 hb48.size (fun j hj => by cases hj; exact Nat.le_refl _)
  clear s49 m49 hown48 hg49 hb48
  refine wp_pair _ 51 w.heap.size 49 ⟨#[114, 100, 113, 117, 111]⟩ ⟨#[226, 128, 157]⟩ false _ rfl rfl rfl rfl rfl rfl (by decide) (by decide) s50 m50 hown49 (by decide) (by decide) (fun a51 w50 s51 d51 m51 hown50 hg50 => ?_)
  have hb50 := hb49.grown hg50 hb49.size (fun j hj => by cases hj; exact Nat.le_refl _)
  clear s50 m50 hown49 hg50 hb49
  refine wp_pair _ 52 w.heap.size 50 ⟨#[98, 117, 108, 108]⟩ ⟨#[226, 128, 162]⟩ false _ rfl rfl rfl rfl rfl rfl (by decide) (by decide) s51 m51 hown50 (by decide) (by decide) (fun a52 w51 s52 d52 m52 hown51 hg51 => ?_)
  have hb51 := hb50.grown hg51 hb50.size (fun j hj => by cases hj; exact Nat.le_refl _)
  clear s51 m51 hown50 hg51 hb50
  refine wp_pair _ 53 w.heap.size 51 ⟨#[101, 117, 114, 111]⟩ ⟨#[226, 130, 172]⟩ false _ rfl rfl rfl rfl rfl rfl (by decide) (by decide) s52 m52 hown51 (by decide) (by decide) (fun a53 w52 s53 d53 m53 hown52 hg52 => ?_)
  have hb52 := hb51.grown hg52 hb51.size (fun j hj => by cases hj; exact Nat.le_refl _)
  clear s52 m52 hown51 hg52 hb51
  refine wp_pair _ 54 w.heap.size 52 ⟨#[116, 114, 97, 100, 101]⟩ ⟨#[226, 132, 162]⟩ false _ rfl rfl rfl rfl rfl rfl (by decide) (by decide) s53 m53 hown52 (by decide) (by decide) (fun a54 w53 s54 d54 m54 hown53 hg53 => ?_)
  have hb53 := hb52.grown hg53 hb52.size (fun j hj => by cases hj; exact Nat.le_refl _)
  clear s53 m53 hown52 hg53 hb52
  refine wp_pair _ 55 w.heap.size 53 ⟨#[108, 97, 114, 114]⟩ ⟨#[226, 134, 144]⟩ false _ rfl rfl rfl rfl rfl rfl (by decide) (by decide) s54 m54 hown53 (by decide) (by decide) (fun a55 w54 s55 d55 m55 hown54 hg54 => ?_)
  have hb54 := hb53.grown hg54 hb53.size (fun j hj => by cases hj; exact Nat.le_refl _)
  clear s54 m54 hown53 hg54 hb53
  refine wp_pair _ 56 w.heap.size 54 ⟨#[114, 97, 114, 114]⟩ ⟨#[226, 134, 146]⟩ false _ rfl rfl rfl rfl rfl rfl (by decide) (by decide) s55 m55 hown54 (by decide) (by decide) (fun a56 w55 s56 d56 m56 hown55 hg55 => ?_)
  have hb55 := hb54.grown hg55 hb54.size (fun j hj => by cases hj; exact Nat.le_refl _)
  clear s55 m55 hown54 hg55 hb54
  refine wp_pair _ 57 w.heap.size 55 ⟨#[104, 97, 114, 114]⟩ ⟨#[226, 134, 148]⟩ false _ rfl rfl rfl rfl rfl rfl (by decide) (by decide) s56 m56 hown55 (by decide) (by decide) (fun a57 w56 s57 d57 m57 hown56 hg56 => ?_)
  have hb56 := hb55.grown hg56 hb55.size (fun j hj => by cases hj; exact Nat.le_refl _)
  clear s56 m56 hown55 hg56 hb55
  refine wp_pair _ 58 w.heap.size 56 ⟨#[105, 110, 102, 105, 110]⟩ ⟨#[226, 136, 158]⟩ false _ rfl rfl rfl rfl rfl rfl (by decide) (by decide) s57 m57 hown56 (by decide) (by decide) (fun a58 w57 s58 d58 m58 hown57 hg57 => ?_)
  have hb57 := hb56.grown hg57 hb56.size (fun j hj => by cases hj; exact Nat.le_refl _)
  clear s57 m57 hown56 hg57 hb56
  refine wp_pair _ 59 w.heap.size 57 ⟨#[110, 101]⟩ ⟨#[226, 137, 160]⟩ false _ rfl rfl rfl rfl rfl rfl (by decide) (by decide) s58 m58 hown57 (by decide) (by decide) (fun a59 w58 s59 d59 m59 hown58 hg58 => ?_)
  have hb58 := hb57.grown hg58 hb57.size (fun j hj => by cases hj; exact Nat.le_refl _)
  clear s58 m58 hown57 hg58 hb57
  refine wp_pair _ 60 w.heap.size 58 ⟨#[108, 101]⟩ ⟨#[226, 137, 164]⟩ false _ rfl rfl rfl rfl rfl rfl (by decide) (by decide) s59 m59 hown58 (by decide) (by decide) (fun a60 w59 s60 d60 m60 hown59 hg59 => ?_)
  have hb59 := hb58.grown hg59 hb58.size (fun j hj => by cases hj; exact Nat.le_refl _)
  clear s59 m59 hown58 hg59 hb58
  refine wp_pair _ 61 w.heap.size 59 ⟨#[103, 101]⟩ ⟨#[226, 137, 165]⟩ false _ rfl rfl rfl rfl rfl rfl (by decide) (by decide) s60 m60 hown59 (by decide) (by decide) (fun a61 w60 s61 d61 m61 hown60 hg60 => ?_)
  have hb60 := hb59.grown hg60 hb59.size (fun j hj => by cases hj; exact Nat.le_refl _)
  clear s60 m60 hown59 hg60 hb59
  refine wp_pair _ 62 w.heap.size 60 ⟨#[115, 117, 109]⟩ ⟨#[226, 136, 145]⟩ false _ rfl rfl rfl rfl rfl rfl (by decide) (by decide) s61 m61 hown60 (by decide) (by decide) (fun a62 w61 s62 d62 m62 hown61 hg61 => ?_)
  have hb61 := hb60.grown hg61 hb60.size (fun j hj => by cases hj; exact Nat.le_refl _)
  clear s61 m61 hown60 hg61 hb60
  refine wp_pair _ 63 w.heap.size 61 ⟨#[112, 114, 111, 100]⟩ ⟨#[226, 136, 143]⟩ false _ rfl rfl rfl rfl rfl rfl (by decide) (by decide) s62 m62 hown61 (by decide) (by decide) (fun a63 w62 s63 d63 m63 hown62 hg62 => ?_)
  have hb62 := hb61.grown hg62 hb61.size (fun j hj => by cases hj; exact Nat.le_refl _)
  clear s62 m62 hown61 hg62 hb61
  refine wp_pair _ 64 w.heap.size 62 ⟨#[114, 97, 100, 105, 99]⟩ ⟨#[226, 136, 154]⟩ false _ rfl rfl rfl rfl rfl rfl (by decide) (by decide) s63 m63 hown62 (by decide) (by decide) (fun a64 w63 s64 d64 m64 hown63 hg63 => ?_)
  have hb63 := hb62.grown hg63 hb62.size (fun j hj => by cases hj; exact Nat.le_refl _)
  clear s63 m63 hown62 hg63 hb62
  refine wp_pair _ 65 w.heap.size 63 ⟨#[110, 111, 116, 105, 110]⟩ ⟨#[226, 136, 137]⟩ false _ rfl rfl rfl rfl rfl rfl (by decide) (by decide) s64 m64 hown63 (by decide) (by decide) (fun a65 w64 s65 d65 m65 hown64 hg64 => ?_)
  have hb64 := hb63.grown hg64 hb63.size (fun j hj => by cases hj; exact Nat.le_refl _)
  clear s64 m64 hown63 hg64 hb63
  refine wp_pair _ 66 w.heap.size 64 ⟨#[97, 108, 112, 104, 97]⟩ ⟨#[206, 177]⟩ false _ rfl rfl rfl rfl rfl rfl (by decide) (by decide) s65 m65 hown64 (by decide) (by decide) (fun a66 w65 s66 d66 m66 hown65 hg65 => ?_)
  have hb65 := hb64.grown hg65 hb64.size (fun j hj => by cases hj; exact Nat.le_refl _)
  clear s65 m65 hown64 hg65 hb64
  refine wp_pair _ 67 w.heap.size 65 ⟨#[98, 101, 116, 97]⟩ ⟨#[206, 178]⟩ false _ rfl rfl rfl rfl rfl rfl (by decide) (by decide) s66 m66 hown65 (by decide) (by decide) (fun a67 w66 s67 d67 m67 hown66 hg66 => ?_)
  have hb66 := hb65.grown hg66 hb65.size (fun j hj => by cases hj; exact Nat.le_refl _)
  clear s66 m66 hown65 hg66 hb65
  refine wp_pair _ 68 w.heap.size 66 ⟨#[103, 97, 109, 109, 97]⟩ ⟨#[206, 179]⟩ false _ rfl rfl rfl rfl rfl rfl (by decide) (by decide) s67 m67 hown66 (by decide) (by decide) (fun a68 w67 s68 d68 m68 hown67 hg67 => ?_)
  have hb67 := hb66.grown hg67 hb66.size (fun j hj => by cases hj; exact Nat.le_refl _)
  clear s67 m67 hown66 hg67 hb66
  refine wp_pair _ 69 w.heap.size 67 ⟨#[100, 101, 108, 116, 97]⟩ ⟨#[206, 180]⟩ false _ rfl rfl rfl rfl rfl rfl (by decide) (by decide) s68 m68 hown67 (by decide) (by decide) (fun a69 w68 s69 d69 m69 hown68 hg68 => ?_)
  have hb68 := hb67.grown hg68 hb67.size (fun j hj => by cases hj; exact Nat.le_refl _)
  clear s68 m68 hown67 hg68 hb67
  refine wp_pair _ 70 w.heap.size 68 ⟨#[101, 112, 115, 105, 108, 111, 110]⟩ ⟨#[206, 181]⟩ false _ rfl rfl rfl rfl rfl rfl (by decide) (by decide) s69 m69 hown68 (by decide) (by decide) (fun a70 w69 s70 d70 m70 hown69 hg69 => ?_)
  have hb69 := hb68.grown hg69 hb68.size (fun j hj => by cases hj; exact Nat.le_refl _)
  clear s69 m69 hown68 hg69 hb68
  refine wp_pair _ 71 w.heap.size 69 ⟨#[108, 97, 109, 98, 100, 97]⟩ ⟨#[206, 187]⟩ false _ rfl rfl rfl rfl rfl rfl (by decide) (by decide) s70 m70 hown69 (by decide) (by decide) (fun a71 w70 s71 d71 m71 hown70 hg70 => ?_)
  have hb70 := hb69.grown hg70 hb69.size (fun j hj => by cases hj; exact Nat.le_refl _)
  clear s70 m70 hown69 hg70 hb69
  refine wp_pair _ 72 w.heap.size 70 ⟨#[109, 117]⟩ ⟨#[206, 188]⟩ false _ rfl rfl rfl rfl rfl rfl (by decide) (by decide) s71 m71 hown70 (by decide) (by decide) (fun a72 w71 s72 d72 m72 hown71 hg71 => ?_)
  have hb71 := hb70.grown hg71 hb70.size (fun j hj => by cases hj; exact Nat.le_refl _)
  clear s71 m71 hown70 hg71 hb70
  refine wp_pair _ 73 w.heap.size 71 ⟨#[112, 105]⟩ ⟨#[207, 128]⟩ false _ rfl rfl rfl rfl rfl rfl (by decide) (by decide) s72 m72 hown71 (by decide) (by decide) (fun a73 w72 s73 d73 m73 hown72 hg72 => ?_)
  have hb72 := hb71.grown hg72 hb71.size (fun j hj => by cases hj; exact Nat.le_refl _)
  clear s72 m72 hown71 hg72 hb71
  refine wp_pair _ 74 w.heap.size 72 ⟨#[115, 105, 103, 109, 97]⟩ ⟨#[207, 131]⟩ false _ rfl rfl rfl rfl rfl rfl (by decide) (by decide) s73 m73 hown72 (by decide) (by decide) (fun a74 w73 s74 d74 m74 hown73 hg73 => ?_)
  have hb73 := hb72.grown hg73 hb72.size (fun j hj => by cases hj; exact Nat.le_refl _)
  clear s73 m73 hown72 hg73 hb72
  refine wp_pair _ 75 w.heap.size 73 ⟨#[111, 109, 101, 103, 97]⟩ ⟨#[207, 137]⟩ false _ rfl rfl rfl rfl rfl rfl (by decide) (by decide) s74 m74 hown73 (by decide) (by decide) (fun a75 w74 s75 d75 m75 hown74 hg74 => ?_)
  have hb74 := hb73.grown hg74 hb73.size (fun j hj => by cases hj; exact Nat.le_refl _)
  clear s74 m74 hown73 hg74 hb73
  refine wp_pair _ 76 w.heap.size 74 ⟨#[79, 109, 101, 103, 97]⟩ ⟨#[206, 169]⟩ false _ rfl rfl rfl rfl rfl rfl (by decide) (by decide) s75 m75 hown74 (by decide) (by decide) (fun a76 w75 s76 d76 m76 hown75 hg75 => ?_)
  have hb75 := hb74.grown hg75 hb74.size (fun j hj => by cases hj; exact Nat.le_refl _)
  clear s75 m75 hown74 hg75 hb74
  refine wp_pair _ 77 w.heap.size 75 ⟨#[83, 105, 103, 109, 97]⟩ ⟨#[206, 163]⟩ false _ rfl rfl rfl rfl rfl rfl (by decide) (by decide) s76 m76 hown75 (by decide) (by decide) (fun a77 w76 s77 d77 m77 hown76 hg76 => ?_)
  have hb76 := hb75.grown hg76 hb75.size (fun j hj => by cases hj; exact Nat.le_refl _)
  clear s76 m76 hown75 hg76 hb75
  refine wp_pair _ 78 w.heap.size 76 ⟨#[108, 98, 114, 97, 99, 101]⟩ ⟨#[123]⟩ false _ rfl rfl rfl rfl rfl rfl (by decide) (by decide) s77 m77 hown76 (by decide) (by decide) (fun a78 w77 s78 d78 m78 hown77 hg77 => ?_)
  have hb77 := hb76.grown hg77 hb76.size (fun j hj => by cases hj; exact Nat.le_refl _)
  clear s77 m77 hown76 hg77 hb76
  refine wp_pair _ 79 w.heap.size 77 ⟨#[114, 98, 114, 97, 99, 101]⟩ ⟨#[125]⟩ false _ rfl rfl rfl rfl rfl rfl (by decide) (by decide) s78 m78 hown77 (by decide) (by decide) (fun a79 w78 s79 d79 m79 hown78 hg78 => ?_)
  have hb78 := hb77.grown hg78 hb77.size (fun j hj => by cases hj; exact Nat.le_refl _)
  clear s78 m78 hown77 hg78 hb77
  refine wp_pair _ 80 w.heap.size 78 ⟨#[108, 98, 114, 97, 99, 107]⟩ ⟨#[91]⟩ false _ rfl rfl rfl rfl rfl rfl (by decide) (by decide) s79 m79 hown78 (by decide) (by decide) (fun a80 w79 s80 d80 m80 hown79 hg79 => ?_)
  have hb79 := hb78.grown hg79 hb78.size (fun j hj => by cases hj; exact Nat.le_refl _)
  clear s79 m79 hown78 hg79 hb78
  refine wp_pair _ 81 w.heap.size 79 ⟨#[114, 98, 114, 97, 99, 107]⟩ ⟨#[93]⟩ false _ rfl rfl rfl rfl rfl rfl (by decide) (by decide) s80 m80 hown79 (by decide) (by decide) (fun a81 w80 s81 d81 m81 hown80 hg80 => ?_)
  have hb80 := hb79.grown hg80 hb79.size (fun j hj => by cases hj; exact Nat.le_refl _)
  clear s80 m80 hown79 hg80 hb79
  refine wp_pair _ 82 w.heap.size 80 ⟨#[108, 112, 97, 114]⟩ ⟨#[40]⟩ false _ rfl rfl rfl rfl rfl rfl (by decide) (by decide) s81 m81 hown80 (by decide) (by decide) (fun a82 w81 s82 d82 m82 hown81 hg81 => ?_)
  have hb81 := hb80.grown hg81 hb80.size (fun j hj => by cases hj; exact Nat.le_refl _)
  clear s81 m81 hown80 hg81 hb80
  refine wp_pair _ 83 w.heap.size 81 ⟨#[114, 112, 97, 114]⟩ ⟨#[41]⟩ false _ rfl rfl rfl rfl rfl rfl (by decide) (by decide) s82 m82 hown81 (by decide) (by decide) (fun a83 w82 s83 d83 m83 hown82 hg82 => ?_)
  have hb82 := hb81.grown hg82 hb81.size (fun j hj => by cases hj; exact Nat.le_refl _)
  clear s82 m82 hown81 hg82 hb81
  refine wp_pair _ 84 w.heap.size 82 ⟨#[97, 115, 116]⟩ ⟨#[42]⟩ false _ rfl rfl rfl rfl rfl rfl (by decide) (by decide) s83 m83 hown82 (by decide) (by decide) (fun a84 w83 s84 d84 m84 hown83 hg83 => ?_)
  have hb83 := hb82.grown hg83 hb82.size (fun j hj => by cases hj; exact Nat.le_refl _)
  clear s83 m83 hown82 hg83 hb82
  refine wp_pair _ 85 w.heap.size 83 ⟨#[110, 117, 109]⟩ ⟨#[35]⟩ false _ rfl rfl rfl rfl rfl rfl (by decide) (by decide) s84 m84 hown83 (by decide) (by decide) (fun a85 w84 s85 d85 m85 hown84 hg84 => ?_)
  have hb84 := hb83.grown hg84 hb83.size (fun j hj => by cases hj; exact Nat.le_refl _)
  clear s84 m84 hown83 hg84 hb83
  refine wp_pair _ 86 w.heap.size 84 ⟨#[115, 111, 108]⟩ ⟨#[47]⟩ false _ rfl rfl rfl rfl rfl rfl (by decide) (by decide) s85 m85 hown84 (by decide) (by decide) (fun a86 w85 s86 d86 m86 hown85 hg85 => ?_)
  have hb85 := hb84.grown hg85 hb84.size (fun j hj => by cases hj; exact Nat.le_refl _)
  clear s85 m85 hown84 hg85 hb84
  refine wp_pair _ 87 w.heap.size 85 ⟨#[98, 115, 111, 108]⟩ ⟨#[92]⟩ false _ rfl rfl rfl rfl rfl rfl (by decide) (by decide) s86 m86 hown85 (by decide) (by decide) (fun a87 w86 s87 d87 m87 hown86 hg86 => ?_)
  have hb86 := hb85.grown hg86 hb85.size (fun j hj => by cases hj; exact Nat.le_refl _)
  clear s86 m86 hown85 hg86 hb85
  refine wp_pair _ 88 w.heap.size 86 ⟨#[99, 111, 108, 111, 110]⟩ ⟨#[58]⟩ false _ rfl rfl rfl rfl rfl rfl (by decide) (by decide) s87 m87 hown86 (by decide) (by decide) (fun a88 w87 s88 d88 m88 hown87 hg87 => ?_)
  have hb87 := hb86.grown hg87 hb86.size (fun j hj => by cases hj; exact Nat.le_refl _)
  clear s87 m87 hown86 hg87 hb86
  refine wp_pair _ 89 w.heap.size 87 ⟨#[115, 101, 109, 105]⟩ ⟨#[59]⟩ false _ rfl rfl rfl rfl rfl rfl (by decide) (by decide) s88 m88 hown87 (by decide) (by decide) (fun a89 w88 s89 d89 m89 hown88 hg88 => ?_)
  have hb88 := hb87.grown hg88 hb87.size (fun j hj => by cases hj; exact Nat.le_refl _)
  clear s88 m88 hown87 hg88 hb87
  refine wp_pair _ 90 w.heap.size 88 ⟨#[101, 120, 99, 108]⟩ ⟨#[33]⟩ false _ rfl rfl rfl rfl rfl rfl (by decide) (by decide) s89 m89 hown88 (by decide) (by decide) (fun a90 w89 s90 d90 m90 hown89 hg89 => ?_)
  have hb89 := hb88.grown hg89 hb88.size (fun j hj => by cases hj; exact Nat.le_refl _)
  clear s89 m89 hown88 hg89 hb88
  refine wp_pair _ 91 w.heap.size 89 ⟨#[101, 113, 117, 97, 108, 115]⟩ ⟨#[61]⟩ false _ rfl rfl rfl rfl rfl rfl (by decide) (by decide) s90 m90 hown89 (by decide) (by decide) (fun a91 w90 s91 d91 m91 hown90 hg90 => ?_)
  have hb90 := hb89.grown hg90 hb89.size (fun j hj => by cases hj; exact Nat.le_refl _)
  clear s90 m90 hown89 hg90 hb89
  refine wp_pair _ 92 w.heap.size 90 ⟨#[103, 114, 97, 118, 101]⟩ ⟨#[96]⟩ false _ rfl rfl rfl rfl rfl rfl (by decide) (by decide) s91 m91 hown90 (by decide) (by decide) (fun a92 w91 s92 d92 m92 hown91 hg91 => ?_)
  have hb91 := hb90.grown hg91 hb90.size (fun j hj => by cases hj; exact Nat.le_refl _)
  clear s91 m91 hown90 hg91 hb90
  refine wp_pair _ 93 w.heap.size 91 ⟨#[108, 111, 119, 98, 97, 114]⟩ ⟨#[95]⟩ false _ rfl rfl rfl rfl rfl rfl (by decide) (by decide) s92 m92 hown91 (by decide) (by decide) (fun a93 w92 s93 d93 m93 hown92 hg92 => ?_)
  have hb92 := hb91.grown hg92 hb91.size (fun j hj => by cases hj; exact Nat.le_refl _)
  clear s92 m92 hown91 hg92 hb91
  refine wp_pair _ 94 w.heap.size 92 ⟨#[118, 101, 114, 116]⟩ ⟨#[124]⟩ false _ rfl rfl rfl rfl rfl rfl (by decide) (by decide) s93 m93 hown92 (by decide) (by decide) (fun a94 w93 s94 d94 m94 hown93 hg93 => ?_)
  have hb93 := hb92.grown hg93 hb92.size (fun j hj => by cases hj; exact Nat.le_refl _)
  clear s93 m93 hown92 hg93 hb92
  refine wp_pair _ 95 w.heap.size 93 ⟨#[84, 97, 98]⟩ ⟨#[9]⟩ false _ rfl rfl rfl rfl rfl rfl (by decide) (by decide) s94 m94 hown93 (by decide) (by decide) (fun a95 w94 s95 d95 m95 hown94 hg94 => ?_)
  have hb94 := hb93.grown hg94 hb93.size (fun j hj => by cases hj; exact Nat.le_refl _)
  clear s94 m94 hown93 hg94 hb93
  refine wp_pair _ 96 w.heap.size 94 ⟨#[78, 101, 119, 76, 105, 110, 101]⟩ ⟨#[10]⟩ false _ rfl rfl rfl rfl rfl rfl (by decide) (by decide) s95 m95 hown94 (by decide) (by decide) (fun a96 w95 s96 d96 m96 hown95 hg95 => ?_)
  have hb95 := hb94.grown hg95 hb94.size (fun j hj => by cases hj; exact Nat.le_refl _)
  clear s95 m95 hown94 hg95 hb94
  refine wp_pair _ 97 w.heap.size 95 ⟨#[110, 103, 69]⟩ ⟨#[226, 137, 167, 204, 184]⟩ false _ rfl rfl rfl rfl rfl rfl (by decide) (by decide) s96 m96 hown95 (by decide) (by decide) (fun a97 w96 s97 d97 m97 hown96 hg96 => ?_)
  have hb96 := hb95.grown hg96 hb95.size (fun j hj => by cases hj; exact Nat.le_refl _)
  clear s96 m96 hown95 hg96 hb95
  refine wp_pair _ 98 w.heap.size 96 ⟨#[110, 118, 108, 116]⟩ ⟨#[60, 226, 131, 146]⟩ false _ rfl rfl rfl rfl rfl rfl (by decide) (by decide) s97 m97 hown96 (by decide) (by decide) (fun a98 w97 s98 d98 m98 hown97 hg97 => ?_)
  have hb97 := hb96.grown hg97 hb96.size (fun j hj => by cases hj; exact Nat.le_refl _)
  clear s97 m97 hown96 hg97 hb96
  refine wp_pair _ 99 w.heap.size 97 ⟨#[97, 99, 69]⟩ ⟨#[226, 136, 190, 204, 179]⟩ false _ rfl rfl rfl rfl rfl rfl (by decide) (by decide) s98 m98 hown97 (by decide) (by decide) (fun a99 w98 s99 d99 m99 hown98 hg98 => ?_)
  have hb98 := hb97.grown hg98 hb97.size (fun j hj => by cases hj; exact Nat.le_refl _)
  clear s98 m98 hown97 hg98 hb97
  refine wp_mv _ 1 100 _ (.inl rfl) rfl rfl s99 (by decide) m99 (fun a100 s100 d100 m100 => ?_)
  refine wp_mv _ 100 0 _ (.inr rfl) rfl rfl s100 (by decide) m100 (fun a101 s101 d101 m101 => ?_)
  refine wpList_nil ?_
  have hd : a101.defers = [] := by rw [d101, d100, d99, d98, d97, d96, d95, d94, d93, d92, d91, d90, d89, d88, d87, d86, d85, d84, d83, d82, d81, d80, d79, d78, d77, d76, d75, d74, d73, d72, d71, d70, d69, d68, d67, d66, d65, d64, d63, d62, d61, d60, d59, d58, d57, d56, d55, d54, d53, d52, d51, d50, d49, d48, d47, d46, d45, d44, d43, d42, d41, d40, d39, d38, d37, d36, d35, d34, d33, d32, d31, d30, d29, d28, d27, d26, d25, d24, d23, d22, d21, d20, d19, d18, d17, d16, d15, d14, d13, d12, d11, d10, d9, d8, d7, d6, d5, d4, d3, d2, d1]
  rename_i K hKK
  refine hKK _ _ ?_
  clear hKK
  have hg : a101.tmps.getD 0 undef = .map (some w.heap.size) := m101
  have hr : (results Tryd.f66 a101.tmps).run Tryd.prog w98 = .ok (.map (some w.heap.size)) w98 := by
    have hg2 : a101.tmps[0]?.getD undef = .map (some w.heap.size) := by simpa [Array.getD_eq_getD_getElem?] using hg
    simp [results, Tryd.results66, go_sem, hg2]
  refine wp_ret ?_
  exact bodyPost_ret (v := .map (some w.heap.size)) (R := fun e w' => ∃ B, e = Ending.returned (.map (some B)) ∧ TabAt w' B ∧ w.heap.size ≤ B ∧ Below w.heap.size w w') hr hd ⟨_, rfl, hown98, Nat.le_refl _, hb98⟩
end Go.Proofs.YtbcfhpomclkccaaDoor
