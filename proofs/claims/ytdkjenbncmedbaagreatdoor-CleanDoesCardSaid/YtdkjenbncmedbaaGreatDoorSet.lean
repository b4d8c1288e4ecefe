/- rule.set: the words of a row, as a map's keys; rule.Known. -/
import Derived.Test.YtdkjenbncmedbaaGreatDoorShelf
import Derived.Test.YtdkjenbncmedbaaGreatDoorRow
import Derived.Maps.OwnOps
import Derived.Maps.OwnSet
import Derived.Lib.SmallJoins
import Derived.StringKeys
namespace Go.Proofs.YtdkjenbncmedbaaGreatDoor
open Go.RowKit Go.Maps

def SpTab (w : World) : Prop := Lib.TabIs Tryz.prog w "strings.asciiSpace" .u8 Lib.asciiSpaceTab
theorem SpTab.later {w w' : World} (h : SpTab w) (hb : Below w.heap.size w w') : SpTab w' :=
  Joins.tab_stays (g := 0) (by kernel_rfl) h hb (Nat.le_refl _)
theorem set_keyed : Keyed Tryz.prog 9 := string_keyed Tryz.underlying9
theorem zeroB (w : World) : (zeroValue 4).run Tryz.prog w = .ok (.bool false) w := by kernel_rfl
/-- The map that a list of words comes to. -/
def setD (ws : List (List UInt8)) : DataW Unit := setOf (.lit (.bool true)) (ws.map Lit.string)
theorem setD_keys (ws : List (List UInt8)) : ∀ x ∈ ws.map Lit.string, WideAt.IsKeyLit x := fun x hx => by
  obtain ⟨y, _, rfl⟩ := List.mem_map.1 hx
  trivial
theorem setD_snoc (ws : List (List UInt8)) (x : List UInt8) : setD (ws ++ [x]) = (setD ws).put (.string x) (.lit (.bool true)) := by
  unfold setD
  rw [List.map_append, List.map_singleton, setOf_snoc]
theorem setD_isMap (ws : List (List UInt8)) : IsMap (setD ws) := (tidy_setOf _ _ (setD_keys ws)).isMap
theorem lit_ne {x y : List UInt8} (h : x ≠ y) : Lit.string x ≠ Lit.string y := fun e => h (by injection e)
theorem setD_snd (x : List UInt8) : ∀ (n : Nat) (ws : List (List UInt8)), ws.length = n → (setD ws).atKey (.string x) (.lit (.bool false)) = .lit (.bool (ws.contains x))
  | 0, ws, h => by
    obtain rfl := List.eq_nil_of_length_eq_zero h
    rfl
  | n + 1, ws, h => by
    obtain ⟨l, y, rfl⟩ : ∃ l y, ws = l ++ [y] := ⟨ws.dropLast, ws.getLast (by intro e; rw [e] at h; cases h), (List.dropLast_concat_getLast _).symm⟩
    rw [setD_snoc]
    have hl : l.length = n := by simpa using h
    by_cases hxy : x = y
    · subst hxy
      rw [atKey_put_same (setD_isMap l) (show WideAt.IsKeyLit (Lit.string x) from trivial)]
      simp
    · rw [atKey_put_other (lit_ne hxy), setD_snd x n l hl]
      congr 2
      simp [hxy]
theorem setD_at (ws : List (List UInt8)) (x : List UInt8) : (setD ws).atKey (.string x) (.lit (.bool false)) = .lit (.bool (ws.contains x)) := setD_snd x _ ws rfl
theorem setD_has (ws : List (List UInt8)) (x : List UInt8) : Maps.has (setD ws) (.string x) = ws.contains x := by
  unfold setD
  rw [has_setOf _ _ _ (setD_keys ws), List.any_map, List.contains_eq_any_beq]
  congr 1
  funext y
  show (y == x) = (x == y)
  exact BEq.comm
/-- Block B is the set of these words. -/
def SetAt (w : World) (B : Nat) (ws : List (List UInt8)) : Prop := w.ownsMap (H := Unit) Tryz.prog 9 (plainElem Tryz.prog 4) B ws.length (setD ws)
theorem SetAt.later {w w' : World} {B : Nat} {ws : List (List UInt8)} (h : SetAt w B ws) (hb : Below w.heap.size w w') : SetAt w' B ws := by
  obtain ⟨es, clock, h1, h2⟩ := h
  exact ⟨es, clock, (hb.block B (Array.getElem?_eq_some_iff.1 h1).1).trans h1, h2⟩
theorem SetAt.lt {w : World} {B : Nat} {ws : List (List UInt8)} (h : SetAt w B ws) : B < w.heap.size := World.ownsMap.lt h
theorem plainElem_bool_inv {H : Type} {P : Program} {e : TypeId} (he : P.underlying e = some .bool) {v : Value} {b : Bool} {ps : List MemPlace} (h : plainElem (H := H) P e v = some (.lit (.bool b), ps)) : v = .bool b := by
  unfold plainElem at h
  rw [he] at h
  cases v <;> simp at h
  rw [h.1]
theorem SetAt.look {w : World} {B : Nat} {ws : List (List UInt8)} (h : SetAt w B ws) (x : ByteArray) (hx : x.size ≤ maxLen) : (Instr.lookup 56 (.map (some B)) (.string x) false).run Tryz.prog w = .ok (.bool (ws.contains x.data.toList)) w := by
  obtain ⟨v, ps, hrun, hv⟩ := World.ownsMap.lookup h set_keyed Tryz.underlying56 (zeroB w) (plainElem_bool Tryz.underlying4 false) (WideMaps.keyOf_string_mk Tryz.underlying9 hx)
  rw [setD_at] at hv
  have := plainElem_bool_inv Tryz.underlying4 hv
  rw [← this]
  exact hrun
def SetR (w : World) (ws : List (List UInt8)) (e : Ending) (w' : World) : Prop := ∃ B, e = .returned (.map (some B)) ∧ SetAt w' B ws ∧ w.heap.size ≤ B ∧ Below w.heap.size w w'
def SetW (w : World) (ws : List (List UInt8)) (i : Value) (wr : World) : Prop := ∃ k : Nat, i = .int .i64 k ∧ k ≤ ws.length ∧ SetAt wr w.heap.size (ws.take k) ∧ Box wr (w.heap.size + 1) 9 (ws.map fun l => Value.string ⟨l.toArray⟩).toArray ∧ Below w.heap.size w wr
set_option maxHeartbeats 2000000 in
set_option maxRecDepth 100000 in
theorem set_any (row : ByteArray) (w : World) (hs : row.size ≤ 100000) (hascii : ∀ (j : Nat) b, row.data.toList[j]? = some b → b.toNat < 128) (hws : ∀ x ∈ Lib.fields row.data.toList, x.length ≤ 100) (hwn : (Lib.fields row.data.toList).length ≤ 100000) (ht : SpTab w) :
    Calls Tryz.prog 32 #[.string row] w (SetR w (Lib.fields row.data.toList)) := by
  have hF := fun w' (h : SpTab w') => Tryz.strings_Fields row w' (by omega) hascii h
  obtain ⟨ws, hwse⟩ : ∃ ws, Lib.fields row.data.toList = ws := ⟨_, rfl⟩
  rw [hwse] at hF hws hwn ⊢
  have hmm := @run_makeMap Tryz.prog
  have HF := Lib.hid hF
  have HWS := Lib.hid hws
  have HT := Lib.hid ht
  clear hF hws ht hascii hwse
  go_enter Tryz.func32, Tryz.ntmps32
  go_wp2_with fail
  refine Calls.mono (HF.out _ (HT.out.later ((Below.refl _ w).alloc (Nat.le_refl _) _))) ?_
  rintro e w1 ⟨rfl, hw1⟩
  have hsz : (w.alloc (.map #[] 0)).heap.size = w.heap.size + 1 := by simp
  rw [hsz]
  have hb1 : Below w.heap.size w w1 := by rw [hw1]; exact ((Below.refl _ w).alloc (Nat.le_refl _) _).alloc (by simp) _
  have hset : SetAt w1 w.heap.size [] := by
    rw [hw1]
    exact World.ownsMap.alloc (World.ownsMap_made w Tryz.prog 9 _) _
  have hbox : Box w1 (w.heap.size + 1) 9 (ws.map fun l => Value.string ⟨l.toArray⟩).toArray := by rw [hw1, ← hsz]; exact Box.new _ _ _
  have HB1 := Lib.hid hb1
  have HSET := Lib.hid hset
  have HBOX := Lib.hid hbox
  clear hw1 hb1 hset hbox hsz
  go_wp2_with fail
  go_loopw [10] (fun v wr => SetW w ws v wr) (fun v _ => ws.length - (intOf v).toNat)
  case atStart => exact ⟨0, rfl, Nat.zero_le _, HSET.out, HBOX.out, HB1.out⟩
  case round =>
    obtain ⟨k, rfl, hk, hset, hbox, hb⟩ := hrel
    have HSK := Lib.hid hset
    have HBK := Lib.hid hbox
    have HK := Lib.hid hb
    clear hset hbox hb
    by_cases hlt : k < ws.length
    · have hki : (k : Int) < (ws.length : Int) := by omega
      have x1 := box_lie HBK.out k (.string ⟨ws[k].toArray⟩) (by simp)
      have x2 := HBK.out.cell k
      rw [show (ws.map fun l => Value.string ⟨l.toArray⟩).toArray[k]? = some (.string ⟨ws[k].toArray⟩) by simp] at x2
      have hsz := HWS.out _ (List.getElem_mem hlt)
      have htk : ws.take (k + 1) = ws.take k ++ [ws[k]] := List.take_succ_eq_append_getElem hlt
      obtain ⟨p, hp⟩ : ∃ p : ByteArray, p = ⟨ws[k].toArray⟩ := ⟨_, rfl⟩
      have hpd : ws[k] = p.data.toList := by rw [hp]
      have hps : p.size ≤ 100 := by rw [hp]; exact hsz
      rw [← hp] at x1 x2
      rw [hpd] at htk
      have HTK := Lib.hid htk
      clear hp hpd hsz htk
      have hln : (ws.take k).length = k := by rw [List.length_take]; omega
      have hown := HSK.out
      unfold SetAt at hown
      rw [hln] at hown
      go_wp2_with (first
        | (at_mapUpdate; refine wpList_mapUpdate_own _ rfl _ _ _ 56 rfl 9 4 set_keyed Tryz.underlying56 _ w.heap.size k _ rfl hown (by unfold maxLen; omega) _ _ _ rfl rfl (WideMaps.keyOf_string_mk Tryz.underlying9 (s := p) (by unfold maxLen; omega)) _ [] (plainElem_bool Tryz.underlying4 true) ?_; intro w2 hown2 hgrow2)
        | fail)
      go_roundw
      case rel =>
        refine ⟨k + 1, by go_num, hlt, ?_, ?_, ?_⟩
        · rw [HTK.out]
          unfold SetAt
          rw [setD_snoc, List.length_append, hln]
          exact hown2
        · exact (hgrow2.block _ HBK.out.lt (by simp)).trans HBK.out
        · exact HK.out.grown hgrow2 HK.out.size (fun j hj => by cases hj; exact Nat.le_refl _)
      case measure => simp [intOf]; omega
    · obtain rfl : k = ws.length := by omega
      have hset := HSK.out
      rw [List.take_length] at hset
      have HS2 := Lib.hid hset
      clear hset
      go_wp2
      go_ret
      exact ⟨_, rfl, HS2.out, Nat.le_refl _, HK.out⟩
end Go.Proofs.YtdkjenbncmedbaaGreatDoor
