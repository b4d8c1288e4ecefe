/- Looking a name up. -/
import Derived.Test.YtbcfhpomclkccaaDoorRsTab
import Derived.Test.YtbcfhpomclkccaaDoorRsNum
namespace Go.Proofs.YtbcfhpomclkccaaDoor
open Go.RowKit Go.Maps

/-- What a name stands for. -/
def findF : List (ByteArray × ByteArray × Bool) → List UInt8 → Option (ByteArray × Bool) → Option (ByteArray × Bool)
  | [], _, o => o
  | x :: r, k, o => findF r k (if x.1.data.toList == k then some x.2 else o)
def findN (k : List UInt8) : Option (ByteArray × Bool) := findF tabL k none
theorem lit_ne {x y : List UInt8} (h : x ≠ y) : Lit.string x ≠ Lit.string y := fun e => h (by injection e)
theorem tabD_at (k : List UInt8) (zd : DataW Unit) : ∀ (l : List (ByteArray × ByteArray × Bool)) (D : DataW Unit) (o : Option (ByteArray × Bool)), IsMap D → Maps.has D (.string k) = o.isSome → D.atKey (.string k) zd = (match o with
      | some x => entD x.1 x.2
      | none => zd) →
    Maps.has (tabD l D) (.string k) = (findF l k o).isSome ∧ (tabD l D).atKey (.string k) zd = (match findF l k o with
      | some x => entD x.1 x.2
      | none => zd)
  | [], D, o, _, h1, h2 => ⟨h1, h2⟩
  | x :: r, D, o, hm, h1, h2 => by
    show Maps.has (tabD r (D.put (.string x.1.data.toList) (entD x.2.1 x.2.2))) _ = (findF r k (if x.1.data.toList == k then some x.2 else o)).isSome ∧ _
    by_cases hx : x.1.data.toList = k
    · subst hx
      rw [if_pos (by simp)]
      have := tabD_at x.1.data.toList zd r (D.put (.string x.1.data.toList) (entD x.2.1 x.2.2)) (some x.2) (hm.put _ _) (has_put_same hm (show WideAt.IsKeyLit (Lit.string _) from trivial) _) (atKey_put_same hm (show WideAt.IsKeyLit (Lit.string _) from trivial) _ _)
      refine ⟨this.1, this.2.trans ?_⟩
      show _ = (match findF r x.1.data.toList (if x.1.data.toList == x.1.data.toList then some x.2 else o) with
        | some x => entD x.1 x.2
        | none => zd)
      rw [if_pos (by simp)]
    · have hb : (x.1.data.toList == k) = false := by simpa using hx
      rw [hb, if_neg (by decide)]
      have hne : Lit.string k ≠ Lit.string x.1.data.toList := lit_ne fun e => hx e.symm
      have := tabD_at k zd r (D.put (.string x.1.data.toList) (entD x.2.1 x.2.2)) o (hm.put _ _) ((has_put_other hne _).trans h1) ((atKey_put_other hne _ _).trans h2)
      refine ⟨this.1, this.2.trans ?_⟩
      show _ = (match findF r k (if x.1.data.toList == k then some x.2 else o) with
        | some x => entD x.1 x.2
        | none => zd)
      rw [hb, if_neg (by decide)]
theorem tab_at (k : List UInt8) (zd : DataW Unit) : Maps.has (tabD tabL (.map [])) (.string k) = (findN k).isSome ∧ (tabD tabL (.map [])).atKey (.string k) zd = (match findN k with
      | some x => entD x.1 x.2
      | none => zd) := tabD_at k zd tabL (.map []) none isMap_empty rfl rfl
theorem zeroE (w : World) : (zeroValue 88).run Tryd.prog w = .ok (.agg #[.string ⟨#[]⟩, .bool false]) w := by kernel_rfl
theorem look_some {w : World} {B : Nat} (h : TabAt w B) (k : ByteArray) (hk : k.size ≤ maxLen) {is : ByteArray} {b : Bool} (hf : findN k.data.toList = some (is, b)) : (Instr.lookup 90 (.map (some B)) (.string k) true).run Tryd.prog w = .ok (.tuple #[.agg #[.string is, .bool b], .bool true]) w := by
  obtain ⟨v, ps, hrun, hv⟩ := World.ownsMap.look_ok h tab_keyed Tryd.underlying90 (zeroE w) (entR_mk ⟨#[]⟩ false) (WideMaps.keyOf_string_mk Tryd.underlying9 hk)
  obtain ⟨h1, h2⟩ := tab_at k.data.toList (entD ⟨#[]⟩ false)
  rw [hf] at h1 h2
  simp only at h2
  rw [h2] at hv
  rw [h1] at hrun
  rw [entR_inv hv] at hrun
  exact hrun
theorem look_none {w : World} {B : Nat} (h : TabAt w B) (k : ByteArray) (hk : k.size ≤ maxLen) (hf : findN k.data.toList = none) : (Instr.lookup 90 (.map (some B)) (.string k) true).run Tryd.prog w = .ok (.tuple #[.agg #[.string ⟨#[]⟩, .bool false], .bool false]) w := by
  obtain ⟨v, ps, hrun, hv⟩ := World.ownsMap.look_ok h tab_keyed Tryd.underlying90 (zeroE w) (entR_mk ⟨#[]⟩ false) (WideMaps.keyOf_string_mk Tryd.underlying9 hk)
  obtain ⟨h1, h2⟩ := tab_at k.data.toList (entD ⟨#[]⟩ false)
  rw [hf] at h1 h2
  simp only at h2
  rw [h2] at hv
  rw [h1] at hrun
  rw [entR_inv hv] at hrun
  exact hrun
end Go.Proofs.YtbcfhpomclkccaaDoor
