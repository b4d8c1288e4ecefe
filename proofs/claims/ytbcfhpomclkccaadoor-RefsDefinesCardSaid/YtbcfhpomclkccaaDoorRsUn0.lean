/- Escapes and references of a text, plainly. -/
import Derived.Test.YtbcfhpomclkccaaDoorRsMk
import Derived.Test.YtbcfhpomclkccaaDoorRsAnyS
namespace Go.Proofs.YtbcfhpomclkccaaDoor
open Go.RowKit

/-- What a text stands for, its escapes and references taken: at most f rounds. -/
def unescF : Nat → ByteArray → List UInt8
  | 0, _ => []
  | f + 1, s =>
    if Lib.indexAny s.data.toList [92, 38] < 0 then s.data.toList
    else s.data.toList.take (Lib.indexAny s.data.toList [92, 38]).toNat ++ unescS f (unescF f) (s.extract (Lib.indexAny s.data.toList [92, 38]).toNat s.size)
where
  unescS (_f : Nat) (r : ByteArray → List UInt8) (t : ByteArray) : List UInt8 :=
    if (t.data.toList[0]? == some 92 && (t.data.toList[1]?).any signB) = true then t.data.toList[1]?.toList ++ r (t.extract 2 t.size)
    else if (markN t).2 = 0 then t.data.toList.take 1 ++ r (t.extract 1 t.size)
    else (markN t).1.data.toList ++ r (t.extract (markN t).2 t.size)
theorem findF_all (Q : ByteArray × Bool → Prop) (k : List UInt8) : ∀ (l : List (ByteArray × ByteArray × Bool)) (o : Option (ByteArray × Bool)), (∀ e ∈ l, Q e.2) → (∀ x, o = some x → Q x) → ∀ x, findF l k o = some x → Q x
  | [], _, _, ho => ho
  | e :: r, o, hl, ho => findF_all Q k r _ (fun y hy => hl y (List.mem_cons_of_mem _ hy)) fun x hx => by
    split at hx
    · cases hx
      exact hl e List.mem_cons_self
    · exact ho x hx
set_option maxRecDepth 100000 in
theorem tab_le : ∀ e ∈ tabL, e.2.1.size ≤ 8 := by decide +kernel
theorem find_le (l : List UInt8) (x : ByteArray × Bool) (h : findN l = some x) : x.1.size ≤ 8 :=
  findF_all (fun x => x.1.size ≤ 8) l tabL none (fun e he => tab_le e he) (fun _ h => by cases h) x h
theorem enc_le (r : Int) : (Utf8.encode r).size ≤ 8 := by
  unfold Utf8.encode
  simp only []
  repeat' split
  all_goals simp [ByteArray.size]
theorem mark_le (s : ByteArray) : (markN s).1.size ≤ 8 ∧ (markN s).2 ≤ s.size := by
  have hl : s.data.toList.length = s.size := Array.length_toList
  have hz : ((⟨#[]⟩ : ByteArray), 0).1.size ≤ 8 ∧ ((⟨#[]⟩ : ByteArray), 0).2 ≤ s.size := ⟨by decide, Nat.zero_le _⟩
  unfold markN
  generalize (if x2 s.data.toList = true then 6 else 7) = mx
  split
  · split
    · exact hz
    · rename_i h
      refine ⟨enc_le _, ?_⟩
      have h2 : (s.data.toList[(numericN s.data.toList).2.2]? == some 59) = true := by
        cases e : (s.data.toList[(numericN s.data.toList).2.2]? == some 59)
        · exact absurd (Or.inr e) h
        · rfl
      have h3 := (List.getElem?_eq_some_iff.1 (beq_iff_eq.1 h2)).1
      show (numericN s.data.toList).2.2 + 1 ≤ s.size
      omega
  · split
    · exact hz
    · rename_i h
      have hc : (cutS s 59).2.2 = true := by
        cases e : (cutS s 59).2.2
        · exact absurd (Or.inl e) h
        · rfl
      split
      · exact hz
      · rename_i x hx
        refine ⟨find_le _ _ hx, ?_⟩
        show (cutS s 59).1.size + 1 ≤ s.size
        unfold cutS at hc ⊢
        rcases indexByte_spec s.data.toList 59 with ⟨h1, _⟩ | ⟨a, h1, h2, _⟩
        · rw [h1, if_pos (by decide)] at hc
          cases hc
        · have ha := (List.getElem?_eq_some_iff.1 h2).1
          rw [h1, if_neg (by omega), Int.toNat_natCast]
          show (s.extract 0 a).size + 1 ≤ s.size
          rw [ByteArray.size_extract]
          omega
/-- strings.IndexAny for a backslash and an ampersand. -/
theorem iany_any (s : ByteArray) (w : World) (hs : s.size < 4294967281) : Calls Tryd.prog 27 #[.string s, .string ⟨#[92, 38]⟩] w (AnyR s [92, 38] w) := by
  by_cases h8 : s.size ≤ 8
  · have hcl : ∀ b : UInt8, 128 ≤ b.toNat → ([92, 38] : List UInt8).contains b = false := fun b hb => by
      have h1 : b ≠ 92 := fun e => by subst e; revert hb; decide
      have h2 : b ≠ 38 := fun e => by subst e; revert hb; decide
      simp [h1, h2]
    exact any_short s ⟨#[92, 38]⟩ w rfl 92 38 rfl rfl (by decide) (by decide) hcl h8
  · have h116 : (Tryd.prog.info? 79).map (fun i => (i.zero, i.size)) = some (some (.agg (Array.replicate 256 (.bool false))), 256) := by kernel_rfl
    have ha : ∀ (j : Nat) b, ([92, 38] : List UInt8)[j]? = some b → b.toNat < 128 := fun j b hb => by
      rcases j with _ | _ | j
      · cases hb; decide
      · cases hb; decide
      · simp at hb
    refine Calls.mono (Tryd.strings_IndexAny_long (zero_of_info h116).1 s ⟨#[92, 38]⟩ w (by decide) (by omega) hs (by decide) ha) ?_
    rintro e w' ⟨he, hw⟩
    refine ⟨he, ?_⟩
    rw [hw]
    exact ((Below.refl _ _).alloc (Nat.le_refl _) _).alloc (by simp) _
end Go.Proofs.YtbcfhpomclkccaaDoor
