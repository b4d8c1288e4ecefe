/- Told blocks are alike, and so are references. -/
import Derived.Test.YtebfjlfkofibpaaGreatDoorBkTd
namespace Go.Proofs.YtebfjlfkofibpaaGreatDoor
open Go.RowKit
theorem SlU8.conv {w : World} {v : Value} {l : List UInt8} (h : SlU8 w v l) : (convert 22 9 v).run Tryz.prog w = .ok (.string ⟨l.toArray⟩) w := by
 obtain ⟨A, m, c, rfl, hm, hc, hb⟩ := h
 subst hm
 cases A with
 | none =>
  have h0 : l = [] := by
   cases l with
   | nil => rfl
   | cons x l =>
    obtain ⟨b, off, e, _⟩ := hb (by simp)
    cases e
  subst h0
  exact run_convert_bytes_nil w 22 5 Tryz.underlying22 Tryz.underlying5 0 c 9 Tryz.underlying9
 | some a =>
  refine run_convert_bytes_back (P := Tryz.prog) w 22 9 5 a c l Tryz.underlying22 Tryz.underlying5 Tryz.underlying9 ?_
  intro j hj
  obtain ⟨b, off, e, _, hby⟩ := hb (by omega)
  cases e
  have := hby j hj
  have hadd : (⟨b, off, none⟩ : Addr).add j = ⟨b, off + j, none⟩ := by
   unfold Addr.add
   split
   ·rename_i h0; rw [h0, Nat.add_zero]
   ·rfl
  rw [hadd]
  exact this
theorem BlksAt.get2 {n : Nat} {w : World} {S : Nat -> Prop} {v : Value} {l : List (BD (List (TR n)))} (h : BlksAt (n + 1) w S v l) :
  ∃ A c, v = .slice A l.length c ∧ l.length ≤ 9223372036854775807 ∧ ∀ (k : Nat) (x : BD (List (TR n))), l[k]? = some x -> ∃ (ad : Addr) (A1 A2 : Option Addr) (m1 m2 c1 c2 : Nat), A = some ad ∧ S ad.block ∧ AlS w S (.slice A1 m1 c1) x.align ∧ BlksAt n w S (.slice A2 m2 c2) x.kids ∧
   w.cell? (ad.add (k * 10)) = some (.int .u8 x.kind) ∧ w.cell? ⟨(ad.add (k * 10)).block, (ad.add (k * 10)).off + 1, none⟩ = some (.int .i64 x.level) ∧ w.cell? ⟨(ad.add (k * 10)).block, (ad.add (k * 10)).off + 2, none⟩ = some (.int .u8 x.mark) ∧
   w.cell? ⟨(ad.add (k * 10)).block, (ad.add (k * 10)).off + 3, none⟩ = some (.int .i64 x.start) ∧ w.cell? ⟨(ad.add (k * 10)).block, (ad.add (k * 10)).off + 4, none⟩ = some (.bool x.tight) ∧ w.cell? ⟨(ad.add (k * 10)).block, (ad.add (k * 10)).off + 5, none⟩ = some (.string x.info) ∧
   w.cell? ⟨(ad.add (k * 10)).block, (ad.add (k * 10)).off + 6, none⟩ = some (.string x.text) ∧ w.cell? ⟨(ad.add (k * 10)).block, (ad.add (k * 10)).off + 7, none⟩ = some (.slice A1 m1 c1) ∧ w.cell? ⟨(ad.add (k * 10)).block, (ad.add (k * 10)).off + 8, none⟩ = some (.slice A2 m2 c2) ∧
   w.cell? ⟨(ad.add (k * 10)).block, (ad.add (k * 10)).off + 9, none⟩ = some (.slice none 0 0) := by
 obtain ⟨A, c, hv, hl, h0, h1⟩ := h
 refine ⟨A, c, hv, hl, fun k x hx => ?_⟩
 have hk := (List.getElem?_eq_some_iff.1 hx).1
 obtain ⟨ad, vs, hA, hlie, va, vk, rfl, ha, hkid⟩ := h1 k x hx
 obtain ⟨ad', hA', hb'⟩ := h0 (Nat.lt_of_le_of_lt (Nat.zero_le k) hk)
 rw [hA] at hA'
 cases hA'
 obtain ⟨A1, m1, c1, rfl, _⟩ := ha.1
 obtain ⟨A2, c2, rfl⟩ := hkid.form
 exact ⟨ad, A1, A2, m1, _, c1, c2, hA, hb', ha, hkid, hlie.fst, hlie.nth 0 _ rfl, hlie.nth 1 _ rfl, hlie.nth 2 _ rfl, hlie.nth 3 _ rfl, hlie.nth 4 _ rfl, hlie.nth 5 _ rfl, hlie.nth 6 _ rfl, hlie.nth 7 _ rfl, hlie.nth 8 _ rfl⟩
end Go.Proofs.YtebfjlfkofibpaaGreatDoor
