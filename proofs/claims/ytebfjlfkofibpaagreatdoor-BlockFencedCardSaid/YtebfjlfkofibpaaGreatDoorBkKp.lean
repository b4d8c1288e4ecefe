/- The chapter's examples, plainly. -/
import Derived.Test.YtebfjlfkofibpaaGreatDoorBkPa
namespace Go.Proofs.YtebfjlfkofibpaaGreatDoor
open Go.RowKit
def k1T : ByteArray := ⟨#[62, 32, 97, 10, 98]⟩
def k2T : ByteArray := ⟨#[45, 32, 97, 10, 10, 45, 32, 98]⟩
def k3T : ByteArray := ⟨#[91, 97, 93, 58, 32, 98, 10, 99]⟩
def k4T : ByteArray := ⟨#[124, 97, 124, 98, 124, 10, 124, 45, 124, 45, 124, 10, 124, 49, 124]⟩
def chk1 (n : Nat) (x : TR (n + 3)) : Bool := match BD.kids (K := List (TR (n + 2))) x with
 | [y] => match BD.kids (K := List (TR (n + 1))) y with
  | [z] => decide (BD.text (K := List (TR n)) z = ⟨#[97, 10, 98]⟩)
  | _ => false
 | _ => false
def chk2 (n : Nat) (x : TR (n + 3)) : Bool := match BD.kids (K := List (TR (n + 2))) x with
 | [y] => !(BD.tight (K := List (TR (n + 1))) y) && decide ((BD.kids (K := List (TR (n + 1))) y).length = 2)
 | _ => false
def chk3 (n : Nat) (x : TR (n + 3)) (r : List RefT) : Bool := match BD.kids (K := List (TR (n + 2))) x, r with
 | [y], [q] => decide (BD.text (K := List (TR (n + 1))) y = ⟨#[99]⟩) && decide (q.2.1 = ⟨#[98]⟩)
 | _, _ => false
def chk4 (n : Nat) (x : TR (n + 3)) : Bool := match BD.kids (K := List (TR (n + 2))) x with
 | [y] => decide (BD.kind (K := List (TR (n + 1))) y = 10) && (match BD.kids (K := List (TR (n + 1))) y with
  | [_, z] => decide ((BD.kids (K := List (TR n)) z).length = 1)
  | _ => false)
 | _ => false
def chk1T (t : ByteArray) : Bool := chk1 (fueT t) (treT t) && decide (deepT (fueT t) (finT t) 0 = 1)
def chk2T (t : ByteArray) : Bool := chk2 (fueT t) (treT t)
def chk3T (t : ByteArray) : Bool := chk3 (fueT t) (treT t) (finT t).refs
def chk4T (t : ByteArray) : Bool := chk4 (fueT t) (treT t)
theorem k1_ok : chk1T k1T = true := by kernel_rfl
theorem k2_ok : chk2T k2T = true := by kernel_rfl
theorem k3_ok : chk3T k3T = true := by kernel_rfl
theorem k4_ok : chk4T k4T = true := by kernel_rfl
theorem chk1_facts {t : ByteArray} (h : chk1T t = true) : (∃ y z, BD.kids (K := List (TR (fueT t + 2))) (treT t) = [y] ∧ BD.kids (K := List (TR (fueT t + 1))) y = [z] ∧ BD.text (K := List (TR (fueT t))) z = ⟨#[97, 10, 98]⟩) ∧ deepT (fueT t) (finT t) 0 = 1 := by
 unfold chk1T at h;rw [Bool.and_eq_true] at h;refine ⟨?_, by simpa using h.2⟩;have h := h.1;unfold chk1 at h;split at h
 ·rename_i y hy;split at h
  ·rename_i z hz;exact ⟨y, z, hy, hz, by simpa using h⟩
  ·cases h
 ·cases h
theorem chk2_facts {t : ByteArray} (h : chk2T t = true) : ∃ y, BD.kids (K := List (TR (fueT t + 2))) (treT t) = [y] ∧ BD.tight (K := List (TR (fueT t + 1))) y = false ∧ (BD.kids (K := List (TR (fueT t + 1))) y).length = 2 := by
 unfold chk2T chk2 at h;split at h
 ·rename_i y hy;rw [Bool.and_eq_true] at h;exact ⟨y, hy, by simpa using h.1, by simpa using h.2⟩
 ·cases h
theorem chk3_facts {t : ByteArray} (h : chk3T t = true) : ∃ y q, BD.kids (K := List (TR (fueT t + 2))) (treT t) = [y] ∧ (finT t).refs = [q] ∧ BD.text (K := List (TR (fueT t + 1))) y = ⟨#[99]⟩ ∧ q.2.1 = ⟨#[98]⟩ := by
 unfold chk3T chk3 at h;split at h
 ·rename_i y q hy hq;rw [Bool.and_eq_true] at h;exact ⟨y, q, hy, hq, by simpa using h.1, by simpa using h.2⟩
 ·cases h
theorem chk4_facts {t : ByteArray} (h : chk4T t = true) : ∃ y x z, BD.kids (K := List (TR (fueT t + 2))) (treT t) = [y] ∧ BD.kind (K := List (TR (fueT t + 1))) y = 10 ∧ BD.kids (K := List (TR (fueT t + 1))) y = [x, z] ∧ (BD.kids (K := List (TR (fueT t))) z).length = 1 := by
 unfold chk4T chk4 at h;split at h
 ·rename_i y hy;rw [Bool.and_eq_true] at h;obtain ⟨h1, h2⟩ := h;split at h2
  ·rename_i x z hz;exact ⟨y, x, z, hy, by simpa using h1, hz, by simpa using h2⟩
  ·cases h2
 ·cases h
