/- The reference's front: how many of the first bytes are a character's beginning. -/
import Derived.Test.YtbcfhpomclkccaaDoorTxt
import Derived.Deep.QuietTactic
import Derived.BigQuiet
namespace Go.Proofs.YtbcfhpomclkccaaDoor
open Go.RowKit

def contN (b : Nat) : Bool := decide (128 ≤ b) && decide (b ≤ 191)
def okAt (l : List UInt8) (i : Nat) : Bool := if i = 1 then secB (l.getD 0 0).toNat (l.getD 1 0).toNat else contN (l.getD i 0).toNat
def frontF (l : List UInt8) (n : Nat) : Nat → Nat → Nat × Bool
  | 0, i => (i, i == n)
  | f + 1, i => if i < n ∧ i < l.length then (if okAt l i = true then frontF l n f (i + 1) else (i, false)) else (i, i == n)
def frontN (l : List UInt8) : Nat × Bool := if manyN (l.getD 0 0).toNat = 0 then (1, false) else frontF l (manyN (l.getD 0 0).toNat) 4 1
theorem frontF_in (l : List UInt8) (n : Nat) : ∀ f i, i ≤ l.length → i ≤ (frontF l n f i).1 ∧ (frontF l n f i).1 ≤ l.length
  | 0, _, h => ⟨Nat.le_refl _, h⟩
  | f + 1, i, h => by
    unfold frontF
    split
    · rename_i hh
      split
      · have := frontF_in l n f (i + 1) (by omega)
        exact ⟨by omega, this.2⟩
      · exact ⟨Nat.le_refl _, h⟩
    · exact ⟨Nat.le_refl _, h⟩
theorem frontN_in (l : List UInt8) (h : 1 ≤ l.length) : 1 ≤ (frontN l).1 ∧ (frontN l).1 ≤ l.length := by
  unfold frontN
  split
  · exact ⟨Nat.le_refl _, h⟩
  · exact frontF_in l _ 4 1 h
theorem frontF_end {l : List UInt8} {n f i : Nat} (h : ¬ (i < n ∧ i < l.length)) : frontF l n f i = (i, i == n) := by
  cases f with
  | zero => rfl
  | succ f => rw [frontF, if_neg h]
theorem frontF_yes {l : List UInt8} {n f i : Nat} (h : i < n) (h2 : i < l.length) (ho : okAt l i = true) : frontF l n (f + 1) i = frontF l n f (i + 1) := by rw [frontF, if_pos ⟨h, h2⟩, if_pos ho]
theorem frontF_no {l : List UInt8} {n f i : Nat} (h : i < n) (h2 : i < l.length) (ho : okAt l i = false) : frontF l n (f + 1) i = (i, false) := by rw [frontF, if_pos ⟨h, h2⟩, if_neg (by rw [ho]; simp)]
/-- The bytes of a slice in memory. -/
def BytesOf (w : World) (b off : Nat) (l : List UInt8) : Prop := ∀ (j : Nat) (h : j < l.length), w.cell? ⟨b, off + j, none⟩ = some (.int .u8 (l[j].toNat : Int))
def FrontR (w : World) (x : Nat × Bool) (e : Ending) (w' : World) : Prop := e = .returned (.tuple #[.int .i64 (x.1 : Int), .bool x.2]) ∧ ∃ d, w' = w.drewN d
def FrontW (w : World) (l : List UInt8) (n : Nat) (E : Nat × Bool) (v : Value) (wr : World) : Prop := ∃ (k f : Nat), v = .int .i64 (k : Int) ∧ 1 ≤ k ∧ k ≤ l.length ∧ n ≤ k + f ∧ frontF l n f k = E ∧ ∃ d, wr = w.drewN d
theorem bytes_drewN {w : World} {b off : Nat} {l : List UInt8} (h : BytesOf w b off l) (d : Nat) : BytesOf (w.drewN d) b off l := h
set_option maxHeartbeats 4000000 in
set_option maxRecDepth 100000 in
theorem front_any (b off m c : Nat) (l : List UInt8) (w : World) (hm : m = l.length) (h1 : 1 ≤ l.length) (hl : l.length ≤ 1099511627776) (hb : BytesOf w b off l) :
    Calls Tryd.prog 47 #[.slice (some ⟨b, off, none⟩) m c] w (FrontR w (frontN l)) := by
  have c0 := hb 0 h1
  obtain ⟨a, ha⟩ : ∃ a, l[0] = a := ⟨_, rfl⟩
  rw [ha] at c0
  have hg0 : l.getD 0 0 = a := by rw [List.getD_eq_getElem?_getD, List.getElem?_eq_getElem h1, ha]; rfl
  have hE : frontN l = if manyN a.toNat = 0 then (1, false) else frontF l (manyN a.toNat) 4 1 := by unfold frontN; rw [hg0]
  rw [hE]
  have hn4 := manyN_le a.toNat
  obtain ⟨n, hn⟩ : ∃ n, manyN a.toNat = n := ⟨_, rfl⟩
  have HM := Lib.hid fun w' => many_any a w'
  rw [hn] at HM hn4 ⊢
  have c0' : w.cell? ⟨b, off, none⟩ = some (.int .u8 (a.toNat : Int)) := c0
  have hL0 : (0 : Int) < (m : Int) := by omega
  have hm1 : 0 < m := by omega
  have hmx : m ≤ 1099511627776 := by omega
  have HML := Lib.hid hm
  have HB := Lib.hid hb
  have HG0 := Lib.hid hg0
  clear hE hb ha hg0 hn hm hl
  have H1 := Lib.hid h1
  clear h1
  by_cases hz : n = 0
  · subst hz
    rw [if_pos rfl]
    go_enter Tryd.func47, Tryd.ntmps47
    go_wp2_with fail
    refine Calls.mono (HM.out _) ?_
    rintro e w1 ⟨rfl, rfl⟩
    go_wp2
    go_ret2
    exact ⟨rfl, 0, rfl⟩
  · rw [if_neg hz]
    have hz' : ((n : Int) == 0) = false := by rw [beq_eq_false_iff_ne]; omega
    obtain ⟨E, hE⟩ : ∃ E, frontF l n 4 1 = E := ⟨_, rfl⟩
    rw [hE]
    have HE := Lib.hid hE
    clear hE
    go_enter Tryd.func47, Tryd.ntmps47
    go_wp2_with fail
    refine Calls.mono (HM.out _) ?_
    rintro e w1 ⟨rfl, rfl⟩
    go_wp2_with fail
    go_loopw [5] (fun v wr => FrontW w l n E v wr) (fun v _ => n - (intOf v).toNat)
    case atStart => exact ⟨1, 4, rfl, by omega, H1.out, by omega, HE.out, 0, rfl⟩
    case round =>
      obtain ⟨k, f, rfl, hk1, hkl, hnf, hE, d, rfl⟩ := hrel
      by_cases hkn : k < n
      · by_cases hk2 : k < m
        · have hk2l : k < l.length := by rw [← HML.out]; exact hk2
          have zk : (k : Int) < (n : Int) := by omega
          have zk2 : (k : Int) < (m : Int) := by omega
          have ck := HB.out k hk2l
          obtain ⟨x, hx⟩ : ∃ x, l[k] = x := ⟨_, rfl⟩
          rw [hx] at ck
          have hgk : l.getD k 0 = x := by rw [List.getD_eq_getElem?_getD, List.getElem?_eq_getElem hk2l, hx]; rfl
          obtain ⟨f', rfl⟩ : ∃ f', f = f' + 1 := ⟨f - 1, by omega⟩
          by_cases h11 : k = 1
          · subst h11
            have zk1 : (1 : Int) < (n : Int) := by omega
            have zk3 : (1 : Int) < (m : Int) := by omega
            have hok : okAt l 1 = secB a.toNat x.toNat := by unfold okAt; rw [if_pos rfl, HG0.out, hgk]
            have HS := Lib.hid fun w' => second_any a x w'
            cases hs : secB a.toNat x.toNat with
            | true =>
              rw [frontF_yes hkn hk2l (hok.trans hs)] at hE
              rw [hs] at HS
              have HE2 := Lib.hid hE
              clear hE hok hs hgk hx HE zk zk2 c0 hk2l hkl
              go_wp2
              go_quiet ((go_at_call 82; exact (HS.out _).mono fun _ _ h => ⟨h.1, _, h.2.symm⟩))
              go_wp2
              go_roundw
              case rel => exact ⟨1 + 1, f', by go_num, by omega, by rw [← HML.out]; omega, by omega, HE2.out, d + nq, by first | rfl | exact World.drewN_drewN _ _ _⟩
              case measure => simp [intOf]; omega
            | false =>
              rw [frontF_no hkn hk2l (hok.trans hs)] at hE
              rw [hs] at HS
              subst hE
              clear hok hs hgk hx HE zk zk2 c0 hk2l hkl
              go_wp2
              go_quiet ((go_at_call 82; exact (HS.out _).mono fun _ _ h => ⟨h.1, _, h.2.symm⟩))
              go_wp2
              go_ret2
              exact ⟨rfl, d + nq, World.drewN_drewN _ _ _⟩
          · have hok : okAt l k = contN x.toNat := by unfold okAt; rw [if_neg h11, hgk]
            have z1 : ((k : Int) == 1) = false := by rw [beq_eq_false_iff_ne]; omega
            have z2 : (1 : Int) < (k : Int) := by omega
            have z2d : decide (1 < k) = true := decide_eq_true (by omega)
            obtain ⟨y, hy⟩ : ∃ y, x.toNat = y := ⟨_, rfl⟩
            rw [hy] at ck hok
            have hcase : y < 128 ∨ 191 < y ∨ (128 ≤ y ∧ y ≤ 191) := by omega
            rcases hcase with h | h | ⟨h, h'⟩
            · have hof : contN y = false := by unfold contN; rw [decide_eq_false (by omega)]; rfl
              rw [frontF_no hkn hk2l (hok.trans hof)] at hE
              subst hE
              have z3 : decide ((y : Int) < 128) = true := by simp; omega
              have z3i : (y : Int) < 128 := by omega
              clear hok hof hgk hx HE c0 hk2l hkl hy
              go_wp2
              go_quiet (fail)
              go_wp2
              go_ret2
              exact ⟨rfl, d + nq, World.drewN_drewN _ _ _⟩
            · have hof : contN y = false := by unfold contN; rw [decide_eq_false (p := y ≤ 191) (by omega), Bool.and_false]
              rw [frontF_no hkn hk2l (hok.trans hof)] at hE
              subst hE
              have z3 : decide ((y : Int) < 128) = false := by simp; omega
              have z4 : decide ((191 : Int) < (y : Int)) = true := by simp; omega
              have z4i : (191 : Int) < (y : Int) := by omega
              clear hok hof hgk hx HE c0 hk2l hkl hy
              go_wp2
              go_quiet (fail)
              go_wp2
              go_ret2
              exact ⟨rfl, d + nq, World.drewN_drewN _ _ _⟩
            · have hof : contN y = true := by unfold contN; rw [decide_eq_true h, decide_eq_true h']; rfl
              rw [frontF_yes hkn hk2l (hok.trans hof)] at hE
              have HE2 := Lib.hid hE
              have z3 : decide ((y : Int) < 128) = false := by simp; omega
              have z4 : decide ((191 : Int) < (y : Int)) = false := by simp; omega
              clear hE hok hof hgk hx HE c0 hk2l hkl hy
              go_wp2
              go_quiet (fail)
              go_wp2
              go_roundw
              case rel => exact ⟨k + 1, f', by go_num, by omega, by rw [← HML.out]; omega, by omega, HE2.out, d + nq, by first | rfl | exact World.drewN_drewN _ _ _⟩
              case measure => simp [intOf]; omega
        · rw [frontF_end (by rw [← HML.out]; omega)] at hE
          subst hE
          have zk : (k : Int) < (n : Int) := by omega
          have zk2 : decide ((k : Int) < (m : Int)) = false := by simp; omega
          have hq : (k == n) = false := by rw [beq_eq_false_iff_ne]; omega
          have hqi : ((k : Int) == (n : Int)) = false := by rw [beq_eq_false_iff_ne]; omega
          clear c0 HE hkl
          go_wp2
          go_ret2
          rw [hq]
          exact ⟨rfl, d, rfl⟩
      · rw [frontF_end (by omega)] at hE
        subst hE
        have zk : decide ((k : Int) < (n : Int)) = false := by simp; omega
        have hq : ((k : Int) == (n : Int)) = (k == n) := by rw [Bool.eq_iff_iff, beq_iff_eq, beq_iff_eq]; omega
        clear c0 HE hkl
        go_wp2
        go_ret2
        exact ⟨by first | rfl | rw [hq], d, rfl⟩
end Go.Proofs.YtbcfhpomclkccaaDoor
