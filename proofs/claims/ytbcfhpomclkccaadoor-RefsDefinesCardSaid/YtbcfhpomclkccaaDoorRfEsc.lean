/- The reference's sign, pair, begins; numeric and Mark at a text that no `&` begins. -/
import Derived.Test.YtbcfhpomclkccaaDoorRsBase
import Derived.Deep.QuietTactic
namespace Go.Proofs.YtbcfhpomclkccaaDoor
open Go.RowKit

theorem sign_eq : ∀ n : Fin 256, signB (UInt8.ofNat n.val) = ((decide (33 ≤ n.val) && decide (n.val ≤ 47)) || ((decide (58 ≤ n.val) && decide (n.val ≤ 64)) || ((decide (91 ≤ n.val) && decide (n.val ≤ 96)) || (decide (123 ≤ n.val) && decide (n.val ≤ 126))))) := by decide +kernel
theorem refsign_any (b : UInt8) (w : World) : Calls Tryd.prog 67 #[.int .u8 (b.toNat : Int)] w (RB w (signB b)) := by
  have hs : signB b = ((decide (33 ≤ b.toNat) && decide (b.toNat ≤ 47)) || ((decide (58 ≤ b.toNat) && decide (b.toNat ≤ 64)) || ((decide (91 ≤ b.toNat) && decide (b.toNat ≤ 96)) || (decide (123 ≤ b.toNat) && decide (b.toNat ≤ 126))))) := by
    have := sign_eq ⟨b.toNat, UInt8.toNat_lt b⟩
    simpa using this
  obtain ⟨n, hn⟩ : ∃ n, b.toNat = n := ⟨_, rfl⟩
  rw [hs, hn]
  clear hs hn
  obtain ⟨B, hB⟩ : ∃ B, ((decide (33 ≤ n) && decide (n ≤ 47)) || ((decide (58 ≤ n) && decide (n ≤ 64)) || ((decide (91 ≤ n) && decide (n ≤ 96)) || (decide (123 ≤ n) && decide (n ≤ 126))))) = B := ⟨_, rfl⟩
  rw [hB]
  have hcase : (0 ≤ n ∧ n ≤ 32) ∨ (33 ≤ n ∧ n ≤ 47) ∨ (48 ≤ n ∧ n ≤ 57) ∨ (58 ≤ n ∧ n ≤ 64) ∨ (65 ≤ n ∧ n ≤ 90) ∨ (91 ≤ n ∧ n ≤ 96) ∨ (97 ≤ n ∧ n ≤ 122) ∨ (123 ≤ n ∧ n ≤ 126) ∨ (127 ≤ n) := by omega
  rcases hcase with ⟨h1, h2⟩ | ⟨h1, h2⟩ | ⟨h1, h2⟩ | ⟨h1, h2⟩ | ⟨h1, h2⟩ | ⟨h1, h2⟩ | ⟨h1, h2⟩ | ⟨h1, h2⟩ | h1
  · have g33 : ¬ (33 : Int) ≤ (n : Int) := by omega
    have g58 : ¬ (58 : Int) ≤ (n : Int) := by omega
    have g91 : ¬ (91 : Int) ≤ (n : Int) := by omega
    have g123 : ¬ (123 : Int) ≤ (n : Int) := by omega
    have g47 : (n : Int) ≤ 47 := by omega
    have g64 : (n : Int) ≤ 64 := by omega
    have g96 : (n : Int) ≤ 96 := by omega
    have g126 : (n : Int) ≤ 126 := by omega
    have hv : B = false := by rw [← hB, decide_eq_false (show ¬ 33 ≤ n by omega), decide_eq_false (show ¬ 58 ≤ n by omega), decide_eq_false (show ¬ 91 ≤ n by omega), decide_eq_false (show ¬ 123 ≤ n by omega), decide_eq_true (show n ≤ 47 by omega), decide_eq_true (show n ≤ 64 by omega), decide_eq_true (show n ≤ 96 by omega), decide_eq_true (show n ≤ 126 by omega)]; rfl
    subst hv
    clear hB
    go_enter Tryd.func67, Tryd.ntmps67
    go_wp2
    go_ret
    exact ⟨rfl, rfl⟩
  · have g33 : (33 : Int) ≤ (n : Int) := by omega
    have g58 : ¬ (58 : Int) ≤ (n : Int) := by omega
    have g91 : ¬ (91 : Int) ≤ (n : Int) := by omega
    have g123 : ¬ (123 : Int) ≤ (n : Int) := by omega
    have g47 : (n : Int) ≤ 47 := by omega
    have g64 : (n : Int) ≤ 64 := by omega
    have g96 : (n : Int) ≤ 96 := by omega
    have g126 : (n : Int) ≤ 126 := by omega
    have hv : B = true := by rw [← hB, decide_eq_true (show 33 ≤ n by omega), decide_eq_false (show ¬ 58 ≤ n by omega), decide_eq_false (show ¬ 91 ≤ n by omega), decide_eq_false (show ¬ 123 ≤ n by omega), decide_eq_true (show n ≤ 47 by omega), decide_eq_true (show n ≤ 64 by omega), decide_eq_true (show n ≤ 96 by omega), decide_eq_true (show n ≤ 126 by omega)]; rfl
    subst hv
    clear hB
    go_enter Tryd.func67, Tryd.ntmps67
    go_wp2
    go_ret
    exact ⟨rfl, rfl⟩
  · have g33 : (33 : Int) ≤ (n : Int) := by omega
    have g58 : ¬ (58 : Int) ≤ (n : Int) := by omega
    have g91 : ¬ (91 : Int) ≤ (n : Int) := by omega
    have g123 : ¬ (123 : Int) ≤ (n : Int) := by omega
    have g47 : ¬ (n : Int) ≤ 47 := by omega
    have g64 : (n : Int) ≤ 64 := by omega
    have g96 : (n : Int) ≤ 96 := by omega
    have g126 : (n : Int) ≤ 126 := by omega
    have hv : B = false := by rw [← hB, decide_eq_true (show 33 ≤ n by omega), decide_eq_false (show ¬ 58 ≤ n by omega), decide_eq_false (show ¬ 91 ≤ n by omega), decide_eq_false (show ¬ 123 ≤ n by omega), decide_eq_false (show ¬ n ≤ 47 by omega), decide_eq_true (show n ≤ 64 by omega), decide_eq_true (show n ≤ 96 by omega), decide_eq_true (show n ≤ 126 by omega)]; rfl
    subst hv
    clear hB
    go_enter Tryd.func67, Tryd.ntmps67
    go_wp2
    go_ret
    exact ⟨rfl, rfl⟩
  · have g33 : (33 : Int) ≤ (n : Int) := by omega
    have g58 : (58 : Int) ≤ (n : Int) := by omega
    have g91 : ¬ (91 : Int) ≤ (n : Int) := by omega
    have g123 : ¬ (123 : Int) ≤ (n : Int) := by omega
    have g47 : ¬ (n : Int) ≤ 47 := by omega
    have g64 : (n : Int) ≤ 64 := by omega
    have g96 : (n : Int) ≤ 96 := by omega
    have g126 : (n : Int) ≤ 126 := by omega
    have hv : B = true := by rw [← hB, decide_eq_true (show 33 ≤ n by omega), decide_eq_true (show 58 ≤ n by omega), decide_eq_false (show ¬ 91 ≤ n by omega), decide_eq_false (show ¬ 123 ≤ n by omega), decide_eq_false (show ¬ n ≤ 47 by omega), decide_eq_true (show n ≤ 64 by omega), decide_eq_true (show n ≤ 96 by omega), decide_eq_true (show n ≤ 126 by omega)]; rfl
    subst hv
    clear hB
    go_enter Tryd.func67, Tryd.ntmps67
    go_wp2
    go_ret
    exact ⟨rfl, rfl⟩
  · have g33 : (33 : Int) ≤ (n : Int) := by omega
    have g58 : (58 : Int) ≤ (n : Int) := by omega
    have g91 : ¬ (91 : Int) ≤ (n : Int) := by omega
    have g123 : ¬ (123 : Int) ≤ (n : Int) := by omega
    have g47 : ¬ (n : Int) ≤ 47 := by omega
    have g64 : ¬ (n : Int) ≤ 64 := by omega
    have g96 : (n : Int) ≤ 96 := by omega
    have g126 : (n : Int) ≤ 126 := by omega
    have hv : B = false := by rw [← hB, decide_eq_true (show 33 ≤ n by omega), decide_eq_true (show 58 ≤ n by omega), decide_eq_false (show ¬ 91 ≤ n by omega), decide_eq_false (show ¬ 123 ≤ n by omega), decide_eq_false (show ¬ n ≤ 47 by omega), decide_eq_false (show ¬ n ≤ 64 by omega), decide_eq_true (show n ≤ 96 by omega), decide_eq_true (show n ≤ 126 by omega)]; rfl
    subst hv
    clear hB
    go_enter Tryd.func67, Tryd.ntmps67
    go_wp2
    go_ret
    exact ⟨rfl, rfl⟩
  · have g33 : (33 : Int) ≤ (n : Int) := by omega
    have g58 : (58 : Int) ≤ (n : Int) := by omega
    have g91 : (91 : Int) ≤ (n : Int) := by omega
    have g123 : ¬ (123 : Int) ≤ (n : Int) := by omega
    have g47 : ¬ (n : Int) ≤ 47 := by omega
    have g64 : ¬ (n : Int) ≤ 64 := by omega
    have g96 : (n : Int) ≤ 96 := by omega
    have g126 : (n : Int) ≤ 126 := by omega
    have hv : B = true := by rw [← hB, decide_eq_true (show 33 ≤ n by omega), decide_eq_true (show 58 ≤ n by omega), decide_eq_true (show 91 ≤ n by omega), decide_eq_false (show ¬ 123 ≤ n by omega), decide_eq_false (show ¬ n ≤ 47 by omega), decide_eq_false (show ¬ n ≤ 64 by omega), decide_eq_true (show n ≤ 96 by omega), decide_eq_true (show n ≤ 126 by omega)]; rfl
    subst hv
    clear hB
    go_enter Tryd.func67, Tryd.ntmps67
    go_wp2
    go_ret
    exact ⟨rfl, rfl⟩
  · have g33 : (33 : Int) ≤ (n : Int) := by omega
    have g58 : (58 : Int) ≤ (n : Int) := by omega
    have g91 : (91 : Int) ≤ (n : Int) := by omega
    have g123 : ¬ (123 : Int) ≤ (n : Int) := by omega
    have g47 : ¬ (n : Int) ≤ 47 := by omega
    have g64 : ¬ (n : Int) ≤ 64 := by omega
    have g96 : ¬ (n : Int) ≤ 96 := by omega
    have g126 : (n : Int) ≤ 126 := by omega
    have hv : B = false := by rw [← hB, decide_eq_true (show 33 ≤ n by omega), decide_eq_true (show 58 ≤ n by omega), decide_eq_true (show 91 ≤ n by omega), decide_eq_false (show ¬ 123 ≤ n by omega), decide_eq_false (show ¬ n ≤ 47 by omega), decide_eq_false (show ¬ n ≤ 64 by omega), decide_eq_false (show ¬ n ≤ 96 by omega), decide_eq_true (show n ≤ 126 by omega)]; rfl
    subst hv
    clear hB
    go_enter Tryd.func67, Tryd.ntmps67
    go_wp2
    go_ret
    exact ⟨rfl, rfl⟩
  · have g33 : (33 : Int) ≤ (n : Int) := by omega
    have g58 : (58 : Int) ≤ (n : Int) := by omega
    have g91 : (91 : Int) ≤ (n : Int) := by omega
    have g123 : (123 : Int) ≤ (n : Int) := by omega
    have g47 : ¬ (n : Int) ≤ 47 := by omega
    have g64 : ¬ (n : Int) ≤ 64 := by omega
    have g96 : ¬ (n : Int) ≤ 96 := by omega
    have g126 : (n : Int) ≤ 126 := by omega
    have hv : B = true := by rw [← hB, decide_eq_true (show 33 ≤ n by omega), decide_eq_true (show 58 ≤ n by omega), decide_eq_true (show 91 ≤ n by omega), decide_eq_true (show 123 ≤ n by omega), decide_eq_false (show ¬ n ≤ 47 by omega), decide_eq_false (show ¬ n ≤ 64 by omega), decide_eq_false (show ¬ n ≤ 96 by omega), decide_eq_true (show n ≤ 126 by omega)]; rfl
    subst hv
    clear hB
    go_enter Tryd.func67, Tryd.ntmps67
    go_wp2
    go_ret
    exact ⟨rfl, rfl⟩
  · have g33 : (33 : Int) ≤ (n : Int) := by omega
    have g58 : (58 : Int) ≤ (n : Int) := by omega
    have g91 : (91 : Int) ≤ (n : Int) := by omega
    have g123 : (123 : Int) ≤ (n : Int) := by omega
    have g47 : ¬ (n : Int) ≤ 47 := by omega
    have g64 : ¬ (n : Int) ≤ 64 := by omega
    have g96 : ¬ (n : Int) ≤ 96 := by omega
    have g126 : ¬ (n : Int) ≤ 126 := by omega
    have hv : B = false := by rw [← hB, decide_eq_true (show 33 ≤ n by omega), decide_eq_true (show 58 ≤ n by omega), decide_eq_true (show 91 ≤ n by omega), decide_eq_true (show 123 ≤ n by omega), decide_eq_false (show ¬ n ≤ 47 by omega), decide_eq_false (show ¬ n ≤ 64 by omega), decide_eq_false (show ¬ n ≤ 96 by omega), decide_eq_false (show ¬ n ≤ 126 by omega)]; rfl
    subst hv
    clear hB
    go_enter Tryd.func67, Tryd.ntmps67
    go_wp2
    go_ret
    exact ⟨rfl, rfl⟩
set_option maxHeartbeats 1000000 in
set_option maxRecDepth 100000 in
theorem begins_any (s x : ByteArray) (w : World) : Calls Tryd.prog 71 #[.string s, .string x] w (RB w (Lib.hasPrefix s.data.toList x.data.toList)) := by
  have hsl : s.data.toList.length = s.size := Array.length_toList
  have hxl : x.data.toList.length = x.size := Array.length_toList
  have hpt := Lib.hasPrefix_of_take s.data.toList x.data.toList
  rw [hsl, hxl] at hpt
  obtain ⟨B, hB⟩ : ∃ B, Lib.hasPrefix s.data.toList x.data.toList = B := ⟨_, rfl⟩
  rw [hB] at hpt ⊢
  by_cases hl : x.size ≤ s.size
  · rw [decide_eq_true hl, Bool.true_and] at hpt
    have z1 : (x.size : Int) ≤ (s.size : Int) := by omega
    obtain ⟨X, hX⟩ : ∃ X, s.extract 0 x.size = X := ⟨_, rfl⟩
    have hXl : X.data.toList = s.data.toList.take x.size := by rw [← hX, Lib.extract_data]; simp
    have hXb : (X.data.toList == x.data.toList) = B := by rw [← hpt, hXl]
    have HXX := Lib.hid hX
    cases B with
    | true =>
      have he : X.toList = x.toList := by rw [ByteArray.toList_eq, ByteArray.toList_eq]; simpa using hXb
      clear hpt hB hXl hXb hsl hxl hX
      go_enter Tryd.func71, Tryd.ntmps71
      go_wp2
      go_ret
      exact ⟨by simp [HXX.out, he], rfl⟩
    | false =>
      have he : ¬ X.toList = x.toList := by rw [ByteArray.toList_eq, ByteArray.toList_eq]; simpa using hXb
      clear hpt hB hXl hXb hsl hxl hX
      go_enter Tryd.func71, Tryd.ntmps71
      go_wp2
      go_ret
      exact ⟨by simp [HXX.out, he], rfl⟩
  · rw [decide_eq_false hl, Bool.false_and] at hpt
    have z1 : ¬ (x.size : Int) ≤ (s.size : Int) := by omega
    subst hpt
    clear hB hsl hxl
    go_enter Tryd.func71, Tryd.ntmps71
    go_wp2
    go_ret
    exact ⟨rfl, rfl⟩
/-- Does a text not begin with `&`? -/
def NoAmp (s : ByteArray) : Prop := s.data.toList.head? ≠ some 38
theorem noAmp_pre {s x : ByteArray} (h : NoAmp s) (hx : x.data.toList.head? = some 38) : Lib.hasPrefix s.data.toList x.data.toList = false := by
  unfold NoAmp at h
  unfold Lib.hasPrefix
  cases hxl : x.data.toList with
  | nil => rw [hxl] at hx; cases hx
  | cons a t =>
    rw [hxl] at hx
    have ha : a = 38 := Option.some.inj hx
    cases hsl : s.data.toList with
    | nil => rfl
    | cons b r =>
      rw [hsl] at h
      show ((a == b) && _) = false
      rw [show (a == b) = false by rw [beq_eq_false_iff_ne, ha]; rintro rfl; exact h rfl]
      rfl
def Tup0 (w : World) (e : Ending) (w' : World) : Prop := e = .returned (.tuple #[.int .i64 0, .int .i64 0, .int .i64 0]) ∧ w = w'
set_option maxHeartbeats 1000000 in
set_option maxRecDepth 100000 in
theorem numeric_none (s : ByteArray) (w : World) (h : NoAmp s) : Calls Tryd.prog 68 #[.string s] w (Tup0 w) := by
  have hb := fun w' => begins_any s ⟨#[38, 35]⟩ w'
  rw [noAmp_pre h rfl] at hb
  have HB := Lib.hid hb
  clear hb h
  go_enter Tryd.func68, Tryd.ntmps68
  go_wp2_with fail
  refine Calls.mono (HB.out _) ?_
  rintro e w1 ⟨rfl, rfl⟩
  go_wp2
  go_ret3
  exact ⟨rfl, rfl⟩
def pairB (l : List UInt8) : Bool := match l with
  | a :: b :: _ => a == 92 && signB b
  | _ => false
set_option maxHeartbeats 1000000 in
set_option maxRecDepth 100000 in
theorem refpair_any (s : ByteArray) (w : World) (_ : s.size ≤ 1099511627) : Calls Tryd.prog 33 #[.string s, .int .i64 0] w (RB w (pairB s.data.toList)) := by
  obtain ⟨R, hR⟩ : ∃ R, pairB s.data.toList = R := ⟨_, rfl⟩
  rw [hR]
  by_cases h2 : 1 < s.size
  · have z1 : (1 : Int) < (s.size : Int) := by omega
    have z0 : (0 : Int) < (s.size : Int) := by omega
    have z1n : decide (1 < s.size) = true := by simp; omega
    have h0' : 0 < s.size := by omega
    have hRs : R = (s[0] == 92 && signB s[1]) := by
      rw [← hR]
      have e0 := get_list s 0 h0'
      have e1 := get_list s 1 h2
      revert e0 e1
      cases s.data.toList with
      | nil => intro e0; cases e0
      | cons a t =>
        cases t with
        | nil => intro _ e1; cases e1
        | cons b r =>
          intro e0 e1
          show (a == 92 && signB b) = _
          rw [← (Option.some.inj e0 : a = s[0]), ← (Option.some.inj e1 : b = s[1])]
    have y92 : ((s[0].toNat : Int) == 92) = (s[0] == 92) := beqc s[0] 92
    cases h92 : (s[0] == 92) with
    | true =>
      rw [h92] at y92 hRs
      have hS := fun w' => refsign_any s[1] w'
      rw [← (show R = signB s[1] from hRs)] at hS
      have HS := Lib.hid hS
      clear hR hRs hS h92
      go_enter Tryd.func33, Tryd.ntmps33
      go_wp2_with fail
      refine Calls.mono (HS.out _) ?_
      rintro e w1 ⟨rfl, rfl⟩
      go_wp2
      go_ret
      exact ⟨rfl, rfl⟩
    | false =>
      rw [h92] at y92 hRs
      have hR2 : R = false := hRs
      clear hRs hR h92
      subst hR2
      go_enter Tryd.func33, Tryd.ntmps33
      go_wp2
      go_ret
      exact ⟨rfl, rfl⟩
  · have z1 : ¬ (1 : Int) < (s.size : Int) := by omega
    have z1n : decide (1 < s.size) = false := by simp; omega
    have hRs : R = false := by
      rw [← hR]
      have hsl : s.data.toList.length = s.size := Array.length_toList
      revert hsl
      cases s.data.toList with
      | nil => intro _; rfl
      | cons a t =>
        cases t with
        | nil => intro _; rfl
        | cons b r => intro e; simp at e; omega
    subst hRs
    clear hR h2
    go_enter Tryd.func33, Tryd.ntmps33
    go_wp2
    go_ret
    exact ⟨rfl, rfl⟩
end Go.Proofs.YtbcfhpomclkccaaDoor
