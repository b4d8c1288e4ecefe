/- Norm of Norm is it: plainly. -/
import Derived.Test.YtbcfhpomclkccaaDoorRsNorm
import Derived.Lib.MapLaws
namespace Go.Proofs.YtbcfhpomclkccaaDoor
open Go.RowKit

/-- A character. -/
def okR (z : Nat) : Prop := z < 55296 ∨ (57344 ≤ z ∧ z < 1114112)
theorem dec_ok (l : List UInt8) : okR (Lib.decodeL l).1 := by
  have k0 := (l.getD 0 0).toNat_lt
  have k1 := (l.getD 1 0).toNat_lt
  have k2 := (l.getD 2 0).toNat_lt
  have k3 := (l.getD 3 0).toNat_lt
  rw [Lib.decodeL_N]
  unfold okR
  rcases Lib.decodeN_shape l.length (l.getD 0 0).toNat (l.getD 1 0).toNat (l.getD 2 0).toNat (l.getD 3 0).toNat with ⟨c, e⟩ | ⟨c1, c2, c3, cv, e⟩ | ⟨c1, c2, c3, c4, cv, cs, e⟩ | ⟨c1, c2, c3, c4, c5, cv, cw, e⟩ | e
  all_goals (rw [e]; dsimp only; omega)
theorem turn_ok (z : Nat) (h : okR z) : okR (turnN z) := by
  unfold okR at h ⊢
  unfold turnN
  repeat' split
  all_goals omega
theorem turn_two (z : Nat) : turnN (turnN z) = turnN z := by
  have key : ∀ y, y = turnN z → turnN y = y := by
    intro y hy
    unfold turnN at hy
    unfold turnN
    repeat' split at hy
    all_goals (repeat' split)
    all_goals omega
  exact key _ rfl
theorem turn_sharp (z : Nat) (h : ¬ (z = 223 ∨ z = 7838)) : ¬ (turnN z = 223 ∨ turnN z = 7838) := by
  have key : ∀ y, y = turnN z → ¬ (y = 223 ∨ y = 7838) := by
    intro y hy
    unfold turnN at hy
    repeat' split at hy
    all_goals omega
  exact key _ rfl
theorem runeL_one (z : Nat) (h : z < 128) : runeL (z : Int) = [UInt8.ofNat z] := by
  unfold runeL Lib.encodeRune
  rw [Lib.encodeRuneZ_one (by omega) (by omega)]
  simp
theorem dec_enc (z : Nat) (h : okR z) (m : List UInt8) : Lib.decodeL (runeL (z : Int) ++ m) = (z, (runeL (z : Int)).length) := by
  unfold okR at h
  rw [Lib.decodeL_N]
  unfold runeL Lib.encodeRune
  have tb : ∀ x : Int, 0 ≤ x → x < 256 → (x.toNat.toUInt8).toNat = x.toNat := fun x h0 h1 => by
    rw [UInt8.toNat_ofNat']
    omega
  by_cases h1 : z ≤ 127
  · rw [Lib.encodeRuneZ_one (by omega) (by omega)]
    simp only [List.map_cons, List.map_nil, List.cons_append, List.nil_append, List.length_cons, List.length_nil, List.getD_cons_zero, List.getD_cons_succ]
    rw [tb _ (by omega) (by omega)]
    unfold Lib.decodeN
    rw [if_pos (by omega)]
    simp
  · by_cases h2 : z ≤ 2047
    · rw [Lib.encodeRuneZ_two (by omega) (by omega)]
      simp only [List.map_cons, List.map_nil, List.cons_append, List.nil_append, List.length_cons, List.length_nil, List.getD_cons_zero, List.getD_cons_succ]
      rw [tb _ (by omega) (by omega), tb _ (by omega) (by omega)]
      unfold Lib.decodeN
      rw [if_neg (by omega), if_pos (by omega), if_pos (by omega)]
      exact Prod.ext (by dsimp only; omega) rfl
    · by_cases h3 : z ≤ 65535
      · rw [Lib.encodeRuneZ_three (by omega)]
        simp only [List.map_cons, List.map_nil, List.cons_append, List.nil_append, List.length_cons, List.length_nil, List.getD_cons_zero, List.getD_cons_succ]
        rw [tb _ (by omega) (by omega), tb _ (by omega) (by omega), tb _ (by omega) (by omega)]
        unfold Lib.decodeN
        rw [if_neg (by omega), if_neg (by omega), if_pos (by omega), if_pos (by omega)]
        exact Prod.ext (by dsimp only; omega) rfl
      · rw [Lib.encodeRuneZ_four (by omega) (by omega)]
        simp only [List.map_cons, List.map_nil, List.cons_append, List.nil_append, List.length_cons, List.length_nil, List.getD_cons_zero, List.getD_cons_succ]
        rw [tb _ (by omega) (by omega), tb _ (by omega) (by omega), tb _ (by omega) (by omega), tb _ (by omega) (by omega)]
        unfold Lib.decodeN
        rw [if_neg (by omega), if_neg (by omega), if_neg (by omega), if_pos (by omega), if_pos (by omega)]
        exact Prod.ext (by dsimp only; omega) rfl
theorem runeL_ne (z : Int) : runeL z ≠ [] := by
  intro e
  have := (Lib.encodeRuneZ_length z).1
  have h2 := congrArg List.length e
  unfold runeL Lib.encodeRune at h2
  rw [List.length_map] at h2
  simp at h2
  rw [h2] at this
  simp at this
/-- Of characters written the fold is that of each. -/
theorem foldF_enc : ∀ (zs : List Nat) (f : Nat), (∀ z ∈ zs, okR z) → (zs.flatMap fun z : Nat => runeL (z : Int)).length ≤ f → foldF f (zs.flatMap fun z : Nat => runeL (z : Int)) = zs.flatMap fblk
  | [], f, _, _ => by cases f <;> simp [foldF]
  | z :: zs, f, h, hf => by
    rw [List.flatMap_cons, List.length_append] at hf
    have hp : 0 < (runeL (z : Int)).length := List.length_pos_iff.2 (runeL_ne z)
    obtain ⟨f, rfl⟩ : ∃ f', f = f' + 1 := ⟨f - 1, by omega⟩
    rw [List.flatMap_cons, foldF, if_neg (by simp [runeL_ne]), dec_enc z (h z (by simp))]
    dsimp only
    rw [List.drop_left, foldF_enc zs f (fun x hx => h x (List.mem_cons_of_mem _ hx)) (by omega), List.flatMap_cons]
/-- What a character is folded to, as characters. -/
def foldC (r : Nat) : List Nat := if r = 223 ∨ r = 7838 then [115, 115] else [turnN r]
theorem fblk_C (r : Nat) : fblk r = (foldC r).flatMap fun z : Nat => runeL (z : Int) := by
  unfold fblk foldC
  split
  · decide
  · simp
theorem foldC_ok (r : Nat) (h : okR r) : ∀ z ∈ foldC r, okR z ∧ fblk z = runeL (z : Int) := by
  intro z hz
  unfold foldC at hz
  split at hz
  · have : z = 115 := by simpa using hz
    subst this
    exact ⟨by unfold okR; omega, by decide⟩
  · rename_i hs
    have : z = turnN r := by simpa using hz
    subst this
    refine ⟨turn_ok r h, ?_⟩
    unfold fblk
    rw [if_neg (turn_sharp r hs), turn_two]
/-- The characters of a text. -/
def charsN : Nat → List UInt8 → List Nat
  | 0, _ => []
  | f + 1, l => if l = [] then [] else (Lib.decodeL l).1 :: charsN f (l.drop (Lib.decodeL l).2)
theorem charsN_ok : ∀ (f : Nat) (l : List UInt8), ∀ r ∈ charsN f l, okR r
  | 0, _, r, h => by cases h
  | f + 1, l, r, h => by
    rw [charsN] at h
    split at h
    · cases h
    · rcases List.mem_cons.1 h with rfl | h
      · exact dec_ok l
      · exact charsN_ok f _ r h
theorem foldF_chars : ∀ (f : Nat) (l : List UInt8), foldF f l = (charsN f l).flatMap fblk
  | 0, _ => rfl
  | f + 1, l => by
    rw [foldF, charsN]
    split
    · rfl
    · rw [List.flatMap_cons, foldF_chars f]
theorem fm_congr {f g : Nat → List UInt8} : ∀ l : List Nat, (∀ z ∈ l, f z = g z) → l.flatMap f = l.flatMap g
  | [], _ => rfl
  | a :: l, h => by rw [List.flatMap_cons, List.flatMap_cons, h a (by simp), fm_congr l fun z hz => h z (List.mem_cons_of_mem _ hz)]
/-- Fold of Fold is it. -/
theorem fold_two (l : List UInt8) : foldL (foldL l) = foldL l := by
  have h1 : foldL l = ((charsN l.length l).flatMap foldC).flatMap fun z : Nat => runeL (z : Int) := by
    unfold foldL
    rw [foldF_chars, List.flatMap_assoc]
    exact congrArg (fun g => (charsN l.length l).flatMap g) (funext fblk_C)
  have hok : ∀ z ∈ (charsN l.length l).flatMap foldC, okR z ∧ fblk z = runeL (z : Int) := by
    intro z hz
    obtain ⟨r, hr, hz⟩ := List.mem_flatMap.1 hz
    exact foldC_ok r (charsN_ok _ _ r hr) z hz
  rw [h1]
  generalize (charsN l.length l).flatMap foldC = zs at hok
  unfold foldL
  rw [foldF_enc zs _ (fun z hz => (hok z hz).1) (Nat.le_refl _)]
  exact fm_congr zs fun z hz => (hok z hz).2

/-! Blanks. -/
/-- One blank between words: p tells that a word must begin here. -/
def okB : Bool → List UInt8 → Prop
  | p, [] => p = false
  | p, c :: l => if c = 32 then p = false ∧ okB true l else ws3 c = false ∧ okB false l
theorem sqF_ok : ∀ (l acc : List UInt8) (p : Bool), okB p l → (p = true → acc ≠ [] → sqF l acc true = acc ++ 32 :: l) ∧ (p = true → acc = [] → sqF l acc true = l) ∧ (p = false → acc ≠ [] → sqF l acc false = acc ++ l)
  | [], acc, p, h => by
    have hp : p = false := h
    subst hp
    simp [sqF]
  | c :: l, acc, p, h => by
    rw [okB] at h
    have h32 : ws3 32 = true := by decide
    by_cases hc : c = 32
    · rw [if_pos hc] at h
      obtain ⟨hp, hl⟩ := h
      subst hp hc
      refine ⟨fun e => absurd e (by simp), fun e => absurd e (by simp), fun _ ha => ?_⟩
      rw [sqF, if_pos h32]
      exact (sqF_ok l acc true hl).1 rfl ha
    · rw [if_neg hc] at h
      obtain ⟨hw, hl⟩ := h
      have hn : ¬ ws3 c = true := by rw [hw]; exact Bool.false_ne_true
      refine ⟨fun hp ha => ?_, fun hp ha => ?_, fun hp ha => ?_⟩
      · rw [sqF, if_neg hn]
        have hae : acc.isEmpty = false := by cases acc with | nil => exact absurd rfl ha | cons _ _ => rfl
        rw [hae, if_pos (by decide), (sqF_ok l _ false hl).2.2 rfl (by simp)]
        simp
      · subst ha
        rw [sqF, if_neg hn, List.isEmpty_nil, if_neg (by decide), (sqF_ok l _ false hl).2.2 rfl (by simp)]
        simp
      · rw [sqF, if_neg hn, Bool.false_and, if_neg Bool.false_ne_true, (sqF_ok l _ false hl).2.2 rfl (by simp)]
        simp
/-- A text that sq leaves: nothing, or words with one blank between. -/
def NiceB (l : List UInt8) : Prop := l = [] ∨ okB true l
theorem nice_sq (l : List UInt8) (h : NiceB l) : sqL l = l := by
  rcases h with rfl | h
  · rfl
  · exact (sqF_ok l [] true h).2.1 rfl rfl
/-- A list of words without a blank at its end, and one behind it. -/
theorem okB_app : ∀ (l : List UInt8) (p : Bool) (c : UInt8), ws3 c = false → okB p l → okB p (l ++ [c]) ∧ okB p (l ++ [32] ++ [c])
  | [], p, c, hc, h => by
    have hp : p = false := h
    subst hp
    have h32 : ¬ c = 32 := fun e => by rw [e] at hc; exact absurd hc (by decide)
    constructor
    · show okB false [c]
      rw [okB, if_neg h32]
      exact ⟨hc, rfl⟩
    · show okB false [32, c]
      rw [okB, if_pos rfl]
      refine ⟨rfl, ?_⟩
      rw [okB, if_neg h32]
      exact ⟨hc, rfl⟩
  | d :: l, p, c, hc, h => by
    rw [okB] at h
    rw [List.cons_append, List.cons_append, List.cons_append]
    unfold okB
    by_cases hd : d = 32
    · rw [if_pos hd] at h
      rw [if_pos hd, if_pos hd]
      have := okB_app l true c hc h.2
      exact ⟨⟨h.1, this.1⟩, ⟨h.1, this.2⟩⟩
    · rw [if_neg hd] at h
      rw [if_neg hd, if_neg hd]
      have := okB_app l false c hc h.2
      exact ⟨⟨h.1, this.1⟩, ⟨h.1, this.2⟩⟩
theorem sqF_nice : ∀ (l acc : List UInt8) (g : Bool), NiceB acc → NiceB (sqF l acc g)
  | [], _, _, h => h
  | c :: l, acc, g, h => by
    rw [sqF]
    split
    · exact sqF_nice l acc true h
    · rename_i hw
      have hw : ws3 c = false := by simpa using hw
      refine sqF_nice l _ false ?_
      right
      rcases h with rfl | h
      · have h32 : ¬ c = 32 := fun e => by rw [e] at hw; exact absurd hw (by decide)
        have : okB true [c] := by rw [okB, if_neg h32]; exact ⟨hw, rfl⟩
        cases g <;> exact this
      · split
        · exact (okB_app acc true c hw h).2
        · exact (okB_app acc true c hw h).1
theorem sqL_nice (l : List UInt8) : NiceB (sqL l) := sqF_nice l [] true (.inl rfl)
/-- Bytes that are no blanks, at the front. -/
theorem okB_front : ∀ (u m : List UInt8) (p : Bool), u ≠ [] → (∀ c ∈ u, ws3 c = false) → (okB p (u ++ m) ↔ okB false m)
  | [], _, _, h, _ => absurd rfl h
  | c :: u, m, p, _, hu => by
    have hc := hu c (by simp)
    have h32 : ¬ c = 32 := fun e => by rw [e] at hc; exact absurd hc (by decide)
    rw [List.cons_append, okB, if_neg h32]
    have hu2 : ∀ x ∈ u, ws3 x = false := fun x hx => hu x (List.mem_cons_of_mem _ hx)
    by_cases hn : u = []
    · subst hn
      exact ⟨fun h => h.2, fun h => ⟨hc, h⟩⟩
    · rw [okB_front u m false hn hu2]
      exact ⟨fun h => h.2, fun h => ⟨hc, h⟩⟩
theorem ws3_big (c : UInt8) (h : 33 ≤ c.toNat) : ws3 c = false := by
  unfold ws3
  have e : ∀ d : UInt8, d.toNat < 33 → (c == d) = false := fun d hd => by rw [beq_eq_false_iff_ne]; intro e; rw [e] at h; omega
  rw [e 32 (by decide), e 9 (by decide), e 10 (by decide)]
  rfl
/-- The bytes of what stands at a place, if it is no sign of ASCII. -/
theorem dec_big (l : List UInt8) (hne : l ≠ []) (h : 128 ≤ (l.getD 0 0).toNat) : 128 ≤ (Lib.decodeL l).1 ∧ ∀ c ∈ l.take (Lib.decodeL l).2, ws3 c = false := by
  have hl : 0 < l.length := List.length_pos_iff.2 hne
  rw [Lib.decodeL_N]
  rcases Lib.decodeN_shape l.length (l.getD 0 0).toNat (l.getD 1 0).toNat (l.getD 2 0).toNat (l.getD 3 0).toNat with ⟨c, e⟩ | ⟨c1, c2, c3, cv, e⟩ | ⟨c1, c2, c3, c4, cv, cs, e⟩ | ⟨c1, c2, c3, c4, c5, cv, cw, e⟩ | e
  · omega
  · rw [e]
    refine ⟨by dsimp only; omega, fun x hx => ?_⟩
    dsimp only at hx
    rw [Lib.takeB l c2] at hx
    simp only [List.mem_cons, List.not_mem_nil, or_false] at hx
    rcases hx with rfl | rfl
    all_goals exact ws3_big _ (by omega)
  · rw [e]
    refine ⟨by dsimp only; omega, fun x hx => ?_⟩
    dsimp only at hx
    rw [Lib.takeC l c2] at hx
    simp only [List.mem_cons, List.not_mem_nil, or_false] at hx
    rcases hx with rfl | rfl | rfl
    all_goals exact ws3_big _ (by omega)
  · rw [e]
    refine ⟨by dsimp only; omega, fun x hx => ?_⟩
    dsimp only at hx
    rw [Lib.takeD l c2] at hx
    simp only [List.mem_cons, List.not_mem_nil, or_false] at hx
    rcases hx with rfl | rfl | rfl | rfl
    all_goals exact ws3_big _ (by omega)
  · rw [e]
    refine ⟨by dsimp only; omega, fun x hx => ?_⟩
    dsimp only at hx
    rw [Lib.takeA l hl] at hx
    simp only [List.mem_cons, List.not_mem_nil, or_false] at hx
    subst hx
    exact ws3_big _ (by omega)
theorem turn_big (r : Nat) (h : 33 ≤ r) : 33 ≤ turnN r := by
  unfold turnN
  repeat' split
  all_goals omega
theorem runeL_big (z : Nat) (h : 33 ≤ z) : ∀ c ∈ runeL (z : Int), ws3 c = false := by
  intro c hc
  unfold runeL Lib.encodeRune at hc
  obtain ⟨x, hx, rfl⟩ := List.mem_map.1 hc
  have hb := Lib.encodeRuneZ_byte _ x hx
  apply ws3_big
  have h33 : 33 ≤ x := by
    unfold Lib.encodeRuneZ at hx
    repeat' split at hx
    all_goals simp at hx
    all_goals omega
  have : x.toNat.toUInt8.toNat = x.toNat := by rw [UInt8.toNat_ofNat']; omega
  omega
theorem fblk_big (r : Nat) (h : 33 ≤ r) : fblk r ≠ [] ∧ ∀ c ∈ fblk r, ws3 c = false := by
  unfold fblk
  split
  · exact ⟨by simp, by decide⟩
  · exact ⟨runeL_ne _, runeL_big _ (turn_big r h)⟩
theorem ws3_not (c : UInt8) (h : ws3 c = false) (_ : c.toNat < 33) : ∀ x ∈ [c], ws3 x = false := by
  intro x hx
  have : x = c := by simpa using hx
  rw [this]; exact h
theorem foldF_okB : ∀ (f : Nat) (l : List UInt8) (p : Bool), l.length ≤ f → okB p l → okB p (foldF f l)
  | 0, l, p, hf, h => by
    have : l = [] := List.eq_nil_of_length_eq_zero (by omega)
    subst this
    exact h
  | f + 1, [], p, _, h => by rw [foldF, if_pos rfl]; exact h
  | f + 1, c :: l, p, hf, h => by
    rw [List.length_cons] at hf
    rw [foldF, if_neg (by simp)]
    by_cases h128 : c.toNat < 128
    · rw [Lib.decodeL_ascii c l h128]
      show okB p (fblk c.toNat ++ foldF f l)
      by_cases hc : c = 32
      · rw [okB, if_pos hc] at h
        rw [hc, show fblk (32 : UInt8).toNat = [32] by decide, List.singleton_append, okB, if_pos rfl]
        exact ⟨h.1, foldF_okB f l true (by omega) h.2⟩
      · rw [okB, if_neg hc] at h
        have hk : fblk c.toNat ≠ [] ∧ ∀ x ∈ fblk c.toNat, ws3 x = false := by
          by_cases h33 : 33 ≤ c.toNat
          · exact fblk_big _ h33
          · have ht : turnN c.toNat = c.toNat := by
              unfold turnN
              repeat' split
              all_goals omega
            have hfb : fblk c.toNat = [c] := by
              unfold fblk
              rw [if_neg (by omega), ht, runeL_one _ h128]
              simp
            rw [hfb]
            exact ⟨by simp, ws3_not c h.1 (by omega)⟩
        rw [okB_front _ _ p hk.1 hk.2]
        exact foldF_okB f l false (by omega) h.2
    · have hb := dec_big (c :: l) (by simp) (by show 128 ≤ c.toNat; omega)
      have hw := Lib.decodeL_width (c :: l)
      have hle := Lib.decodeL_le (c :: l) (by simp)
      have hk := fblk_big (Lib.decodeL (c :: l)).1 (by omega)
      rw [okB_front _ _ p hk.1 hk.2]
      refine foldF_okB f _ false (by rw [List.length_drop, List.length_cons]; omega) ?_
      have hs := List.take_append_drop (Lib.decodeL (c :: l)).2 (c :: l)
      rw [← hs] at h
      refine (okB_front _ _ p ?_ hb.2).1 h
      intro e
      have := congrArg List.length e
      rw [List.length_take, List.length_cons] at this
      simp at this
      omega
theorem fold_nice (l : List UInt8) (h : NiceB l) : NiceB (foldL l) := by
  rcases h with rfl | h
  · left; rfl
  · right; exact foldF_okB _ l true (Nat.le_refl _) h
/-- Norm of Norm is it. -/
theorem norm_two (l : List UInt8) : normL (normL l) = normL l := by
  unfold normL
  rw [nice_sq _ (fold_nice _ (sqL_nice l)), fold_two]
theorem foldF_len : ∀ (f : Nat) (l : List UInt8), (foldF f l).length ≤ 4 * f
  | 0, _ => by simp [foldF]
  | f + 1, l => by
    rw [foldF]
    split
    · simp
    · have := foldF_len f (l.drop (Lib.decodeL l).2)
      have h2 := fblk_len (Lib.decodeL l).1
      rw [List.length_append]
      omega
theorem norm_len (l : List UInt8) : (normL l).length ≤ 4 * (l.length + 1) := by
  have h1 := foldF_len (sqL l).length (sqL l)
  have h2 := sqF_len l [] true
  unfold normL foldL
  rw [if_pos rfl] at h2
  unfold sqL at h1 ⊢
  simp at h2
  omega
end Go.Proofs.YtbcfhpomclkccaaDoor
