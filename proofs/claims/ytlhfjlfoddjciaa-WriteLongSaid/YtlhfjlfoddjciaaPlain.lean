/- Plain lists: what 'Text' and 'Value' come to. -/
import GoSem.Core.Utf8
namespace Go.Proofs.Ytlhfjlfoddjciaa

def nbsp : List UInt8 := [38, 110, 98, 115, 112, 59]
def quot : List UInt8 := [38, 113, 117, 111, 116, 59]
def escB (q : Bool) (c : UInt8) : List UInt8 :=
  if c = 38 then [38, 97, 109, 112, 59] else if c = 60 then [38, 108, 116, 59] else if c = 62 then [38, 103, 116, 59]
  else if q = true ∧ c = 34 then quot else [c]
def esc (q : Bool) : List UInt8 → List UInt8
  | [] => []
  | [c] => escB q c
  | c :: d :: r => if c = 194 ∧ d = 160 then nbsp ++ esc q r else escB q c ++ esc q (d :: r)

theorem esc_nil (q : Bool) : esc q [] = [] := rfl
theorem esc_one (q : Bool) (c : UInt8) (l : List UInt8) (h : ¬ (c = 194 ∧ l.head? = some 160)) : esc q (c :: l) = escB q c ++ esc q l := by
  cases l with
  | nil => simp [esc]
  | cons d r => simp at h; simp only [esc]; rw [if_neg]; simpa using h
theorem esc_two (q : Bool) (l : List UInt8) : esc q (194 :: 160 :: l) = nbsp ++ esc q l := by simp [esc]

theorem escB_le (q : Bool) (c : UInt8) : (escB q c).length ≤ 6 := by
  unfold escB quot; repeat' split
  all_goals simp
theorem esc_le (q : Bool) (l : List UInt8) : (esc q l).length ≤ 6 * l.length := by
  fun_induction esc q l with
  | case1 => simp
  | case2 c => have := escB_le q c; simp; omega
  | case3 c d r h ih => simp [nbsp]; omega
  | case4 c d r h ih => have := escB_le q c; simp at *; omega

theorem escB_fine (q : Bool) (c x : UInt8) (h : x ∈ escB q c) : x ≠ 60 ∧ x ≠ 62 ∧ (q = true → x ≠ 34) := by
  unfold escB quot at h
  repeat' split at h
  all_goals (simp at h)
  · rcases h with rfl | rfl | rfl | rfl | rfl <;> simp
  · rcases h with rfl | rfl | rfl | rfl <;> simp
  · rcases h with rfl | rfl | rfl | rfl <;> simp
  · rcases h with rfl | rfl | rfl | rfl | rfl | rfl <;> simp
  · subst h
    exact ⟨by assumption, by assumption, fun a b => by simp_all⟩
theorem esc_fine (q : Bool) (l : List UInt8) : ∀ x ∈ esc q l, x ≠ 60 ∧ x ≠ 62 ∧ (q = true → x ≠ 34) := by
  fun_induction esc q l with
  | case1 => simp
  | case2 c => exact fun x hx => escB_fine q c x hx
  | case3 c d r h ih =>
    intro x hx
    rcases List.mem_append.1 hx with hx | hx
    · simp [nbsp] at hx
      rcases hx with rfl | rfl | rfl | rfl | rfl | rfl <;> simp
    · exact ih x hx
  | case4 c d r h ih =>
    intro x hx
    rcases List.mem_append.1 hx with hx | hx
    · exact escB_fine q c x hx
    · exact ih x hx

theorem esc_append (q : Bool) (a b : List UInt8) (h : b.head? ≠ some 160) : esc q (a ++ b) = esc q a ++ esc q b := by
  fun_induction esc q a with
  | case1 => simp
  | case2 c => rw [List.singleton_append, esc_one _ _ _ (fun ⟨_, h2⟩ => h h2)]
  | case3 c d r hcd ih => obtain ⟨rfl, rfl⟩ := hcd; simp [esc_two, ih]
  | case4 c d r hcd ih =>
    rw [List.cons_append, esc_one _ _ _ (by simpa using hcd), ih, List.append_assoc]

/-- At a quote: what lies ahead has none. -/
theorem esc_noquote (l : List UInt8) (h : ∀ x ∈ l, x ≠ 34) : esc true l = esc false l := by
  fun_induction esc true l with
  | case1 => rfl
  | case2 c => have := h c (by simp); simp [esc, escB, this]
  | case3 c d r hcd ih => obtain ⟨rfl, rfl⟩ := hcd; rw [esc_two, ih (fun x hx => h x (by simp [hx]))]
  | case4 c d r hcd ih =>
    rw [esc_one false _ _ (by simpa using hcd), ih (fun x hx => h x (by simp at hx ⊢; exact .inr hx))]
    have := h c (by simp); simp [escB, this]
theorem esc_quote (a b : List UInt8) (h : ∀ x ∈ a, x ≠ 34) : esc true (a ++ 34 :: b) = esc false a ++ quot ++ esc true b := by
  rw [esc_append _ _ _ (by simp), esc_noquote a h, esc_one _ _ _ (by simp)]
  simp [escB]

/-! ### a character's bytes, one by one -/
def special (q : Bool) (r : Nat) : Option (List UInt8) :=
  if r = 38 then some [38, 97, 109, 112, 59] else if r = 60 then some [38, 108, 116, 59] else if r = 62 then some [38, 103, 116, 59]
  else if r = 160 then some nbsp else if q = true ∧ r = 34 then some quot else none

theorem get_list (s : ByteArray) (i : Nat) : s.get! i = s.data.toList[i]?.getD 0 := by
  show s.data[i]! = _
  by_cases h : i < s.data.size
  · rw [getElem!_pos s.data i h]; simp [Array.getElem?_eq_getElem h]
  · rw [getElem!_neg s.data i h]; simp [Array.getElem?_eq_none (Nat.le_of_not_lt h)]; rfl

theorem esc_high (q : Bool) (l m : List UInt8) (h : ∀ x ∈ l, 128 ≤ x.toNat) (h2 : ∀ i, (l ++ m)[i]? = some 194 → i < l.length → (l ++ m)[i + 1]? ≠ some 160) : esc q (l ++ m) = l ++ esc q m := by
  induction l with
  | nil => rfl
  | cons c r ih =>
    have hc := h c (by simp)
    rw [List.cons_append, esc_one]
    · rw [ih (fun x hx => h x (by simp [hx])) (fun i hi hl => by have := h2 (i + 1) (by simpa using hi) (by simp; omega); simpa using this)]
      have e1 : c ≠ 38 := by intro e; subst e; simp at hc
      have e2 : c ≠ 60 := by intro e; subst e; simp at hc
      have e3 : c ≠ 62 := by intro e; subst e; simp at hc
      have e4 : c ≠ 34 := by intro e; subst e; simp at hc
      simp [escB, e1, e2, e3, e4]
    · rintro ⟨rfl, h3⟩
      refine h2 0 (by simp) (by simp) ?_
      rw [List.head?_eq_getElem?] at h3
      simpa using h3

theorem u8_eq (c : UInt8) (n : Nat) (hn : n < 256) (h : c.toNat = n) : c = UInt8.ofNat n := by
  apply UInt8.toNat_inj.1; simp [h, Nat.mod_eq_of_lt hn]

theorem split2 (l : List UInt8) (c d : UInt8) (h0 : l[0]? = some c) (h1 : l[1]? = some d) : ∃ r, l = c :: d :: r := by
  match l, h0, h1 with
  | x :: y :: r, h0, h1 => simp at h0 h1; exact ⟨r, by rw [h0, h1]⟩
theorem split3 (l : List UInt8) (c d e : UInt8) (h0 : l[0]? = some c) (h1 : l[1]? = some d) (h2 : l[2]? = some e) : ∃ r, l = c :: d :: e :: r := by
  match l, h0, h1, h2 with
  | x :: y :: z :: r, h0, h1, h2 => simp at h0 h1 h2; exact ⟨r, by rw [h0, h1, h2]⟩
theorem split4 (l : List UInt8) (c d e f : UInt8) (h0 : l[0]? = some c) (h1 : l[1]? = some d) (h2 : l[2]? = some e) (h3 : l[3]? = some f) : ∃ r, l = c :: d :: e :: f :: r := by
  match l, h0, h1, h2, h3 with
  | x :: y :: z :: u :: r, h0, h1, h2, h3 => simp at h0 h1 h2 h3; exact ⟨r, by rw [h0, h1, h2, h3]⟩

set_option maxRecDepth 100000 in
/-- One step of a range over a string: its character means something, or its bytes stand as they are. -/
theorem esc_step (q : Bool) (s : ByteArray) (pos : Nat) (h : pos < s.size) :
    1 ≤ (Utf8.decode s pos).2 ∧ pos + (Utf8.decode s pos).2 ≤ s.size ∧
    esc q (s.data.toList.drop pos) = (match special q (Utf8.decode s pos).1 with | some x => x | none => (s.data.toList.drop pos).take (Utf8.decode s pos).2) ++ esc q (s.data.toList.drop (pos + (Utf8.decode s pos).2)) ∧
    (special q (Utf8.decode s pos).1 ≠ none → (Utf8.decode s pos).2 = (Utf8.encode (Utf8.decode s pos).1).size) := by
  have hl : s.data.toList.length = s.size := Array.length_toList
  generalize hL : s.data.toList.drop pos = L
  have hLl : L.length = s.size - pos := by rw [← hL, List.length_drop, hl]
  have hat : ∀ k, s.get! (pos + k) = L[k]?.getD 0 := by intro k; rw [get_list, ← hL, List.getElem?_drop]
  have hdrop : ∀ k, s.data.toList.drop (pos + k) = L.drop k := by intro k; rw [← hL, List.drop_drop]
  have hin : ∀ k, pos + k < s.size → ∃ c, L[k]? = some c := fun k hk => ⟨L[k]'(by omega), by simp [List.getElem?_eq_getElem (show k < L.length by omega)]⟩
  obtain ⟨c0, h0⟩ := hin 0 (by omega)
  have hone : ∃ r, L = c0 :: r := by
    match L, h0 with
    | x :: r, h0 => simp at h0; exact ⟨r, by rw [h0]⟩
  obtain ⟨r0, hr0⟩ := hone
  -- the answer at a byte that begins no character
  have bad : ∀ (hc : 128 ≤ c0.toNat), ¬ (c0 = 194 ∧ L[1]? = some 160) → esc q L = L.take 1 ++ esc q (L.drop 1) := by
    intro hc hno
    rw [hr0]
    have := esc_high q [c0] r0 (by simpa using hc) (by
      intro i hi hl1
      have : i = 0 := by simp at hl1; omega
      subst this
      simp at hi
      subst hi
      intro h3
      exact hno ⟨rfl, by rw [hr0]; simpa using h3⟩)
    simpa using this
  simp only [Utf8.decode, hat, hdrop, h0, Option.getD_some]
  by_cases ha : c0.toNat < 128
  · simp only [ha, if_true]
    refine ⟨by omega, by omega, ?_, ?_⟩
    · rw [hr0, esc_one]
      · simp only [special, escB]
        have ne : ∀ n : Nat, n < 256 → (c0.toNat = n ↔ c0 = UInt8.ofNat n) := fun n hn => ⟨u8_eq c0 n hn, fun e => by rw [e]; simp [Nat.mod_eq_of_lt hn]⟩
        have e38 := ne 38 (by omega); have e60 := ne 60 (by omega); have e62 := ne 62 (by omega); have e34 := ne 34 (by omega)
        have e160 : c0.toNat ≠ 160 := by omega
        simp only [e38, e60, e62, e34, e160, if_false]
        simp only [show (UInt8.ofNat 38) = 38 from rfl, show (UInt8.ofNat 60) = 60 from rfl, show (UInt8.ofNat 62) = 62 from rfl, show (UInt8.ofNat 34) = 34 from rfl]
        repeat' split
        all_goals simp_all
      · rintro ⟨rfl, _⟩; simp at ha
    · intro hsp
      have hlt : (c0.toNat : Int).toNat = c0.toNat := by omega
      have hv : Utf8.valid (c0.toNat : Int) = true := by simp [Utf8.valid]; omega
      simp [Utf8.encode, hv, ha, ByteArray.size]
  · have ha' : 128 ≤ c0.toNat := by omega
    simp only [ha, if_false]
    have hnone : special q Utf8.runeError = none := by simp [special, Utf8.runeError]
    split
    · -- two bytes
      rename_i hc
      simp only [Bool.and_eq_true, decide_eq_true_eq, beq_iff_eq] at hc
      obtain ⟨hb, hc1, hc2⟩ := hc
      obtain ⟨c1, h1⟩ := hin 1 hc1
      simp only [h1, Option.getD_some] at hc2 ⊢
      obtain ⟨r, hr⟩ := split2 L c0 c1 h0 h1
      have b0 := c0.toNat_lt; have b1 := c1.toNat_lt
      split
      · rename_i hge
        refine ⟨by simp, by simp; omega, ?_, ?_⟩
        · by_cases hx : c0 = 194 ∧ c1 = 160
          · obtain ⟨rfl, rfl⟩ := hx
            rw [hr, esc_two]
            simp [special]
          · have hsp : special q (c0.toNat % 32 * 64 + c1.toNat % 64) = none := by
              simp only [special]
              have n1 : c0.toNat % 32 * 64 + c1.toNat % 64 ≠ 38 := by omega
              have n2 : c0.toNat % 32 * 64 + c1.toNat % 64 ≠ 60 := by omega
              have n3 : c0.toNat % 32 * 64 + c1.toNat % 64 ≠ 62 := by omega
              have n4 : c0.toNat % 32 * 64 + c1.toNat % 64 ≠ 34 := by omega
              have n5 : c0.toNat % 32 * 64 + c1.toNat % 64 ≠ 160 := by
                intro e
                exact hx ⟨u8_eq c0 194 (by omega) (by omega), u8_eq c1 160 (by omega) (by omega)⟩
              simp [n1, n2, n3, n4, n5]
            simp only [hsp]
            rw [hr]
            have := esc_high q [c0, c1] r (by intro x hx; simp at hx; rcases hx with rfl | rfl <;> omega) (by
              intro i hi hl1
              simp at hl1
              match i, hi, hl1 with
              | 0, hi, _ => simp at hi; subst hi; simp; intro e; exact hx ⟨rfl, e⟩
              | 1, hi, _ => simp at hi; subst hi; simp at hc2)
            simpa using this
        · intro hsp
          have hv : c0.toNat % 32 * 64 + c1.toNat % 64 = 160 := by
            simp only [special] at hsp
            have n1 : c0.toNat % 32 * 64 + c1.toNat % 64 ≠ 38 := by omega
            have n2 : c0.toNat % 32 * 64 + c1.toNat % 64 ≠ 60 := by omega
            have n3 : c0.toNat % 32 * 64 + c1.toNat % 64 ≠ 62 := by omega
            have n4 : c0.toNat % 32 * 64 + c1.toNat % 64 ≠ 34 := by omega
            simp [n1, n2, n3, n4] at hsp
            exact hsp
          simp only [hv]; decide
      · rename_i hlt
        refine ⟨by simp, by simp; omega, ?_, by rw [hnone]; simp⟩
        rw [hnone]
        exact bad ha' (by rintro ⟨rfl, _⟩; simp at hlt)
    · rename_i hno2
      -- c0 = 194 has no continuation behind it
      have hno : ¬ (c0 = 194 ∧ L[1]? = some 160) := by
        rintro ⟨rfl, h1⟩
        apply hno2
        have : 1 < L.length := by
          rcases Nat.lt_or_ge 1 L.length with h' | h'
          · exact h'
          · simp [h'] at h1
        simp [h1]; omega
      split
      · rename_i hc
        simp only [Bool.and_eq_true, decide_eq_true_eq, beq_iff_eq] at hc
        obtain ⟨⟨hb, hc1, hc2⟩, hd1, hd2⟩ := hc
        obtain ⟨c1, h1⟩ := hin 1 hc1
        obtain ⟨c2, h2⟩ := hin 2 hd1
        simp only [h1, h2, Option.getD_some] at hc2 hd2 ⊢
        obtain ⟨r, hr⟩ := split3 L c0 c1 c2 h0 h1 h2
        have b0 := c0.toNat_lt; have b1 := c1.toNat_lt; have b2 := c2.toNat_lt
        split
        · rename_i hge
          simp only [Bool.and_eq_true, decide_eq_true_eq] at hge
          have hsp : special q (c0.toNat % 16 * 4096 + c1.toNat % 64 * 64 + c2.toNat % 64) = none := by
            have := hge.1
            simp only [special]
            have n1 : c0.toNat % 16 * 4096 + c1.toNat % 64 * 64 + c2.toNat % 64 ≠ 38 := by omega
            have n2 : c0.toNat % 16 * 4096 + c1.toNat % 64 * 64 + c2.toNat % 64 ≠ 60 := by omega
            have n3 : c0.toNat % 16 * 4096 + c1.toNat % 64 * 64 + c2.toNat % 64 ≠ 62 := by omega
            have n4 : c0.toNat % 16 * 4096 + c1.toNat % 64 * 64 + c2.toNat % 64 ≠ 34 := by omega
            have n5 : c0.toNat % 16 * 4096 + c1.toNat % 64 * 64 + c2.toNat % 64 ≠ 160 := by omega
            simp [n1, n2, n3, n4, n5]
          refine ⟨by simp, by simp; omega, ?_, by rw [hsp]; simp⟩
          simp only [hsp]
          rw [hr]
          have := esc_high q [c0, c1, c2] r (by intro x hx; simp at hx; rcases hx with rfl | rfl | rfl <;> omega) (by
            intro i hi hl1
            simp at hl1
            match i, hi, hl1 with
            | 0, hi, _ => simp at hi; subst hi; simp at hb
            | 1, hi, _ => simp at hi; subst hi; simp at hc2
            | 2, hi, _ => simp at hi; subst hi; simp at hd2)
          simpa using this
        · refine ⟨by simp, by simp; omega, ?_, by rw [hnone]; simp⟩
          rw [hnone]
          exact bad ha' hno
      · split
        · rename_i hc
          simp only [Bool.and_eq_true, decide_eq_true_eq, beq_iff_eq] at hc
          obtain ⟨⟨⟨hb, hc1, hc2⟩, hd1, hd2⟩, he1, he2⟩ := hc
          obtain ⟨c1, h1⟩ := hin 1 hc1
          obtain ⟨c2, h2⟩ := hin 2 hd1
          obtain ⟨c3, h3⟩ := hin 3 he1
          simp only [h1, h2, h3, Option.getD_some] at hc2 hd2 he2 ⊢
          obtain ⟨r, hr⟩ := split4 L c0 c1 c2 c3 h0 h1 h2 h3
          have b0 := c0.toNat_lt; have b1 := c1.toNat_lt; have b2 := c2.toNat_lt; have b3 := c3.toNat_lt
          split
          · rename_i hge
            simp only [Bool.and_eq_true, decide_eq_true_eq] at hge
            have hsp : special q (c0.toNat % 8 * 262144 + c1.toNat % 64 * 4096 + c2.toNat % 64 * 64 + c3.toNat % 64) = none := by
              have := hge.1
              simp only [special]
              have n1 : c0.toNat % 8 * 262144 + c1.toNat % 64 * 4096 + c2.toNat % 64 * 64 + c3.toNat % 64 ≠ 38 := by omega
              have n2 : c0.toNat % 8 * 262144 + c1.toNat % 64 * 4096 + c2.toNat % 64 * 64 + c3.toNat % 64 ≠ 60 := by omega
              have n3 : c0.toNat % 8 * 262144 + c1.toNat % 64 * 4096 + c2.toNat % 64 * 64 + c3.toNat % 64 ≠ 62 := by omega
              have n4 : c0.toNat % 8 * 262144 + c1.toNat % 64 * 4096 + c2.toNat % 64 * 64 + c3.toNat % 64 ≠ 34 := by omega
              have n5 : c0.toNat % 8 * 262144 + c1.toNat % 64 * 4096 + c2.toNat % 64 * 64 + c3.toNat % 64 ≠ 160 := by omega
              simp [n1, n2, n3, n4, n5]
            refine ⟨by simp, by simp; omega, ?_, by rw [hsp]; simp⟩
            simp only [hsp]
            rw [hr]
            have := esc_high q [c0, c1, c2, c3] r (by intro x hx; simp at hx; rcases hx with rfl | rfl | rfl | rfl <;> omega) (by
              intro i hi hl1
              simp at hl1
              match i, hi, hl1 with
              | 0, hi, _ => simp at hi; subst hi; simp at hb
              | 1, hi, _ => simp at hi; subst hi; simp at hc2
              | 2, hi, _ => simp at hi; subst hi; simp at hd2
              | 3, hi, _ => simp at hi; subst hi; simp at he2)
            simpa using this
          · refine ⟨by simp, by simp; omega, ?_, by rw [hnone]; simp⟩
            rw [hnone]
            exact bad ha' hno
        · refine ⟨by simp, by simp; omega, ?_, by rw [hnone]; simp⟩
          rw [hnone]
          exact bad ha' hno
end Go.Proofs.Ytlhfjlfoddjciaa
