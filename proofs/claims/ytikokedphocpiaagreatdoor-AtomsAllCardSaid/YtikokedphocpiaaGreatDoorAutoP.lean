/- An address in brackets, plainly: the program's reading is the reference's. -/
import Derived.Test.YtikokedphocpiaaGreatDoorRfMail
import Derived.Lib.SplitLaws
namespace Go.Proofs.YtikokedphocpiaaGreatDoor
open Go.RowKit

theorem index_one_spec (l : List UInt8) (c : UInt8) : (Lib.index l [c] = -1 ∧ c ∉ l) ∨ ∃ a : Nat, Lib.index l [c] = (a : Int) ∧ l[a]? = some c ∧ (∀ j : Nat, j < a → l[j]? ≠ some c) := by
  rw [index_byte]
  rcases indexByte_spec l c with ⟨h1, h2⟩ | ⟨a, h1, h2, h3⟩
  · refine .inl ⟨h1, fun hm => ?_⟩
    obtain ⟨j, hj, e⟩ := List.getElem_of_mem hm
    exact h2 j (by rw [List.getElem?_eq_getElem hj, e])
  · exact .inr ⟨a, h1, h2, h3⟩
theorem cut_none (l : List UInt8) (c : UInt8) (h : Lib.index l [c] = -1) : Lib.cut l [c] = (l, [], false) := by unfold Lib.cut; rw [h, if_neg (by decide)]
theorem cut_some (l : List UInt8) (c : UInt8) (a : Nat) (h : Lib.index l [c] = (a : Int)) : Lib.cut l [c] = (l.take a, l.drop (a + 1), true) := by unfold Lib.cut; rw [h, if_pos (by omega)]; rfl
theorem run_head {p : UInt8 → Bool} {l : List UInt8} {a : Nat} (ha : a ≤ l.length) (h : allB p (l.take a) = true) (h2 : condR l p a = false) : run p l 0 = a := by
  rw [run_to a 0 fun t ht => ?_, Nat.zero_add, run_cond_no h2]
  rw [Nat.zero_add]
  have hlt : t < l.length := by omega
  rw [condR_some (List.getElem?_eq_getElem hlt)]
  unfold allB at h
  rw [List.all_eq_true] at h
  exact h _ (List.mem_of_getElem? (i := t) (by rw [List.getElem?_take, if_pos ht, List.getElem?_eq_getElem hlt]))
theorem run_all {p : UInt8 → Bool} {l : List UInt8} : allB p (l.take (run p l 0)) = true := by
  unfold allB
  rw [List.all_eq_true]
  intro x hx
  have hr : run p l 0 = (l.takeWhile p).length := by unfold run; rw [List.drop_zero, Nat.zero_add]
  rw [hr] at hx
  have hp : l.take (l.takeWhile p).length = l.takeWhile p := (List.prefix_iff_eq_take.1 (List.takeWhile_prefix p)).symm
  rw [hp] at hx
  have := List.all_takeWhile (p := p) (l := l)
  rw [List.all_eq_true] at this
  exact this x hx
/-- Where the first c stands just behind a run of bytes none of which is c. -/
theorem run_cut {p : UInt8 → Bool} {l : List UInt8} {c : UInt8} (hc : p c = false) : ((Lib.cut l [c]).2.2 && allB p (Lib.cut l [c]).1) = condR l (fun b => b == c) (run p l 0) ∧ (condR l (fun b => b == c) (run p l 0) = true → Lib.cut l [c] = (l.take (run p l 0), l.drop (run p l 0 + 1), true)) := by
  rcases index_one_spec l c with ⟨h1, h2⟩ | ⟨a, h1, h2, h3⟩
  · rw [cut_none l c h1]
    have hf : condR l (fun b => b == c) (run p l 0) = false := by
      unfold condR
      cases hg : l[run p l 0]? with
      | none => rfl
      | some x => exact beq_no fun e => h2 (by rw [← e]; exact List.mem_of_getElem? hg)
    rw [hf]
    exact ⟨rfl, fun h => by cases h⟩
  · rw [cut_some l c a h1]
    have hal : a < l.length := (List.getElem?_eq_some_iff.1 h2).1
    cases hb : allB p (l.take a) with
    | true =>
      have hr : run p l 0 = a := run_head (by omega) hb (by rw [condR_some h2, hc])
      rw [hr, condR_some h2]
      simp
    | false =>
      have hf : condR l (fun b => b == c) (run p l 0) = false := by
        cases hq : condR l (fun b => b == c) (run p l 0) with
        | false => rfl
        | true =>
          exfalso
          have hq2 : l[run p l 0]? = some c := by
            unfold condR at hq
            cases hg : l[run p l 0]? with
            | none => rw [hg] at hq; cases hq
            | some x => rw [hg] at hq; have e : x = c := by simpa using hq
                        rw [e]
          have hge : a ≤ run p l 0 := by
            rcases Nat.lt_or_ge (run p l 0) a with h | h
            · exact absurd hq2 (h3 _ h)
            · exact h
          have hall := run_all (p := p) (l := l)
          unfold allB at hall hb
          rw [List.all_eq_true] at hall
          rw [List.all_eq_false] at hb
          obtain ⟨x, hx, hpx⟩ := hb
          exact hpx (hall x (List.take_subset_take_left l hge hx))
      rw [hf]
      exact ⟨rfl, fun h => by cases h⟩
theorem scheme_no : inB (⟨#[43, 46, 45]⟩ : ByteArray).data.toList 58 = false := by decide
theorem user_no : inB (⟨#[46, 33, 35, 36, 37, 38, 39, 42, 43, 47, 61, 63, 94, 95, 123, 124, 125, 126, 45, 96]⟩ : ByteArray).data.toList 64 = false := by decide
theorem scheme_rest : ∀ n : Fin 256, inB (⟨#[43, 46, 45]⟩ : ByteArray).data.toList (UInt8.ofNat n.val) = true → restB (UInt8.ofNat n.val) = true := by decide +kernel
theorem scheme_fine (b : UInt8) (h : inB (⟨#[43, 46, 45]⟩ : ByteArray).data.toList b = true) : restB b = true := by
  have e : b = UInt8.ofNat b.toNat := by simp
  rw [e] at h ⊢
  exact scheme_rest ⟨b.toNat, UInt8.toNat_lt b⟩ h
theorem allB_append (p : UInt8 → Bool) (a b : List UInt8) : allB p (a ++ b) = (allB p a && allB p b) := List.all_append
theorem addr_eq (l : List UInt8) : addrB l = (refAddrB l && allB restB l) := by
  obtain ⟨h1, h2⟩ := run_cut (l := l) scheme_no
  unfold addrB addrC refAddrB
  obtain ⟨n, hn⟩ : ∃ n, run (inB (⟨#[43, 46, 45]⟩ : ByteArray).data.toList) l 0 = n := ⟨_, rfl⟩
  have hall := run_all (p := inB (⟨#[43, 46, 45]⟩ : ByteArray).data.toList) (l := l)
  rw [hn] at h1 h2 hall ⊢
  cases hc : condR l (fun b => b == 58) n with
  | false =>
    rw [hc] at h1
    rw [Bool.and_false, Bool.false_and]
    cases ha : (Lib.cut l [58]).2.2 with
    | false => rfl
    | true =>
      rw [ha, Bool.true_and] at h1
      rw [h1]
      simp
  | true =>
    have hcut := h2 hc
    rw [hcut]
    have hnl : n < l.length := by
      unfold condR at hc
      cases hg : l[n]? with
      | none => rw [hg] at hc; cases hc
      | some x => exact (List.getElem?_eq_some_iff.1 hg).1
    have hx : l[n] = 58 := by
      rw [condR_some (List.getElem?_eq_getElem hnl)] at hc
      simpa using hc
    have hsplit : allB restB l = allB restB (l.drop (n + 1)) := by
      have e : l = l.take n ++ l[n] :: l.drop (n + 1) := by rw [← List.drop_eq_getElem_cons hnl, List.take_append_drop]
      have hf : allB restB (l.take n) = true := by
        unfold allB at hall ⊢
        rw [List.all_eq_true] at hall ⊢
        exact fun x hx => scheme_fine x (hall x hx)
      calc allB restB l = allB restB (l.take n ++ l[n] :: l.drop (n + 1)) := by rw [← e]
        _ = _ := by
          rw [allB_append, hf, Bool.true_and, hx]
          show (restB 58 && allB restB (l.drop (n + 1))) = _
          rw [show restB 58 = true by decide, Bool.true_and]
    have hlen : (l.take n).length = n := by rw [List.length_take]; omega
    have hhead : headB (l.take n) = (headB l && decide (1 ≤ n)) := by
      cases n with
      | zero => simp [headB]
      | succ n =>
        cases l with
        | nil => simp at hnl
        | cons a r => simp [headB]
    simp only
    rw [hlen, hall, hsplit, hhead]
    by_cases h1n : 1 ≤ n
    · rw [decide_eq_true h1n]
      cases decide (2 ≤ n) <;> cases decide (n ≤ 32) <;> cases headB l <;> cases allB restB (l.drop (n + 1)) <;> rfl
    · have : ¬ 2 ≤ n := by omega
      rw [decide_eq_false this]
      rfl
/-- The parts between full stops, as lists. -/
def partsL (h : List UInt8) : List (List UInt8) := Lib.splitK [46] 0 (Lib.count h [46]) h
def partL (p : List UInt8) : Bool := !p.isEmpty && decide (p.length ≤ 63) && (Lib.trimB p 45 == p) && allB hostB p
theorem parts_eq (h : ByteArray) : partsB (partsOf h) = (partsL h.data.toList).all partL := by
  unfold partsB partsOf partsL
  have e := Lib.splitB_data ⟨#[46]⟩ 0 (Lib.countB h ⟨#[46]⟩) h
  rw [show (⟨#[46]⟩ : ByteArray).data.toList = [46] from rfl] at e
  rw [show Lib.countB h ⟨#[46]⟩ = Lib.count h.data.toList [46] from rfl] at e ⊢
  rw [← e, List.all_map]
  congr 1
theorem partsL_nil : partsL [] = [[]] := rfl
theorem partsL_dot (r : List UInt8) : partsL (46 :: r) = [] :: partsL r := by
  unfold partsL
  rw [Lib.count_cons_eq, Nat.add_comm 1]
  have e : Lib.index (46 :: r) [46] = 0 := by simp [Lib.index]
  rw [Lib.splitK, e]
  rfl
theorem count_pos_index {r : List UInt8} (h : 0 < Lib.count r [46]) : ∃ a : Nat, Lib.index r [46] = (a : Int) := by
  rcases Lib.index_spec r [46] with ⟨h1, _⟩ | ⟨a, h1, _⟩
  · exfalso
    unfold Lib.count Lib.countFrom at h
    rw [h1] at h
    simp at h
  · exact ⟨a, h1⟩
theorem partsL_other (c : UInt8) (r : List UInt8) (h : c ≠ 46) : ∃ f R, partsL r = f :: R ∧ partsL (c :: r) = (c :: f) :: R := by
  unfold partsL
  rw [Lib.count_cons_ne _ _ _ (by first | exact h | exact fun e => h e.symm)]
  obtain ⟨k, hk⟩ : ∃ k, Lib.count r [46] = k := ⟨_, rfl⟩
  cases k with
  | zero => rw [hk]; exact ⟨r, [], rfl, rfl⟩
  | succ k =>
    obtain ⟨a, ha⟩ := count_pos_index (r := r) (by omega)
    rw [hk]
    have e2 : Lib.index (c :: r) [46] = ((a + 1 : Nat) : Int) := by
      rw [Lib.index, ha]
      have h46 : ([46] : List UInt8).isPrefixOf (c :: r) = false := by
        show ((46 == c) && _) = false
        rw [show ((46 : UInt8) == c) = false by rw [beq_eq_false_iff_ne]; exact fun e => h e.symm]
        rfl
      rw [h46]
      have hne : ((a : Int) == -1) = false := by rw [beq_eq_false_iff_ne]; omega
      rw [hne]
      simp
    refine ⟨r.take (a + 0), Lib.splitK [46] 0 k (r.drop (a + 1)), ?_, ?_⟩
    · rw [Lib.splitK, ha, if_neg (by rw [beq_iff_eq]; omega)]
      rfl
    · rw [Lib.splitK, e2, if_neg (by rw [beq_iff_eq]; omega)]
      simp only [Int.toNat_natCast]
      rfl
theorem dropWhile_same {f : UInt8 → Bool} {l : List UInt8} (h : l.length ≤ (l.dropWhile f).length) : ∀ x, l.head? = some x → f x = false := by
  intro x hx
  cases l with
  | nil => cases hx
  | cons a r =>
    have e : a = x := Option.some.inj hx
    subst e
    cases hf : f a with
    | false => rfl
    | true =>
      exfalso
      rw [List.dropWhile_cons, if_pos hf] at h
      have := (List.dropWhile_sublist (p := f) (l := r)).length_le
      simp at h
      omega
theorem dropWhile_keep {f : UInt8 → Bool} {l : List UInt8} (h : ∀ x, l.head? = some x → f x = false) : l.dropWhile f = l := by
  cases l with
  | nil => rfl
  | cons a r => rw [List.dropWhile_cons, if_neg (by rw [h a rfl]; simp)]
theorem trim_ok (p : List UInt8) : (Lib.trimB p 45 == p) = (!(p.head? == some 45) && !(p.getLast? == some 45)) := by
  rw [Bool.eq_iff_iff, beq_iff_eq, Bool.and_eq_true, Bool.not_eq_true', Bool.not_eq_true', beq_eq_false_iff_ne, beq_eq_false_iff_ne]
  unfold Lib.trimB Lib.trimLeftB Lib.trimRightB
  constructor
  · intro h
    have l1 := (List.dropWhile_sublist (p := fun b : UInt8 => b == 45) (l := p.reverse)).length_le
    have l2 := (List.dropWhile_sublist (p := fun b : UInt8 => b == 45) (l := (p.reverse.dropWhile (fun b => b == 45)).reverse)).length_le
    have l3 := congrArg List.length h
    rw [List.length_reverse] at l1 l2
    have k1 := dropWhile_same (f := fun b : UInt8 => b == 45) (l := p.reverse) (by rw [List.length_reverse]; omega)
    rw [dropWhile_keep k1, List.reverse_reverse] at h
    have k2 := dropWhile_same (f := fun b : UInt8 => b == 45) (l := p) (by rw [h]; exact Nat.le_refl _)
    refine ⟨fun e => ?_, fun e => ?_⟩
    · have := k2 45 e
      simp at this
    · have := k1 45 (by rw [List.head?_reverse]; exact e)
      simp at this
  · rintro ⟨h1, h2⟩
    have k1 : ∀ x, p.reverse.head? = some x → (x == 45) = false := fun x hx => by
      rw [List.head?_reverse] at hx
      rw [beq_eq_false_iff_ne]
      rintro rfl
      exact h2 hx
    have k2 : ∀ x, p.head? = some x → (x == 45) = false := fun x hx => by
      rw [beq_eq_false_iff_ne]
      rintro rfl
      exact h1 hx
    rw [dropWhile_keep k1, List.reverse_reverse, dropWhile_keep k2]
theorem partL_ok (p : List UInt8) (h : allB hostB p = true) : partL p = okP p := by
  unfold partL okP
  rw [trim_ok, h, Bool.and_true]
  exact (Bool.and_assoc _ _ _).symm
theorem partL_no (a : List UInt8) (c : UInt8) (b : List UInt8) (h : hostB c = false) : partL (a ++ c :: b) = false := by
  unfold partL
  rw [allB_append, show allB hostB (c :: b) = (hostB c && allB hostB b) from rfl, h, Bool.false_and, Bool.and_false, Bool.and_false]
theorem partsL_some (h : List UInt8) : ∃ f R, partsL h = f :: R := by
  unfold partsL
  cases Lib.count h [46] with
  | zero => exact ⟨_, _, rfl⟩
  | succ k =>
    unfold Lib.splitK
    split
    · exact ⟨_, _, rfl⟩
    · exact ⟨_, _, rfl⟩
theorem host_parts : ∀ (h p : List UInt8), allB hostB p = true → hostL p (h ++ [46]) = match partsL h with | f :: R => partL (p ++ f) && R.all partL | [] => false
  | [], p, hp => by
    rw [partsL_nil]
    show (if okP p = true then true else false) = (partL (p ++ []) && true)
    rw [List.append_nil, partL_ok p hp]
    cases okP p <;> rfl
  | c :: r, p, hp => by
    rw [List.cons_append, hostL]
    by_cases h46 : c = 46
    · subst h46
      rw [if_pos rfl, partsL_dot]
      show _ = (partL (p ++ []) && (partsL r).all partL)
      rw [List.append_nil, partL_ok p hp, host_parts r [] rfl]
      obtain ⟨f, R, hr⟩ := partsL_some r
      rw [hr]
      show (if okP p = true then partL ([] ++ f) && R.all partL else false) = (okP p && (partL f && R.all partL))
      rw [List.nil_append]
      cases okP p <;> rfl
    · rw [if_neg h46]
      obtain ⟨f, R, h1, h2⟩ := partsL_other c r h46
      rw [h2]
      cases hc : hostB c with
      | true =>
        rw [if_pos rfl, host_parts r (p ++ [c]) (by rw [allB_append, hp]; show (true && (hostB c && true)) = true; rw [hc]; rfl), h1]
        simp
      | false =>
        rw [if_neg (by simp)]
        simp only
        rw [partL_no p c f hc]
        rfl
theorem mail_eq (l : List UInt8) : mailB l = refMailB l := by
  obtain ⟨h1, h2⟩ := run_cut (l := l) user_no
  unfold mailB mailC refMailB
  obtain ⟨n, hn⟩ : ∃ n, run (inB (⟨#[46, 33, 35, 36, 37, 38, 39, 42, 43, 47, 61, 63, 94, 95, 123, 124, 125, 126, 45, 96]⟩ : ByteArray).data.toList) l 0 = n := ⟨_, rfl⟩
  have hall := run_all (p := inB (⟨#[46, 33, 35, 36, 37, 38, 39, 42, 43, 47, 61, 63, 94, 95, 123, 124, 125, 126, 45, 96]⟩ : ByteArray).data.toList) (l := l)
  rw [hn] at h1 h2 hall ⊢
  cases hc : condR l (fun b => b == 64) n with
  | false =>
    rw [hc] at h1
    have hr : (if n = 0 then false else if false = true then hostL [] (l.drop (n + 1) ++ [46]) else false) = false := by split <;> rfl
    rw [hr]
    cases ha : (Lib.cut l [64]).2.2 with
    | false => rfl
    | true =>
      rw [ha, Bool.true_and] at h1
      rw [h1]
      simp
  | true =>
    have hcut := h2 hc
    rw [hcut, if_pos rfl]
    have hnl : n < l.length := by
      unfold condR at hc
      cases hg : l[n]? with
      | none => rw [hg] at hc; cases hc
      | some x => exact (List.getElem?_eq_some_iff.1 hg).1
    simp only
    rw [hall, parts_eq]
    show _ = (if n = 0 then false else hostL [] (l.drop (n + 1) ++ [46]))
    rw [host_parts (l.drop (n + 1)) [] rfl]
    obtain ⟨f, R, hr⟩ := partsL_some (l.drop (n + 1))
    rw [hr]
    by_cases h0 : n = 0
    · subst h0
      rfl
    · rw [if_neg h0]
      have he : (l.take n).isEmpty = false := by
        cases hq : l.take n with
        | nil =>
          have := congrArg List.length hq
          rw [List.length_take, List.length_nil] at this
          omega
        | cons _ _ => rfl
      rw [he]
      show (true && !false && true && (f :: R).all partL) = (partL ([] ++ f) && R.all partL)
      rw [List.nil_append, List.all_cons]
      rfl
/-- The reference's reading of an address in brackets. -/
def refAutoC (l : List UInt8) (i k : Nat) : List UInt8 × List UInt8 × Nat :=
  if k < l.length then (if (refAddrB ((l.drop (i + 1)).take (k - (i + 1))) && allB restB ((l.drop (i + 1)).take (k - (i + 1)))) = true then ((l.drop (i + 1)).take (k - (i + 1)), (l.drop (i + 1)).take (k - (i + 1)), k + 1)
    else if refMailB ((l.drop (i + 1)).take (k - (i + 1))) = true then ((l.drop (i + 1)).take (k - (i + 1)), (⟨#[109, 97, 105, 108, 116, 111, 58]⟩ : ByteArray).data.toList ++ (l.drop (i + 1)).take (k - (i + 1)), k + 1) else ([], [], 0))
  else ([], [], 0)
theorem auto_eq (l : List UInt8) (i : Nat) (h : l[i]? = some 60) : autoAt l i = refAutoC l i (run (· != 62) l (i + 1)) := by
  have hi := (List.getElem?_eq_some_iff.1 h).1
  unfold autoAt
  rw [Int.toNat_natCast, if_pos ⟨by omega, h⟩]
  rcases index_one_spec (l.drop (i + 1)) 62 with ⟨h1, h2⟩ | ⟨a, h1, h2, h3⟩
  · rw [cut_none _ _ h1]
    have hr : run (· != 62) l (i + 1) = l.length := by
      rw [run_to (l.length - (i + 1)) (i + 1) fun t ht => ?_, show i + 1 + (l.length - (i + 1)) = l.length by omega, run_end (Nat.le_refl _)]
      have hlt : i + 1 + t < l.length := by omega
      rw [condR_some (List.getElem?_eq_getElem hlt)]
      have hm : l[i + 1 + t] ∈ l.drop (i + 1) := List.mem_of_getElem? (i := t) (by rw [List.getElem?_drop, List.getElem?_eq_getElem hlt])
      simp only [bne_iff_ne, ne_eq]
      exact fun e => h2 (e ▸ hm)
    rw [hr]
    unfold refAutoC
    rw [if_neg (by omega)]
    rfl
  · rw [cut_some _ _ a h1]
    rw [List.getElem?_drop] at h2
    obtain ⟨hlt, _⟩ := List.getElem?_eq_some_iff.1 h2
    have hr : run (· != 62) l (i + 1) = i + 1 + a := by
      rw [run_to a (i + 1) fun t ht => ?_, run_cond_no]
      · rw [condR_some h2]; simp
      · have hlt2 : i + 1 + t < l.length := by omega
        rw [condR_some (List.getElem?_eq_getElem hlt2)]
        have := h3 t ht
        rw [List.getElem?_drop, List.getElem?_eq_getElem hlt2] at this
        simpa using this
    rw [hr]
    unfold refAutoC autoC
    rw [if_pos hlt, show i + 1 + a - (i + 1) = a by omega]
    have hta : ((l.drop (i + 1)).take a).length = a := by rw [List.length_take, List.length_drop]; omega
    rw [if_neg (by simp)]
    simp only
    rw [addr_eq, mail_eq, hta, show i + a + 2 = i + 1 + a + 1 by omega]
end Go.Proofs.YtikokedphocpiaaGreatDoor
