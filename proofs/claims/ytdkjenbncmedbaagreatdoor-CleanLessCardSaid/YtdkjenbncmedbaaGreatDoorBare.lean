/- tympanlaw20.bare: names and texts; attributes make no difference to them. -/
import Derived.Test.YtdkjenbncmedbaaGreatDoorHeavy
namespace Go.Proofs.YtdkjenbncmedbaaGreatDoor
open Go.RowKit

def bareO {K : Type} (f : K → ByteArray) (s : ByteArray) (y : NodeD K) : ByteArray := s ++ ⟨#[60]⟩ ++ y.name ++ ⟨#[62]⟩ ++ y.text ++ f y.kids ++ ⟨#[60, 47, 62]⟩
def bareB : (n : Nat) → List (NT n) → ByteArray
  | 0, _ => ⟨#[]⟩
  | n + 1, l => List.foldl (α := ByteArray) (β := NodeD (List (NT n))) (bareO (bareB n)) ⟨#[]⟩ l
theorem fold_take {α β : Type} (st : β → α → β) (b : β) (l : List α) (k : Nat) (hk : k < l.length) : (l.take (k + 1)).foldl st b = st ((l.take k).foldl st b) l[k] := by
  rw [List.take_succ_eq_append_getElem hk, List.foldl_append]
  rfl
theorem bareB_take (n : Nat) (l : List (NT (n + 1))) (k : Nat) (hk : k < l.length) : bareB (n + 1) (l.take (k + 1)) = bareO (bareB n) (bareB (n + 1) (l.take k)) l[k] := by
  exact fold_take (α := NodeD (List (NT n))) (bareO (bareB n)) ⟨#[]⟩ l k hk
theorem bareO_size {K : Type} (f : K → ByteArray) (s : ByteArray) (y : NodeD K) : (bareO f s y).size = s.size + 1 + y.name.size + 1 + y.text.size + (f y.kids).size + 3 := by
  unfold bareO
  simp only [ByteArray.size_append]
  rfl
theorem bareB_le : ∀ (n : Nat) (l : List (NT n)), (bareB n l).size ≤ 20 * wt n l
  | 0, _ => Nat.zero_le _
  | n + 1, l => by
    have key : ∀ (l : List (NT (n + 1))) (s : ByteArray), (List.foldl (α := ByteArray) (β := NodeD (List (NT n))) (bareO (bareB n)) s l).size ≤ s.size + 20 * wt (n + 1) l := fun l => by
      induction l with
      | nil => intro s; exact Nat.le_add_right _ _
      | cons a l ih =>
        intro s
        have h1 := ih (bareO (bareB n) s a)
        have h2 := bareO_size (bareB n) s a
        have h3 := bareB_le n (NodeD.kids a)
        rw [wt_cons]
        show (List.foldl (α := ByteArray) (β := NodeD (List (NT n))) (bareO (bareB n)) (bareO (bareB n) s a) l).size ≤ _
        omega
    have := key l ⟨#[]⟩
    have h0 : (⟨#[]⟩ : ByteArray).size = 0 := rfl
    show (List.foldl (α := ByteArray) (β := NodeD (List (NT n))) (bareO (bareB n)) ⟨#[]⟩ l).size ≤ _
    omega
def StrQ (w : World) (s : ByteArray) (e : Ending) (w' : World) : Prop := e = .returned (.string s) ∧ ∃ d, w' = w.drewN d
set_option maxHeartbeats 4000000 in
set_option maxRecDepth 100000 in
theorem bare_str (n : Nat) : ∀ (v : Value) (l : List (NT n)) (S : Nat → Prop) (w : World), NodesAt n w S v l → wt n l ≤ 100000 → Calls Tryz.prog 23 #[v] w (StrQ w (bareB n l)) := by
  induction n with
  | zero =>
    intro v l S w h _
    obtain ⟨A, c, rfl⟩ := h.none_
    go_enter Tryz.func23, Tryz.ntmps23
    go_wp2_with fail
    go_loopw [3, 4] (fun s i wr => s = .string ⟨#[]⟩ ∧ i = .int .i64 0 ∧ wr = w) (fun _ _ _ => 0)
    case atStart => exact ⟨rfl, rfl, rfl⟩
    case round =>
      obtain ⟨rfl, rfl, rfl⟩ := hrel
      go_wp2
      go_ret
      exact ⟨rfl, 0, rfl⟩
  | succ n ih =>
    intro v l S w h hwt
    obtain ⟨A, c, rfl, hl, hget⟩ := h.get
    have HG := Lib.hid hget; have IH := Lib.hid ih
    have HT := Lib.hid (bareB_take n l)
    clear hget h ih
    go_enter Tryz.func23, Tryz.ntmps23
    go_wp2_with fail
    go_loopw [3, 4] (fun s i wr => ∃ k : Nat, i = .int .i64 k ∧ s = .string (bareB (n + 1) (l.take k)) ∧ k ≤ l.length ∧ ∃ d, wr = w.drewN d) (fun _ i _ => l.length - (intOf i).toNat)
    case atStart => exact ⟨0, rfl, rfl, Nat.zero_le _, 0, rfl⟩
    case round =>
      obtain ⟨k, rfl, rfl, hk, d, hd⟩ := hrel
      by_cases hlt : k < l.length
      · have hki : (k : Int) < (l.length : Int) := by omega
        obtain ⟨ad, va, vk, hA, hatt, hkids, hnm, htx, hki2, hsp, hbl, c0, c1, c2, c3, c4, c5⟩ := HG.out k hlt
        subst hA
        have h1 := wt_get n l k hlt
        have h2 := bareB_le n (NodeD.kids l[k])
        have h3 := bareB_le (n + 1) (l.take k)
        have h4 := wt_take_le n l k
        have ht := HT.out k hlt
        have HK := Lib.hid (IH.out vk (NodeD.kids l[k]) S)
        obtain ⟨Ak, mk, ck, rfl⟩ := hkids.shape
        have c2 : wr.cell? ⟨(ad.add (k * 6)).block, (ad.add (k * 6)).off + 2, none⟩ = some (.string (NodeD.name l[k])) := by rw [hd]; exact c2
        have c4 : wr.cell? ⟨(ad.add (k * 6)).block, (ad.add (k * 6)).off + 4, none⟩ = some (.string (NodeD.text l[k])) := by rw [hd]; exact c4
        have c5 : wr.cell? ⟨(ad.add (k * 6)).block, (ad.add (k * 6)).off + 5, none⟩ = some (.slice Ak mk ck) := by rw [hd]; exact c5
        have hkr := (show NodesAt n wr S _ (NodeD.kids l[k]) by rw [hd]; exact hkids.drewN d)
        have HKd := Lib.hid hkr
        have HD := Lib.hid hd
        clear hd hkr hatt hkids hnm htx hki2 hsp c0 c1 c3
        unfold bareO at ht
        obtain ⟨B, hB⟩ : ∃ B, bareB (n + 1) (l.take k) = B := ⟨_, rfl⟩
        obtain ⟨N, hN⟩ : ∃ N, NodeD.name l[k] = N := ⟨_, rfl⟩
        obtain ⟨T, hT⟩ : ∃ T, NodeD.text l[k] = T := ⟨_, rfl⟩
        obtain ⟨X, hX⟩ : ∃ X, bareB n (NodeD.kids l[k]) = X := ⟨_, rfl⟩
        have hkw : wt n (NodeD.kids l[k]) ≤ 100000 := by omega
        rw [hX] at HK h2 ht
        rw [hN] at h1 c2 ht
        rw [hT] at h1 c4 ht
        rw [hB] at h3 ht ⊢
        have HTk := Lib.hid ht
        clear ht
        have s1 : B.size + 1 ≤ 9223372036854775807 := by omega
        have s2 : B.size + 1 + N.size ≤ 9223372036854775807 := by omega
        have s3 : B.size + 1 + N.size + 1 ≤ 9223372036854775807 := by omega
        have s4 : B.size + 1 + N.size + 1 + T.size ≤ 9223372036854775807 := by omega
        have s5 : B.size + 1 + N.size + 1 + T.size + X.size ≤ 9223372036854775807 := by omega
        have s6 : B.size + 1 + N.size + 1 + T.size + X.size + 3 ≤ 9223372036854775807 := by omega
        have t1 : ¬ 9223372036854775807 < B.size + 1 := by omega
        have t2 : ¬ 9223372036854775807 < B.size + 1 + N.size := by omega
        have t3 : ¬ 9223372036854775807 < B.size + 1 + N.size + 1 := by omega
        have t4 : ¬ 9223372036854775807 < B.size + 1 + N.size + 1 + T.size := by omega
        have t5 : ¬ 9223372036854775807 < B.size + 1 + N.size + 1 + T.size + X.size := by omega
        have t6 : ¬ 9223372036854775807 < B.size + 1 + N.size + 1 + T.size + X.size + 3 := by omega
        have HKc := Lib.hid fun (m : Nat) => HK.out (wr.drewN m) (HKd.out.drewN m) hkw
        unfold StrQ at HKc
        clear HK HKd h1 h2 h3 h4 hB hN hT hX
        go_wp2_with fail
        go_quiet (first | (go_at_call 23; refine Calls.quiet_of (HKc.out _)))
        go_wp2
        go_roundw
        case rel => exact ⟨k + 1, by go_num, by rw [HTk.out], hlt, _, by rw [HD.out]; exact World.drewN_drewN _ _ _⟩
        case measure => simp [intOf]; omega
      · obtain rfl : k = l.length := by omega
        rw [List.take_length]
        go_wp2
        go_ret
        exact ⟨rfl, d, rfl⟩
end Go.Proofs.YtdkjenbncmedbaaGreatDoor
