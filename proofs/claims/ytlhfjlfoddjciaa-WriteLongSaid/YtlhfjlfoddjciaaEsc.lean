/- 'signs', 'escaped', 'Text', 'Value' of package write, walked: they give 'esc'. -/
import Derived.Test.YtlhfjlfoddjciaaBld
import Derived.Test.YtlhfjlfoddjciaaPlain
import Derived.Maps.StringElems
import Derived.Maps.OwnSet
import Derived.Maps.RangeWalk
import Derived.Lib.Hide
namespace Go.Proofs.Ytlhfjlfoddjciaa
open Go.RowKit Go.Maps

theorem keyed : Keyed Try.prog 21 := int_keyed Try.underlying21
theorem bld43 : BldT 43 := ⟨by kernel_rfl, by decide⟩
theorem bld45 : BldT 45 := ⟨by kernel_rfl, by decide⟩

def SMD (D : DataW Unit) (m : Int → Option (List UInt8)) : Prop :=
  IsMap D ∧ (∀ r zd, D.atKey (.int .i32 r) zd = ((m r).map fun s => DataW.lit (.string s)).getD zd) ∧ ∀ r, Maps.has D (.int .i32 r) = (m r).isSome
/-- Block b is a map from numbers to texts. -/
def SM (w : World) (b n : Nat) (m : Int → Option (List UInt8)) : Prop := ∃ D : DataW Unit, w.ownsMap Try.prog 21 (plainElem Try.prog 9) b n D ∧ SMD D m

theorem SM.made (w : World) : SM (w.alloc (.map #[] 0)) w.heap.size 0 (fun _ => none) :=
  ⟨_, World.ownsMap_made w _ _ _, isMap_empty, fun _ _ => rfl, fun _ => rfl⟩
theorem SM.lt {w : World} {b n : Nat} {m : Int → Option (List UInt8)} (h : SM w b n m) : b < w.heap.size := by
  obtain ⟨D, h, _⟩ := h; exact h.lt
theorem SM.same {w w' : World} {b n : Nat} {m : Int → Option (List UInt8)} (h : SM w b n m) (e : w'.heap[b]? = w.heap[b]?) : SM w' b n m := by
  obtain ⟨D, ⟨es, clock, hb, r⟩, h2⟩ := h
  exact ⟨D, ⟨es, clock, e.trans hb, r⟩, h2⟩
theorem SM.kept {w w' : World} {b n c : Nat} {m : Int → Option (List UInt8)} (h : SM w b n m) (k : Kept c w w') (hc : b ≠ c) : SM w' b n m := by
  obtain ⟨D, ⟨es, clock, hb, r⟩, h2⟩ := h
  exact ⟨D, ⟨es, clock, k b _ hb (fun e => hc (Option.some.inj e)) (fun _ _ e => by cases e), r⟩, h2⟩
theorem SM.alloc {w : World} {b n : Nat} {m : Int → Option (List UInt8)} (h : SM w b n m) (o : Obj) : SM (w.alloc o) b n m := by
  obtain ⟨D, h, r⟩ := h; exact ⟨D, h.alloc o, r⟩

theorem isKey (r : Int) : WideAt.IsKeyLit (.int .i32 r) := by simp [WideAt.IsKeyLit]

theorem SMD.put {D : DataW Unit} {m : Int → Option (List UInt8)} (h : SMD D m) (r : Int) (l : List UInt8) : SMD (D.put (.int .i32 r) (.lit (.string l))) (fun x => if x = r then some l else m x) := by
  obtain ⟨h1, h2, h3⟩ := h
  refine ⟨h1.put _ _, fun x zd => ?_, fun x => ?_⟩
  · by_cases e : x = r
    · subst e; rw [atKey_put_same h1 (isKey x)]; simp
    · rw [atKey_put_other (by simpa using e), h2]; simp [e]
  · by_cases e : x = r
    · subst e; rw [has_put_same h1 (isKey x)]; simp
    · rw [has_put_other (by simpa using e), h3]; simp [e]

theorem SM.store {w : World} {b n : Nat} {m : Int → Option (List UInt8)} (h : SM w b n m) (hn : n < 1000) (r : Int) (hr : (Lit.int .i32 r).wf = true) (s : ByteArray) (hs : s.size ≤ 1000) :
    ∃ w', (Instr.mapUpdate 51 (.map (some b)) (.int .i32 r) (.string s)).run Try.prog w = .ok () w' ∧ SM w' b (n + 1) (fun x => if x = r then some s.data.toList else m x) ∧ w.grownBy w' (some b) := by
  obtain ⟨D, hD, h2⟩ := h
  obtain ⟨w', hrun, ho, hg⟩ := hD.update keyed Try.underlying51 (by unfold maxLen; omega) (keyOf_int_mk Try.underlying21 hr) (plainElem_string (H := Unit) Try.underlying9 (s := s) (by unfold maxLen; omega))
  exact ⟨w', hrun, ⟨_, ho, h2.put r _⟩, hg⟩

theorem zero9 (w : World) : (zeroValue 9).run Try.prog w = .ok (.string ⟨#[]⟩) w := by kernel_rfl

theorem SM.look {w : World} {b n : Nat} {m : Int → Option (List UInt8)} (h : SM w b n m) (r : Int) (hr : (Lit.int .i32 r).wf = true) :
    (Instr.lookup 51 (.map (some b)) (.int .i32 r) true).run Try.prog w = .ok (.tuple #[.string ⟨((m r).getD []).toArray⟩, .bool (m r).isSome]) w := by
  obtain ⟨D, hD, h1, h2, h3⟩ := h
  obtain ⟨v, ps, hrun, hv⟩ := hD.look_ok keyed Try.underlying51 (zero9 w) (plainElem_string (H := Unit) Try.underlying9 (s := ⟨#[]⟩) (by unfold maxLen; decide)) (keyOf_int_mk Try.underlying21 hr)
  rw [hrun]
  obtain ⟨s, rfl, hz, _⟩ := plainElem_string_inv Try.underlying9 hv
  have hz1 := congrArg Prod.fst hz
  simp only [h2, h3] at hz1 ⊢
  cases hm : m r with
  | none => simp [hm] at hz1; simp; rw [← hz1]
  | some l => simp [hm] at hz1; simp; rw [hz1]

set_option maxHeartbeats 1000000 in
theorem signs_any (w : World) :
    Calls Try.prog 25 #[] w fun e w' => e = .returned (.map (some w.heap.size)) ∧ w.heap.size < w'.heap.size ∧ Below w.heap.size w w' ∧ SM w' w.heap.size 4 (fun x => special false x.toNat) := by
  have hmm := @run_makeMap Try.prog
  obtain ⟨w1, r1, s1, g1⟩ := (SM.made w).store (by omega) 38 (by decide) ⟨#[38, 97, 109, 112, 59]⟩ (by decide)
  obtain ⟨w2, r2, s2, g2⟩ := s1.store (by omega) 160 (by decide) ⟨#[38, 110, 98, 115, 112, 59]⟩ (by decide)
  obtain ⟨w3, r3, s3, g3⟩ := s2.store (by omega) 60 (by decide) ⟨#[38, 108, 116, 59]⟩ (by decide)
  obtain ⟨w4, r4, s4, g4⟩ := s3.store (by omega) 62 (by decide) ⟨#[38, 103, 116, 59]⟩ (by decide)
  have hb : Below w.heap.size w w4 := by
    have h0 : Below w.heap.size w (w.alloc (.map #[] 0)) := (Below.refl _ w).alloc (Nat.le_refl _) _
    have a1 := h0.grown g1 (by simp) (by simp)
    have z1 := a1.size
    have a2 := a1.grown g2 (by omega) (by simp)
    have z2 := a2.size
    have a3 := a2.grown g3 (by omega) (by simp)
    have z3 := a3.size
    exact a3.grown g4 (by omega) (by simp)
  have hlt := s4.lt
  have hs : SM w4 w.heap.size 4 (fun x => special false x.toNat) := by
    obtain ⟨D, h1, h2, h3, h4⟩ := s4
    have e : (fun x : Int => if x = 62 then some [38, 103, 116, 59] else if x = 60 then some [38, 108, 116, 59] else if x = 160 then some [38, 110, 98, 115, 112, 59] else if x = 38 then some [38, 97, 109, 112, 59] else none) = fun x : Int => special false x.toNat := by
      funext x
      have e1 : (x.toNat = 38) = (x = 38) := by simp; omega
      have e2 : (x.toNat = 60) = (x = 60) := by simp; omega
      have e3 : (x.toNat = 62) = (x = 62) := by simp; omega
      have e4 : (x.toNat = 160) = (x = 160) := by simp; omega
      simp only [special, e1, e2, e3, e4, nbsp]
      repeat' split
      all_goals simp_all
    rw [← e]
    exact ⟨D, h1, h2, h3, h4⟩
  clear g1 g2 g3 g4 s1 s2 s3 s4
  go_enter Try.func25, Try.ntmps25
  go_wp2
  go_ret
  exact ⟨rfl, hlt, hb, hs⟩
theorem special_q (x : Int) : (if x = 34 then some quot else special false x.toNat) = special true x.toNat := by
  have e1 : (x.toNat = 38) = (x = 38) := by simp; omega
  have e2 : (x.toNat = 60) = (x = 60) := by simp; omega
  have e3 : (x.toNat = 62) = (x = 62) := by simp; omega
  have e4 : (x.toNat = 160) = (x = 160) := by simp; omega
  have e5 : (x.toNat = 34) = (x = 34) := by simp; omega
  simp only [special, e1, e2, e3, e4, e5]
  by_cases h : x = 34
  · subst h; simp
  · simp [h]

def Dq : DataW Unit := (DataW.map []).put (.int .i32 34) (.lit (.string quot))

theorem special_le (q : Bool) (r : Nat) (x : List UInt8) (h : special q r = some x) : x.length ≤ 6 := by
  unfold special nbsp quot at h
  repeat' split at h
  all_goals (cases h; try simp)

theorem drop_take_split (l : List UInt8) (a b n : Nat) (h1 : a ≤ b) (h2 : b + n ≤ l.length) : (l.take (b + n)).drop a = (l.take b).drop a ++ (l.drop b).take n := by
  rw [List.take_add, List.drop_append_of_le_length (by simp; omega)]

def EscRel (q : Bool) (s : ByteArray) (w : World) (bm b : Nat) (v : Value) (wr : World) : Prop :=
  ∃ (pos a : Nat) (acc : List UInt8), Bld 43 b b acc wr ∧ wr.heap[b + 1]? = some (.stringIter s pos) ∧ SM wr bm 5 (fun x => special q x.toNat) ∧ Below w.heap.size w wr ∧
    v = .int .i64 a ∧ a ≤ pos ∧ pos ≤ s.size ∧ acc.length ≤ 6 * a ∧ acc ++ (s.data.toList.take pos).drop a ++ esc q (s.data.toList.drop pos) = esc q s.data.toList

theorem strBytes (s t : ByteArray) : (s ++ t).data.toList = s.data.toList ++ t.data.toList := by simp [ByteArray.data_append]
theorem cutBytes (s : ByteArray) (a b : Nat) : (s.extract a b).data.toList = (s.data.toList.take b).drop a := by
  rw [ByteArray.data_extract, Array.toList_extract]; simp [List.extract_eq_take_drop, List.drop_take]

-- TAILMARK
theorem ret_str {a b : List UInt8} (h : a = b) : Ending.returned (.string ⟨a.toArray⟩) = Ending.returned (.string ⟨b.toArray⟩) := by rw [h]

theorem Bld.fresh_at (T : TypeId) (w : World) (b : Nat) (h : w.heap.size = b) : Bld T b b [] (w.alloc (.cells #[.pointer none, .slice none 0 0] T)) := by
  subst h; exact Bld.fresh T w

theorem encode_le (r : Int) : (Utf8.encode r).size ≤ 4 := by
  unfold Utf8.encode
  simp only []
  repeat' split
  all_goals simp [ByteArray.size]

set_option maxHeartbeats 2000000 in
set_option maxRecDepth 100000 in
theorem escaped_nil (s : ByteArray) (w : World) (hs : s.size ≤ 1099511627776) :
    Calls Try.prog 22 #[.string s, .map none] w fun e w' => e = .returned (.string ⟨(esc false s.data.toList).toArray⟩) ∧ Below w.heap.size w w' := by
  go_enter Try.func22, Try.ntmps22
  go_wp2_with (go_at_call 25; refine (signs_any _).mono ?_)
  rintro e w1 ⟨rfl, hlt1, hb1, hm1⟩
  have hrg := run_range_nilMap (P := Try.prog) w1 51 21 9 Try.underlying51
  have hnx : ∀ ty, (Instr.next (.pointer (some ⟨w1.heap.size, 0, none⟩)) false ty).run Try.prog (w1.alloc (.mapIter none 0 #[] 0)) = _ := fun ty => run_next_nilMap w1 ty 0 0 #[]
  go_wp2
  refine wp_loop_rounds 1 ?_
  rw [rounds_succ]
  go_wp2
  clear hrg hnx
  have hm2 : SM (w1.alloc (.mapIter none 0 #[] 0)) w.heap.size 5 (fun x => special false x.toNat) := by
    obtain ⟨D, h1, h2⟩ := hm1.alloc (.mapIter none 0 #[] 0)
    exact ⟨D, h1.mono (by omega), h2⟩
  have hb2 : Below w.heap.size w (w1.alloc (.mapIter none 0 #[] 0)) := hb1.alloc (by omega) _
  have hlt2 : w.heap.size < w1.heap.size + 1 := by omega
  go_wp2
  go_loopw [9] (fun v wr => EscRel false s w w.heap.size (w1.heap.size + 1) v wr) (fun _ wr => s.size - wr.iterPos ((w1.heap.size + 1) + 1))
  case atStart =>
    refine ⟨0, 0, [], (Bld.fresh_at 43 (w1.alloc (.mapIter none 0 #[] 0)) _ (by simp)).alloc _, ?_, (hm2.alloc _).alloc _, (hb2.alloc (by first | omega | (simp; omega)) _).alloc (by simp; omega) _, rfl, by omega, by omega, by simp, by simp⟩
    have := World.iter_heap ((w1.alloc (.mapIter none 0 #[] 0)).alloc (.cells #[.pointer none, .slice none 0 0] 43)) s 0
    simpa using this
  case round =>
    obtain ⟨pos, a, acc, hB, hit, hm, hbw, rfl, hap, hps, hal, hacc⟩ := hrel
    have hszr : (w1.heap.size + 1) + 1 < wr.heap.size := (Array.getElem?_eq_some_iff.1 hit).1
    have hl : s.data.toList.length = s.size := Array.length_toList
    by_cases hp : pos < s.size
    · obtain ⟨hw1, hw2, hes, hen⟩ := esc_step false s pos hp
      have hnx : ∀ ty, (Instr.next (.pointer (some ⟨(w1.heap.size + 1) + 1, 0, none⟩)) true ty).run Try.prog wr = _ := fun ty => Lib.run_next_any_at wr ((w1.heap.size + 1) + 1) s pos ty hit hp
      have hd1 := decode_le s pos
      have hB2 : Bld 43 (w1.heap.size + 1) (w1.heap.size + 1) acc (wr.iterAt ((w1.heap.size + 1) + 1) s (pos + (Utf8.decode s pos).2)) := Lib.IsBuilderF.iterAt hB hit _
      have hit2 := Lib.iterAt_heap wr ((w1.heap.size + 1) + 1) s pos (pos + (Utf8.decode s pos).2) hit
      have hbw2 := Lib.below_iterAt hbw (k := (w1.heap.size + 1) + 1) (by omega) s (pos + (Utf8.decode s pos).2)
      have hsz2 : (w1.heap.size + 1) ≤ (wr.iterAt ((w1.heap.size + 1) + 1) s (pos + (Utf8.decode s pos).2)).heap.size := by rw [Lib.iterAt_size]; omega
      have hm3 : SM (wr.iterAt ((w1.heap.size + 1) + 1) s (pos + (Utf8.decode s pos).2)) w.heap.size 5 (fun x => special false x.toNat) := hm.same (Lib.iterAt_other _ _ _ _ _ (by omega))
      have hpo : World.iterPos wr ((w1.heap.size + 1) + 1) = pos := by simp only [World.iterPos, hit]
      have hpo2 : World.iterPos (wr.iterAt ((w1.heap.size + 1) + 1) s (pos + (Utf8.decode s pos).2)) ((w1.heap.size + 1) + 1) = pos + (Utf8.decode s pos).2 := by simp only [World.iterPos, hit2]
      have hlk := hm3.look ((Utf8.decode s pos).1 : Int) (WalkArith.wf_i32 (by omega))
      simp only [Int.toNat_natCast] at hlk
      generalize hW : wr.iterAt ((w1.heap.size + 1) + 1) s (pos + (Utf8.decode s pos).2) = W at *
      have HP := Lib.hid hpo; have HP2 := Lib.hid hpo2; have HES := Lib.hid hes; have HEN := Lib.hid hen; have HACC := Lib.hid hacc; have HIT := Lib.hid hit; have HIT2 := Lib.hid hit2; have HL := Lib.hid hl
      clear hpo hpo2 hes hen hacc hit hit2 hl hW
      cases hsp : special false (Utf8.decode s pos).1 with
      | none =>
        rw [hsp] at hlk
        simp only [Option.getD_none, Option.isSome_none] at hlk
        have HSP := Lib.hid hsp
        clear hsp
        go_wp2
        go_roundw
        case rel =>
          have hes := HES.out
          simp only [HSP.out] at hes
          refine ⟨pos + (Utf8.decode s pos).2, a, acc, hB2, HIT2.out, hm3, hbw2, rfl, by omega, hw2, hal, ?_⟩
          rw [← HACC.out, hes, drop_take_split _ _ _ _ hap (by rw [HL.out]; omega)]
          simp
        case measure => rw [HP.out, HP2.out]; omega
      | some x =>
        rw [hsp] at hlk
        simp only [Option.getD_some, Option.isSome_some] at hlk
        have HSP := Lib.hid hsp
        have hx6 := special_le _ _ _ hsp
        have hen2 : (Utf8.encode ((Utf8.decode s pos).1 : Int)).size = (Utf8.decode s pos).2 := (HEN.out (by rw [hsp]; simp)).symm
        have hen3 : (Utf8.encode ((Utf8.decode s pos).1 : Int)).size ≤ 4 := encode_le _
        have HEN2 := Lib.hid hen2
        clear hsp hen2
        have hxs : (⟨x.toArray⟩ : ByteArray).size ≤ 6 := by simpa [ByteArray.size] using hx6
        have hcat : (s.extract a pos ++ (⟨x.toArray⟩ : ByteArray)).size ≤ pos - a + 6 := by rw [ByteArray.size_append, ByteArray.size_extract]; omega
        go_wp2_with (go_at_call 26; refine (bld_WriteString bld43 (w1.heap.size + 1) (w1.heap.size + 1) acc _ _ hB2 (by omega) hsz2).mono ?_)
        rintro e W1 ⟨rfl, h1, b1, k1⟩
        go_wp2
        go_roundw
        case rel =>
          have hes := HES.out
          simp only [HSP.out] at hes
          refine ⟨pos + (Utf8.decode s pos).2, pos + (Utf8.decode s pos).2, _, h1, Lib.OthersKept.iter k1 HIT2.out (by omega), hm3.kept k1 (by omega), hbw2.trans (b1.mono (by omega)), ?_, by omega, hw2, ?_, ?_⟩
          · rw [← HEN2.out]; go_num
          · rw [strBytes, cutBytes]; simp; omega
          · rw [← HACC.out, hes, strBytes, cutBytes]
            simp [List.drop_take]
        case measure =>
          rw [HP.out]
          have : World.iterPos W1 ((w1.heap.size + 1) + 1) = pos + (Utf8.decode s pos).2 := by simp only [World.iterPos, Lib.OthersKept.iter k1 HIT2.out (show (w1.heap.size + 1) + 1 ≠ (w1.heap.size + 1) by omega)]
          rw [this]; omega
    · have hnx : ∀ ty, (Instr.next (.pointer (some ⟨(w1.heap.size + 1) + 1, 0, none⟩)) true ty).run Try.prog wr = _ := fun ty => Lib.run_next_end_at wr ((w1.heap.size + 1) + 1) s pos ty hit hp
      have hpe : pos = s.size := by omega
      have HACC := Lib.hid hacc; have HL := Lib.hid hl; have HPE := Lib.hid hpe
      clear hacc hl hpe
      have hex : (s.extract a s.size).size ≤ s.size - a := by rw [ByteArray.size_extract]; omega
      have ha2 : a ≤ s.size := by omega
      go_wp2_with (go_at_call 26; refine (bld_WriteString bld43 (w1.heap.size + 1) (w1.heap.size + 1) acc _ _ hB (by omega) (by omega)).mono ?_)
      rintro e W1 ⟨rfl, h1, b1, k1⟩
      have hz1 := b1.size
      go_wp2_with (go_at_call 19; refine (bld_String 43 (w1.heap.size + 1) (w1.heap.size + 1) _ _ h1 (by omega)).mono ?_)
      rintro e W2 ⟨rfl, _, b2, _⟩
      go_wp2
      go_ret
      refine ⟨ret_str ?_, (hbw.trans (b1.mono (by omega))).trans (b2.mono (by omega))⟩
      rw [← HACC.out, HPE.out]
      simp only [← HL.out, List.take_length, List.drop_length, esc_nil, List.append_nil]
      rw [List.take_of_length_le (by simp)]

set_option maxHeartbeats 4000000 in
set_option maxRecDepth 100000 in
theorem escaped_q (s : ByteArray) (bq : Nat) (w : World) (hs : s.size ≤ 1099511627776) (hq : w.ownsMap Try.prog 21 (plainElem Try.prog 9) bq 1 Dq) :
    Calls Try.prog 22 #[.string s, .map (some bq)] w fun e w' => e = .returned (.string ⟨(esc true s.data.toList).toArray⟩) ∧ Below w.heap.size w w' := by
  have hbq := hq.lt
  go_enter Try.func22, Try.ntmps22
  go_wp2_with (go_at_call 25; refine (signs_any _).mono ?_)
  rintro e w1 ⟨rfl, hlt1, hb1, hm1⟩
  have hq1 : w1.ownsMap Try.prog 21 (plainElem Try.prog 9) bq 1 Dq := by
    obtain ⟨es, clock, hb, r⟩ := hq
    exact ⟨es, clock, (hb1.block bq hbq).trans hb, r⟩
  obtain ⟨w0, hrun, hrg00, hg0, hs0⟩ := hq1.range keyed Try.underlying51
  obtain ⟨left0, cnt0, hrg, hL0, hC0⟩ : ∃ left0 cnt0, w0.ranges Try.prog 21 (plainElem Try.prog 9) bq w1.heap.size 1 Dq left0 cnt0 ∧ Hid (left0 = Maps.has Dq) ∧ Hid (cnt0 = 1) := ⟨_, _, hrg00, rfl, by show Maps.size Dq = 1; decide⟩
  clear hrg00
  have hm0 : SM w0 w.heap.size 4 (fun x => special false x.toNat) := hm1.same (hg0.block _ hlt1 (by simp))
  have hb0 : Below w.heap.size w w0 := hb1.grown hg0 (by omega) (by simp)
  clear hg0 hm1
  go_wp2
  clear hrun
  refine wp_loop_rounds 2 ?_
  rw [rounds_succ]
  go_wp2_with (at_next; refine wpList_next_ranges_is _ rfl _ rfl 21 9 .i32 keyed Try.underlying21 Try.underlying9 bq w1.heap.size 1 Dq _ _ rfl hrg ?_ ?_)
  · intro hc0; have := hC0.out; omega
  intro x c w2 cnt2 hwx hwc hlx hat hrg2 hlt2 hg2 hs2 hen
  have hx34 : x = 34 := by
    have e1 : Maps.has Dq (.int .i32 x) = true := by rw [← hL0.out]; exact hlx
    rcases Decidable.em (x = 34) with h | h
    · exact h
    · unfold Dq at e1
      rw [has_put_other (by simpa using h)] at e1
      simp [Maps.has] at e1
  subst hx34
  have hc : c.data.toList = quot := by
    have := hat (.lit (.bool true))
    unfold Dq at this
    rw [atKey_put_same isMap_empty (isKey 34)] at this
    simpa using this.symm
  have hm2 : SM w2 w.heap.size 4 (fun x => special false x.toNat) := hm0.same (hg2.block _ hm0.lt (by simp; omega))
  have hb2 : Below w.heap.size w w2 := hb0.grown hg2 (by omega) (by intro k hk; cases hk; omega)
  obtain ⟨w3, hup, hm3, hg3⟩ := hm2.store (by omega) 34 (by decide) c (by
    have : c.data.toList.length = c.size := Array.length_toList
    rw [← this, hc]; decide)
  rw [hc] at hm3
  have hm4 : SM w3 w.heap.size 5 (fun x => special true x.toNat) := by
    obtain ⟨D, h1, h2⟩ := hm3
    refine ⟨D, h1, ?_⟩
    have e : (fun x : Int => if x = 34 then some quot else special false x.toNat) = fun x : Int => special true x.toNat := funext special_q
    rw [← e]; exact h2
  have hrg3 := hrg2.kept hg3 (by simp; omega) (by simp; omega)
  have hb3 : Below w.heap.size w w3 := hb2.grown hg3 (by omega) (by intro k hk; cases hk; omega)
  have hsz3 := hm3.lt
  have hcnt : cnt2 = 0 := by have := hC0.out; omega
  clear hg2 hg3 hm0 hm2 hm3 hrg hrg2 hq hq1 hb0 hb2 hlx hat
  go_wp2
  rw [rounds_succ]
  clear hen hup
  go_wp2_with (at_next; refine wpList_next_ranges_is _ rfl _ rfl 21 9 .i32 keyed Try.underlying21 Try.underlying9 bq w1.heap.size 1 Dq _ _ rfl hrg3 ?_ ?_)
  intro _
  go_wp2
  go_loopw [9] (fun v wr => EscRel true s w w.heap.size w3.heap.size v wr) (fun _ wr => s.size - wr.iterPos (w3.heap.size + 1))
  case atStart =>
    refine ⟨0, 0, [], (Bld.fresh 43 w3).alloc _, ?_, (hm4.alloc _).alloc _, (hb3.alloc (by first | omega | (simp; omega)) _).alloc (by simp; omega) _, rfl, by omega, by omega, by simp, by simp⟩
    have := World.iter_heap (w3.alloc (.cells #[.pointer none, .slice none 0 0] 43)) s 0
    simpa using this
  case round =>
    obtain ⟨pos, a, acc, hB, hit, hm, hbw, rfl, hap, hps, hal, hacc⟩ := hrel
    have hszr : w3.heap.size + 1 < wr.heap.size := (Array.getElem?_eq_some_iff.1 hit).1
    have hl : s.data.toList.length = s.size := Array.length_toList
    by_cases hp : pos < s.size
    · obtain ⟨hw1, hw2, hes, hen⟩ := esc_step true s pos hp
      have hnx : ∀ ty, (Instr.next (.pointer (some ⟨w3.heap.size + 1, 0, none⟩)) true ty).run Try.prog wr = _ := fun ty => Lib.run_next_any_at wr (w3.heap.size + 1) s pos ty hit hp
      have hd1 := decode_le s pos
      have hB2 : Bld 43 w3.heap.size w3.heap.size acc (wr.iterAt (w3.heap.size + 1) s (pos + (Utf8.decode s pos).2)) := Lib.IsBuilderF.iterAt hB hit _
      have hit2 := Lib.iterAt_heap wr (w3.heap.size + 1) s pos (pos + (Utf8.decode s pos).2) hit
      have hbw2 := Lib.below_iterAt hbw (k := w3.heap.size + 1) (by omega) s (pos + (Utf8.decode s pos).2)
      have hsz2 : w3.heap.size ≤ (wr.iterAt (w3.heap.size + 1) s (pos + (Utf8.decode s pos).2)).heap.size := by rw [Lib.iterAt_size]; omega
      have hm3 : SM (wr.iterAt (w3.heap.size + 1) s (pos + (Utf8.decode s pos).2)) w.heap.size 5 (fun x => special true x.toNat) := hm.same (Lib.iterAt_other _ _ _ _ _ (by omega))
      have hpo : World.iterPos wr (w3.heap.size + 1) = pos := by simp only [World.iterPos, hit]
      have hpo2 : World.iterPos (wr.iterAt (w3.heap.size + 1) s (pos + (Utf8.decode s pos).2)) (w3.heap.size + 1) = pos + (Utf8.decode s pos).2 := by simp only [World.iterPos, hit2]
      have hlk := hm3.look ((Utf8.decode s pos).1 : Int) (WalkArith.wf_i32 (by omega))
      simp only [Int.toNat_natCast] at hlk
      generalize hW : wr.iterAt (w3.heap.size + 1) s (pos + (Utf8.decode s pos).2) = W at *
      have HP := Lib.hid hpo; have HP2 := Lib.hid hpo2; have HES := Lib.hid hes; have HEN := Lib.hid hen; have HACC := Lib.hid hacc; have HIT := Lib.hid hit; have HIT2 := Lib.hid hit2; have HL := Lib.hid hl
      clear hpo hpo2 hes hen hacc hit hit2 hl hW
      cases hsp : special true (Utf8.decode s pos).1 with
      | none =>
        rw [hsp] at hlk
        simp only [Option.getD_none, Option.isSome_none] at hlk
        have HSP := Lib.hid hsp
        clear hsp
        go_wp2
        go_roundw
        case rel =>
          have hes := HES.out
          simp only [HSP.out] at hes
          refine ⟨pos + (Utf8.decode s pos).2, a, acc, hB2, HIT2.out, hm3, hbw2, rfl, by omega, hw2, hal, ?_⟩
          rw [← HACC.out, hes, drop_take_split _ _ _ _ hap (by rw [HL.out]; omega)]
          simp
        case measure => rw [HP.out, HP2.out]; omega
      | some x =>
        rw [hsp] at hlk
        simp only [Option.getD_some, Option.isSome_some] at hlk
        have HSP := Lib.hid hsp
        have hx6 := special_le _ _ _ hsp
        have hen2 : (Utf8.encode ((Utf8.decode s pos).1 : Int)).size = (Utf8.decode s pos).2 := (HEN.out (by rw [hsp]; simp)).symm
        have hen3 : (Utf8.encode ((Utf8.decode s pos).1 : Int)).size ≤ 4 := encode_le _
        have HEN2 := Lib.hid hen2
        clear hsp hen2
        have hxs : (⟨x.toArray⟩ : ByteArray).size ≤ 6 := by simpa [ByteArray.size] using hx6
        have hcat : (s.extract a pos ++ (⟨x.toArray⟩ : ByteArray)).size ≤ pos - a + 6 := by rw [ByteArray.size_append, ByteArray.size_extract]; omega
        go_wp2_with (go_at_call 26; refine (bld_WriteString bld43 w3.heap.size w3.heap.size acc _ _ hB2 (by omega) hsz2).mono ?_)
        rintro e W1 ⟨rfl, h1, b1, k1⟩
        go_wp2
        go_roundw
        case rel =>
          have hes := HES.out
          simp only [HSP.out] at hes
          refine ⟨pos + (Utf8.decode s pos).2, pos + (Utf8.decode s pos).2, _, h1, Lib.OthersKept.iter k1 HIT2.out (by omega), hm3.kept k1 (by omega), hbw2.trans (b1.mono (by omega)), ?_, by omega, hw2, ?_, ?_⟩
          · rw [← HEN2.out]; go_num
          · rw [strBytes, cutBytes]; simp; omega
          · rw [← HACC.out, hes, strBytes, cutBytes]
            simp [List.drop_take]
        case measure =>
          rw [HP.out]
          have : World.iterPos W1 (w3.heap.size + 1) = pos + (Utf8.decode s pos).2 := by simp only [World.iterPos, Lib.OthersKept.iter k1 HIT2.out (show w3.heap.size + 1 ≠ w3.heap.size by omega)]
          rw [this]; omega
    · have hnx : ∀ ty, (Instr.next (.pointer (some ⟨w3.heap.size + 1, 0, none⟩)) true ty).run Try.prog wr = _ := fun ty => Lib.run_next_end_at wr (w3.heap.size + 1) s pos ty hit hp
      have hpe : pos = s.size := by omega
      have HACC := Lib.hid hacc; have HL := Lib.hid hl; have HPE := Lib.hid hpe
      clear hacc hl hpe
      have hex : (s.extract a s.size).size ≤ s.size - a := by rw [ByteArray.size_extract]; omega
      have ha2 : a ≤ s.size := by omega
      go_wp2_with (go_at_call 26; refine (bld_WriteString bld43 w3.heap.size w3.heap.size acc _ _ hB (by omega) (by omega)).mono ?_)
      rintro e W1 ⟨rfl, h1, b1, k1⟩
      have hz1 := b1.size
      go_wp2_with (go_at_call 19; refine (bld_String 43 w3.heap.size w3.heap.size _ _ h1 (by omega)).mono ?_)
      rintro e W2 ⟨rfl, _, b2, _⟩
      go_wp2
      go_ret
      refine ⟨ret_str ?_, (hbw.trans (b1.mono (by omega))).trans (b2.mono (by omega))⟩
      rw [← HACC.out, HPE.out]
      simp only [← HL.out, List.take_length, List.drop_length, esc_nil, List.append_nil]
      rw [List.take_of_length_le (by simp)]
end Go.Proofs.Ytlhfjlfoddjciaa
