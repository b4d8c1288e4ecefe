/- (*strings.Replacer).build at pairs of one byte and a text that is not one byte: a byteStringReplacer. What a byteStringReplacer makes of a text: plain law. -/
import Derived.Test.YtdkjenbncmedbaaGreatDoorRepl
import Derived.Deep.MidRow
import Derived.Deep.DeepCutAuto
import Derived.Deep.WholeRow
import Derived.Laws.IdiomStrings
namespace Go.Proofs.YtdkjenbncmedbaaGreatDoor
open Go.RowKit

/-- What the table says of a byte. -/
def tabv : List (UInt8 × ByteArray) → UInt8 → Option ByteArray
  | [], _ => none
  | p :: ps, x => if p.1 = x then some p.2 else tabv ps x

theorem run_make_rowN {P : Program} (t e : TypeId) (i : TypeInfo) (z : Value) (ht : P.underlying t = some (.slice e)) (hi : P.info? e = some i) (hz : i.zero = some z)
    (kl kc : IntKind) (n c : Nat) (hnc : n ≤ c) (hbytes : i.bytes * c ≤ 281474976710656) (h63 : c ≤ 9223372036854775807) (w : World) :
    (Instr.makeSlice t (.int kl (n : Int)) (.int kc (c : Int))).run P w = .ok (.slice (some ⟨w.heap.size, 0, none⟩) n c) (w.alloc (.cells (madeCells z.cells (c * i.size)) e)) := by
  have hb : (i.bytes : Int) * (c : Int) ≤ 281474976710656 := by
    have h : ((i.bytes * c : Nat) : Int) ≤ 281474976710656 := by omega
    rwa [Int.natCast_mul] at h
  have hr := run_make (P := P) w t e i z ht hi hz kl kc n c (by omega) (by omega) hb (by omega)
  simp only [Int.toNat_natCast] at hr
  exact hr

/-- The cells of a byteStringReplacer whose table is empty. -/
def bsCells (v : Value) : Array Value := ((List.replicate 257 (Value.slice none 0 0)).set 256 v).toArray
def bsObj (v : Value) : Obj := .cells (bsCells v) 190
set_option maxRecDepth 100000 in
theorem bs_zero : Tryz.zeroCells190.toList = List.replicate 257 (Value.slice none 0 0) := by kernel_rfl
theorem bs_size (v : Value) : (bsCells v).size = 257 := by
  unfold bsCells
  rw [List.size_toArray, List.length_set, List.length_replicate]
theorem bs_at (v : Value) (i : Nat) (h : i < 256) : (bsCells v)[i]? = some (.slice none 0 0) := by
  unfold bsCells
  rw [List.getElem?_toArray, List.getElem?_set_ne (by omega), List.getElem?_replicate, if_pos (by omega)]
theorem bs_last (v : Value) : (bsCells v)[256]? = some v := by
  unfold bsCells
  rw [List.getElem?_toArray, List.getElem?_set_self (by rw [List.length_replicate]; omega)]
theorem bs_store (A : Option Addr) (n c : Nat) (W : World) (b : Nat) (hb : W.heap.size = b) :
    (storeCells ⟨b, 0, none⟩ (Tryz.zeroCells190.toList.set 256 (.slice A n c))).run Tryz.prog (W.alloc (.cells Tryz.zeroCells190 190)) = .ok () (W.alloc (bsObj (.slice A n c))) := by
  subst hb
  have h := run_storeCells_from (P := Tryz.prog) W.heap.size 190 (Tryz.zeroCells190.toList.set 256 (.slice A n c)) 0 Tryz.zeroCells190 (W.alloc (.cells Tryz.zeroCells190 190)) (heap_alloc_new W _)
    (by rw [List.length_set, Nat.zero_add, Array.length_toList]) (fun v hv => by
      rcases List.mem_or_eq_of_mem_set hv with h | h
      · rw [bs_zero] at h
        rw [(List.mem_replicate.1 h).2]; rfl
      · rw [h]; rfl)
  rw [h, World.setRow_alloc_new, bs_zero]
  rfl

theorem tabv_fresh (ps : List (UInt8 × ByteArray)) (k : Nat) (hk : k < ps.length) (x : UInt8) (hx : ps[k].1 = x) (hnd : (ps.map (·.1)).Nodup) : tabv (ps.drop (k + 1)) x = none := by
  have hno : ∀ (l : List (UInt8 × ByteArray)), x ∉ l.map (·.1) → tabv l x = none := by
    intro l
    induction l with
    | nil => intro _; rfl
    | cons p l ih =>
      intro h
      rw [List.map_cons, List.mem_cons, not_or] at h
      rw [tabv, if_neg (fun e => h.1 e.symm)]
      exact ih h.2
  apply hno
  have e : ps.map (·.1) = (ps.map (·.1)).take k ++ x :: (ps.map (·.1)).drop (k + 1) := by
    have hl : k < (ps.map (·.1)).length := by simpa using hk
    have e2 : (ps.map (·.1))[k] = x := by simpa using hx
    conv => lhs; rw [← List.take_append_drop k (ps.map (·.1))]
    rw [List.drop_eq_getElem_cons hl, e2]
  rw [e, List.nodup_append] at hnd
  have := hnd.2.1
  rw [List.nodup_cons] at this
  rw [List.map_drop]
  exact this.1
theorem conv_one (x : UInt8) (W : World) : (convert 105 9 (.slice (some ⟨W.heap.size, 0, none⟩) 1 1)).run Tryz.prog (W.alloc (.cells #[.int .u8 (x.toNat : Int)] 5)) = .ok (.string ⟨#[x]⟩) (W.alloc (.cells #[.int .u8 (x.toNat : Int)] 5)) := by
  refine run_convert_bytes_back (P := Tryz.prog) (W.alloc (.cells #[.int .u8 (x.toNat : Int)] 5)) 105 9 5 ⟨W.heap.size, 0, none⟩ 1 [x] Tryz.underlying105 Tryz.underlying5 Tryz.underlying9 ?_
  intro j hj
  have hj0 : j = 0 := by simp at hj; exact hj
  subst hj0
  simp [Addr.add]
theorem own_slice {w : World} {base : Nat} {e : TypeId} {size n : Nat} {v : Value} {xs : List Value} (h : w.ownsRow base e size v n xs) : ∃ A m c, v = .slice A m c := by
  rcases h.2 with ⟨rfl, _⟩ | ⟨g, cap, cur, rfl, _⟩
  · exact ⟨_, _, _, rfl⟩
  · exact ⟨_, _, _, rfl⟩
theorem lt_of_block {w : World} {B : Nat} {o : Obj} (h : w.heap[B]? = some o) : B < w.heap.size := (Array.getElem?_eq_some_iff.1 h).1
theorem own_ne_block {w : World} {base : Nat} {e : TypeId} {size n : Nat} {v : Value} {xs : List Value} {B : Nat} {cs : Array Value} {t : TypeId} {fr : Nat × Nat} (h : w.ownsRow base e size v n xs) (hB : w.heap[B]? = some (.cells cs t fr)) (hne : e ≠ t) : v.ownBlock ≠ some B := by
  rcases h.2 with ⟨rfl, _⟩ | ⟨g', cap, cur, rfl, _, hh, _⟩
  · simp [Value.ownBlock]
  · intro he
    have : g' = B := by simpa [Value.ownBlock] using he
    subst this
    rw [hB] at hh
    injection hh with hh
    injection hh with _ ht
    exact hne ht.symm
theorem set_block {w : World} {B : Nat} {cs : Array Value} {t : TypeId} {fr : Nat × Nat} (h : w.heap[B]? = some (.cells cs t fr)) (i : Nat) (u : Value) : (w.setCell ⟨B, i, none⟩ u).heap[B]? = some (.cells (cs.setIfInBounds i u) t fr) := by
  simp [World.setCell, Array.getElem?_modify, h]
/-- The table's cells: of a byte that is not replaced nil, of another a row of its bytes. -/
def TabOk (lo : Nat) (cs : Array Value) (t : UInt8 → Option ByteArray) (wr : World) : Prop :=
  ∀ x : UInt8, (t x = none → cs[x.toNat]? = some (.slice none 0 0)) ∧
    ∀ s, t x = some s → ∃ (gg c : Nat) (C : Array Value) (fr : Nat × Nat), cs[x.toNat]? = some (.slice (some ⟨gg, 0, none⟩) s.size c) ∧ lo ≤ gg ∧ wr.heap[gg]? = some (.cells C 5 fr) ∧ ∀ j (hj : j < s.size), C[j]? = some (.int .u8 (s[j].toNat : Int))
/-- The byteStringReplacer at B when the pairs from k on have been laid. -/
def BStep (w : World) (ps : List (UInt8 × ByteArray)) (B k : Nat) (wr : World) : Prop :=
  ∃ (cs : Array Value) (v : Value), wr.heap[B]? = some (.cells cs 190 (0, 0)) ∧ cs.size = 257 ∧ cs[256]? = some v ∧ TabOk w.heap.size cs (tabv (ps.drop k)) wr ∧
    wr.ownsRow w.heap.size 9 1 v (ps.length - k) ((ps.drop k).reverse.map fun p => .string ⟨#[p.1]⟩) ∧ Below w.heap.size w wr

theorem own_set_other {w : World} {base : Nat} {e : TypeId} {size n : Nat} {v : Value} {xs : List Value} (h : w.ownsRow base e size v n xs) {p : Addr} (hne : v.ownBlock ≠ some p.block) (u : Value) : (w.setCell p u).ownsRow base e size v n xs := by
  have hg : w.grownBy (w.setCell p u) (some p.block) := ⟨rfl, rfl, rfl, by simp [World.setCell], fun i _ hi => Below.heap_setCell w p u i (fun e => hi (by rw [e]))⟩
  exact h.kept hg (.inr hne)

/-- A round of build's last loop: the pair at k has been laid. -/
theorem bstep_round {w wr W2 : World} {ps : List (UInt8 × ByteArray)} {B k c0 : Nat} {x : UInt8} {s : ByteArray} {cs : Array Value} {v v2 : Value} {xs : List Value} {o1 o2 : Obj} {cap : Nat} {fr : Nat × Nat}
    (hk : k < ps.length) (hx : ps[k].1 = x) (hs : ps[k].2 = s) (hBw : w.heap.size ≤ B) (hB : wr.heap[B]? = some (.cells cs 190 (0, 0))) (hcs : cs.size = 257) (ht : TabOk w.heap.size cs (tabv (ps.drop (k + 1))) wr)
    (hown : wr.ownsRow w.heap.size 9 1 v c0 xs) (hbl : Below w.heap.size w wr) (hg : ((wr.alloc o1).alloc o2).grownBy W2 v.ownBlock) (hB2 : W2.heap[B]? = some (.cells cs 190 (0, 0)))
    (hown2 : W2.ownsRow w.heap.size 9 1 v2 (ps.length - (k + 1) + 1) (((ps.drop (k + 1)).reverse.map fun p => .string ⟨#[p.1]⟩) ++ [.string ⟨#[x]⟩])) :
    BStep w ps B k ((((W2.setCell ⟨B, 256, none⟩ v2).setCell ⟨B, x.toNat, none⟩ (.slice (some ⟨W2.heap.size, 0, none⟩) s.size cap)).alloc (.cells (bytesRow s cap) 5 fr)).drew) := by
  have hx8 : x.toNat < 256 := UInt8.toNat_lt x
  have hdr : ps.drop k = ps[k] :: ps.drop (k + 1) := List.drop_eq_getElem_cons hk
  have hBl := lt_of_block hB
  have hBl2 := lt_of_block hB2
  have hsz : ∀ (i : Nat) (u : Value) (W : World), (W.setCell ⟨B, i, none⟩ u).heap.size = W.heap.size := fun i u W => by simp [World.setCell]
  have hb1 := set_block hB2 256 v2
  have hb2 := set_block hb1 x.toNat (.slice (some ⟨W2.heap.size, 0, none⟩) s.size cap)
  have hob : v2.ownBlock ≠ some B := own_ne_block hown2 hB2 (by decide)
  have hz : ((W2.setCell ⟨B, 256, none⟩ v2).setCell ⟨B, x.toNat, none⟩ (.slice (some ⟨W2.heap.size, 0, none⟩) s.size cap)).heap.size = W2.heap.size := by rw [hsz, hsz]
  refine ⟨(cs.setIfInBounds 256 v2).setIfInBounds x.toNat (.slice (some ⟨W2.heap.size, 0, none⟩) s.size cap), v2, ?_, by simp [hcs], ?_, ?_, ?_, ?_⟩
  · show (World.alloc _ _).heap[B]? = _
    rw [Below.heap_alloc _ _ _ (by rw [hz]; exact hBl2)]
    exact hb2
  · rw [Array.getElem?_setIfInBounds_ne (by omega), Array.getElem?_setIfInBounds_self_of_lt (by omega)]
  · intro y
    by_cases hy : y = x
    · subst hy
      have e : tabv (ps.drop k) y = some s := by rw [hdr, tabv, if_pos hx, hs]
      rw [e]
      refine ⟨(fun h => by cases h), fun s' h => ?_⟩
      cases h
      refine ⟨W2.heap.size, cap, bytesRow s cap, fr, by rw [Array.getElem?_setIfInBounds_self_of_lt (by simp [hcs]; omega)], ?_, ?_, fun j hj => bytesRow_at s cap j hj⟩
      · have := hg.size
        have := hbl.size
        simp at *
        omega
      · show (World.alloc _ _).heap[W2.heap.size]? = _
        have hh := heap_alloc_new ((W2.setCell ⟨B, 256, none⟩ v2).setCell ⟨B, y.toNat, none⟩ (.slice (some ⟨W2.heap.size, 0, none⟩) s.size cap)) (.cells (bytesRow s cap) 5 fr)
        rw [hz] at hh
        exact hh
    · have e : tabv (ps.drop k) y = tabv (ps.drop (k + 1)) y := by rw [hdr, tabv, if_neg (fun h => hy (by rw [← h, hx]))]
      have hy8 : y.toNat < 256 := UInt8.toNat_lt y
      have hyx : x.toNat ≠ y.toNat := fun h => hy (UInt8.toNat_inj.1 h.symm)
      rw [e]
      obtain ⟨t1, t2⟩ := ht y
      have hget : ((cs.setIfInBounds 256 v2).setIfInBounds x.toNat (.slice (some ⟨W2.heap.size, 0, none⟩) s.size cap))[y.toNat]? = cs[y.toNat]? := by
        rw [Array.getElem?_setIfInBounds_ne hyx, Array.getElem?_setIfInBounds_ne (by omega)]
      rw [hget]
      refine ⟨t1, fun s' h => ?_⟩
      obtain ⟨gg, c, C, fr', q1, q2, q3, q4⟩ := t2 s' h
      refine ⟨gg, c, C, fr', q1, q2, ?_, q4⟩
      have hgl := lt_of_block q3
      have hneB : gg ≠ B := by
        rintro rfl
        rw [hB] at q3
        injection q3 with q3
        injection q3 with _ q3
        cases q3
      have hneo : v.ownBlock ≠ some gg := own_ne_block hown q3 (by decide)
      have hW2 : W2.heap[gg]? = some (.cells C 5 fr') := by
        refine (hg.block gg (by simp; omega) (fun e => hneo e.symm)).trans ?_
        exact ((Below.heap_alloc _ _ _ (by simp; omega)).trans (Below.heap_alloc wr _ _ hgl)).trans q3
      show (World.alloc _ _).heap[gg]? = _
      rw [Below.heap_alloc _ _ _ (by rw [hz]; exact lt_of_block hW2), Below.heap_setCell _ _ _ _ hneB, Below.heap_setCell _ _ _ _ hneB]
      exact hW2
  · have h1 := ((own_set_other (own_set_other hown2 (p := ⟨B, 256, none⟩) hob v2) (p := ⟨B, x.toNat, none⟩) hob (.slice (some ⟨W2.heap.size, 0, none⟩) s.size cap)).alloc (.cells (bytesRow s cap) 5 fr)).drew
    have e1 : ps.length - (k + 1) + 1 = ps.length - k := by omega
    have e2 : ((ps.drop k).reverse.map fun p => Value.string ⟨#[p.1]⟩) = ((ps.drop (k + 1)).reverse.map fun p => Value.string ⟨#[p.1]⟩) ++ [Value.string ⟨#[x]⟩] := by
      rw [hdr, List.reverse_cons, List.map_append, List.map_singleton, hx]
    rw [e1, ← e2] at h1
    exact h1
  · have hb2' : Below w.heap.size w W2 := (((hbl.alloc hbl.size o1).alloc (by have := hbl.size; simp; omega) o2)).grown hg (by have := hbl.size; simp; omega) (fun g hgg => (hown.lt g hgg).1)
    exact (((hb2'.setCell (p := ⟨B, 256, none⟩) hBw v2).setCell (p := ⟨B, x.toNat, none⟩) hBw _).alloc (by rw [hz]; exact hb2'.size) _).drew

/-- The start of build's last loop. -/
theorem bstep_start (w : World) (ps : List (UInt8 × ByteArray)) (n : Nat) (hn : n ≤ maxLen) (C : Array Value) (hC : C.size = n) :
    BStep w ps (w.heap.size + 1) ps.length ((w.alloc (.cells C 9)).alloc (bsObj (.slice (some ⟨w.heap.size, 0, none⟩) 0 n))) := by
  refine ⟨bsCells (.slice (some ⟨w.heap.size, 0, none⟩) 0 n), _, ?_, bs_size _, bs_last _, ?_, ?_, ?_⟩
  · have := heap_alloc_new (w.alloc (.cells C 9)) (bsObj (.slice (some ⟨w.heap.size, 0, none⟩) 0 n))
    have e : (w.alloc (.cells C 9)).heap.size = w.heap.size + 1 := by simp
    rw [e] at this
    exact this
  · intro x
    rw [List.drop_of_length_le (Nat.le_refl _)]
    exact ⟨fun _ => bs_at _ _ (UInt8.toNat_lt x), fun s h => by cases h⟩
  · have h := (World.ownsRow_made (base := w.heap.size) (e := 9) (size := 1) w C n (Nat.le_refl _) hn (by omega)).alloc (bsObj (.slice (some ⟨w.heap.size, 0, none⟩) 0 n))
    rw [List.drop_of_length_le (Nat.le_refl _), Nat.sub_self]
    exact h
  · exact ((Below.refl _ w).alloc (Nat.le_refl _) _).alloc (by simp) _

/-- A byteStringReplacer at B that replaces as t says; its row of bytes is keys. -/
def BSR (lo B : Nat) (ps : List (UInt8 × ByteArray)) (wr : World) : Prop :=
  ∃ (cs : Array Value) (v : Value), wr.heap[B]? = some (.cells cs 190 (0, 0)) ∧ cs[256]? = some v ∧ TabOk lo cs (tabv ps) wr ∧
    wr.ownsRow lo 9 1 v ps.length (ps.reverse.map fun p => .string ⟨#[p.1]⟩)
def BuiltR (w : World) (ps : List (UInt8 × ByteArray)) (e : Ending) (w' : World) : Prop :=
  ∃ B, w.heap.size ≤ B ∧ e = .returned (.iface 191 (.pointer (some ⟨B, 0, none⟩))) ∧ BSR w.heap.size B ps w' ∧ Below w.heap.size w w'

set_option maxHeartbeats 2000000 in
set_option maxRecDepth 100000 in
theorem build_any (ps : List (UInt8 × ByteArray)) (R g m cap : Nat) (w : World) (hm : m = 2 * ps.length) (h0 : 0 < ps.length) (hn : ps.length ≤ 1000) (hv : ∀ p ∈ ps, p.2.size ≠ 1) (hnd : (ps.map (·.1)).Nodup) (hg : g < w.heap.size)
    (hR : w.cell? ⟨R, 4, none⟩ = some (.slice (some ⟨g, 0, none⟩) m cap)) (hc : ∀ j u, (pairCells ps)[j]? = some u → w.cell? ⟨g, j, none⟩ = some u) :
    Calls Tryz.prog 139 #[.pointer (some ⟨R, 0, none⟩)] w (BuiltR w ps) := by
  have hmb : (m : Int) ≤ 2000 := by omega
  have hmp : (0 : Int) < (m : Int) := by omega
  have hmk : m ≤ 2000 := by omega
  have hc0 : w.cell? ⟨g, 0, none⟩ = some (.string ⟨#[ps[0].1]⟩) := hc 0 _ (pairCells_at ps 0 h0).1
  have hat : ∀ k (hk : k < ps.length), w.cell? ⟨g, 2 * k, none⟩ = some (.string ⟨#[ps[k].1]⟩) ∧ w.cell? ⟨g, 2 * k + 1, none⟩ = some (.string ps[k].2) ∧ (((ps[k].2.size : Nat) : Int) != 1) = true := fun k hk =>
    ⟨hc _ _ (pairCells_at ps k hk).1, hc _ _ (pairCells_at ps k hk).2, by rw [bne_iff_ne]; have := hv _ (List.getElem_mem hk); omega⟩
  obtain ⟨i0, hi, hz0, hz1, hz2⟩ := info_parts repl_string
  obtain ⟨n, hnn⟩ : ∃ n, ps.length = n := ⟨_, rfl⟩
  have hdiv : ((m : Nat) : Int) / 2 = (n : Int) := by omega
  have hms : ∀ W : World, (Instr.makeSlice 22 (.int .i64 0) (.int .i64 (n : Int))).run Tryz.prog W = .ok (.slice (some ⟨W.heap.size, 0, none⟩) 0 n) (W.alloc (.cells (madeCells #[.string ⟨#[]⟩] n) 9)) := fun W => by
    have h := run_make_rowN (P := Tryz.prog) 22 9 i0 _ Tryz.underlying22 hi hz0 .i64 .i64 0 n (Nat.zero_le _) (by rw [hz2]; omega) (by omega) W
    rw [hz1] at h
    simpa [Value.cells] using h
  clear hi hz0 hz1 hz2
  have HN := Lib.hid hnn
  have HND := Lib.hid hnd
  clear hnd
  have qT : ∀ (w : World) (a : Option Addr) (n c n' c' : Nat), (binOp .eql 105 (.slice a n c) (.slice none n' c')).run Tryz.prog w = .ok (.bool a.isNone) w := fun w a n c n' c' => Lib.run_eql_slice_nil w _ _ a n c n' c' Tryz.underlying105
  clear hnn
  have hb3 := bs_store
  have HAT := Lib.hid hat
  have HM := Lib.hid hm
  clear hat hc hv
  obtain ⟨bb, hbb⟩ : ∃ bb, (((m : Nat) : Int) == 2) = bb := ⟨_, rfl⟩
  clear hm
  go_enter Tryz.func139, Tryz.ntmps139
  cases bb
  all_goals
    go_wp2_with fail
    go_loop [4, 5] (fun al i => ∃ (q k : Nat) (b : Bool), al = .bool b ∧ i = .int .i64 q ∧ q = 2 * k ∧ k ≤ ps.length ∧ (b = true → k = 0)) (fun _ i => m - (intOf i).toNat)
    case atStart => exact ⟨0, 0, true, rfl, rfl, rfl, Nat.zero_le _, fun _ => rfl⟩
    case round =>
      obtain ⟨q, k, b, rfl, rfl, hq, hk, hb⟩ := hrel
      have HB := Lib.hid hb
      clear hb
      by_cases hlt : k < ps.length
      · obtain ⟨e0, e1, e2⟩ := HAT.out k hlt
        rw [← hq] at e0 e1
        have hqm : q + 1 < m := by have := HM.out; omega
        have hqi : (q : Int) + 1 < (m : Int) := by omega
        have hqj : (q : Int) < (m : Int) := by omega
        have HQ := Lib.hid hq
        clear hq
        go_wp2
        go_round
        case rel => exact ⟨q + 2, k + 1, false, rfl, by go_num, by have := HQ.out; omega, by omega, fun h => by cases h⟩
        case measure => simp [intOf]; omega
      · obtain rfl : q = m := by have := HM.out; omega
        have hkz : b = false := by
          cases b
          · rfl
          · have := HB.out rfl; omega
        subst hkz
        clear HB hq
        go_wp2_with fail
        go_loopw [12] (fun i wr => ∃ (z : Int) (k : Nat), i = .int .i64 z ∧ z = 2 * (k : Int) - 2 ∧ k ≤ ps.length ∧ BStep w ps (w.heap.size + 1) k wr) (fun i _ => (intOf i + 2).toNat)
        case atStart =>
          refine ⟨_, ps.length, rfl, ?_, Nat.le_refl _, ?_⟩
          · have := HM.out; omega
          · exact bstep_start w ps n (by unfold maxLen; have := HN.out; omega) _ (by simp [madeCells])
        case round =>
          obtain ⟨z, k, rfl, hz, hk, hbs⟩ := hrel
          by_cases hkz : k = 0
          · obtain rfl : z = -2 := by omega
            subst hkz
            have HB := Lib.hid hbs
            clear hbs hz
            go_wp2
            go_ret
            obtain ⟨cs, v, q1, _, q2, q3, q4, q5⟩ := HB.out
            exact ⟨w.heap.size + 1, by omega, rfl, ⟨cs, v, q1, q2, by simpa using q3, by simpa using q4⟩, q5⟩
          · obtain ⟨k', rfl⟩ : ∃ k', k = k' + 1 := ⟨k - 1, by omega⟩
            obtain ⟨q', hq'⟩ : ∃ q' : Nat, z = q' := ⟨2 * k', by omega⟩
            subst hq'
            obtain ⟨cs, v, hB, hcs, hv, htab, hown, hbl⟩ := hbs
            have hkl : k' < ps.length := by omega
            obtain ⟨e0, e1, _⟩ := HAT.out k' hkl
            obtain ⟨x, hx⟩ : ∃ x, ps[k'].1 = x := ⟨_, rfl⟩
            obtain ⟨s, hs⟩ : ∃ s, ps[k'].2 = s := ⟨_, rfl⟩
            rw [hx] at e0
            rw [hs] at e1
            have hqk : q' = 2 * k' := by omega
            rw [← hqk] at e0 e1
            have f0 : wr.cell? ⟨g, q', none⟩ = some (.string ⟨#[x]⟩) := (hbl.cell (p := ⟨g, q', none⟩) hg).trans e0
            have f1 : wr.cell? ⟨g, q' + 1, none⟩ = some (.string s) := (hbl.cell (p := ⟨g, q' + 1, none⟩) hg).trans e1
            have hqi : (q' : Int) + 1 < (q : Int) := by have := HM.out; omega
            have hqj : (q' : Int) < (q : Int) := by omega
            have hqn : q' + 1 < q := by omega
            obtain ⟨A, nn, cc, rfl⟩ := own_slice hown
            have b256 : wr.cell? ⟨w.heap.size + 1, 256, none⟩ = some (.slice A nn cc) := by rw [cell_of_row wr _ 256 cs _ (0, 0) hB]; exact hv
            have bx : wr.cell? ⟨w.heap.size + 1, x.toNat, none⟩ = some (.slice none 0 0) := by
              rw [cell_of_row wr _ _ cs _ (0, 0) hB]
              refine (htab x).1 (tabv_fresh ps k' hkl x hx HND.out)
            have hlit : ∀ h, (⟨#[x]⟩ : ByteArray)[0]'h = x := fun _ => rfl
            have hx8 : (x.toNat : Int) < 256 := by have := UInt8.toNat_lt x; omega
            have hx9 : x.toNat < 256 := UInt8.toNat_lt x
            have HS := Lib.hid hs
            have HX := Lib.hid hx
            have HO := Lib.hid hown
            have HT := Lib.hid htab
            have HV := Lib.hid hv
            have HBB := Lib.hid hB
            have HCS := Lib.hid hcs
            have HQ := Lib.hid hqk
            have HBL := Lib.hid hbl
            clear e0 e1 hown htab hv hB hcs hs hx hqk hz hbl
            have hconv : ∀ W : World, (convert 105 9 (.slice (some ⟨W.heap.size, 0, none⟩) 1 1)).run Tryz.prog (W.alloc (.cells #[.int .u8 (x.toNat : Int)] 5)) = .ok (.string ⟨#[x]⟩) (W.alloc (.cells #[.int .u8 (x.toNat : Int)] 5)) := conv_one x
            have hcb := fun W => run_bytes_of_string (P := Tryz.prog) W 9 105 5 s Tryz.underlying9 Tryz.underlying105 Tryz.underlying5
            have HO2 := (HO.out.alloc (.cells #[.int .u8 (x.toNat : Int)] 5)).alloc (.cells #[.string ⟨#[x]⟩] 9)
            go_wp2_with (at_builtin; have hI := info_parts repl_string; obtain ⟨i0, hi, hz0, hz1, hz2⟩ := hI; (refine wpList_append_own_at _ rfl _ _ 22 rfl w.heap.size 9 i0 _ 1 16 Tryz.underlying22 hi hz0 hz1 hz2 rfl (by decide) (.slice A nn cc) (ps.length - (k' + 1)) _ rfl HO2 ⟨wr.heap.size + 1, 0, none⟩ 1 1 [.string ⟨#[x]⟩] rfl rfl ?c1 ?c2 ?c3 ?c4 ?c5 ?_))
            case c1 =>
              have e : (wr.alloc (.cells #[.int .u8 (x.toNat : Int)] 5)).heap.size = wr.heap.size + 1 := by simp
              rw [← e]
              exact cell_one_new _ _ _
            case c2 => intro u hu; rw [List.mem_singleton.1 hu]; rfl
            case c3 => unfold maxLen; omega
            case c4 => omega
            case c5 => have := HBL.out.size; simp; omega
            intro v2 W2 hown2 hgr2 _ hob2
            obtain ⟨A2, n2, c2', rfl⟩ := own_slice hown2
            have hBlt : w.heap.size + 1 < wr.heap.size := lt_of_block HBB.out
            have hne := own_ne_block HO.out HBB.out (by decide)
            have hB2 : W2.heap[w.heap.size + 1]? = some (.cells cs 190 (0, 0)) := by
              refine (hgr2.block _ (by simp; omega) (fun e => hne e.symm)).trans ?_
              exact ((Below.heap_alloc _ _ _ (by simp; omega)).trans (Below.heap_alloc wr _ _ hBlt)).trans HBB.out
            have hBl2 : w.heap.size + 1 < W2.heap.size := lt_of_block hB2
            have d1 : W2.cell? ⟨w.heap.size + 1, 256, none⟩ = some (.slice A nn cc) := by rw [cell_of_row W2 _ 256 cs _ (0, 0) hB2]; exact HV.out
            have d2 : W2.frozen? ⟨w.heap.size + 1, 256, none⟩ = false := by simp [World.frozen?, hB2]
            have hB3 := set_block hB2 256 (.slice A2 n2 c2')
            have d3 : (W2.setCell ⟨w.heap.size + 1, 256, none⟩ (.slice A2 n2 c2')).cell? ⟨w.heap.size + 1, x.toNat, none⟩ = some (.slice none 0 0) := by
              rw [cell_of_row _ _ _ _ _ (0, 0) hB3, Array.getElem?_setIfInBounds_ne (by omega)]
              exact (HT.out x).1 (tabv_fresh ps k' hkl x HX.out HND.out)
            have d4 : (W2.setCell ⟨w.heap.size + 1, 256, none⟩ (.slice A2 n2 c2')).frozen? ⟨w.heap.size + 1, x.toNat, none⟩ = false := by simp [World.frozen?, hB3]
            have d5 : (W2.setCell ⟨w.heap.size + 1, 256, none⟩ (.slice A2 n2 c2')).heap.size = W2.heap.size := by simp [World.setCell]
            have HB2 := Lib.hid hB2
            have HB3 := Lib.hid hB3
            have HW2 := Lib.hid hown2
            have HG2 := Lib.hid hgr2
            have HOB := Lib.hid hob2
            clear hB2 hB3 hown2 hgr2 hob2 b256 bx f0 f1
            go_wp2
            go_roundw
            case rel =>
              refine ⟨_, k', rfl, by have := HQ.out; omega, by omega, ?_⟩
              have h2 := HW2.out
              rw [← List.map_drop, ← List.map_reverse] at h2
              exact bstep_round hkl HX.out HS.out (by omega) HBB.out HCS.out HT.out HO.out HBL.out HG2.out HB2.out h2
            case measure => simp [intOf]; omega

def rep1 (ps : List (UInt8 × ByteArray)) (b : UInt8) : List UInt8 := match tabv ps b with | none => [b] | some s => s.data.toList
/-- What Replace comes to. -/
def repl (ps : List (UInt8 × ByteArray)) (l : List UInt8) : List UInt8 := (l.map (rep1 ps)).flatten
/-- What the pairs of L add to a text's length. -/
def adj (L : List (UInt8 × ByteArray)) (l : List UInt8) : Int := (L.map fun p => (l.count p.1 : Int) * ((p.2.size : Int) - 1)).sum
def adj1 (ps : List (UInt8 × ByteArray)) (b : UInt8) : Int := match tabv ps b with | none => 0 | some s => (s.size : Int) - 1

theorem rep1_len (ps : List (UInt8 × ByteArray)) (b : UInt8) : ((rep1 ps b).length : Int) = 1 + adj1 ps b := by
  unfold rep1 adj1
  cases tabv ps b with
  | none => rfl
  | some s =>
    have e : s.data.toList.length = s.size := Array.length_toList
    simp only [e]
    omega
theorem repl_cons (ps : List (UInt8 × ByteArray)) (b : UInt8) (l : List UInt8) : repl ps (b :: l) = rep1 ps b ++ repl ps l := rfl
theorem repl_append (ps : List (UInt8 × ByteArray)) (l k : List UInt8) : repl ps (l ++ k) = repl ps l ++ repl ps k := by
  unfold repl; rw [List.map_append, List.flatten_append]
theorem adj_nil (L : List (UInt8 × ByteArray)) : adj L [] = 0 := by
  unfold adj
  induction L with
  | nil => rfl
  | cons p L ih => rw [List.map_cons, List.sum_cons, ih]; simp
theorem tabv_none {ps : List (UInt8 × ByteArray)} {x : UInt8} (h : x ∉ ps.map (·.1)) : tabv ps x = none := by
  induction ps with
  | nil => rfl
  | cons p l ih =>
    rw [List.map_cons, List.mem_cons, not_or] at h
    rw [tabv, if_neg (fun e => h.1 e.symm)]
    exact ih h.2
theorem tabv_mem {ps : List (UInt8 × ByteArray)} {x : UInt8} {s : ByteArray} (h : tabv ps x = some s) : (x, s) ∈ ps := by
  induction ps with
  | nil => cases h
  | cons p l ih =>
    rw [tabv] at h
    split at h
    · rename_i e; cases h; rw [← e]; simp
    · exact List.mem_cons_of_mem _ (ih h)
theorem tabv_of_mem {ps : List (UInt8 × ByteArray)} {p : UInt8 × ByteArray} (hnd : (ps.map (·.1)).Nodup) (h : p ∈ ps) : tabv ps p.1 = some p.2 := by
  induction ps with
  | nil => cases h
  | cons q l ih =>
    rw [List.map_cons, List.nodup_cons] at hnd
    rw [tabv]
    rcases List.mem_cons.1 h with rfl | h
    · rw [if_pos rfl]
    · rw [if_neg (fun e => hnd.1 (by rw [e]; exact List.mem_map_of_mem h))]
      exact ih hnd.2 h
theorem adj_cons (ps : List (UInt8 × ByteArray)) (hnd : (ps.map (·.1)).Nodup) (b : UInt8) (l : List UInt8) : adj ps (b :: l) = adj1 ps b + adj ps l := by
  induction ps with
  | nil => simp [adj, adj1, tabv]
  | cons p ps ih =>
    rw [List.map_cons, List.nodup_cons] at hnd
    have h := ih hnd.2
    have e1 : ∀ k, adj (p :: ps) k = (k.count p.1 : Int) * ((p.2.size : Int) - 1) + adj ps k := fun k => by unfold adj; rw [List.map_cons, List.sum_cons]
    rw [e1, e1, h, List.count_cons]
    unfold adj1
    rw [tabv]
    by_cases hb : p.1 = b
    · subst hb
      have hn : tabv ps p.1 = none := tabv_none hnd.1
      simp only [beq_self_eq_true, if_true, hn]
      have e : ((l.count p.1 + 1 : Nat) : Int) = (l.count p.1 : Int) + 1 := by omega
      rw [e, Int.add_mul, Int.one_mul]
      omega
    · have hb' : (b == p.1) = false := by rw [beq_eq_false_iff_ne]; exact fun e => hb e.symm
      rw [if_neg hb, hb']
      simp only [Bool.false_eq_true, if_false, Nat.add_zero]
      omega
theorem repl_len (ps : List (UInt8 × ByteArray)) (hnd : (ps.map (·.1)).Nodup) : ∀ l : List UInt8, ((repl ps l).length : Int) = l.length + adj ps l
  | [] => by rw [adj_nil]; rfl
  | b :: l => by
    have h := repl_len ps hnd l
    have h1 := rep1_len ps b
    rw [repl_cons, adj_cons ps hnd, List.length_append, List.length_cons]
    omega
theorem adj_reverse (L : List (UInt8 × ByteArray)) (l : List UInt8) : adj L.reverse l = adj L l := by
  unfold adj; rw [List.map_reverse, List.sum_reverse]
theorem adj_take (L : List (UInt8 × ByteArray)) (l : List UInt8) (k : Nat) (hk : k < L.length) : adj (L.take (k + 1)) l = adj (L.take k) l + (l.count L[k].1 : Int) * ((L[k].2.size : Int) - 1) := by
  unfold adj
  rw [List.take_succ_eq_append_getElem hk, List.map_append, List.sum_append, List.map_singleton, List.sum_singleton]
theorem adj_term (l : List UInt8) (p : UInt8 × ByteArray) (hp : p.2.size ≤ 8) : -(l.length : Int) ≤ (l.count p.1 : Int) * ((p.2.size : Int) - 1) ∧ (l.count p.1 : Int) * ((p.2.size : Int) - 1) ≤ 8 * l.length := by
  have hc : (l.count p.1 : Int) ≤ l.length := by have := List.count_le_length (a := p.1) (l := l); omega
  have h0 : (0 : Int) ≤ (l.count p.1 : Int) := by omega
  generalize (l.count p.1 : Int) = c at *
  have hs : p.2.size = 0 ∨ p.2.size = 1 ∨ p.2.size = 2 ∨ p.2.size = 3 ∨ p.2.size = 4 ∨ p.2.size = 5 ∨ p.2.size = 6 ∨ p.2.size = 7 ∨ p.2.size = 8 := by omega
  rcases hs with h | h | h | h | h | h | h | h | h <;> rw [h] <;> constructor <;> omega
theorem adj_bound (l : List UInt8) : ∀ (L : List (UInt8 × ByteArray)), (∀ p ∈ L, p.2.size ≤ 8) → -((L.length : Int) * l.length) ≤ adj L l ∧ adj L l ≤ 8 * ((L.length : Int) * l.length)
  | [], _ => by simp [adj]
  | p :: L, h => by
    have ih := adj_bound l L (fun q hq => h q (List.mem_cons_of_mem _ hq))
    have ht := adj_term l p (h p (by simp))
    have e : adj (p :: L) l = (l.count p.1 : Int) * ((p.2.size : Int) - 1) + adj L l := by unfold adj; rw [List.map_cons, List.sum_cons]
    have e2 : (((p :: L).length : Nat) : Int) * (l.length : Int) = (L.length : Int) * l.length + l.length := by rw [List.length_cons]; push_cast; rw [Int.add_mul, Int.one_mul]
    rw [e, e2]
    omega
theorem repl_same (ps : List (UInt8 × ByteArray)) : ∀ l : List UInt8, (∀ b ∈ l, tabv ps b = none) → repl ps l = l
  | [], _ => rfl
  | b :: l, h => by
    rw [repl_cons, repl_same ps l (fun c hc => h c (List.mem_cons_of_mem _ hc)), rep1, h b (by simp)]
    rfl
theorem rep1_le (ps : List (UInt8 × ByteArray)) (hp : ∀ p ∈ ps, p.2.size ≤ 8) (b : UInt8) : (rep1 ps b).length ≤ 8 := by
  unfold rep1
  cases h : tabv ps b with
  | none => simp
  | some s =>
    have := hp _ (tabv_mem h)
    have e : s.data.toList.length = s.size := Array.length_toList
    simp only [e]
    exact this
theorem repl_le (ps : List (UInt8 × ByteArray)) (hp : ∀ p ∈ ps, p.2.size ≤ 8) : ∀ l : List UInt8, (repl ps l).length ≤ 8 * l.length
  | [] => Nat.le_refl _
  | b :: l => by
    have := repl_le ps hp l
    have := rep1_le ps hp b
    rw [repl_cons, List.length_append, List.length_cons]
    omega
theorem repl_take (ps : List (UInt8 × ByteArray)) (l : List UInt8) (k : Nat) (hk : k < l.length) : repl ps (l.take (k + 1)) = repl ps (l.take k) ++ rep1 ps l[k] := by
  rw [List.take_succ_eq_append_getElem hk, repl_append]
  show _ ++ (rep1 ps l[k] ++ []) = _
  rw [List.append_nil]
theorem repl_split (ps : List (UInt8 × ByteArray)) (l : List UInt8) (k : Nat) : repl ps l = repl ps (l.take k) ++ repl ps (l.drop k) := by
  rw [← repl_append, List.take_append_drop]
end Go.Proofs.YtdkjenbncmedbaaGreatDoor
