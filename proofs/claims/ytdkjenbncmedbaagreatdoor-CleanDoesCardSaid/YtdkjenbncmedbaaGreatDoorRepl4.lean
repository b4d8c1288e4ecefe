/- (*strings.byteStringReplacer).Replace: the text with each byte replaced as the pairs say. strings.NewReplacer(..).Replace(s) at pairs of one byte and a text that is not one byte. -/
import Derived.Test.YtdkjenbncmedbaaGreatDoorRepl2
import Derived.Lib.Bytealg
import Derived.Laws.CopyOwn
import Derived.Deep.RegionLaw
import Derived.Deep.QuietTactic
import Derived.BigQuiet
import Derived.IntWalk
import Derived.WalkSpells
namespace Go.Proofs.YtdkjenbncmedbaaGreatDoor
open Go.RowKit

set_option maxRecDepth 100000 in
theorem count_one (s : ByteArray) (c : UInt8) (w : World) : Calls Tryz.prog 141 #[.string s, .string ⟨#[c]⟩] w fun e w' => e = .returned (.int .i64 (s.data.toList.count c : Nat)) ∧ w = w' := by
  have hlit : ∀ h, (⟨#[c]⟩ : ByteArray)[0]'h = c := fun _ => rfl
  go_enter Tryz.func141, Tryz.ntmps141
  go_wp2
  rw [run_callFunc_extern Tryz.func152 (by kernel_rfl) (by kernel_rfl) (by kernel_rfl) (e := Extern.BytealgCount.count) (by kernel_rfl), Lib.run_countString]
  simp only [Result.andThen]
  rw [Oper.upon_value]
  go_wp2
  go_ret
  refine ⟨?_, rfl⟩
  simp [Lib.countByte]

theorem repl_byte : (Tryz.prog.info? 5).map (fun i => (i.zero, i.size, i.bytes)) = some (some (.int .u8 0), 1, 1) := by kernel_rfl
/-- The cells of the buffer when `out` has been written, of N bytes. -/
def bufCells (out : List UInt8) (N : Nat) : List Value := (out.map fun b => Value.int .u8 (b.toNat : Int)) ++ List.replicate (N - out.length) (Value.int .u8 0)
def bufObj (out : List UInt8) (N : Nat) : Obj := .cells (bufCells out N).toArray 5
theorem bufCells_len (out : List UInt8) (N : Nat) (h : out.length ≤ N) : (bufCells out N).length = N := by
  unfold bufCells; rw [List.length_append, List.length_map, List.length_replicate]; omega
theorem bufCells_at (out : List UInt8) (N j : Nat) (h : j < N) : ∃ u, (bufCells out N)[j]? = some u := by
  unfold bufCells
  by_cases hj : j < out.length
  · rw [List.getElem?_append_left (by simpa using hj)]
    exact ⟨_, List.getElem?_eq_getElem (by simpa using hj)⟩
  · rw [List.getElem?_append_right (by simp; omega), List.getElem?_replicate, if_pos (by simp; omega)]
    exact ⟨_, rfl⟩
theorem bufCells_set (out : List UInt8) (N : Nat) (b : UInt8) (h : out.length < N) : (bufCells out N).set out.length (.int .u8 (b.toNat : Int)) = bufCells (out ++ [b]) N := by
  unfold bufCells
  rw [List.set_append_right _ _ (by simp), List.map_append, List.append_assoc, List.length_append]
  congr 1
  obtain ⟨m, hm⟩ : ∃ m, N - out.length = m + 1 := ⟨N - out.length - 1, by omega⟩
  rw [hm, List.replicate_succ]
  simp only [List.length_map, Nat.sub_self, List.set_cons_zero, List.map_cons, List.map_nil, List.singleton_append, List.length_cons, List.length_nil]
  congr 2
  omega
theorem bufCells_splice (out x : List UInt8) (N : Nat) (h : out.length + x.length ≤ N) : splice (bufCells out N) out.length (x.map fun b => Value.int .u8 (b.toNat : Int)) = bufCells (out ++ x) N := by
  unfold splice bufCells
  rw [List.take_append_of_le_length (by simp), List.take_of_length_le (by simp), List.drop_append, List.drop_of_length_le (by simp), List.nil_append, List.map_append, List.append_assoc]
  congr 2
  rw [List.length_append]
  simp only [List.length_map, List.drop_replicate]
  congr 1
  omega
theorem src_cells {w : World} {gg : Nat} {C : Array Value} {fr : Nat × Nat} {u : ByteArray} (hb : w.heap[gg]? = some (.cells C 5 fr)) (hc : ∀ j (hj : j < u.size), C[j]? = some (.int .u8 (u[j].toNat : Int))) :
    ∀ j v, (u.data.toList.map fun b => Value.int .u8 (b.toNat : Int))[j]? = some v → w.cell? ((⟨gg, 0, none⟩ : Addr).add j) = some v := by
  intro j v h
  rw [List.getElem?_map] at h
  obtain ⟨b, hb2, rfl⟩ := Option.map_eq_some_iff.1 h
  obtain ⟨hj, hb3⟩ := List.getElem?_eq_some_iff.1 hb2
  have hj' : j < u.size := by rw [Array.length_toList] at hj; exact hj
  rw [Addr.add_mid, Nat.zero_add, cell_of_row w gg j C _ fr hb, hc j hj', ← hb3]
  rfl
theorem below_dn {B : Nat} {a w : World} (h : Below B a w) (n : Nat) : Below B a (w.drewN n) := ⟨h.os, h.tape, h.output, h.size, h.block⟩
def FillW (ps : List (UInt8 × ByteArray)) (l : List UInt8) (N : Nat) (w : World) (j i : Value) (wr : World) : Prop :=
  ∃ k q : Nat, i = .int .i64 k ∧ k ≤ l.length ∧ j = .int .i64 q ∧ q = (repl ps (l.take k)).length ∧ wr.heap[w.heap.size]? = some (bufObj (repl ps (l.take k)) N) ∧ Below w.heap.size w wr

/-- What Replace leaves. -/
def ReplR (ps : List (UInt8 × ByteArray)) (s : ByteArray) (w : World) (e : Ending) (w' : World) : Prop := e = .returned (.string ⟨(repl ps s.data.toList).toArray⟩) ∧ Below w.heap.size w w'
/-- What the first half leaves in its two variables. -/
def SzAny (ps : List (UInt8 × ByteArray)) (l : List UInt8) (s5 s6 : Value) : Prop := ∃ b : Bool, s6 = .bool b ∧ s5 = .int .i64 ((repl ps l).length : Nat) ∧ (b = false → ∀ x ∈ l, tabv ps x = none)
def Cnt (ps : List (UInt8 × ByteArray)) (l : List UInt8) (s5 s6 s32 : Value) : Prop :=
  ∃ (k : Nat) (b : Bool) (z : Int), s32 = .int .i64 k ∧ k ≤ ps.length ∧ s5 = .int .i64 z ∧ z = (l.length : Int) + adj (ps.reverse.take k) l ∧ s6 = .bool b ∧ (b = false → ∀ p ∈ ps.reverse.take k, l.count p.1 = 0)
def Lin (ps : List (UInt8 × ByteArray)) (l : List UInt8) (s5 s6 s10 : Value) : Prop :=
  ∃ (k : Nat) (b : Bool) (z : Int), s10 = .int .i64 k ∧ k ≤ l.length ∧ s5 = .int .i64 z ∧ z = ((repl ps (l.take k)).length : Int) + ((l.length : Int) - k) ∧ s6 = .bool b ∧ (b = false → ∀ x ∈ l.take k, tabv ps x = none)

theorem szb {l : List UInt8} {L ps : List (UInt8 × ByteArray)} {k : Nat} {s : ByteArray} {z : Int} (hk : k ≤ ps.length) (hn : ps.length ≤ 100) (hsl : l.length = s.size) (hs : s.size ≤ 1099511627776) (hz : z = (l.length : Int) + adj (L.take k) l)
    (hb : -(((L.take k).length : Int) * l.length) ≤ adj (L.take k) l ∧ adj (L.take k) l ≤ 8 * (((L.take k).length : Int) * l.length)) : -1099511627776000 ≤ z ∧ z ≤ 1099511627776000 := by
  have h1 : (L.take k).length ≤ 100 := by rw [List.length_take]; omega
  have h2 : (((L.take k).length : Int) * l.length) ≤ 100 * l.length := Int.mul_le_mul_of_nonneg_right (by omega) (by omega)
  rw [hsl] at *
  omega
theorem hSLn {s : ByteArray} (h : s.data.toList.length = s.size) : ((s.data.toList.length : Nat) : Int) = (s.size : Int) := by rw [h]

set_option maxHeartbeats 4000000 in
set_option maxRecDepth 100000 in
theorem replace_any (ps : List (UInt8 × ByteArray)) (lo B : Nat) (s : ByteArray) (w : World) (h0 : 0 < ps.length) (hn : ps.length ≤ 100) (hv : ∀ p ∈ ps, p.2.size ≤ 8) (hnd : (ps.map (·.1)).Nodup) (hs : s.size ≤ 1099511627776) (hB : BSR lo B ps w) :
    Calls Tryz.prog 207 #[.pointer (some ⟨B, 0, none⟩), .string s] w (ReplR ps s w) := by
  obtain ⟨cs, v, hb, hcv, ht, hown⟩ := hB
  obtain ⟨g, cap, rfl, hge, hgl⟩ := hown.form h0
  have hsl : s.data.toList.length = s.size := Array.length_toList
  have b256 : w.cell? ⟨B, 256, none⟩ = some (.slice (some ⟨g, 0, none⟩) ps.length cap) := by rw [cell_of_row w _ 256 cs _ (0, 0) hb]; exact hcv
  have hrow : ∀ k (hk : k < ps.reverse.length), w.cell? ⟨g, k, none⟩ = some (.string ⟨#[ps.reverse[k].1]⟩) := by
    intro k hk
    have := hown.cellAt k (by rw [List.length_reverse] at hk; omega)
    rw [this, List.getElem?_map, List.getElem?_eq_getElem hk]
    rfl
  have hcell : ∀ x : UInt8, (tabv ps x = none → w.cell? ⟨B, x.toNat, none⟩ = some (.slice none 0 0)) ∧ ∀ u, tabv ps x = some u → ∃ (gg c : Nat) (C : Array Value) (fr : Nat × Nat), w.cell? ⟨B, x.toNat, none⟩ = some (.slice (some ⟨gg, 0, none⟩) u.size c) ∧ w.heap[gg]? = some (.cells C 5 fr) ∧ ∀ j (hj : j < u.size), C[j]? = some (.int .u8 (u[j].toNat : Int)) := by
    intro x
    rw [cell_of_row w _ _ cs _ (0, 0) hb]
    refine ⟨(ht x).1, fun u hu => ?_⟩
    obtain ⟨gg, c, C, fr, q1, _, q3, q4⟩ := (ht x).2 u hu
    exact ⟨gg, c, C, fr, q1, q3, q4⟩
  have hBw : B < w.heap.size := lt_of_block hb
  have HROW := Lib.hid hrow
  have HCELL := Lib.hid hcell
  have HND := Lib.hid hnd
  have HSL := Lib.hid hsl
  have HV := Lib.hid hv
  have hcnt : ∀ (s : ByteArray) (c : UInt8) (w : World), Calls Tryz.prog 141 #[.string s, .string ⟨#[c]⟩] w fun e w' => e = .returned (.int .i64 (s.data.toList.count c : Nat)) ∧ w = w' := count_one
  have HCNT := Lib.hid hcnt
  have qN : ∀ (w : World) (a : Option Addr) (n c n' c' : Nat), (binOp .neq 105 (.slice a n c) (.slice none n' c')).run Tryz.prog w = .ok (.bool (!a.isNone)) w := fun w a n c n' c' => run_neq_slice_nil_any w _ _ a n c n' c' Tryz.underlying105
  clear hb hcv ht hown hrow hcell hnd hsl hv hcnt
  obtain ⟨bb, hbb⟩ : ∃ bb, decide ((ps.length : Int) * 8 ≤ (s.size : Int)) = bb := ⟨_, rfl⟩
  go_enter Tryz.func207, Tryz.ntmps207
  go_upto_if 26 with (fail)
  go_cut [5, 6] (fun s5 s6 wx => (∃ d, wx = w.drewN d) ∧ SzAny ps s.data.toList s5 s6)
  case first =>
    rcases hbb' : bb with _ | _
    rotate_left
    · subst hbb'
      go_wp2_with fail
      go_loopw [5, 6, 32] (fun s5 s6 s32 wr => Cnt ps s.data.toList s5 s6 s32 ∧ ∃ d, wr = w.drewN d) (fun _ _ i _ => ps.length - (intOf i).toNat)
      case atStart => exact ⟨⟨0, false, _, rfl, Nat.zero_le _, rfl, by simp [adj, HSL.out], rfl, by simp⟩, 0, rfl⟩
      case round =>
        obtain ⟨⟨k, b, z, rfl, hk, rfl, hz, rfl, hb⟩, d, rfl⟩ := hrel
        have HBF := Lib.hid hb
        clear hb
        have hbd := adj_bound s.data.toList (ps.reverse.take k) (fun p hp => HV.out p (List.mem_reverse.1 (List.mem_of_mem_take hp)))
        have hzb : -1099511627776000 ≤ z ∧ z ≤ 1099511627776000 := szb hk hn HSL.out hs hz hbd
        have HZ := Lib.hid hz
        clear hz hbd
        obtain ⟨hz1, hz2⟩ := hzb
        by_cases hlt : k < ps.length
        · have hkr : k < ps.reverse.length := by rw [List.length_reverse]; exact hlt
          obtain ⟨p, hp⟩ : ∃ p, ps.reverse[k] = p := ⟨_, rfl⟩
          have hmem : p ∈ ps := by rw [← hp]; exact List.mem_reverse.1 (List.getElem_mem hkr)
          have hcr := HROW.out k hkr
          rw [hp] at hcr
          obtain ⟨x, u⟩ := p
          obtain ⟨gg, c, C, fr, e1, _, _⟩ := (HCELL.out x).2 u (tabv_of_mem HND.out hmem)
          have hterm := adj_term s.data.toList (x, u) (HV.out _ hmem)
          have htk := adj_take ps.reverse s.data.toList k hkr
          rw [hp] at htk
          obtain ⟨n, hcn⟩ : ∃ n, s.data.toList.count x = n := ⟨_, rfl⟩
          have hnle : n ≤ s.size := by rw [← hcn, ← HSL.out]; exact List.count_le_length
          simp only [hcn] at hterm htk
          have HTK := Lib.hid htk
          have HP := Lib.hid hp
          have HCN := Lib.hid hcn
          have hu8 : u.size ≤ 8 := HV.out _ hmem
          have hlit : ∀ h, (⟨#[x]⟩ : ByteArray)[0]'h = x := fun _ => rfl
          have hx8 : (x.toNat : Int) < 256 := by have := UInt8.toNat_lt x; omega
          have hx9 : x.toNat < 256 := UInt8.toNat_lt x
          have hki : (k : Int) < (ps.length : Int) := by omega
          clear htk hp hcn hmem
          go_wp2_with fail
          refine Calls.mono (HCNT.out s x _) ?_
          rintro e w' ⟨rfl, rfl⟩
          rw [HCN.out]
          obtain ⟨T, hT⟩ : ∃ T, (n : Int) * ((u.size : Int) - 1) = T := ⟨_, rfl⟩
          rw [hT] at hterm
          rw [hSLn HSL.out] at hterm
          obtain ⟨ht1, ht2⟩ := hterm
          have v1 : IntKind.i64.wrap ((u.size : Int) - 1) = (u.size : Int) - 1 := IntWalk.i64_in _ (by omega)
          have v2 : IntKind.i64.wrap ((n : Int) * ((u.size : Int) - 1)) = T := by rw [hT]; exact IntWalk.i64_in _ (by omega)
          have v3 : IntKind.i64.wrap (z + T) = z + T := IntWalk.i64_in _ (by omega)
          by_cases hn0 : n = 0
          · subst hn0
            have hT0 : T = 0 := by rw [← hT]; simp
            have HT0 := Lib.hid hT0
            clear hT hT0
            go_wp2
            go_roundw
            case rel =>
              refine ⟨⟨k + 1, b, _, by go_num, by omega, rfl, ?_, rfl, ?_⟩, d, rfl⟩
              · rw [HZ.out, HTK.out]; simp
              · intro hbf q hq
                rw [List.take_succ_eq_append_getElem hkr] at hq
                rcases List.mem_append.1 hq with hq | hq
                · exact HBF.out hbf q hq
                · rw [List.mem_singleton.1 hq, HP.out]; exact HCN.out
            case measure => simp [intOf]; omega
          · have hnb : (((n : Nat) : Int) != 0) = true := by rw [bne_iff_ne]; omega
            have HTT := Lib.hid hT
            clear hT
            go_wp2_with fail
            go_quiet (fail)
            go_wp2
            go_roundw
            case rel =>
              refine ⟨⟨k + 1, true, _, by go_num, by omega, rfl, ?_, rfl, (fun h => by cases h)⟩, _, rfl⟩
              rw [HZ.out, HTK.out, HTT.out]; omega
            case measure => simp [intOf]; omega
        · obtain rfl : k = ps.length := by omega
          go_wp2
          go_meet
          refine ⟨⟨d, rfl⟩, b, rfl, ?_, ?_⟩
          · have e := HZ.out
            rw [List.take_of_length_le (by rw [List.length_reverse]; exact Nat.le_refl _), adj_reverse] at e
            rw [repl_len ps HND.out, ← e]
          · intro hbf x hx
            refine tabv_none fun hm => ?_
            obtain ⟨p, hp, rfl⟩ := List.mem_map.1 hm
            have h := HBF.out hbf p (by rw [List.take_of_length_le (by rw [List.length_reverse]; exact Nat.le_refl _)]; exact List.mem_reverse.2 hp)
            exact absurd hx (List.count_eq_zero.1 h)
    · subst hbb'
      go_wp2_with fail
      go_loop [5, 6, 10] (fun s5 s6 s10 => Lin ps s.data.toList s5 s6 s10) (fun _ _ i => s.size - (intOf i).toNat)
      case atStart => exact ⟨0, false, _, rfl, Nat.zero_le _, rfl, by rw [List.take_zero, hSLn HSL.out]; simp [repl], rfl, by simp⟩
      case round =>
        obtain ⟨k, b, z, rfl, hk, rfl, hz, rfl, hb⟩ := hrel
        have HBF := Lib.hid hb
        clear hb
        have hkl : k ≤ s.size := by rw [HSL.out] at hk; exact hk
        have hle := repl_le ps HV.out (s.data.toList.take k)
        have htl : (s.data.toList.take k).length ≤ k := List.length_take_le _ _
        have hzb : 0 ≤ z ∧ z ≤ 9895604649984 := by
          have := hSLn HSL.out
          omega
        obtain ⟨hz1, hz2⟩ := hzb
        have HZ := Lib.hid hz
        clear hz hle htl
        by_cases hlt : k < s.size
        · have hlt' : k < s.data.toList.length := by rw [HSL.out]; exact hlt
          obtain ⟨x, hx⟩ : ∃ x, s[k] = x := ⟨_, rfl⟩
          have hxl : s.data.toList[k] = x := by rw [← hx]; rfl
          have hrt := repl_take ps s.data.toList k hlt'
          rw [hxl] at hrt
          have htt : s.data.toList.take (k + 1) = s.data.toList.take k ++ [x] := by rw [List.take_succ_eq_append_getElem hlt', hxl]
          have hlen := rep1_len ps x
          have HRT := Lib.hid (congrArg List.length hrt)
          have HTT := Lib.hid htt
          have hx8 : (x.toNat : Int) < 256 := by have := UInt8.toNat_lt x; omega
          have hx9 : x.toNat < 256 := UInt8.toNat_lt x
          have hki : (k : Int) < (s.size : Int) := by omega
          clear hrt htt hxl
          cases htb : tabv ps x with
          | none =>
            have e1 := (HCELL.out x).1 htb
            rw [show adj1 ps x = 0 by unfold adj1; rw [htb]] at hlen
            have HTB := Lib.hid htb
            have HLEN := Lib.hid hlen
            clear htb hlen
            go_wp2
            go_round
            case rel =>
              refine ⟨k + 1, b, _, by go_num, by omega, rfl, ?_, rfl, ?_⟩
              · rw [HZ.out, HRT.out, List.length_append]
                have := HLEN.out
                push_cast
                omega
              · intro hbf y hy
                rw [HTT.out] at hy
                rcases List.mem_append.1 hy with hy | hy
                · exact HBF.out hbf y hy
                · rw [List.mem_singleton.1 hy]; exact HTB.out
            case measure => simp [intOf]; omega
          | some u =>
            obtain ⟨gg, c, C, fr, e1, _, _⟩ := (HCELL.out x).2 u htb
            have hu8 : u.size ≤ 8 := HV.out _ (tabv_mem htb)
            rw [show adj1 ps x = (u.size : Int) - 1 by unfold adj1; rw [htb]] at hlen
            have v1 : IntKind.i64.wrap ((u.size : Int) - 1) = (u.size : Int) - 1 := IntWalk.i64_in _ (by omega)
            have v2 : IntKind.i64.wrap (z + ((u.size : Int) - 1)) = z + ((u.size : Int) - 1) := IntWalk.i64_in _ (by omega)
            have HLEN := Lib.hid hlen
            clear htb hlen
            go_wp2
            go_round
            case rel =>
              refine ⟨k + 1, true, _, by go_num, by omega, rfl, ?_, rfl, fun h => by cases h⟩
              rw [HZ.out, HRT.out, List.length_append]
              have := HLEN.out
              push_cast
              omega
            case measure => simp [intOf]; omega
        · obtain rfl : k = s.size := by omega
          go_wp2
          go_meet
          refine ⟨⟨0, rfl⟩, b, rfl, ?_, ?_⟩
          · have e := HZ.out
            rw [List.take_of_length_le (by rw [HSL.out]; exact Nat.le_refl _), hSLn HSL.out] at e
            rw [e]
            congr 1
            omega
          · intro hbf x hx
            exact HBF.out hbf x (by rw [List.take_of_length_le (by rw [HSL.out]; exact Nat.le_refl _)]; exact hx)
  case rest =>
    obtain ⟨⟨d, rfl⟩, b, rfl, rfl, hb⟩ := hcut
    cases b with
    | false =>
      have e := repl_same ps s.data.toList (hb rfl)
      have HE := Lib.hid e
      clear e hb hbb
      go_wp2
      go_ret
      refine ⟨?_, below_dn (Below.refl _ w) d⟩
      have e2 : (⟨(repl ps s.data.toList).toArray⟩ : ByteArray) = s := by rw [HE.out]
      rw [e2]
      rfl
    | true =>
      obtain ⟨N, hN⟩ : ∃ N, (repl ps s.data.toList).length = N := ⟨_, rfl⟩
      have hNle : N ≤ 8796093022208 := by
        have := repl_le ps HV.out s.data.toList
        have := HSL.out
        omega
      obtain ⟨i0, hi, hz0, hz1, hz2⟩ := info_parts repl_byte
      have hms : ∀ W : World, (Instr.makeSlice 105 (.int .i64 (N : Int)) (.int .i64 (N : Int))).run Tryz.prog W = .ok (.slice (some ⟨W.heap.size, 0, none⟩) N N) (W.alloc (bufObj [] N)) := fun W => by
        have h := run_make_rowN (P := Tryz.prog) 105 5 i0 _ Tryz.underlying105 hi hz0 .i64 .i64 N N (Nat.le_refl _) (by rw [hz2]; omega) (by omega) W
        rw [hz1, Nat.mul_one] at h
        rw [h]
        simp only [bufObj, bufCells, List.map_nil, List.nil_append, List.length_nil, Nat.sub_zero, Value.cells]
        congr 3
        apply Array.toList_inj.1
        rw [toList_madeCells_one]
      clear hi hz0 hz1 hz2 hb hbb
      rw [hN]
      have HN := Lib.hid hN
      clear hN
      go_wp2_with fail
      go_loopw [13, 14] (fun j i wr => FillW ps s.data.toList N w j i wr) (fun _ i _ => s.size - (intOf i).toNat)
      case atStart =>
        refine ⟨0, 0, rfl, Nat.zero_le _, rfl, rfl, ?_, ?_⟩
        · exact heap_alloc_new w _
        · exact below_dn ((Below.refl _ w).alloc (Nat.le_refl _) _) d
      case round =>
        obtain ⟨k, q, rfl, hk, rfl, hq, hbuf, hbl⟩ := hrel
        have hkl : k ≤ s.size := by rw [HSL.out] at hk; exact hk
        by_cases hlt : k < s.size
        · have hlt' : k < s.data.toList.length := by rw [HSL.out]; exact hlt
          obtain ⟨x, hx⟩ : ∃ x, s[k] = x := ⟨_, rfl⟩
          have hxl : s.data.toList[k] = x := by rw [← hx]; rfl
          have hrt := repl_take ps s.data.toList k hlt'
          rw [hxl] at hrt
          have hspl := congrArg List.length (repl_split ps s.data.toList (k + 1))
          rw [hrt, List.length_append, List.length_append, HN.out, ← hq] at hspl
          have hx8 : (x.toNat : Int) < 256 := by have := UInt8.toNat_lt x; omega
          have hx9 : x.toNat < 256 := UInt8.toNat_lt x
          have hki : (k : Int) < (s.size : Int) := by omega
          have hqN : q ≤ N := by omega
          have HRT := Lib.hid hrt
          have HQ := Lib.hid hq
          have HBUF := Lib.hid hbuf
          have HBL := Lib.hid hbl
          have hwz := hbl.size
          have bB : ∀ v, w.cell? ⟨B, x.toNat, none⟩ = some v → wr.cell? ⟨B, x.toNat, none⟩ = some v := fun v h => (hbl.cell (p := ⟨B, x.toNat, none⟩) hBw).trans h
          clear hrt hxl hq hbuf hbl
          cases htb : tabv ps x with
          | none =>
            have e1 := bB _ ((HCELL.out x).1 htb)
            have e2 : rep1 ps x = [x] := by unfold rep1; rw [htb]
            rw [e2] at hspl
            simp only [List.length_cons, List.length_nil] at hspl
            have hqlt : q < N := by omega
            have hqi : (q : Int) < (N : Int) := by omega
            obtain ⟨u0, hu0⟩ := bufCells_at (repl ps (s.data.toList.take k)) N q hqlt
            have c1 : wr.cell? ⟨w.heap.size, q, none⟩ = some u0 := by rw [cell_of_row wr _ q _ _ (0, 0) HBUF.out, List.getElem?_toArray]; exact hu0
            have c2 : wr.frozen? ⟨w.heap.size, q, none⟩ = false := by simp [World.frozen?, HBUF.out, bufObj]
            have HE2 := Lib.hid e2
            have HSP := Lib.hid hspl
            clear bB htb e2 hu0 hspl
            go_wp2
            go_roundw
            case rel =>
              refine ⟨k + 1, q + 1, by go_num, by omega, by go_num, ?_, ?_, ?_⟩
              · rw [HRT.out, HE2.out, List.length_append, ← HQ.out]; rfl
              · rw [HRT.out, HE2.out]
                have h := set_block HBUF.out q (.int .u8 (x.toNat : Int))
                rw [List.setIfInBounds_toArray, HQ.out, bufCells_set _ _ _ (by rw [← HQ.out]; exact hqlt)] at h
                rw [HQ.out]
                exact h
              · exact HBL.out.setCell (Nat.le_refl _) _
            case measure => simp [intOf]; omega
          | some u =>
            obtain ⟨gg, c, C, fr, e1, e3, e4⟩ := (HCELL.out x).2 u htb
            have e1 := bB _ e1
            have e2 : rep1 ps x = u.data.toList := by unfold rep1; rw [htb]
            rw [e2] at hspl
            have hul : u.data.toList.length = u.size := Array.length_toList
            rw [hul] at hspl
            have hu8 : u.size ≤ 8 := HV.out _ (tabv_mem htb)
            have HE2 := Lib.hid e2
            have HE3 := Lib.hid e3
            have HE4 := Lib.hid e4
            have HUL := Lib.hid hul
            have hqle : q + u.size ≤ N := by omega
            clear bB htb e2 e3 e4 hul hspl
            have hsrc := src_cells ((HBL.out.block gg (lt_of_block HE3.out)).trans HE3.out) HE4.out
            have SRC := Lib.hid hsrc
            have hcl : (u.data.toList.map fun b => Value.int .u8 (b.toNat : Int)).length = u.size := by rw [List.length_map, HUL.out]
            have hone : ∀ v ∈ (u.data.toList.map fun b => Value.int .u8 (b.toNat : Int)), v.oneCell' = true := by
              intro v hv
              obtain ⟨b, _, rfl⟩ := List.mem_map.1 hv
              rfl
            have hbl2 : (bufCells (repl ps (s.data.toList.take k)) N).length = N := bufCells_len _ _ (by rw [← HQ.out]; exact hqN)
            have HBL2 := Lib.hid hbl2
            have HONE := Lib.hid hone
            have hend : ∀ W : World, W.heap[w.heap.size]? = some (.cells (splice (bufCells (repl ps (s.data.toList.take k)) N) q (u.data.toList.map fun b => Value.int .u8 (b.toNat : Int))).toArray 5 (0, 0)) → W.heap[w.heap.size]? = some (bufObj (repl ps (s.data.toList.take (k + 1))) N) := by
              intro W h
              rw [HQ.out, bufCells_splice _ _ _ (by rw [← HQ.out, HUL.out]; exact hqle)] at h
              rw [HRT.out, HE2.out]
              exact h
            have hqz : q + u.size = (repl ps (s.data.toList.take (k + 1))).length := by rw [HRT.out, HE2.out, List.length_append, ← HQ.out, HUL.out]
            have HEND := Lib.hid hend
            have HQZ := Lib.hid hqz
            have HCL := Lib.hid hcl
            clear hsrc hone hbl2 hend hqz hcl
            by_cases hqe : N = q
            · subst hqe
              have hu0 : u.size = 0 := by omega
              go_wp2_with fail
              go_region_law (refine step_copy_splice rfl (.tmp 105) (.tmp 111) 105 105 rfl 5 Tryz.underlying105 (by kernel_rfl) _ _ _ _ _ _ rfl rfl w.heap.size N (bufCells (repl ps (s.data.toList.take k)) N) 5 HBUF.out (u.data.toList.map fun b => Value.int .u8 (b.toNat : Int)) (by rw [HCL.out]; exact hu0) (fun h => absurd h (by rw [HCL.out]; omega)) (by rw [HCL.out, HBL2.out]; exact hqle) HONE.out w.heap.size w HBL.out.drew (Nat.le_refl _) ?_; intro W2 hh hb2; rw [HCL.out])
              go_wp2
              go_roundw
              case rel => exact ⟨k + 1, N + u.size, by go_num, by omega, by go_num, HQZ.out, HEND.out _ hh.out, hb2⟩
              case measure => simp [intOf]; omega
            · have hqlt : (q : Int) < (N : Int) := by omega
              go_wp2_with fail
              go_region_law (refine step_copy_splice rfl (.tmp 105) (.tmp 111) 105 105 rfl 5 Tryz.underlying105 (by kernel_rfl) _ _ _ _ _ _ rfl rfl w.heap.size q (bufCells (repl ps (s.data.toList.take k)) N) 5 HBUF.out (u.data.toList.map fun b => Value.int .u8 (b.toNat : Int)) (by rw [HCL.out]; exact (Nat.min_eq_left (by omega)).symm) (fun _ => ⟨rfl, ⟨gg, 0, none⟩, rfl, SRC.out⟩) (by rw [HCL.out, HBL2.out]; exact hqle) HONE.out w.heap.size w HBL.out.drew (Nat.le_refl _) ?_; intro W2 hh hb2; rw [HCL.out])
              go_wp2
              go_roundw
              case rel => exact ⟨k + 1, q + u.size, by go_num, by omega, by go_num, HQZ.out, HEND.out _ hh.out, hb2⟩
              case measure => simp [intOf]; omega
        · obtain rfl : k = s.size := by omega
          rw [List.take_of_length_le (by rw [HSL.out]; exact Nat.le_refl _)] at hbuf
          have hcv : (convert 105 9 (.slice (some ⟨w.heap.size, 0, none⟩) N N)).run Tryz.prog wr = .ok (.string ⟨(repl ps s.data.toList).toArray⟩) wr := by
            have h := run_convert_bytes_back (P := Tryz.prog) wr 105 9 5 ⟨w.heap.size, 0, none⟩ N (repl ps s.data.toList) Tryz.underlying105 Tryz.underlying5 Tryz.underlying9 (fun j hj => by
              rw [Addr.add_mid, Nat.zero_add, cell_of_row wr _ j _ _ (0, 0) hbuf, List.getElem?_toArray]
              unfold bufCells
              rw [List.getElem?_append_left (by rw [List.length_map]; exact hj), List.getElem?_map, List.getElem?_eq_getElem hj]
              rfl)
            rw [HN.out] at h
            exact h
          have HBL := Lib.hid hbl
          clear hq hbuf hbl
          go_wp2
          go_ret
          exact ⟨rfl, HBL.out⟩

/-- What is asked of the pairs. -/
structure Pairs (ps : List (UInt8 × ByteArray)) : Prop where
  pos : 0 < ps.length
  few : ps.length ≤ 100
  small : ∀ p ∈ ps, p.2.size ≤ 8
  notOne : ∀ p ∈ ps, p.2.size ≠ 1
  nodup : (ps.map (·.1)).Nodup

/-- What buildOnce leaves. -/
def BuiltK (lo R : Nat) (ps : List (UInt8 × ByteArray)) (w : World) (w' : World) : Prop :=
  ∃ (B l2 : Nat), B ≠ R ∧ w'.heap[R]? = some (.cells #[.int .u32 0, .int .i32 1, .int .u32 0, .iface 191 (.pointer (some ⟨B, 0, none⟩)), .slice none 0 0] 155 (0, 0)) ∧ BSR l2 B ps w' ∧ Below lo w w'

theorem bsr_set {lo B R i : Nat} {ps : List (UInt8 × ByteArray)} {w : World} {cs : Array Value} {u : Value} (h : BSR lo B ps w) (hR : w.heap[R]? = some (.cells cs 155 (0, 0))) : BSR lo B ps (w.setCell ⟨R, i, none⟩ u) := by
  obtain ⟨c, v, hb, hv, ht, ho⟩ := h
  have hne : B ≠ R := by
    rintro rfl
    rw [hR] at hb
    injection hb with hb
    injection hb with _ hb
    cases hb
  refine ⟨c, v, (Below.heap_setCell _ _ _ _ hne).trans hb, hv, ?_, own_set_other ho (p := ⟨R, i, none⟩) (own_ne_block ho hR (by decide)) u⟩
  intro x
  obtain ⟨t1, t2⟩ := ht x
  refine ⟨t1, fun s hs => ?_⟩
  obtain ⟨gg, cc, C, fr, q1, q2, q3, q4⟩ := t2 s hs
  refine ⟨gg, cc, C, fr, q1, q2, ?_, q4⟩
  refine (Below.heap_setCell _ _ _ _ ?_).trans q3
  rintro rfl
  rw [hR] at q3
  injection q3 with q3
  injection q3 with _ q3
  cases q3

set_option maxHeartbeats 1000000 in
set_option maxRecDepth 100000 in
theorem buildOnce_any (ps : List (UInt8 × ByteArray)) (hps : Pairs ps) (lo R : Nat) (v : Value) (w : World) (hlo : lo ≤ R) (hlw : lo ≤ w.heap.size)
    (hR : w.heap[R]? = some (.cells #[.int .u32 0, .int .i32 1, .int .u32 0, .nilIface, v] 155 (0, 0))) (hown : w.ownsRow lo 9 1 v (2 * ps.length) (pairCells ps)) :
    Calls Tryz.prog 128 #[.pointer (some ⟨R, 0, none⟩)] w fun e w' => e = .returned (.tuple #[]) ∧ BuiltK lo R ps w w' := by
  have hp := hps.pos
  obtain ⟨g, cap, rfl, hge, hgl⟩ := hown.form (by omega)
  have c4 : w.cell? ⟨R, 4, none⟩ = some (.slice (some ⟨g, 0, none⟩) (2 * ps.length) cap) := by rw [cell_of_row w R 4 _ _ (0, 0) hR]; rfl
  have hcells : ∀ j u, (pairCells ps)[j]? = some u → w.cell? ⟨g, j, none⟩ = some u := by
    intro j u hu
    have hj := (List.getElem?_eq_some_iff.1 hu).1
    rw [pairCells_len] at hj
    rw [hown.cellAt j (by omega)]
    exact hu
  have hbuild := build_any ps R g (2 * ps.length) cap w rfl hp (by have := hps.few; omega) hps.notOne hps.nodup hgl c4 hcells
  have HBU := Lib.hid hbuild
  have HR := Lib.hid hR
  have hRl := lt_of_block hR
  clear hbuild hcells c4 hown hR
  go_enter Tryz.func128, Tryz.ntmps128
  go_wp2_with fail
  refine Calls.mono HBU.out ?_
  rintro e w1 ⟨B, hBw, rfl, hbsr, hb1⟩
  have hR1 : w1.heap[R]? = some (.cells #[.int .u32 0, .int .i32 1, .int .u32 0, .nilIface, .slice (some ⟨g, 0, none⟩) (2 * ps.length) cap] 155 (0, 0)) := (hb1.block R hRl).trans HR.out
  have hR2 := set_block hR1 3 (.iface 191 (.pointer (some ⟨B, 0, none⟩)))
  have hR3 := set_block hR2 4 (.slice none 0 0)
  have d1 : w1.cell? ⟨R, 3, none⟩ = some .nilIface := by rw [cell_of_row w1 R 3 _ _ (0, 0) hR1]; rfl
  have d2 : w1.frozen? ⟨R, 3, none⟩ = false := by simp [World.frozen?, hR1]
  have d3 : (w1.setCell ⟨R, 3, none⟩ (.iface 191 (.pointer (some ⟨B, 0, none⟩)))).cell? ⟨R, 4, none⟩ = some (.slice (some ⟨g, 0, none⟩) (2 * ps.length) cap) := by rw [cell_of_row _ R 4 _ _ (0, 0) hR2]; rfl
  have d4 : (w1.setCell ⟨R, 3, none⟩ (.iface 191 (.pointer (some ⟨B, 0, none⟩)))).frozen? ⟨R, 4, none⟩ = false := by simp [World.frozen?, hR2]
  have HR1 := Lib.hid hR1
  have HR2 := Lib.hid hR2
  have HR3 := Lib.hid hR3
  have HBS := Lib.hid hbsr
  have HB1 := Lib.hid hb1
  clear hR1 hR2 hR3 hbsr hb1
  go_wp2
  go_end0
  refine ⟨rfl, B, _, by omega, HR3.out, bsr_set (bsr_set HBS.out HR1.out) HR2.out, ?_⟩
  exact ((HB1.out.mono hlw).setCell (p := ⟨R, 3, none⟩) hlo _).setCell (p := ⟨R, 4, none⟩) hlo _

set_option maxHeartbeats 1000000 in
set_option maxRecDepth 100000 in
theorem replacer_any (ps : List (UInt8 × ByteArray)) (hps : Pairs ps) (lo R : Nat) (v : Value) (s : ByteArray) (w : World) (hs : s.size ≤ 1099511627776) (hlo : lo ≤ R) (hlw : lo ≤ w.heap.size)
    (hR : w.heap[R]? = some (.cells #[.int .u32 0, .int .i32 0, .int .u32 0, .nilIface, v] 155 (0, 0))) (hown : w.ownsRow lo 9 1 v (2 * ps.length) (pairCells ps)) :
    Calls Tryz.prog 106 #[.pointer (some ⟨R, 0, none⟩), .string s] w fun e w' => e = .returned (.string ⟨(repl ps s.data.toList).toArray⟩) ∧ Below lo w w' := by
  have hR1 : (w.setCell ⟨R, 1, none⟩ (.int .i32 1)).heap[R]? = some (.cells #[.int .u32 0, .int .i32 1, .int .u32 0, .nilIface, v] 155 (0, 0)) := set_block hR 1 (.int .i32 1)
  have hsz : (w.setCell ⟨R, 1, none⟩ (.int .i32 1)).heap.size = w.heap.size := by simp [World.setCell]
  have hbo := buildOnce_any ps hps lo R v (w.setCell ⟨R, 1, none⟩ (.int .i32 1)) hlo (by rw [hsz]; exact hlw) hR1 (own_set_other hown (p := ⟨R, 1, none⟩) (own_ne_block hown hR (by decide)) _)
  have hdo := do_fresh R 0 128 #[.pointer (some ⟨R, 0, none⟩)] (BuiltK lo R ps (w.setCell ⟨R, 1, none⟩ (.int .i32 1))) w
    (by rw [cell_of_row w R 0 _ _ (0, 0) hR]; rfl) (by rw [cell_of_row w R (0 + 1) _ _ (0, 0) hR]; rfl) (by simp [World.frozen?, hR]) (by simp [World.frozen?, hR])
    (enters_of Tryz.func128 (by kernel_rfl) rfl) hbo (by
      rintro w' ⟨B, l2, hne, h3, _, _⟩
      exact ⟨by rw [cell_of_row w' R 0 _ _ (0, 0) h3]; rfl, by rw [cell_of_row w' R (0 + 1) _ _ (0, 0) h3]; rfl, by simp [World.frozen?, h3], by simp [World.frozen?, h3]⟩)
  have HDO := Lib.hid hdo
  have hbw : Below lo w (w.setCell ⟨R, 1, none⟩ (.int .i32 1)) := (Below.refl lo w).setCell (p := ⟨R, 1, none⟩) hlo _
  clear hdo hbo hR1 hsz hown hR
  go_enter Tryz.func106, Tryz.ntmps106
  go_wp2_with fail
  refine Calls.mono HDO.out ?_
  rintro e W2 ⟨w1, ⟨B, l2, hne, h3, h4, h5⟩, rfl, hW2⟩
  have k1 : w1.drew.heap[R]? = some (.cells #[.int .u32 0, .int .i32 1, .int .u32 0, .iface 191 (.pointer (some ⟨B, 0, none⟩)), .slice none 0 0] 155 (0, 0)) := h3
  have k2 := set_block k1 0 (.int .u32 1)
  have k3 := set_block k2 1 (.int .i32 0)
  have k4 : BSR l2 B ps w1.drew := h4
  have k5 : BSR l2 B ps W2 := by rw [hW2]; exact bsr_set (i := 1) (bsr_set (i := 0) k4 k1) k2
  have k6 : Below lo w W2 := by
    rw [hW2]
    exact ((((hbw.trans h5).drew).setCell (p := ⟨R, 0, none⟩) hlo _).setCell (p := ⟨R, 0 + 1, none⟩) hlo _)
  have k7 : W2.cell? ⟨R, 3, none⟩ = some (.iface 191 (.pointer (some ⟨B, 0, none⟩))) := by
    rw [hW2, cell_of_row _ R 3 _ _ (0, 0) k3]
    rfl
  have K5 := Lib.hid k5
  have K6 := Lib.hid k6
  clear hW2 h3 h4 h5 k1 k2 k3 k4 k5 k6 hbw
  have hme : ∀ W : World, (method 351 191 (.pointer (some ⟨B, 0, none⟩)) "Replace").run Tryz.prog W = .ok (207, .pointer (some ⟨B, 0, none⟩)) W := fun W => by kernel_rfl
  go_wp2_with fail
  refine Calls.mono (replace_any ps l2 B s W2 hps.pos hps.few hps.small hps.nodup hs K5.out) ?_
  rintro e W3 ⟨rfl, b3⟩
  have K7 := Lib.hid (K6.out.trans (b3.mono (Nat.le_trans hlw K6.out.size)))
  clear b3
  go_wp2
  go_ret
  exact ⟨rfl, K7.out⟩

/-- The two calls in one: what a text is when it has been replaced. -/
theorem repl_use (ps : List (UInt8 × ByteArray)) (hps : Pairs ps) (s : ByteArray) (w : World) (hs : s.size ≤ 1099511627776) {e : Ending} {w' : World} (h : NewRepl ps w e w') :
    ∃ R, e = .returned (.pointer (some ⟨R, 0, none⟩)) ∧ Below w.heap.size w w' ∧ Calls Tryz.prog 106 #[.pointer (some ⟨R, 0, none⟩), .string s] w' fun e w'' => e = .returned (.string ⟨(repl ps s.data.toList).toArray⟩) ∧ Below w.heap.size w w'' := by
  obtain ⟨R, v, rfl, h1, h2, h3, h4⟩ := h
  exact ⟨R, rfl, h2, (replacer_any ps hps w.heap.size R v s w' hs h1 h2.size h3 h4).mono fun _ _ ⟨he, hb⟩ => ⟨he, h2.trans hb⟩⟩
end Go.Proofs.YtdkjenbncmedbaaGreatDoor
