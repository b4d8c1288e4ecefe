/- The reference's Fold. -/
import Derived.Test.YtbcfhpomclkccaaDoorRsFr
import Derived.Laws.Cover4
namespace Go.Proofs.YtbcfhpomclkccaaDoor
open Go.RowKit

theorem u8_of (x : Int) (n : Nat) (h : x.toNat = n) : x.toNat.toUInt8 = UInt8.ofNat n := by rw [h]
theorem enc_eq (n : Nat) : (Utf8.encode (n : Int)).data.toList = runeL (n : Int) := by
  unfold runeL Lib.encodeRune Lib.encodeRuneZ Utf8.encode
  by_cases h1 : n ≤ 127
  · have hv : Utf8.valid (n : Int) = true := by unfold Utf8.valid; simp; omega
    simp only [hv, if_true]
    rw [if_pos (by omega), if_pos (by omega)]
    rfl
  · by_cases h2 : n ≤ 2047
    · have hv : Utf8.valid (n : Int) = true := by unfold Utf8.valid; simp; omega
      simp only [hv, if_true]
      rw [if_neg (by omega), if_pos (by omega), if_neg (by omega), if_pos (by omega)]
      simp only [List.map_cons, List.map_nil]
      rw [u8_of _ (192 + n / 64) (by omega), u8_of _ (128 + n % 64) (by omega)]
      rfl
    · by_cases h3 : (2048 ≤ n ∧ n < 55296) ∨ (57343 < n ∧ n ≤ 65535)
      · have hv : Utf8.valid (n : Int) = true := by unfold Utf8.valid; simp; omega
        simp only [hv, if_true]
        rw [if_neg (by omega), if_neg (by omega), if_pos (by omega), if_neg (by omega), if_neg (by omega), if_pos (by omega)]
        simp only [List.map_cons, List.map_nil]
        rw [u8_of _ (224 + n / 4096) (by omega), u8_of _ (128 + n / 64 % 64) (by omega), u8_of _ (128 + n % 64) (by omega)]
        rfl
      · by_cases h4 : 65536 ≤ n ∧ n ≤ 1114111
        · have hv : Utf8.valid (n : Int) = true := by unfold Utf8.valid; simp; omega
          simp only [hv, if_true]
          rw [if_neg (by omega), if_neg (by omega), if_neg (by omega), if_neg (by omega), if_neg (by omega), if_neg (by omega), if_pos (by omega)]
          simp only [List.map_cons, List.map_nil]
          rw [u8_of _ (240 + n / 262144) (by omega), u8_of _ (128 + n / 4096 % 64) (by omega), u8_of _ (128 + n / 64 % 64) (by omega), u8_of _ (128 + n % 64) (by omega)]
          rfl
        · have hv : Utf8.valid (n : Int) = false := by unfold Utf8.valid; simp; omega
          have he : (if Utf8.valid (n : Int) = true then (n : Int).toNat else Utf8.runeError) = 65533 := by rw [hv]; rfl
          rw [he]
          rw [if_neg (by decide), if_neg (by decide), if_pos (by decide), if_neg (by omega), if_neg (by omega), if_neg (by omega), if_neg (by omega)]
          decide
/-- The characters of a text. -/
def runesN : Nat → List UInt8 → List Nat
  | 0, _ => []
  | f + 1, l => if l = [] then [] else (Lib.decodeL l).1 :: runesN f (l.drop (Lib.decodeL l).2)
theorem conv_runes (s : ByteArray) : ∀ (f pos : Nat) (acc : Array Value), (Conv.runesFrom s f pos acc).toList = acc.toList ++ (runesN f (s.data.toList.drop pos)).map rnc
  | 0, pos, acc => by simp [Conv.runesFrom, runesN]
  | f + 1, pos, acc => by
    have hl : s.data.toList.length = s.size := Array.length_toList
    rw [Conv.runesFrom, runesN]
    by_cases hp : pos < s.size
    · have hne : s.data.toList.drop pos ≠ [] := by intro e; have := congrArg List.length e; rw [List.length_drop, hl] at this; simp at this; omega
      rw [if_pos hp, if_neg hne, Lib.decodeL_drop]
      simp only
      rw [conv_runes s f, List.drop_drop]
      simp [rnc]
    · rw [if_neg hp, if_pos (List.drop_eq_nil_of_le (by omega))]
      simp
theorem runesN_len : ∀ (f : Nat) (l : List UInt8), (runesN f l).length ≤ f
  | 0, _ => Nat.le_refl _
  | f + 1, l => by
    rw [runesN]
    split
    · simp
    · have := runesN_len f (l.drop (Lib.decodeL l).2)
      simp
      omega
theorem runesN_lt : ∀ (f : Nat) (l : List UInt8), ∀ r ∈ runesN f l, r < 1114112
  | 0, _, r, h => by cases h
  | f + 1, l, r, h => by
    rw [runesN] at h
    split at h
    · cases h
    · rcases List.mem_cons.1 h with rfl | h
      · have := Lib.decodeL_rune l; omega
      · exact runesN_lt f _ r h
theorem fblk_eq (r : Nat) : fblk r = (foldR r).flatMap fun z : Nat => runeL (z : Int) := by
  unfold fblk foldR
  split
  · decide
  · simp
theorem foldF_runes : ∀ (f : Nat) (l : List UInt8), foldF f l = (runesN f l).flatMap fblk
  | 0, _ => rfl
  | f + 1, l => by
    rw [foldF, runesN]
    split
    · rfl
    · rw [List.flatMap_cons, foldF_runes f]
theorem foldl_app (f : Int → ByteArray) : ∀ (l : List Int) (a : ByteArray), (l.foldl (fun r n => r ++ f n) a).data.toList = a.data.toList ++ l.flatMap fun n => (f n).data.toList
  | [], a => by simp
  | n :: l, a => by
    rw [List.foldl_cons, foldl_app f l, ByteArray.data_append, Array.toList_append, List.flatMap_cons, List.append_assoc]
theorem runes_list (zs : List Nat) : (runesBytes (zs.map fun z : Nat => (z : Int))).data.toList = zs.flatMap fun z : Nat => runeL (z : Int) := by
  unfold runesBytes
  rw [foldl_app]
  rw [show ByteArray.empty.data.toList = [] from rfl, List.nil_append, List.flatMap_map]
  exact congrArg (fun g => zs.flatMap g) (funext enc_eq)
theorem i32_info : (Tryd.prog.info? 21).map (fun i => (i.zero, i.size, i.bytes)) = some (some (.int .i32 0), 1, 4) := by kernel_rfl
/-- v is a row of the call's own that holds the characters zs. -/
def AccR (w : World) (v : Value) (zs : List Nat) (wr : World) : Prop := wr.ownsRow w.heap.size 21 1 v zs.length (zs.map rnc) ∧ Below w.heap.size w wr
theorem one_cell_i32 (l : List Nat) : ∀ u ∈ l.map rnc, u.oneCell' = true := by
  intro u hu
  obtain ⟨b, _, rfl⟩ := List.mem_map.1 hu
  rfl
theorem wpList_accR {w wr : World} {ops : Array Oper} {rest : List Oper} {o : Oper} {a : Act} {Q : Exit → Act → World → Prop} (hgd : o.guard = none) (s x : Operand)
    (ho : o.op = .call { callee := .builtin .append, args := #[s, x], argTypes := #[74, 74] }) (v : Value) (acc : List Nat) (hs : a.eval s = v) (hacc : AccR w v acc wr)
    (ad : Addr) (m c : Nat) (xs : List Nat) (hx : a.eval x = .slice (some ad) m c) (hm : m = xs.length) (hc : ∀ j u, (xs.map rnc)[j]? = some u → wr.cell? (ad.add j) = some u) (hlen : acc.length + xs.length ≤ 1000000000)
    (h : ∀ v' w1, AccR w v' (acc ++ xs) w1 → wr.grownBy w1 v.ownBlock → wpList Tryd.prog ops Q rest (a.put o.dst v') w1) : wpList Tryd.prog ops Q (o :: rest) a wr := by
  refine wpList_plain hgd fun K hK => ?_
  obtain ⟨i0, hi, hz0, hz1, hz2⟩ := info_parts i32_info
  obtain ⟨v', w1, hr, h2, h3, _, _⟩ := run_append_own_at (P := Tryd.prog) wr w.heap.size 74 o.type 21 i0 _ 1 4 Tryd.underlying74 hi hz0 hz1 hz2 rfl (by decide) v acc.length (acc.map rnc) hacc.1 ad m c (xs.map rnc) (by rw [List.length_map]; omega) hc (one_cell_i32 xs) (by unfold maxLen; omega) (by omega) hacc.2.size
  have hst : AccR w v' (acc ++ xs) w1 := by
    have e1 : acc.length + m = (acc ++ xs).length := by rw [List.length_append]; omega
    refine ⟨?_, hacc.2.grown h3 hacc.2.size (fun k hk => (hacc.1.lt k hk).1)⟩
    rw [← e1, List.map_append]
    exact h2
  unfold Oper.wp execOp
  simp only [ho, resolve, invoke, builtin, Sem.run_bind, Sem.run_pure, Result.andThen_ok, List.map_toArray, List.map_cons, List.map_nil, hs, hx, hr]
  exact hK _ _ (h v' w1 hst h3)
theorem AccR.string {w wr : World} {v : Value} {acc : List Nat} (h : AccR w v acc wr) : (convert 74 9 v).run Tryd.prog wr = .ok (.string (runesBytes (acc.map fun z : Nat => (z : Int)))) wr := by
  rcases h.1.2 with ⟨rfl, hx⟩ | ⟨g, cap, cur, rfl, _⟩
  · have : acc = [] := List.eq_nil_of_length_eq_zero hx
    subst this
    exact run_convert_runes_nil (P := Tryd.prog) wr 74 9 21 0 0 Tryd.underlying74 Tryd.underlying21 Tryd.underlying9
  · have := run_convert_runes (P := Tryd.prog) wr 74 9 21 ⟨g, 0, none⟩ acc.length cap (acc.map fun z : Nat => (z : Int)) (by simp) Tryd.underlying74 Tryd.underlying21 Tryd.underlying9 (fun j hj => by
      have hj' : j < acc.length := by simpa using hj
      rw [h.1.cells (g := g) rfl j (rnc acc[j]) (by rw [List.getElem?_map, List.getElem?_eq_getElem hj']; rfl)]
      simp [rnc, List.getD, List.getElem?_eq_getElem hj'])
    rw [this, List.take_of_length_le (by simp)]
theorem AccR.below {w wr w' : World} {v : Value} {acc : List Nat} (h : AccR w v acc wr) (hb : Below wr.heap.size wr w') : AccR w v acc w' :=
  ⟨h.1.kept (row := none) ⟨hb.os, hb.tape, hb.output, hb.size, fun i hi _ => hb.block i hi⟩ (by
    cases hv : v.ownBlock with
    | none => exact .inl rfl
    | some k => exact .inr (by simp)), h.2.trans (hb.mono h.2.size)⟩
theorem foldR_lt (r : Nat) (_ : r < 1114112) : (foldR r).length ≤ 2 := by unfold foldR; split <;> simp
theorem AccR.alloc {w wr : World} {v : Value} {acc : List Nat} (h : AccR w v acc wr) (o : Obj) : AccR w v acc (wr.alloc o) := ⟨h.1.alloc o, h.2.alloc h.2.size o⟩
theorem fold_cells (wr : World) (z : Nat) : ∀ j u, ((foldR z).map rnc)[j]? = some u → (wr.alloc (.cells ((foldR z).map rnc).toArray 21)).cell? ((⟨wr.heap.size, 0, none⟩ : Addr).add j) = some u := by
  intro j u h
  have h1 := cell_of_row _ wr.heap.size j _ _ _ (heap_alloc_new wr (.cells ((foldR z).map rnc).toArray 21))
  have hadd : (⟨wr.heap.size, 0, none⟩ : Addr).add j = ⟨wr.heap.size, j, none⟩ := by
    unfold Addr.add
    split
    · rename_i h0; rw [h0]
    · simp
  rw [hadd, h1]
  simpa using h
def RfW (zs : List Nat) (W : World) (v3 v5 : Value) (wr : World) : Prop := ∃ (k : Nat) (A : Option Addr) (m c : Nat), v3 = .slice A m c ∧ v5 = .int .i64 (k : Int) ∧ k ≤ zs.length ∧ AccR W v3 ((zs.take k).flatMap foldR) wr
theorem AccR.slice {w wr : World} {v : Value} {acc : List Nat} (h : AccR w v acc wr) : ∃ A m c, v = .slice A m c := by
  rcases h.1.2 with ⟨rfl, _⟩ | ⟨g, cap, cur, rfl, _⟩
  · exact ⟨_, _, _, rfl⟩
  · exact ⟨_, _, _, rfl⟩
set_option maxHeartbeats 4000000 in
set_option maxRecDepth 100000 in
theorem reffold_any (s : ByteArray) (w : World) (hs : s.size ≤ 1000000) : Calls Tryd.prog 26 #[.string s] w (FoldR w (foldL s.data.toList)) := by
  have hl : s.data.toList.length = s.size := Array.length_toList
  have hfl : foldL s.data.toList = (runesN s.size s.data.toList).flatMap fblk := by unfold foldL; rw [foldF_runes, hl]
  have hlen := runesN_len s.size s.data.toList
  have hlt := runesN_lt s.size s.data.toList
  have hcr := conv_runes s s.size 0 #[]
  rw [List.drop_zero] at hcr
  obtain ⟨zs, hzs⟩ : ∃ zs, runesN s.size s.data.toList = zs := ⟨_, rfl⟩
  rw [hzs] at hfl hlen hlt hcr
  obtain ⟨R, hR⟩ : ∃ R, Conv.runesFrom s s.size 0 #[] = R := ⟨_, rfl⟩
  have hRl : R.toList = zs.map rnc := by rw [← hR, hcr]; rfl
  have hRz : R.size = zs.length := by rw [← Array.length_toList, hRl, List.length_map]
  have hcv := run_runes_of_string (P := Tryd.prog) w 9 74 21 s Tryd.underlying9 Tryd.underlying74 Tryd.underlying21 (by rw [hR, hRz]; omega)
  rw [hR, hRz] at hcv
  obtain ⟨cap, hcap⟩ : ∃ cap, grownCap w zs.length 0 21 = cap := ⟨_, rfl⟩
  rw [hcap] at hcv
  obtain ⟨W, hW⟩ : ∃ W, w.drew.alloc (.cells (R ++ Array.replicate (cap - zs.length) (.int .i32 0)) 21) = W := ⟨_, rfl⟩
  rw [hW] at hcv
  have hbW : Below w.heap.size w W := by rw [← hW]; exact (Below.refl _ w).drew.alloc (Nat.le_refl _) _
  have hcW : ∀ (i : Nat) (hi : i < zs.length), W.cell? ⟨w.heap.size, i, none⟩ = some (.int .i32 (zs[i] : Int)) := fun i hi => by
    rw [← hW]
    have h1 := cell_of_row _ w.heap.size i _ _ _ (heap_alloc_new w.drew (.cells (R ++ Array.replicate (cap - zs.length) (.int .i32 0)) 21))
    rw [h1, Array.getElem?_append_left (by omega), ← Array.getElem?_toList, hRl, List.getElem?_map, List.getElem?_eq_getElem hi]
    rfl
  have hbk : w.heap.size < W.heap.size := by rw [← hW]; simp
  have hcapz : zs.length ≤ cap := by rw [← hcap]; exact grownCap_ge w zs.length 0 21
  have HFL := Lib.hid hfl; have HLT := Lib.hid hlt; have HBW := Lib.hid hbW; have HCW := Lib.hid hcW
  have hacc0 : AccR W (.slice none 0 0) [] W := ⟨World.ownsRow_nil _ _ _ _, Below.refl _ _⟩
  have H0 := Lib.hid (show RfW zs W (.slice none 0 0) (.int .i64 0) W from ⟨0, none, 0, 0, rfl, rfl, Nat.zero_le _, hacc0⟩)
  rw [hfl]
  clear hfl hlt hcr hzs hR hRl hRz hcap hW hbW hcW hl hacc0
  go_enter Tryd.func26, Tryd.ntmps26
  go_wp2_with fail
  go_loopw [3, 5] (fun v3 v5 wr => RfW zs W v3 v5 wr) (fun _ v5 _ => zs.length - (intOf v5).toNat)
  case atStart => exact H0.out
  case round =>
    obtain ⟨k, A, m, c, rfl, rfl, hk, hacc⟩ := hrel
    have HA := Lib.hid hacc
    have HB := Lib.hid hacc.2
    clear hacc H0
    by_cases hlt : k < zs.length
    · have hki : (k : Int) < (zs.length : Int) := by omega
      have hck : wr.cell? ⟨w.heap.size, k, none⟩ = some (.int .i32 (zs[k] : Int)) := (HB.out.cell (p := ⟨w.heap.size, k, none⟩) hbk).trans (HCW.out k hlt)
      obtain ⟨z, hz⟩ : ∃ z, zs[k] = z := ⟨_, rfl⟩
      rw [hz] at hck
      have hzl : z < 1114112 := by rw [← hz]; exact HLT.out _ (List.getElem_mem hlt)
      have HF := Lib.hid fun w' => reffold1_any z w' hzl
      have hstep : (zs.take (k + 1)).flatMap foldR = (zs.take k).flatMap foldR ++ foldR z := by rw [List.take_succ_eq_append_getElem hlt, List.flatMap_append, hz]; simp
      have HST := Lib.hid hstep
      have hfl2 : ∀ n, n ≤ zs.length → ((zs.take n).flatMap foldR).length ≤ 2 * n := fun n hn => by
        have : ∀ l : List Nat, (l.flatMap foldR).length ≤ 2 * l.length := by
          intro l
          induction l with
          | nil => simp
          | cons a l ih =>
            have := (show (foldR a).length ≤ 2 by unfold foldR; split <;> simp)
            rw [List.flatMap_cons, List.length_append, List.length_cons]
            omega
        have h2 := this (zs.take n)
        rw [List.length_take] at h2
        omega
      have hac := hfl2 k hk
      have HAC := Lib.hid hac
      clear hstep hz hfl2 hac
      go_wp2_with fail
      refine Calls.mono (HF.out _) ?_
      rintro e w' ⟨rfl, rfl⟩
      have hfz := foldR_lt z hzl
      go_wp2_with (at_builtin; refine wpList_accR rfl (.tmp 14) (.tmp 19) rfl _ _ rfl (HA.out.alloc (.cells ((foldR z).map rnc).toArray 21)) ⟨wr.heap.size, 0, none⟩ (foldR z).length (foldR z).length (foldR z) rfl rfl (fold_cells wr z) (by have := HAC.out; omega) ?_)
      intro v' W1 hst _
      obtain ⟨A', m', c', rfl⟩ := hst.slice
      have HS1 := Lib.hid hst
      clear hst
      go_wp2_with fail
      go_roundw
      case rel => exact ⟨k + 1, A', m', c', rfl, rfl, by omega, by rw [HST.out]; exact HS1.out⟩
      case measure => simp [intOf]; omega
    · have hkz : zs.take k = zs := List.take_of_length_le (by omega)
      have hA := HA.out
      rw [hkz] at hA
      have hstr := hA.string
      have hlist : (runesBytes ((zs.flatMap foldR).map fun z : Nat => (z : Int))).data.toList = zs.flatMap fblk := by
        rw [runes_list, List.flatMap_assoc]
        exact congrArg (fun g => zs.flatMap g) (funext fun r => (fblk_eq r).symm)
      have hsb := str_mk _ _ hlist
      rw [hsb] at hstr
      have hki : ¬ (k : Int) < (zs.length : Int) := by omega
      clear hA hlist hsb hkz
      go_wp2_with fail
      go_ret
      exact ⟨rfl, HBW.out.trans (HB.out.mono HBW.out.size)⟩
end Go.Proofs.YtbcfhpomclkccaaDoor
