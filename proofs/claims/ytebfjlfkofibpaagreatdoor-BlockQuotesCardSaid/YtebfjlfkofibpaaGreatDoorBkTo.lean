/- Blocks that stand together. -/
import Derived.Test.YtebfjlfkofibpaaGreatDoorBkRd
import Derived.Test.YtebfjlfkofibpaaGreatDoorBkLs
import Derived.BigQuiet
namespace Go.Proofs.YtebfjlfkofibpaaGreatDoor
set_option maxHeartbeats 4000000
set_option maxRecDepth 100000
section
open Go.RowKit
variable {F : Frm}
def togF (r : Rd) : List Nat -> Bool
 | a :: b :: l => decide ((r.nd a).last + 1 = (r.nd b).first) && togF r (b :: l)
 | _ => true
theorem own_cellk {w : World} {base : Nat} {e : TypeId} {v : Value} {n : Nat} {xs : List Value} (h : w.ownsRow base e 1 v n xs) (k : Nat) (hk : k < xs.length) : ∃ g c, v = .slice (some ⟨g, 0, none⟩) n c ∧ n ≤ c ∧ g < w.heap.size ∧ w.cell? ⟨g, k, none⟩ = some xs[k] := by
 have hn := h.1;rcases h.2 with ⟨_, h2⟩ | ⟨g, cap, cur, rfl, hb, hg, hc, _⟩
 ·rw [h2] at hn; omega
 ·refine ⟨g, cap, rfl, hc, (gSq.1 hg).1, ?_⟩;have := h.cells (g := g) rfl k xs[k] (List.getElem?_eq_getElem hk);have hadd : (⟨g, 0, none⟩ : Addr).add k = ⟨g, k, none⟩ := by
   unfold Addr.add;split
   ·rename_i h0; rw [h0]
   ·simp
  rw [hadd] at this;exact this
theorem drewN_add (w : World) (a b : Nat) : (w.drewN a).drewN b = w.drewN (a + b) := by unfold World.drewN; simp [Nat.add_assoc]
def TgW (r : Rd) (ks : List Nat) (E : Bool) (w : World) (g : Nat) (v7 : Value) (wr : World) : Prop := ∃ k : Nat, v7 = .int .i64 k ∧ k ≤ ks.length ∧ g = ks.length - k ∧ togF r (ks.drop (k - 1)) = E ∧ ∃ d, wr = w.drewN d
theorem together_b {B : Nat} {w : World} {base rp : Nat} {own : Nat -> Nat} {P : List Nat} {r : Rd} (h : St F w base rp own P r) (hr : Ok B r) (v : Value) (ks : List Nat) (bv : Nat) (hv : w.ownsRow bv 44 1 v ks.length (ks.map fun k => ptrV P (some k))) (hk : ∀ k ∈ ks, k < r.nds.length) (hn : ks.length ≤ 1000000) :
  Calls Tryz.prog 39 #[v] w fun e w' => e = .returned (.bool (togF r ks)) ∧ ∃ d, w' = w.drewN d := by
 obtain ⟨E, hE⟩ : ∃ E, togF r ks = E := ⟨_, rfl⟩;rw [hE];have H0 := hdn (show TgW r ks E w ks.length (.int .i64 0) w from ⟨0, rfl, Nat.zero_le _, rfl, hE, 0, rfl⟩);have HV := hdn hv; have HS := hdn h;obtain ⟨A, c, rfl⟩ := bk_own_slice hv;have hv2 : (Value.slice A ks.length c) = .slice A ks.length c := rfl;clear hE hv h;go_enter Tryz.func39, Tryz.ntmps39;go_wp2_with fail
 go_loopg [7] ks.length (fun g v7 wr => TgW r ks E w g v7 wr)
 case atStart => exact H0.out
 case round =>
  obtain ⟨k, rfl, hkl, hgk, he, d, rfl⟩ := hrel;clear H0
  by_cases hlt : k < ks.length
  ·have hki : (k : Int) < (ks.length : Int) := by omega
   obtain ⟨g, c', hsl, hcap, hgl, hcell⟩ := own_cellk HV.out k (by simpa using hlt);injection hsl with hA _ hc;subst hA;subst hc;rw [List.getElem_map, show ptrV P (some ks[k]) = Value.pointer (some ⟨ptN P ks[k], 0, none⟩) from rfl] at hcell;have hb := hk ks[k] (List.getElem_mem hlt);obtain ⟨kvb, lvb, avb, hnb⟩ := HS.out.nodes _ _ (Rd.at_lt hb);have hrb := hnb.row;unfold ndCells at hrb;have qb := fun i => cell_of_row w (ptN P ks[k]) i _ _ _ hrb;have hnumb := (hr.nd _ hb).num
   by_cases h0 : k = 0
   ·subst h0;have HEd := hdn he;clear he;go_wp2_with fail
    go_quiet (fail)
    go_wp2
    go_roundg (ks.length - 1)
    case rel => exact ⟨1, by first | rfl | go_num, by omega, rfl, HEd.out, d + nq, by first | rfl | rw [drewN_add]⟩
    case measure => omega
   ·obtain ⟨j, rfl⟩ : ∃ j, k = j + 1 := ⟨k - 1, by omega⟩;have hjl : j < ks.length := by omega
    obtain ⟨g2, c2, hsl2, _, _, hcellj⟩ := own_cellk HV.out j (by simpa using hjl);injection hsl2 with hA2 hA3 hA4;clear hA3 hA4;have hg2 : g = g2 := by injection hA2 with e; injection e
    subst hg2;rw [List.getElem_map, show ptrV P (some ks[j]) = Value.pointer (some ⟨ptN P ks[j], 0, none⟩) from rfl] at hcellj;have ha := hk ks[j] (List.getElem_mem hjl);obtain ⟨kva, lva, ava, hna⟩ := HS.out.nodes _ _ (Rd.at_lt ha);have hra := hna.row;unfold ndCells at hra;have qa := fun i => cell_of_row w (ptN P ks[j]) i _ _ _ hra;have hnuma := (hr.nd _ ha).num;rw [Nat.add_sub_cancel, List.drop_eq_getElem_cons hjl, List.drop_eq_getElem_cons hlt] at he;unfold togF at he;rw [<- List.drop_eq_getElem_cons hlt] at he;obtain ⟨la, hla⟩ : ∃ la, (r.nd ks[j]).last = la := ⟨_, rfl⟩
    obtain ⟨fb, hfb⟩ : ∃ fb, (r.nd ks[j + 1]).first = fb := ⟨_, rfl⟩
    rw [hla] at he qa hnuma;rw [hfb] at he qb hnumb;have h0i : (0 : Int) < (j : Int) + 1 := by omega
    have hj1 : ((j + 1 : Nat) : Int) - 1 = (j : Int) := by omega
    by_cases heq : la + 1 = fb
    ·rw [decide_eq_true heq, Bool.true_and] at he;have i1 : (la + 1 != fb) = false := by rw [heq]; simp
     have HEd := hdn he;clear he;go_wp2_with fail
     go_quiet (fail)
     go_wp2
     go_roundg (ks.length - (j + 2))
     case rel => exact ⟨j + 2, by first | rfl | go_num, by omega, rfl, HEd.out, d + nq, by first | rfl | rw [drewN_add]⟩
     case measure => omega
    ·rw [decide_eq_false heq, Bool.false_and] at he;have i1 : (la + 1 != fb) = true := by rw [bne_iff_ne]; exact heq
     have HEd := hdn he;clear he;go_wp2_with fail
     go_quiet (fail)
     go_wp2;go_ret;rw [<- HEd.out];exact ⟨rfl, d + nq, by rw [drewN_add]⟩
  ·have hni : ¬ (k : Int) < (ks.length : Int) := by omega
   have hv3 : E = true := by
    rw [<- he];have hl : (ks.drop (k - 1)).length ≤ 1 := by rw [List.length_drop]; omega
    match hm : ks.drop (k - 1) with
    | [] => rfl
    | [_] => rfl
    | _ :: _ :: _ => rw [hm] at hl; simp at hl
   clear he;go_wp2;go_ret
   (try rw [hv3])
   exact ⟨rfl, _, rfl⟩
end
section
open Go.RowKit
variable {F : Frm}
def apartT (r : Rd) (i : Nat) : Bool := !togF r (r.nd i).kids
theorem apart_b {B : Nat} {w : World} {base rp : Nat} {own : Nat -> Nat} {P : List Nat} {r : Rd} (h : St F w base rp own P r) (hr : Ok B r) (i : Nat) (hi : i < r.nds.length) :
  Calls Tryz.prog 38 #[.pointer (some ⟨ptN P i, 0, none⟩)] w fun e w' => e = .returned (.bool (apartT r i)) ∧ ∃ d, w' = w.drewN d := by
 obtain ⟨kv, lv, av, hn⟩ := h.nodes i _ (Rd.at_lt hi);have hrow := hn.row;unfold ndCells at hrow;have q := fun j => cell_of_row w (ptN P i) j _ _ _ hrow;have hkn := hr.kn hi;have hfew := hr.few;have HT := hdn (together_b h hr kv (r.nd i).kids base hn.kids (fun k hk => (hr.kid i k hk).2.1) (by omega));unfold apartT;obtain ⟨T, hT⟩ : ∃ T, togF r (r.nd i).kids = T := ⟨_, rfl⟩;rw [hT] at HT ⊢;clear h hn hrow hT;go_enter Tryz.func38, Tryz.ntmps38;go_wp2_with fail;refine cMq HT.out ?_;rintro e w1 ⟨rfl, d, rfl⟩;go_wp2;go_ret
 exact ⟨rfl, d, rfl⟩
theorem firstap_b {B : Nat} {w : World} {base rp : Nat} {own : Nat -> Nat} {P : List Nat} {r : Rd} (h : St F w base rp own P r) (hr : Ok B r) (v : Value) (ks : List Nat) (bv : Nat) (hv : w.ownsRow bv 44 1 v ks.length (ks.map fun k => ptrV P (some k))) (hk : ∀ k ∈ ks, k < r.nds.length) (hn : ks.length ≤ 1000000) :
  Calls Tryz.prog 77 #[v, .func (.func 38) #[] #[]] w fun e w' => ∃ j : Int, e = .returned (.int .i64 j) ∧ decide (0 ≤ j) = ks.any (apartT r) ∧ ∃ d, w' = w.drewN d := by
 have HV := hdn hv;have HA := hdn fun (d : Nat) (i : Nat) (hi : i < r.nds.length) => apart_b (h.below (below_drewN (Below.refl _ _) d)) hr i hi;obtain ⟨A, c, rfl⟩ := bk_own_slice hv;clear hv h;go_enter Tryz.func77, Tryz.ntmps77;go_wp2_with fail
 go_loopg [8] ks.length (fun g v8 wr => ∃ k : Nat, v8 = .int .i64 k ∧ k ≤ ks.length ∧ g = ks.length - k ∧ (ks.take k).any (apartT r) = false ∧ ∃ d, wr = w.drewN d)
 case atStart => exact ⟨0, rfl, Nat.zero_le _, rfl, rfl, 0, rfl⟩
 case round =>
  obtain ⟨k, rfl, hkl, hgk, hu, d, rfl⟩ := hrel
  by_cases hlt : k < ks.length
  ·have hki : (k : Int) < (ks.length : Int) := by omega
   obtain ⟨g, c', hsl, hcap, hgl, hcell⟩ := own_cellk HV.out k (by simpa using hlt);injection hsl with hA _ hc;subst hA;subst hc;rw [List.getElem_map, show ptrV P (some ks[k]) = Value.pointer (some ⟨ptN P ks[k], 0, none⟩) from rfl] at hcell;have hb := hk ks[k] (List.getElem_mem hlt);have ht := anyb_take (apartT r) ks k hlt;rw [hu, Bool.false_or] at ht;have HY := hdn (show apartT r ks[k] = true -> ks.any (apartT r) = true from fun h => List.any_eq_true.2 ⟨_, List.getElem_mem hlt, h⟩);have HAx := hdn (HA.out d ks[k] hb);obtain ⟨b, hPb⟩ : ∃ b, apartT r ks[k] = b := ⟨_, rfl⟩;rw [hPb] at ht HY HAx
   have HT := hdn ht;clear hPb ht hu;go_wp2_with fail;refine cMq HAx.out ?_;rintro e w1 ⟨rfl, d1, rfl⟩
   cases b with
   | true =>
    go_wp2;go_ret;exact ⟨_, rfl, by rw [HY.out (by first | exact trivial | rfl)]; simp, d + d1, by first | rfl | rw [drewN_add]⟩
   | false =>
    go_wp2
    go_roundg (ks.length - (k + 1))
    case rel => exact ⟨k + 1, by first | rfl | go_num, hlt, rfl, HT.out, d + d1, by first | rfl | rw [drewN_add]⟩
    case measure => omega
  ·obtain rfl : k = ks.length := by omega
   rw [List.take_length] at hu;have HU := hdn hu;clear hu;go_wp2;go_ret;exact ⟨_, rfl, by rw [HU.out]; decide, d, rfl⟩
theorem anyap_b {B : Nat} {w : World} {base rp : Nat} {own : Nat -> Nat} {P : List Nat} {r : Rd} (h : St F w base rp own P r) (hr : Ok B r) (v : Value) (ks : List Nat) (bv : Nat) (hv : w.ownsRow bv 44 1 v ks.length (ks.map fun k => ptrV P (some k))) (hk : ∀ k ∈ ks, k < r.nds.length) (hn : ks.length ≤ 1000000) :
  Calls Tryz.prog 40 #[v, .func (.func 38) #[] #[]] w fun e w' => e = .returned (.bool (ks.any (apartT r))) ∧ ∃ d, w' = w.drewN d := by
 have HI := hdn (firstap_b h hr v ks bv hv hk hn);obtain ⟨A, c, rfl⟩ := bk_own_slice hv;clear hv h;go_enter Tryz.func40, Tryz.ntmps40;go_wp2_with fail;refine cMq HI.out ?_;rintro e w1 ⟨j, rfl, hj, d, rfl⟩;have HJ := hdn hj;clear hj;go_wp2;go_ret;exact ⟨by rw [<- HJ.out]; rfl, d, rfl⟩
end
section
open Go.RowKit
structure BD (K : Type) where
 kind : Nat
 level : Int
 mark : Nat
 start : Int
 tight : Bool
 info : ByteArray
 text : ByteArray
 align : List UInt8
 kids : K
def TR : Nat -> Type
 | 0 => Empty
 | n + 1 => BD (List (TR n))
def AlS (w : World) (S : Nat -> Prop) (v : Value) (l : List UInt8) : Prop := SlU8 w v l ∧ (l ≠ [] -> ∀ g, v.ownBlock = some g -> S g)
def blkCs (kind : Nat) (level : Int) (mark : Nat) (start : Int) (tight : Bool) (info text : ByteArray) (va vk : Value) : List Value :=
 [.int .u8 kind, .int .i64 level, .int .u8 mark, .int .i64 start, .bool tight, .string info, .string text, va, vk, .slice none 0 0]
def BlkIs {K : Type} (E : World -> (Nat -> Prop) -> Value -> K -> Prop) (w : World) (S : Nat -> Prop) (vs : List Value) (x : BD K) : Prop :=
 ∃ va vk, vs = blkCs x.kind x.level x.mark x.start x.tight x.info x.text va vk ∧ AlS w S va x.align ∧ E w S vk x.kids
def BlksAt : (n : Nat) -> World -> (Nat -> Prop) -> Value -> List (TR n) -> Prop
 | 0 => fun w S v l => Row (α := Empty) 10 (fun _ _ _ _ => False) w S v l
 | n + 1 => fun w S v l => Row (α := BD (List (TR n))) 10 (BlkIs (BlksAt n)) w S v l
theorem AlS.keep {w w' : World} {S : Nat -> Prop} {v : Value} {l : List UInt8} (h : AlS w S v l) (hb : ∀ k, S k -> w'.heap[k]? = w.heap[k]?) : AlS w' S v l := by
 refine ⟨?_, h.2⟩;obtain ⟨A, m, c, rfl, hm, hc, hbb⟩ := h.1;refine ⟨A, m, c, rfl, hm, hc, fun h0 => ?_⟩;obtain ⟨b, off, rfl, hlt, hby⟩ := hbb h0;have hl : l ≠ [] := fun e => by rw [e] at hm; simp at hm; omega
 have hk := hb b (h.2 hl b rfl);refine ⟨b, off, rfl, ?_, fun j hj => ?_⟩
 ·rw [Array.getElem?_eq_getElem hlt] at hk;exact (gSq.1 hk).1
 ·rw [<- hby j hj];unfold World.cell?;rw [hk]
theorem AlS.mono {w : World} {S S' : Nat -> Prop} {v : Value} {l : List UInt8} (h : AlS w S v l) (hB : ∀ k, S k -> S' k) : AlS w S' v l := ⟨h.1, fun hl g hg => hB g (h.2 hl g hg)⟩
theorem BlksAt.keep {w w' : World} {S : Nat -> Prop} (hb : ∀ k, S k -> w'.heap[k]? = w.heap[k]?) : ∀ (n : Nat) {v : Value} {l : List (TR n)}, BlksAt n w S v l -> BlksAt n w' S v l
 | 0, _, _, h => Row.keep (α := Empty) (size := 10) (E := fun _ _ _ _ => False) h hb fun _ x _ => x.elim
 | n + 1, _, _, h => Row.keep (α := BD (List (TR n))) (size := 10) (E := BlkIs (BlksAt n)) h hb fun _ _ ⟨va, vk, e, ha, hk⟩ => ⟨va, vk, e, ha.keep hb, BlksAt.keep hb n hk⟩
theorem BlksAt.mono {w : World} {S S' : Nat -> Prop} (hB : ∀ k, S k -> S' k) : ∀ (n : Nat) {v : Value} {l : List (TR n)}, BlksAt n w S v l -> BlksAt n w S' v l
 | 0, _, _, h => Row.mono (α := Empty) (size := 10) (E := fun _ _ _ _ => False) h hB fun _ x _ => x.elim
 | n + 1, _, _, h => Row.mono (α := BD (List (TR n))) (size := 10) (E := BlkIs (BlksAt n)) h hB fun _ _ ⟨va, vk, e, ha, hk⟩ => ⟨va, vk, e, ha.mono hB, BlksAt.mono hB n hk⟩
theorem BlkIs.keep {n : Nat} {w w' : World} {S S' : Nat -> Prop} {vs : List Value} {x : BD (List (TR n))} (h : BlkIs (BlksAt n) w S vs x) (hb : ∀ k, S k -> w'.heap[k]? = w.heap[k]?) (hS : ∀ k, S k -> S' k) : BlkIs (BlksAt n) w' S' vs x := by
 obtain ⟨va, vk, e, ha, hk⟩ := h;exact ⟨va, vk, e, (ha.keep hb).mono hS, (hk.keep hb n).mono hS n⟩
def MineB (c0 z0 base : Nat) (v : Value) (w : World) (k : Nat) : Prop := ((k ≠ c0 ∧ k < z0) ∨ base ≤ k) ∧ k < w.heap.size ∧ v.ownBlock ≠ some k
def OutB (c0 z0 base D : Nat) (w : World) (v : Value) (acc : List (BD (List (TR D)))) : Prop :=
 ∃ css : List (List Value), css.length = acc.length ∧ (∀ c ∈ css, c.length = 10) ∧ w.ownsRow base 28 10 v acc.length css.flatten ∧
  ∀ (j : Nat) (c : List Value) (x : BD (List (TR D))), css[j]? = some c -> acc[j]? = some x -> BlkIs (BlksAt D) w (MineB c0 z0 base v w) c x
theorem OutB.nil (c0 z0 base D : Nat) (w : World) : OutB c0 z0 base D w (.slice none 0 0) [] := ⟨[], rfl, by simp, World.ownsRow_nil _ _ _ _, by simp⟩
theorem OutB.form {c0 z0 base D : Nat} {w : World} {v : Value} {acc : List (BD (List (TR D)))} (h : OutB c0 z0 base D w v acc) : ∃ A c, v = .slice A acc.length c := by
 obtain ⟨css, _, _, h, _⟩ := h;exact bk_own_slice h
theorem OutB.keep {c0 z0 base D : Nat} {w w' : World} {v : Value} {acc : List (BD (List (TR D)))} (h : OutB c0 z0 base D w v acc) (hz : w.heap.size ≤ w'.heap.size) (hb : ∀ j, ((j ≠ c0 ∧ j < z0) ∨ base ≤ j) -> j < w.heap.size -> w'.heap[j]? = w.heap[j]?) : OutB c0 z0 base D w' v acc := by
 obtain ⟨css, h1, h2, h3, h4⟩ := h;exact ⟨css, h1, h2, own_keep h3 fun g hg => hb g (.inr (own_ge h3 g hg)) (own_lt h3 g hg), fun j c x hc hx => (h4 j c x hc hx).keep (fun k hk => hb k hk.1 hk.2.1) fun k hk => ⟨hk.1, Nat.lt_of_lt_of_le hk.2.1 hz, hk.2.2⟩⟩
theorem OutB.later {c0 z0 base D : Nat} {w w' : World} {v : Value} {acc : List (BD (List (TR D)))} (h : OutB c0 z0 base D w v acc) (hb : Below w.heap.size w w') : OutB c0 z0 base D w' v acc := h.keep hb.size fun j _ hj => hb.block j hj
theorem OutB.blks {c0 z0 base D : Nat} {w : World} {v : Value} {acc : List (BD (List (TR D)))} (h : OutB c0 z0 base D w v acc) (hl : acc.length ≤ 9223372036854775807) : BlksAt (D + 1) w (fun k => ((k ≠ c0 ∧ k < z0) ∨ base ≤ k) ∧ k < w.heap.size) v acc := by
 obtain ⟨css, h1, h2, h3, h4⟩ := h;refine (show Row (α := BD (List (TR D))) 10 (BlkIs (BlksAt D)) w (fun k => ((k ≠ c0 ∧ k < z0) ∨ base ≤ k) ∧ k < w.heap.size) v acc from Row.of_own (α := BD (List (TR D))) css h3 (fun k hk => ⟨.inr (own_ge h3 k hk), own_lt h3 k hk⟩) hl h2 h1 ?_);intro j c x hc hx;exact (h4 j c x hc hx).keep (fun _ _ => rfl) (fun k hk => ⟨hk.1, hk.2.1⟩)
theorem OutB.snoc {c0 z0 base D : Nat} {w w1 : World} {v v' : Value} {acc : List (BD (List (TR D)))} {css : List (List Value)} (h1 : css.length = acc.length) (h2 : ∀ c ∈ css, c.length = 10)
  (h4 : ∀ (j : Nat) (c : List Value) (x : BD (List (TR D))), css[j]? = some c -> acc[j]? = some x -> BlkIs (BlksAt D) w (MineB c0 z0 base v w) c x) (c : List Value) (y : BD (List (TR D))) (hc6 : c.length = 10)
  (hy : BlkIs (BlksAt D) w (MineB c0 z0 base v w) c y) (hz : w.heap.size ≤ w1.heap.size)
  (hg : ∀ j, ((j ≠ c0 ∧ j < z0) ∨ base ≤ j) -> j < w.heap.size -> v.ownBlock ≠ some j -> w1.heap[j]? = w.heap[j]?) (ho : v'.ownBlock = v.ownBlock ∨ ∃ g, v'.ownBlock = some g ∧ w.heap.size ≤ g)
  (hown : w1.ownsRow base 28 10 v' (acc.length + 1) (css.flatten ++ c)) : OutB c0 z0 base D w1 v' (acc ++ [y]) := by
 have hmine : ∀ k, ((k ≠ c0 ∧ k < z0) ∨ base ≤ k) -> k < w.heap.size -> v.ownBlock ≠ some k -> MineB c0 z0 base v' w1 k := fun k k1 k2 k3 => ⟨k1, by omega, by
  rcases ho with e | ⟨g, e, hg⟩
  ·rw [e]; exact k3
  ·rw [e]; intro e2; cases e2; omega⟩
 refine ⟨css ++ [c], by simp [h1], ?_, ?_, ?_⟩
 ·intro d hd;rcases List.mem_append.1 hd with hd | hd
  ·exact h2 d hd
  ·rw [List.mem_singleton.1 hd]; exact hc6
 ·simpa using hown
 ·intro j d x hd hx
  by_cases hj : j < acc.length
  ·rw [List.getElem?_append_left (by omega)] at hd;rw [List.getElem?_append_left hj] at hx;exact (h4 j d x hd hx).keep (fun k hk => hg k hk.1 hk.2.1 hk.2.2) (fun k hk => hmine k hk.1 hk.2.1 hk.2.2)
  ·have hjl := (List.getElem?_eq_some_iff.1 hx).1;rw [List.length_append] at hjl;have hj : j = acc.length := by simp at hjl; omega
   subst hj;rw [List.getElem?_append_right (by omega), h1] at hd;rw [List.getElem?_append_right (Nat.le_refl _)] at hx;simp at hd hx;subst hd;subst hx;exact hy.keep (fun k hk => hg k hk.1 hk.2.1 hk.2.2) (fun k hk => hmine k hk.1 hk.2.1 hk.2.2)
def cellT2 (n : Nat) (c : ByteArray) : TR (n + 1) := ({ kind := 12, level := 0, mark := 0, start := 0, tight := false, info := ⟨#[]⟩, text := c, align := [], kids := ([] : List (TR n)) } : BD (List (TR n)))
def rowT2 (n k : Nat) (l : ByteArray) : TR (n + 2) := ({ kind := 11, level := 0, mark := 0, start := 0, tight := false, info := ⟨#[]⟩, text := ⟨#[]⟩, align := [], kids := ((rowL l).take k).map (cellT2 n) } : BD (List (TR (n + 1))))
def tightT (r : Rd) (d : Nd) : Bool := if d.kind = 3 then togF r d.kids && !(d.kids.any (apartT r)) else false
def rowsT (n : Nat) (d : Nd) : List (TR (n + 2)) := if d.kind = 10 then d.lines.map (rowT2 n d.align.length) else []
def bodyT {K : Type} (r : Rd) (d : Nd) (ks : K) : BD K := { kind := d.kind, level := d.level, mark := d.mark, start := d.start, tight := tightT r d, info := d.info, text := d.text, align := d.align, kids := ks }
def toldF : (f : Nat) -> Rd -> Nat -> TR (f + 3)
 | 0, r, i => bodyT r (r.nd i) (rowsT 0 (r.nd i))
 | f + 1, r, i => bodyT r (r.nd i) ((r.nd i).kids.map (toldF f r) ++ rowsT (f + 1) (r.nd i))
def deepN (d : Nd) (n : Nat) : Nat := if d.kind = 3 ∨ d.kind = 2 ∨ d.kind = 4 then n + 1 else n
def deepT : (f : Nat) -> Rd -> Nat -> Nat
 | 0, r, i => deepN (r.nd i) 0
 | f + 1, r, i => deepN (r.nd i) (((r.nd i).kids.map (deepT f r)).foldl max 0)
end
