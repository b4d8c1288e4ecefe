/- sync.Once.Do at a once that is not done, its lock free, in one gorouti. -/
import Derived.Test.YtebfjlfkofibpaaGreatDoorBkP
import Derived.WalkKit
import Derived.Defers
import Derived.Laws.Pointers
import Derived.Laws.LoneSync
import Derived.RegionTactic
import Derived.RegionCalls
import Derived.ChangeAlike
import Derived.Laws.NewBlocks
import Derived.Shelf.Abstract
import Derived.Lib.Hide
import Derived.Maps.AppendAt
import Derived.OwnWalk
import Derived.Lib.SliceRun
import Derived.Deep.RegionWith
import Derived.Deep.AppendLies
import Derived.Deep.MidRow
import Derived.Deep.DeepCutAuto
import Derived.Deep.WholeRow
import Derived.Laws.IdiomStrings
import Derived.Lib.Bytealg
import Derived.Laws.CopyOwn
import Derived.Deep.RegionLaw
import Derived.Deep.QuietTactic
import Derived.BigQuiet
import Derived.IntWalk
import Derived.WalkSpells
namespace Go.Proofs.YtebfjlfkofibpaaGreatDoor
set_option maxHeartbeats 4000000
set_option maxRecDepth 100000
section
open Go.RowKit
theorem race_disable (w : World) : (callFunc 221 #[]).run Tryz.prog w = .ok (.value (.tuple #[])) w := run_call_mark0 Tryz.func221 (by kernel_rfl) (by kernel_rfl) (by kernel_rfl) .disable (by kernel_rfl) w
theorem race_enable (w : World) : (callFunc 223 #[]).run Tryz.prog w = .ok (.value (.tuple #[])) w := run_call_mark0 Tryz.func223 (by kernel_rfl) (by kernel_rfl) (by kernel_rfl) .enable (by kernel_rfl) w
theorem race_acquire (a : Addr) (w : World) : (callFunc 224 #[.pointer (some a)]).run Tryz.prog w = .ok (.value (.tuple #[])) w := run_call_marked Tryz.func224 (by kernel_rfl) (by kernel_rfl) (by kernel_rfl) .acquire (by kernel_rfl) a w
theorem race_releaseMerge (a : Addr) (w : World) : (callFunc 226 #[.pointer (some a)]).run Tryz.prog w = .ok (.value (.tuple #[])) w := run_call_marked Tryz.func226 (by kernel_rfl) (by kernel_rfl) (by kernel_rfl) .releaseMerge (by kernel_rfl) a w
theorem store_deferred (a : Addr) (x : Value) (u : FrameMode) (w : World) (hc : w.cell? a = some x) (hz : w.frozen? a = false) :
  CallsD Tryz.prog 204 #[.pointer (some a), .bool true] u w fun e u' w' => u' = u ∧ (e = .returned (.tuple #[]) ∧ w' = w.drew.setCell a (.int .u32 1)) := by
 have hc' : w.drew.cell? a = some x := by go_simp
 have hz' : w.drew.frozen? a = false := by go_simp
 have hst := run_call_store (P := Tryz.prog) Tryz.func214 (by kernel_rfl) (by kernel_rfl) (by kernel_rfl) (by kernel_rfl) (k := .u32) (y := 1) hc' hz'
 go_enter_d Tryz.func204, Tryz.ntmps204
 go_wp2
 go_region_calls
 all_goals (go_end0; exact ⟨rfl, rfl⟩)
theorem unlock_deferred (a : Addr) (u : FrameMode) (w : World) (hc : w.cell? a = some (.int .i32 1)) (hz : w.frozen? a = false) :
  CallsD Tryz.prog 203 #[.pointer (some a)] u w fun e u' w' => u' = u ∧ (e = .returned (.tuple #[]) ∧ w' = w.setCell a (.int .i32 0)) := by
 have hd := race_disable;have he := race_enable;have hr := race_releaseMerge;have hadd := run_call_add (P := Tryz.prog) Tryz.func227 (by kernel_rfl) (by kernel_rfl) (by kernel_rfl) .i32 (by kernel_rfl) (y := -1) (s := 0) hc hz (by simp [go_sem]; rfl);have hcv := run_convert_to_unsafe (P := Tryz.prog) (src := 275) (dst := 165) Tryz.underlying275 Tryz.underlying165 (by kernel_rfl) hc
 go_enter_d Tryz.func203, Tryz.ntmps203
 go_wp2
 go_end0
 go_wp2
 go_end0
 exact ⟨rfl, rfl⟩
theorem lock_free (a : Addr) (w : World) (hc : w.cell? a = some (.int .i32 0)) (hz : w.frozen? a = false) :
  Calls Tryz.prog 202 #[.pointer (some a)] w fun e w' => e = .returned (.tuple #[]) ∧ w' = w.setCell a (.int .i32 1) := by
 have hd := race_disable;have he := race_enable;have ha := race_acquire;have hcas := run_call_cas_hit (P := Tryz.prog) Tryz.func222 (by kernel_rfl) (by kernel_rfl) (by kernel_rfl) .i32 (by kernel_rfl) (y := 1) hc hz;have hc' : (w.setCell a (.int .i32 1)).cell? a = some (.int .i32 1) := World.cell?_setCell_same w a _ hc;have hcv := run_convert_to_unsafe (P := Tryz.prog) (src := 275) (dst := 165) Tryz.underlying275 Tryz.underlying165 (by kernel_rfl) hc'
 go_enter Tryz.func202, Tryz.ntmps202;go_wp2
 first | go_end0 | (simp only [Exit.inBlock, Exit.then]; refine bodyPost_ret (results_none rfl _ _ _) rfl ?_) | refine bodyPost_ret (results_none rfl _ _ _) rfl ?_
 go_wp2
 go_end0
 exact ⟨rfl, rfl⟩
theorem load_zero (a : Addr) (w : World) (hc : w.cell? a = some (.int .u32 0)) :
  Calls Tryz.prog 190 #[.pointer (some a)] w fun e w' => e = .returned (.bool false) ∧ w = w' := by
 have hl := run_call_load (P := Tryz.prog) Tryz.func201 (by kernel_rfl) (by kernel_rfl) (by kernel_rfl) .u32 (by kernel_rfl) hc;go_enter Tryz.func190, Tryz.ntmps190;go_wp2;go_ret;exact ⟨rfl, rfl⟩
def OnceR (b off : Nat) (K : World -> Prop) (e : Ending) (w' : World) : Prop :=
 ∃ w1, K w1 ∧ e = .returned (.tuple #[]) ∧ w' = (w1.drew.setCell ⟨b, off, none⟩ (.int .u32 1)).setCell ⟨b, off + 1, none⟩ (.int .i32 0)
theorem slow_any (b off : Nat) (g : Nat) (pa : Array Value) (K : World -> Prop) (w : World)
  (h0 : w.cell? ⟨b, off, none⟩ = some (.int .u32 0)) (h1 : w.cell? ⟨b, off + 1, none⟩ = some (.int .i32 0))
  (_f0 : w.frozen? ⟨b, off, none⟩ = false) (f1 : w.frozen? ⟨b, off + 1, none⟩ = false)
  (eg : ∀ args w, (callFunc g args).run Tryz.prog w = .ok (.enter g args) w)
  (hf : Calls Tryz.prog g pa (w.setCell ⟨b, off + 1, none⟩ (.int .i32 1)) fun e w' => e = .returned (.tuple #[]) ∧ K w')
  (hK : ∀ w', K w' -> w'.cell? ⟨b, off, none⟩ = some (.int .u32 0) ∧ w'.cell? ⟨b, off + 1, none⟩ = some (.int .i32 1) ∧ w'.frozen? ⟨b, off, none⟩ = false ∧ w'.frozen? ⟨b, off + 1, none⟩ = false) :
  Calls Tryz.prog 191 #[.pointer (some ⟨b, off, none⟩), .func (.func g) pa #[]] w (OnceR b off K) := by
 have hl := run_call_load (P := Tryz.prog) Tryz.func201 (by kernel_rfl) (by kernel_rfl) (by kernel_rfl) .u32 (by kernel_rfl) (w := w.setCell ⟨b, off + 1, none⟩ (.int .i32 1)) (a := ⟨b, off, none⟩) (x := 0) ((World.cell?_setCell_other _ ⟨b, off + 1, none⟩ ⟨b, off, none⟩ _ (by simp)).trans h0);have hnot : ∀ (x : Bool) (w : World), (Op.unary .not (.bool x)).run Tryz.prog w = .ok (.bool (!x)) w := fun _ _ => rfl
 go_enter_defers Tryz.func191, Tryz.ntmps191
 go_wp2_with (go_at_call 202; refine (lock_free ⟨b, off + 1, none⟩ _ (by go_simp) (by go_simp)).mono ?_; rintro e w' ⟨rfl, rfl⟩);go_wp2_with fail;refine cMq (load_zero ⟨b, off, none⟩ _ ((World.cell?_setCell_other _ ⟨b, off + 1, none⟩ ⟨b, off, none⟩ _ (by simp)).trans h0)) ?_;rintro e w' ⟨rfl, rfl⟩;go_wp2_with fail;refine cMq hf ?_;rintro e w1 ⟨rfl, hk⟩;obtain ⟨k0, k1, k2, k3⟩ := hK w1 hk;have HK := hdn hk;clear hK hf hk;go_wp2
 refine leaves_cons (f := 204) (args := #[.pointer (some ⟨b, off, none⟩), .bool true]) (by simp) (by simp [go_sem]) ?_;refine (store_deferred ⟨b, off, none⟩ (.int .u32 0) .returning _ k0 k2).mono ?_;rintro e u' w'' ⟨rfl, rfl, rfl⟩;refine leaves_cons (f := 203) (args := #[.pointer (some ⟨b, off + 1, none⟩)]) (by simp [settle]) (by simp [go_sem]) ?_;refine (unlock_deferred ⟨b, off + 1, none⟩ _ _ ?_ (by simp [k3])).mono ?_
 ·refine (World.cell?_setCell_other _ ⟨b, off, none⟩ ⟨b, off + 1, none⟩ _ (by simp)).trans ?_;rw [World.cell?_drew];exact k1
 rintro e u' w'' ⟨rfl, rfl, rfl⟩;simp only [Leaves, settle];exact ⟨_, results_none rfl _ _ _, w1, HK.out, rfl, rfl⟩
theorem do_fresh (b off : Nat) (g : Nat) (pa : Array Value) (K : World -> Prop) (w : World)
  (h0 : w.cell? ⟨b, off, none⟩ = some (.int .u32 0)) (h1 : w.cell? ⟨b, off + 1, none⟩ = some (.int .i32 0))
  (f0 : w.frozen? ⟨b, off, none⟩ = false) (f1 : w.frozen? ⟨b, off + 1, none⟩ = false)
  (eg : ∀ args w, (callFunc g args).run Tryz.prog w = .ok (.enter g args) w)
  (hf : Calls Tryz.prog g pa (w.setCell ⟨b, off + 1, none⟩ (.int .i32 1)) fun e w' => e = .returned (.tuple #[]) ∧ K w')
  (hK : ∀ w', K w' -> w'.cell? ⟨b, off, none⟩ = some (.int .u32 0) ∧ w'.cell? ⟨b, off + 1, none⟩ = some (.int .i32 1) ∧ w'.frozen? ⟨b, off, none⟩ = false ∧ w'.frozen? ⟨b, off + 1, none⟩ = false) :
  Calls Tryz.prog 176 #[.pointer (some ⟨b, off, none⟩), .func (.func g) pa #[]] w (OnceR b off K) := by
 have hnot : ∀ (x : Bool) (w : World), (Op.unary .not (.bool x)).run Tryz.prog w = .ok (.bool (!x)) w := fun _ _ => rfl;go_enter Tryz.func176, Tryz.ntmps176;go_wp2_with fail;refine cMq (load_zero ⟨b, off, none⟩ _ h0) ?_;rintro e w' ⟨rfl, rfl⟩;go_wp2_with fail;refine cMq (slow_any b off g pa K _ h0 h1 f0 f1 eg hf hK) ?_;rintro e w' ⟨w1, hk, rfl, rfl⟩;go_wp2
 go_end0
 exact ⟨w1, hk, rfl, rfl⟩
end
section
open Go.RowKit
def pairCells (ps : List (UInt8 × ByteArray)) : List Value := (ps.map fun p => [Value.string ⟨#[p.1]⟩, Value.string p.2]).flatten
theorem pairCells_len : ∀ ps : List (UInt8 × ByteArray), (pairCells ps).length = 2 * ps.length
 | [] => rfl
 | p :: ps => by
  have := pairCells_len ps;unfold pairCells at this ⊢;rw [List.map_cons, List.flatten_cons, List.length_append, this, List.length_cons];simp only [List.length_cons, List.length_nil];omega
theorem pairCells_one (ps : List (UInt8 × ByteArray)) : ∀ u ∈ pairCells ps, u.oneCell' = true := by
 intro u hu;unfold pairCells at hu;obtain ⟨l, hl, hu⟩ := List.mem_flatten.1 hu;obtain ⟨p, _, rfl⟩ := List.mem_map.1 hl;simp only [List.mem_cons, List.not_mem_nil, or_false] at hu;rcases hu with rfl | rfl <;> rfl
theorem pairCells_at : ∀ (ps : List (UInt8 × ByteArray)) (i : Nat) (h : i < ps.length), (pairCells ps)[2 * i]? = some (.string ⟨#[ps[i].1]⟩) ∧ (pairCells ps)[2 * i + 1]? = some (.string ps[i].2)
 | p :: ps, 0, _ => ⟨rfl, rfl⟩
 | p :: ps, i + 1, h => by
  have := pairCells_at ps i (by simpa using h);have e : pairCells (p :: ps) = [Value.string ⟨#[p.1]⟩, Value.string p.2] ++ pairCells ps := rfl;rw [e, List.getElem?_append_right (by simp; omega), List.getElem?_append_right (by simp; omega)];simp only [List.length_cons, List.length_nil, List.getElem_cons_succ];rw [show 2 * (i + 1) - (0 + 1 + 1) = 2 * i by omega, show 2 * (i + 1) + 1 - (0 + 1 + 1) = 2 * i + 1 by omega];exact this
theorem repl_string : (Tryz.prog.info? 9).map (fun i => (i.zero, i.size, i.bytes)) = some (some (.string ⟨#[]⟩), 1, 16) := by kernel_rfl
def NewRepl (ps : List (UInt8 × ByteArray)) (w : World) (e : Ending) (w' : World) : Prop :=
 ∃ (R : Nat) (v : Value), e = .returned (.pointer (some ⟨R, 0, none⟩)) ∧ w.heap.size ≤ R ∧ Below w.heap.size w w' ∧
  w'.heap[R]? = some (.cells #[.int .u32 0, .int .i32 0, .int .u32 0, .nilIface, v] 198 (0, 0)) ∧ w'.ownsRow w.heap.size 9 1 v (2 * ps.length) (pairCells ps)
theorem newReplacer_any (ps : List (UInt8 × ByteArray)) (a : Addr) (m c : Nat) (w : World) (hm : m = 2 * ps.length) (h0 : 0 < ps.length) (hn : ps.length ≤ 1000) (hc : ∀ j u, (pairCells ps)[j]? = some u -> w.cell? (a.add j) = some u) :
  Calls Tryz.prog 139 #[.slice (some a) m c] w (NewRepl ps w) := by
 obtain ⟨i0, hi, hz0, hz1, hz2⟩ := info_parts repl_string;have hl : (pairCells ps).length = m * 1 := by rw [pairCells_len]; omega
 have HL := hdn hl;have HC := hdn hc;have HM := hdn hm;have hodd : (((m : Nat) : Int) % 2 == 1) = false := by rw [beq_eq_false_iff_ne]; omega
 have hmb : (m : Int) ≤ 2000 := by omega
 have hmp : (0 : Int) < (m : Int) := by omega
 have hmk : m ≤ 2000 := by omega
 clear hl hc hm;go_enter Tryz.func139, Tryz.ntmps139;go_wp2_with (at_builtin; refine wpList_append_own_at _ rfl _ _ 36 rfl w.heap.size 9 i0 _ 1 16 Tryz.underlying36 hi hz0 hz1 hz2 rfl (by decide) (.slice none 0 0) 0 [] rfl (World.ownsRow_nil w _ _ _) a m c (pairCells ps) rfl HL.out HC.out (pairCells_one ps) (by unfold maxLen; omega) (by omega) (Nat.le_refl _) ?_);intro v w1 hown hg _ hob;obtain ⟨g, cap, rfl, hge, hgl⟩ := hown.form (by omega)
 have b1 : Below w.heap.size w w1 := (Below.refl _ w).grown hg (Nat.le_refl _) (by intro k hk; simp [Value.ownBlock] at hk);have HO := hdn hown;clear hown hob hg;go_wp2;go_ret;refine ⟨w1.heap.size, _, rfl, b1.size, b1.alloc b1.size _, heap_alloc_new w1 _, ?_⟩;have := HO.out.alloc (.cells #[.int .u32 0, .int .i32 0, .int .u32 0, .nilIface, .slice (some ⟨g, 0, none⟩) m cap] 198 (0, 0));rw [<- HM.out];exact this
end
section
open Go.RowKit
def tabv : List (UInt8 × ByteArray) -> UInt8 -> Option ByteArray
 | [], _ => none
 | p :: ps, x => if p.1 = x then some p.2 else tabv ps x
theorem run_make_rowN {P : Program} (t e : TypeId) (i : TypeInfo) (z : Value) (ht : P.underlying t = some (.slice e)) (hi : P.info? e = some i) (hz : i.zero = some z)
  (kl kc : IntKind) (n c : Nat) (hnc : n ≤ c) (hbytes : i.bytes * c ≤ 281474976710656) (h63 : c ≤ 9223372036854775807) (w : World) :
  (Instr.makeSlice t (.int kl (n : Int)) (.int kc (c : Int))).run P w = .ok (.slice (some ⟨w.heap.size, 0, none⟩) n c) (w.alloc (.cells (madeCells z.cells (c * i.size)) e)) := by
 have hb : (i.bytes : Int) * (c : Int) ≤ 281474976710656 := by
  have h : ((i.bytes * c : Nat) : Int) ≤ 281474976710656 := by omega
  rwa [Int.natCast_mul] at h
 have hr := run_make (P := P) w t e i z ht hi hz kl kc n c (by omega) (by omega) hb (by omega);simp only [Int.toNat_natCast] at hr;exact hr
def bsCells (v : Value) : Array Value := ((List.replicate 257 (Value.slice none 0 0)).set 256 v).toArray
def bsObj (v : Value) : Obj := .cells (bsCells v) 248
theorem bs_zero : Tryz.zeroCells248.toList = List.replicate 257 (Value.slice none 0 0) := by kernel_rfl
theorem bs_size (v : Value) : (bsCells v).size = 257 := by
 unfold bsCells;rw [List.size_toArray, List.length_set, List.length_replicate]
theorem bs_at (v : Value) (i : Nat) (h : i < 256) : (bsCells v)[i]? = some (.slice none 0 0) := by
 unfold bsCells;rw [List.getElem?_toArray, List.getElem?_set_ne (by omega), List.getElem?_replicate, if_pos (by omega)]
theorem bs_last (v : Value) : (bsCells v)[256]? = some v := by
 unfold bsCells;rw [List.getElem?_toArray, List.getElem?_set_self (by rw [List.length_replicate]; omega)]
theorem bs_store (A : Option Addr) (n c : Nat) (W : World) (b : Nat) (hb : W.heap.size = b) :
  (storeCells ⟨b, 0, none⟩ (Tryz.zeroCells248.toList.set 256 (.slice A n c))).run Tryz.prog (W.alloc (.cells Tryz.zeroCells248 248)) = .ok () (W.alloc (bsObj (.slice A n c))) := by
 subst hb;have h := run_storeCells_from (P := Tryz.prog) W.heap.size 248 (Tryz.zeroCells248.toList.set 256 (.slice A n c)) 0 Tryz.zeroCells248 (W.alloc (.cells Tryz.zeroCells248 248)) (heap_alloc_new W _)
  (by rw [List.length_set, Nat.zero_add, lTq]) (fun v hv => by
   rcases List.mem_or_eq_of_mem_set hv with h | h
   ·rw [bs_zero] at h;rw [(List.mem_replicate.1 h).2]; rfl
   ·rw [h]; rfl)
 rw [h, World.setRow_alloc_new, bs_zero];rfl
theorem tabv_fresh (ps : List (UInt8 × ByteArray)) (k : Nat) (hk : k < ps.length) (x : UInt8) (hx : ps[k].1 = x) (hnd : (ps.map (·.1)).Nodup) : tabv (ps.drop (k + 1)) x = none := by
 have hno : ∀ (l : List (UInt8 × ByteArray)), x ∉ l.map (·.1) -> tabv l x = none := by
  intro l
  induction l with
  | nil => intro _; rfl
  | cons p l ih =>
   intro h;rw [List.map_cons, List.mem_cons, not_or] at h;rw [tabv, if_neg (fun e => h.1 e.symm)];exact ih h.2
 apply hno;have e : ps.map (·.1) = (ps.map (·.1)).take k ++ x :: (ps.map (·.1)).drop (k + 1) := by
  have hl : k < (ps.map (·.1)).length := by simpa using hk
  have e2 : (ps.map (·.1))[k] = x := by simpa using hx
  conv => lhs; rw [<- List.take_append_drop k (ps.map (·.1))]
  rw [List.drop_eq_getElem_cons hl, e2]
 rw [e, List.nodup_append] at hnd;have := hnd.2.1;rw [List.nodup_cons] at this;rw [List.map_drop];exact this.1
theorem conv_one (x : UInt8) (W : World) : (convert 22 9 (.slice (some ⟨W.heap.size, 0, none⟩) 1 1)).run Tryz.prog (W.alloc (.cells #[.int .u8 (x.toNat : Int)] 5)) = .ok (.string ⟨#[x]⟩) (W.alloc (.cells #[.int .u8 (x.toNat : Int)] 5)) := by
 refine run_convert_bytes_back (P := Tryz.prog) (W.alloc (.cells #[.int .u8 (x.toNat : Int)] 5)) 22 9 5 ⟨W.heap.size, 0, none⟩ 1 [x] Tryz.underlying22 Tryz.underlying5 Tryz.underlying9 ?_;intro j hj;have hj0 : j = 0 := by simp at hj; exact hj
 subst hj0;simp [Addr.add]
theorem own_slice {w : World} {base : Nat} {e : TypeId} {size n : Nat} {v : Value} {xs : List Value} (h : w.ownsRow base e size v n xs) : ∃ A m c, v = .slice A m c := by
 rcases h.2 with ⟨rfl, _⟩ | ⟨g, cap, cur, rfl, _⟩
 ·exact ⟨_, _, _, rfl⟩
 ·exact ⟨_, _, _, rfl⟩
theorem lt_of_block {w : World} {B : Nat} {o : Obj} (h : w.heap[B]? = some o) : B < w.heap.size := (gSq.1 h).1
theorem own_ne_block {w : World} {base : Nat} {e : TypeId} {size n : Nat} {v : Value} {xs : List Value} {B : Nat} {cs : Array Value} {t : TypeId} {fr : Nat × Nat} (h : w.ownsRow base e size v n xs) (hB : w.heap[B]? = some (.cells cs t fr)) (hne : e ≠ t) : v.ownBlock ≠ some B := by
 rcases h.2 with ⟨rfl, _⟩ | ⟨g', cap, cur, rfl, _, hh, _⟩
 ·simp [Value.ownBlock]
 ·intro he;have : g' = B := by simpa [Value.ownBlock] using he
  subst this;rw [hB] at hh;injection hh with hh;injection hh with _ ht;exact hne ht.symm
theorem set_block {w : World} {B : Nat} {cs : Array Value} {t : TypeId} {fr : Nat × Nat} (h : w.heap[B]? = some (.cells cs t fr)) (i : Nat) (u : Value) : (w.setCell ⟨B, i, none⟩ u).heap[B]? = some (.cells (cs.setIfInBounds i u) t fr) := by
 simp [World.setCell, Array.getElem?_modify, h]
def TabOk (lo : Nat) (cs : Array Value) (t : UInt8 -> Option ByteArray) (wr : World) : Prop :=
 ∀ x : UInt8, (t x = none -> cs[x.toNat]? = some (.slice none 0 0)) ∧
  ∀ s, t x = some s -> ∃ (gg c : Nat) (C : Array Value) (fr : Nat × Nat), cs[x.toNat]? = some (.slice (some ⟨gg, 0, none⟩) s.size c) ∧ lo ≤ gg ∧ wr.heap[gg]? = some (.cells C 5 fr) ∧ ∀ j (hj : j < s.size), C[j]? = some (.int .u8 (s[j].toNat : Int))
def BStep (w : World) (ps : List (UInt8 × ByteArray)) (B k : Nat) (wr : World) : Prop :=
 ∃ (cs : Array Value) (v : Value), wr.heap[B]? = some (.cells cs 248 (0, 0)) ∧ cs.size = 257 ∧ cs[256]? = some v ∧ TabOk w.heap.size cs (tabv (ps.drop k)) wr ∧
  wr.ownsRow w.heap.size 9 1 v (ps.length - k) ((ps.drop k).reverse.map fun p => .string ⟨#[p.1]⟩) ∧ Below w.heap.size w wr
theorem own_set_other {w : World} {base : Nat} {e : TypeId} {size n : Nat} {v : Value} {xs : List Value} (h : w.ownsRow base e size v n xs) {p : Addr} (hne : v.ownBlock ≠ some p.block) (u : Value) : (w.setCell p u).ownsRow base e size v n xs := by
 have hg : w.grownBy (w.setCell p u) (some p.block) := ⟨rfl, rfl, rfl, by simp [World.setCell], fun i _ hi => Below.heap_setCell w p u i (fun e => hi (by rw [e]))⟩;exact h.kept hg (.inr hne)
theorem bstep_round {w wr W2 : World} {ps : List (UInt8 × ByteArray)} {B k c0 : Nat} {x : UInt8} {s : ByteArray} {cs : Array Value} {v v2 : Value} {xs : List Value} {o1 o2 : Obj} {cap : Nat} {fr : Nat × Nat}
  (hk : k < ps.length) (hx : ps[k].1 = x) (hs : ps[k].2 = s) (hBw : w.heap.size ≤ B) (hB : wr.heap[B]? = some (.cells cs 248 (0, 0))) (hcs : cs.size = 257) (ht : TabOk w.heap.size cs (tabv (ps.drop (k + 1))) wr)
  (hown : wr.ownsRow w.heap.size 9 1 v c0 xs) (hbl : Below w.heap.size w wr) (hg : ((wr.alloc o1).alloc o2).grownBy W2 v.ownBlock) (hB2 : W2.heap[B]? = some (.cells cs 248 (0, 0)))
  (hown2 : W2.ownsRow w.heap.size 9 1 v2 (ps.length - (k + 1) + 1) (((ps.drop (k + 1)).reverse.map fun p => .string ⟨#[p.1]⟩) ++ [.string ⟨#[x]⟩])) :
  BStep w ps B k ((((W2.setCell ⟨B, 256, none⟩ v2).setCell ⟨B, x.toNat, none⟩ (.slice (some ⟨W2.heap.size, 0, none⟩) s.size cap)).alloc (.cells (bytesRow s cap) 5 fr)).drew) := by
 have hx8 : x.toNat < 256 := UInt8.toNat_lt x;have hdr : ps.drop k = ps[k] :: ps.drop (k + 1) := List.drop_eq_getElem_cons hk;have hBl := lt_of_block hB;have hBl2 := lt_of_block hB2;have hsz : ∀ (i : Nat) (u : Value) (W : World), (W.setCell ⟨B, i, none⟩ u).heap.size = W.heap.size := fun i u W => by simp [World.setCell]
 have hb1 := set_block hB2 256 v2;have hb2 := set_block hb1 x.toNat (.slice (some ⟨W2.heap.size, 0, none⟩) s.size cap);have hob : v2.ownBlock ≠ some B := own_ne_block hown2 hB2 (by decide);have hz : ((W2.setCell ⟨B, 256, none⟩ v2).setCell ⟨B, x.toNat, none⟩ (.slice (some ⟨W2.heap.size, 0, none⟩) s.size cap)).heap.size = W2.heap.size := by rw [hsz, hsz]
 refine ⟨(cs.setIfInBounds 256 v2).setIfInBounds x.toNat (.slice (some ⟨W2.heap.size, 0, none⟩) s.size cap), v2, ?_, by simp [hcs], ?_, ?_, ?_, ?_⟩
 ·show (World.alloc _ _).heap[B]? = _;rw [Below.heap_alloc _ _ _ (by rw [hz]; exact hBl2)];exact hb2
 ·rw [Array.getElem?_setIfInBounds_ne (by omega), Array.getElem?_setIfInBounds_self_of_lt (by omega)]
 ·intro y
  by_cases hy : y = x
  ·subst hy;have e : tabv (ps.drop k) y = some s := by rw [hdr, tabv, if_pos hx, hs]
   rw [e];refine ⟨(fun h => by cases h), fun s' h => ?_⟩
   cases h
   refine ⟨W2.heap.size, cap, bytesRow s cap, fr, by rw [Array.getElem?_setIfInBounds_self_of_lt (by simp [hcs]; omega)], ?_, ?_, fun j hj => bytesRow_at s cap j hj⟩
   ·have := hg.size;have := hbl.size;simp at *;omega
   ·show (World.alloc _ _).heap[W2.heap.size]? = _;have hh := heap_alloc_new ((W2.setCell ⟨B, 256, none⟩ v2).setCell ⟨B, y.toNat, none⟩ (.slice (some ⟨W2.heap.size, 0, none⟩) s.size cap)) (.cells (bytesRow s cap) 5 fr);rw [hz] at hh;exact hh
  ·have e : tabv (ps.drop k) y = tabv (ps.drop (k + 1)) y := by rw [hdr, tabv, if_neg (fun h => hy (by rw [<- h, hx]))]
   have hy8 : y.toNat < 256 := UInt8.toNat_lt y;have hyx : x.toNat ≠ y.toNat := fun h => hy (UInt8.toNat_inj.1 h.symm);rw [e];obtain ⟨t1, t2⟩ := ht y;have hget : ((cs.setIfInBounds 256 v2).setIfInBounds x.toNat (.slice (some ⟨W2.heap.size, 0, none⟩) s.size cap))[y.toNat]? = cs[y.toNat]? := by
    rw [Array.getElem?_setIfInBounds_ne hyx, Array.getElem?_setIfInBounds_ne (by omega)]
   rw [hget];refine ⟨t1, fun s' h => ?_⟩;obtain ⟨gg, c, C, fr', q1, q2, q3, q4⟩ := t2 s' h;refine ⟨gg, c, C, fr', q1, q2, ?_, q4⟩;have hgl := lt_of_block q3;have hneB : gg ≠ B := by
    rintro rfl;rw [hB] at q3;injection q3 with q3;injection q3 with _ q3
    cases q3
   have hneo : v.ownBlock ≠ some gg := own_ne_block hown q3 (by decide);have hW2 : W2.heap[gg]? = some (.cells C 5 fr') := by
    refine (hg.block gg (by simp; omega) (fun e => hneo e.symm)).trans ?_;exact ((Below.heap_alloc _ _ _ (by simp; omega)).trans (Below.heap_alloc wr _ _ hgl)).trans q3
   show (World.alloc _ _).heap[gg]? = _;rw [Below.heap_alloc _ _ _ (by rw [hz]; exact lt_of_block hW2), Below.heap_setCell _ _ _ _ hneB, Below.heap_setCell _ _ _ _ hneB];exact hW2
 ·have h1 := ((own_set_other (own_set_other hown2 (p := ⟨B, 256, none⟩) hob v2) (p := ⟨B, x.toNat, none⟩) hob (.slice (some ⟨W2.heap.size, 0, none⟩) s.size cap)).alloc (.cells (bytesRow s cap) 5 fr)).drew;have e1 : ps.length - (k + 1) + 1 = ps.length - k := by omega
  have e2 : ((ps.drop k).reverse.map fun p => Value.string ⟨#[p.1]⟩) = ((ps.drop (k + 1)).reverse.map fun p => Value.string ⟨#[p.1]⟩) ++ [Value.string ⟨#[x]⟩] := by
   rw [hdr, List.reverse_cons, List.map_append, List.map_singleton, hx]
  rw [e1, <- e2] at h1;exact h1
 ·have hb2' : Below w.heap.size w W2 := (((hbl.alloc hbl.size o1).alloc (by have := hbl.size; simp; omega) o2)).grown hg (by have := hbl.size; simp; omega) (fun g hgg => (hown.lt g hgg).1);exact (((hb2'.setCell (p := ⟨B, 256, none⟩) hBw v2).setCell (p := ⟨B, x.toNat, none⟩) hBw _).alloc (by rw [hz]; exact hb2'.size) _).drew
theorem bstep_start (w : World) (ps : List (UInt8 × ByteArray)) (n : Nat) (hn : n ≤ maxLen) (C : Array Value) (hC : C.size = n) :
  BStep w ps (w.heap.size + 1) ps.length ((w.alloc (.cells C 9)).alloc (bsObj (.slice (some ⟨w.heap.size, 0, none⟩) 0 n))) := by
 refine ⟨bsCells (.slice (some ⟨w.heap.size, 0, none⟩) 0 n), _, ?_, bs_size _, bs_last _, ?_, ?_, ?_⟩
 ·have := heap_alloc_new (w.alloc (.cells C 9)) (bsObj (.slice (some ⟨w.heap.size, 0, none⟩) 0 n));have e : (w.alloc (.cells C 9)).heap.size = w.heap.size + 1 := by simp
  rw [e] at this;exact this
 ·intro x;rw [List.drop_of_length_le (Nat.le_refl _)];exact ⟨fun _ => bs_at _ _ (UInt8.toNat_lt x), fun s h => by cases h⟩
 ·have h := (World.ownsRow_made (base := w.heap.size) (e := 9) (size := 1) w C n (Nat.le_refl _) hn (by omega)).alloc (bsObj (.slice (some ⟨w.heap.size, 0, none⟩) 0 n));rw [List.drop_of_length_le (Nat.le_refl _), Nat.sub_self];exact h
 ·exact ((Below.refl _ w).alloc (Nat.le_refl _) _).alloc (by simp) _
def BSR (lo B : Nat) (ps : List (UInt8 × ByteArray)) (wr : World) : Prop :=
 ∃ (cs : Array Value) (v : Value), wr.heap[B]? = some (.cells cs 248 (0, 0)) ∧ cs[256]? = some v ∧ TabOk lo cs (tabv ps) wr ∧
  wr.ownsRow lo 9 1 v ps.length (ps.reverse.map fun p => .string ⟨#[p.1]⟩)
def BuiltR (w : World) (ps : List (UInt8 × ByteArray)) (e : Ending) (w' : World) : Prop :=
 ∃ B, w.heap.size ≤ B ∧ e = .returned (.iface 249 (.pointer (some ⟨B, 0, none⟩))) ∧ BSR w.heap.size B ps w' ∧ Below w.heap.size w w'
theorem build_any (ps : List (UInt8 × ByteArray)) (R g m cap : Nat) (w : World) (hm : m = 2 * ps.length) (h0 : 0 < ps.length) (hn : ps.length ≤ 1000) (hv : ∀ p ∈ ps, p.2.size ≠ 1) (hnd : (ps.map (·.1)).Nodup) (hg : g < w.heap.size)
  (hR : w.cell? ⟨R, 4, none⟩ = some (.slice (some ⟨g, 0, none⟩) m cap)) (hc : ∀ j u, (pairCells ps)[j]? = some u -> w.cell? ⟨g, j, none⟩ = some u) :
  Calls Tryz.prog 192 #[.pointer (some ⟨R, 0, none⟩)] w (BuiltR w ps) := by
 have hmb : (m : Int) ≤ 2000 := by omega
 have hmp : (0 : Int) < (m : Int) := by omega
 have hmk : m ≤ 2000 := by omega
 have hc0 : w.cell? ⟨g, 0, none⟩ = some (.string ⟨#[ps[0].1]⟩) := hc 0 _ (pairCells_at ps 0 h0).1;have hat : ∀ k (hk : k < ps.length), w.cell? ⟨g, 2 * k, none⟩ = some (.string ⟨#[ps[k].1]⟩) ∧ w.cell? ⟨g, 2 * k + 1, none⟩ = some (.string ps[k].2) ∧ (((ps[k].2.size : Nat) : Int) != 1) = true := fun k hk =>
  ⟨hc _ _ (pairCells_at ps k hk).1, hc _ _ (pairCells_at ps k hk).2, by rw [bne_iff_ne]; have := hv _ (List.getElem_mem hk); omega⟩;obtain ⟨i0, hi, hz0, hz1, hz2⟩ := info_parts repl_string;obtain ⟨n, hnn⟩ : ∃ n, ps.length = n := ⟨_, rfl⟩;have hdiv : ((m : Nat) : Int) / 2 = (n : Int) := by omega
 have hms : ∀ W : World, (Instr.makeSlice 36 (.int .i64 0) (.int .i64 (n : Int))).run Tryz.prog W = .ok (.slice (some ⟨W.heap.size, 0, none⟩) 0 n) (W.alloc (.cells (madeCells #[.string ⟨#[]⟩] n) 9)) := fun W => by
  have h := run_make_rowN (P := Tryz.prog) 36 9 i0 _ Tryz.underlying36 hi hz0 .i64 .i64 0 n (Nat.zero_le _) (by rw [hz2]; omega) (by omega) W;rw [hz1] at h;simpa [Value.cells] using h
 clear hi hz0 hz1 hz2;have HN := hdn hnn;have HND := hdn hnd;clear hnd;have qT : ∀ (w : World) (a : Option Addr) (n c n' c' : Nat), (binOp .eql 22 (.slice a n c) (.slice none n' c')).run Tryz.prog w = .ok (.bool a.isNone) w := fun w a n c n' c' => Lib.run_eql_slice_nil w _ _ a n c n' c' Tryz.underlying22;clear hnn;have hb3 := bs_store;have HAT := hdn hat;have HM := hdn hm;clear hat hc hv;obtain ⟨bb, hbb⟩ : ∃ bb, (((m : Nat) : Int) == 2) = bb := ⟨_, rfl⟩;clear hm;go_enter Tryz.func192, Tryz.ntmps192
 cases bb
 all_goals
  go_wp2_with fail;go_loop [4, 5] (fun al i => ∃ (q k : Nat) (b : Bool), al = .bool b ∧ i = .int .i64 q ∧ q = 2 * k ∧ k ≤ ps.length ∧ (b = true -> k = 0)) (fun _ i => m - (intOf i).toNat)
  case atStart => exact ⟨0, 0, true, rfl, rfl, rfl, Nat.zero_le _, fun _ => rfl⟩
  case round =>
   obtain ⟨q, k, b, rfl, rfl, hq, hk, hb⟩ := hrel;have HB := hdn hb;clear hb
   by_cases hlt : k < ps.length
   ·obtain ⟨e0, e1, e2⟩ := HAT.out k hlt;rw [<- hq] at e0 e1;have hqm : q + 1 < m := by have := HM.out; omega
    have hqi : (q : Int) + 1 < (m : Int) := by omega
    have hqj : (q : Int) < (m : Int) := by omega
    have HQ := hdn hq;clear hq;go_wp2
    go_round
    case rel => exact ⟨q + 2, k + 1, false, rfl, by go_num, by have := HQ.out; omega, by omega, fun h => by cases h⟩
    case measure => simp [intOf]; omega
   ·obtain rfl : q = m := by have := HM.out; omega
    have hkz : b = false := by
     cases b
     ·rfl
     ·have := HB.out rfl; omega
    subst hkz;clear HB hq;go_wp2_with fail
    go_loopw [12] (fun i wr => ∃ (z : Int) (k : Nat), i = .int .i64 z ∧ z = 2 * (k : Int) - 2 ∧ k ≤ ps.length ∧ BStep w ps (w.heap.size + 1) k wr) (fun i _ => (intOf i + 2).toNat)
    case atStart =>
     refine ⟨_, ps.length, rfl, ?_, Nat.le_refl _, ?_⟩
     ·have := HM.out; omega
     ·exact bstep_start w ps n (by unfold maxLen; have := HN.out; omega) _ (by simp [madeCells])
    case round =>
     obtain ⟨z, k, rfl, hz, hk, hbs⟩ := hrel
     by_cases hkz : k = 0
     ·obtain rfl : z = -2 := by omega
      subst hkz;have HB := hdn hbs;clear hbs hz;go_wp2;go_ret;obtain ⟨cs, v, q1, _, q2, q3, q4, q5⟩ := HB.out;exact ⟨w.heap.size + 1, by omega, rfl, ⟨cs, v, q1, q2, by simpa using q3, by simpa using q4⟩, q5⟩
     ·obtain ⟨k', rfl⟩ : ∃ k', k = k' + 1 := ⟨k - 1, by omega⟩;obtain ⟨q', hq'⟩ : ∃ q' : Nat, z = q' := ⟨2 * k', by omega⟩;subst hq';obtain ⟨cs, v, hB, hcs, hv, htab, hown, hbl⟩ := hbs;have hkl : k' < ps.length := by omega
      obtain ⟨e0, e1, _⟩ := HAT.out k' hkl;obtain ⟨x, hx⟩ : ∃ x, ps[k'].1 = x := ⟨_, rfl⟩;obtain ⟨s, hs⟩ : ∃ s, ps[k'].2 = s := ⟨_, rfl⟩;rw [hx] at e0;rw [hs] at e1;have hqk : q' = 2 * k' := by omega
      rw [<- hqk] at e0 e1;have f0 : wr.cell? ⟨g, q', none⟩ = some (.string ⟨#[x]⟩) := (hbl.cell (p := ⟨g, q', none⟩) hg).trans e0;have f1 : wr.cell? ⟨g, q' + 1, none⟩ = some (.string s) := (hbl.cell (p := ⟨g, q' + 1, none⟩) hg).trans e1;have hqi : (q' : Int) + 1 < (q : Int) := by have := HM.out; omega
      have hqj : (q' : Int) < (q : Int) := by omega
      have hqn : q' + 1 < q := by omega
      obtain ⟨A, nn, cc, rfl⟩ := own_slice hown;have b256 : wr.cell? ⟨w.heap.size + 1, 256, none⟩ = some (.slice A nn cc) := by rw [cell_of_row wr _ 256 cs _ (0, 0) hB]; exact hv
      have bx : wr.cell? ⟨w.heap.size + 1, x.toNat, none⟩ = some (.slice none 0 0) := by
       rw [cell_of_row wr _ _ cs _ (0, 0) hB];refine (htab x).1 (tabv_fresh ps k' hkl x hx HND.out)
      have hlit : ∀ h, (⟨#[x]⟩ : ByteArray)[0]'h = x := fun _ => rfl;have hx8 : (x.toNat : Int) < 256 := by have := UInt8.toNat_lt x; omega
      have hx9 : x.toNat < 256 := UInt8.toNat_lt x;have HS := hdn hs;have HX := hdn hx;have HO := hdn hown;have HT := hdn htab;have HV := hdn hv;have HBB := hdn hB;have HCS := hdn hcs;have HQ := hdn hqk;have HBL := hdn hbl;clear e0 e1 hown htab hv hB hcs hs hx hqk hz hbl;have hconv : ∀ W : World, (convert 22 9 (.slice (some ⟨W.heap.size, 0, none⟩) 1 1)).run Tryz.prog (W.alloc (.cells #[.int .u8 (x.toNat : Int)] 5)) = .ok (.string ⟨#[x]⟩) (W.alloc (.cells #[.int .u8 (x.toNat : Int)] 5)) := conv_one x
      have hcb := fun W => run_bytes_of_string (P := Tryz.prog) W 9 22 5 s Tryz.underlying9 Tryz.underlying22 Tryz.underlying5;have HO2 := (HO.out.alloc (.cells #[.int .u8 (x.toNat : Int)] 5)).alloc (.cells #[.string ⟨#[x]⟩] 9)
      go_wp2_with (at_builtin; have hI := info_parts repl_string; obtain ⟨i0, hi, hz0, hz1, hz2⟩ := hI; (refine wpList_append_own_at _ rfl _ _ 36 rfl w.heap.size 9 i0 _ 1 16 Tryz.underlying36 hi hz0 hz1 hz2 rfl (by decide) (.slice A nn cc) (ps.length - (k' + 1)) _ rfl HO2 ⟨wr.heap.size + 1, 0, none⟩ 1 1 [.string ⟨#[x]⟩] rfl rfl ?c1 ?c2 ?c3 ?c4 ?c5 ?_))
      case c1 =>
       have e : (wr.alloc (.cells #[.int .u8 (x.toNat : Int)] 5)).heap.size = wr.heap.size + 1 := by simp
       rw [<- e];exact cell_one_new _ _ _
      case c2 => intro u hu; rw [List.mem_singleton.1 hu]; rfl
      case c3 => unfold maxLen; omega
      case c4 => omega
      case c5 => have := HBL.out.size; simp; omega
      intro v2 W2 hown2 hgr2 _ hob2;obtain ⟨A2, n2, c2', rfl⟩ := own_slice hown2;have hBlt : w.heap.size + 1 < wr.heap.size := lt_of_block HBB.out;have hne := own_ne_block HO.out HBB.out (by decide);have hB2 : W2.heap[w.heap.size + 1]? = some (.cells cs 248 (0, 0)) := by
       refine (hgr2.block _ (by simp; omega) (fun e => hne e.symm)).trans ?_;exact ((Below.heap_alloc _ _ _ (by simp; omega)).trans (Below.heap_alloc wr _ _ hBlt)).trans HBB.out
      have hBl2 : w.heap.size + 1 < W2.heap.size := lt_of_block hB2;have d1 : W2.cell? ⟨w.heap.size + 1, 256, none⟩ = some (.slice A nn cc) := by rw [cell_of_row W2 _ 256 cs _ (0, 0) hB2]; exact HV.out
      have d2 : W2.frozen? ⟨w.heap.size + 1, 256, none⟩ = false := by simp [World.frozen?, hB2]
      have hB3 := set_block hB2 256 (.slice A2 n2 c2');have d3 : (W2.setCell ⟨w.heap.size + 1, 256, none⟩ (.slice A2 n2 c2')).cell? ⟨w.heap.size + 1, x.toNat, none⟩ = some (.slice none 0 0) := by
       rw [cell_of_row _ _ _ _ _ (0, 0) hB3, Array.getElem?_setIfInBounds_ne (by omega)];exact (HT.out x).1 (tabv_fresh ps k' hkl x HX.out HND.out)
      have d4 : (W2.setCell ⟨w.heap.size + 1, 256, none⟩ (.slice A2 n2 c2')).frozen? ⟨w.heap.size + 1, x.toNat, none⟩ = false := by simp [World.frozen?, hB3]
      have d5 : (W2.setCell ⟨w.heap.size + 1, 256, none⟩ (.slice A2 n2 c2')).heap.size = W2.heap.size := by simp [World.setCell]
      have HB2 := hdn hB2;have HB3 := hdn hB3;have HW2 := hdn hown2;have HG2 := hdn hgr2;have HOB := hdn hob2;clear hB2 hB3 hown2 hgr2 hob2 b256 bx f0 f1;go_wp2
      go_roundw
      case rel =>
       refine ⟨_, k', rfl, by have := HQ.out; omega, by omega, ?_⟩;have h2 := HW2.out;rw [<- List.map_drop, <- List.map_reverse] at h2;exact bstep_round hkl HX.out HS.out (by omega) HBB.out HCS.out HT.out HO.out HBL.out HG2.out HB2.out h2
      case measure => simp [intOf]; omega
end
section
open Go.RowKit
def rep1 (ps : List (UInt8 × ByteArray)) (b : UInt8) : List UInt8 := match tabv ps b with | none => [b] | some s => s.data.toList
def repl (ps : List (UInt8 × ByteArray)) (l : List UInt8) : List UInt8 := (l.map (rep1 ps)).flatten
def adj (L : List (UInt8 × ByteArray)) (l : List UInt8) : Int := (L.map fun p => (l.count p.1 : Int) * ((p.2.size : Int) - 1)).sum
def adj1 (ps : List (UInt8 × ByteArray)) (b : UInt8) : Int := match tabv ps b with | none => 0 | some s => (s.size : Int) - 1
theorem rep1_len (ps : List (UInt8 × ByteArray)) (b : UInt8) : ((rep1 ps b).length : Int) = 1 + adj1 ps b := by
 unfold rep1 adj1
 cases tabv ps b with
 | none => rfl
 | some s =>
  have e : s.data.toList.length = s.size := lTq;simp only [e];omega
theorem repl_cons (ps : List (UInt8 × ByteArray)) (b : UInt8) (l : List UInt8) : repl ps (b :: l) = rep1 ps b ++ repl ps l := rfl
theorem repl_append (ps : List (UInt8 × ByteArray)) (l k : List UInt8) : repl ps (l ++ k) = repl ps l ++ repl ps k := by
 unfold repl; rw [List.map_append, List.flatten_append]
theorem adj_nil (L : List (UInt8 × ByteArray)) : adj L [] = 0 := by
 unfold adj
 induction L with
 | nil => rfl
 | cons p L ih => rw [List.map_cons, List.sum_cons, ih]; simp
theorem tabv_none {ps : List (UInt8 × ByteArray)} {x : UInt8} (h : x ∉ ps.map (·.1)) : tabv ps x = none := by
 induction ps with
 | nil => rfl
 | cons p l ih =>
  rw [List.map_cons, List.mem_cons, not_or] at h;rw [tabv, if_neg (fun e => h.1 e.symm)];exact ih h.2
theorem tabv_mem {ps : List (UInt8 × ByteArray)} {x : UInt8} {s : ByteArray} (h : tabv ps x = some s) : (x, s) ∈ ps := by
 induction ps with
 | nil => cases h
 | cons p l ih =>
  rw [tabv] at h;split at h
  ·rename_i e; cases h; rw [<- e]; simp
  ·exact List.mem_cons_of_mem _ (ih h)
theorem tabv_of_mem {ps : List (UInt8 × ByteArray)} {p : UInt8 × ByteArray} (hnd : (ps.map (·.1)).Nodup) (h : p ∈ ps) : tabv ps p.1 = some p.2 := by
 induction ps with
 | nil => cases h
 | cons q l ih =>
  rw [List.map_cons, List.nodup_cons] at hnd;rw [tabv];rcases List.mem_cons.1 h with rfl | h
  ·rw [if_pos rfl]
  ·rw [if_neg (fun e => hnd.1 (by rw [e]; exact List.mem_map_of_mem h))];exact ih hnd.2 h
theorem adj_cons (ps : List (UInt8 × ByteArray)) (hnd : (ps.map (·.1)).Nodup) (b : UInt8) (l : List UInt8) : adj ps (b :: l) = adj1 ps b + adj ps l := by
 induction ps with
 | nil => simp [adj, adj1, tabv]
 | cons p ps ih =>
  rw [List.map_cons, List.nodup_cons] at hnd;have h := ih hnd.2;have e1 : ∀ k, adj (p :: ps) k = (k.count p.1 : Int) * ((p.2.size : Int) - 1) + adj ps k := fun k => by unfold adj; rw [List.map_cons, List.sum_cons]
  rw [e1, e1, h, List.count_cons];unfold adj1;rw [tabv]
  by_cases hb : p.1 = b
  ·subst hb;have hn : tabv ps p.1 = none := tabv_none hnd.1;simp only [beq_self_eq_true, if_true, hn];have e : ((l.count p.1 + 1 : Nat) : Int) = (l.count p.1 : Int) + 1 := by omega
   rw [e, Int.add_mul, Int.one_mul];omega
  ·have hb' : (b == p.1) = false := by rw [beq_eq_false_iff_ne]; exact fun e => hb e.symm
   rw [if_neg hb, hb'];simp only [Bool.false_eq_true, if_false, Nat.add_zero];omega
theorem repl_len (ps : List (UInt8 × ByteArray)) (hnd : (ps.map (·.1)).Nodup) : ∀ l : List UInt8, ((repl ps l).length : Int) = l.length + adj ps l
 | [] => by rw [adj_nil]; rfl
 | b :: l => by
  have h := repl_len ps hnd l;have h1 := rep1_len ps b;rw [repl_cons, adj_cons ps hnd, List.length_append, List.length_cons];omega
theorem adj_reverse (L : List (UInt8 × ByteArray)) (l : List UInt8) : adj L.reverse l = adj L l := by
 unfold adj; rw [List.map_reverse, List.sum_reverse]
theorem adj_take (L : List (UInt8 × ByteArray)) (l : List UInt8) (k : Nat) (hk : k < L.length) : adj (L.take (k + 1)) l = adj (L.take k) l + (l.count L[k].1 : Int) * ((L[k].2.size : Int) - 1) := by
 unfold adj;rw [List.take_succ_eq_append_getElem hk, List.map_append, List.sum_append, List.map_singleton, List.sum_singleton]
theorem adj_term (l : List UInt8) (p : UInt8 × ByteArray) (hp : p.2.size ≤ 8) : -(l.length : Int) ≤ (l.count p.1 : Int) * ((p.2.size : Int) - 1) ∧ (l.count p.1 : Int) * ((p.2.size : Int) - 1) ≤ 8 * l.length := by
 have hc : (l.count p.1 : Int) ≤ l.length := by have := List.count_le_length (a := p.1) (l := l); omega
 have h0 : (0 : Int) ≤ (l.count p.1 : Int) := by omega
 generalize (l.count p.1 : Int) = c at *;have hs : p.2.size = 0 ∨ p.2.size = 1 ∨ p.2.size = 2 ∨ p.2.size = 3 ∨ p.2.size = 4 ∨ p.2.size = 5 ∨ p.2.size = 6 ∨ p.2.size = 7 ∨ p.2.size = 8 := by omega
 rcases hs with h | h | h | h | h | h | h | h | h <;> rw [h] <;> constructor <;> omega
theorem adj_bound (l : List UInt8) : ∀ (L : List (UInt8 × ByteArray)), (∀ p ∈ L, p.2.size ≤ 8) -> -((L.length : Int) * l.length) ≤ adj L l ∧ adj L l ≤ 8 * ((L.length : Int) * l.length)
 | [], _ => by simp [adj]
 | p :: L, h => by
  have ih := adj_bound l L (fun q hq => h q (List.mem_cons_of_mem _ hq));have ht := adj_term l p (h p (by simp));have e : adj (p :: L) l = (l.count p.1 : Int) * ((p.2.size : Int) - 1) + adj L l := by unfold adj; rw [List.map_cons, List.sum_cons]
  have e2 : (((p :: L).length : Nat) : Int) * (l.length : Int) = (L.length : Int) * l.length + l.length := by rw [List.length_cons]; push_cast; rw [Int.add_mul, Int.one_mul]
  rw [e, e2];omega
theorem repl_same (ps : List (UInt8 × ByteArray)) : ∀ l : List UInt8, (∀ b ∈ l, tabv ps b = none) -> repl ps l = l
 | [], _ => rfl
 | b :: l, h => by
  rw [repl_cons, repl_same ps l (fun c hc => h c (List.mem_cons_of_mem _ hc)), rep1, h b (by simp)];rfl
theorem rep1_le (ps : List (UInt8 × ByteArray)) (hp : ∀ p ∈ ps, p.2.size ≤ 8) (b : UInt8) : (rep1 ps b).length ≤ 8 := by
 unfold rep1
 cases h : tabv ps b with
 | none => simp
 | some s =>
  have := hp _ (tabv_mem h);have e : s.data.toList.length = s.size := lTq;simp only [e];exact this
theorem repl_le (ps : List (UInt8 × ByteArray)) (hp : ∀ p ∈ ps, p.2.size ≤ 8) : ∀ l : List UInt8, (repl ps l).length ≤ 8 * l.length
 | [] => Nat.le_refl _
 | b :: l => by
  have := repl_le ps hp l;have := rep1_le ps hp b;rw [repl_cons, List.length_append, List.length_cons];omega
theorem repl_take (ps : List (UInt8 × ByteArray)) (l : List UInt8) (k : Nat) (hk : k < l.length) : repl ps (l.take (k + 1)) = repl ps (l.take k) ++ rep1 ps l[k] := by
 rw [List.take_succ_eq_append_getElem hk, repl_append];show _ ++ (rep1 ps l[k] ++ []) = _;rw [List.append_nil]
theorem repl_split (ps : List (UInt8 × ByteArray)) (l : List UInt8) (k : Nat) : repl ps l = repl ps (l.take k) ++ repl ps (l.drop k) := by
 rw [<- repl_append, List.take_append_drop]
end
section
open Go.RowKit
theorem count_one (s : ByteArray) (c : UInt8) (w : World) : Calls Tryz.prog 119 #[.string s, .string ⟨#[c]⟩] w fun e w' => e = .returned (.int .i64 (s.data.toList.count c : Nat)) ∧ w = w' := by
 have hlit : ∀ h, (⟨#[c]⟩ : ByteArray)[0]'h = c := fun _ => rfl;go_enter Tryz.func119, Tryz.ntmps119;go_wp2;rw [run_callFunc_extern Tryz.func161 (by kernel_rfl) (by kernel_rfl) (by kernel_rfl) (e := Extern.BytealgCount.count) (by kernel_rfl), Lib.run_countString];simp only [Result.andThen];rw [Oper.upon_value];go_wp2;go_ret;refine ⟨?_, rfl⟩;simp [Lib.countByte]
theorem repl_byte : (Tryz.prog.info? 5).map (fun i => (i.zero, i.size, i.bytes)) = some (some (.int .u8 0), 1, 1) := by kernel_rfl
def bufCells (out : List UInt8) (N : Nat) : List Value := (out.map fun b => Value.int .u8 (b.toNat : Int)) ++ List.replicate (N - out.length) (Value.int .u8 0)
def bufObj (out : List UInt8) (N : Nat) : Obj := .cells (bufCells out N).toArray 5
theorem bufCells_len (out : List UInt8) (N : Nat) (h : out.length ≤ N) : (bufCells out N).length = N := by
 unfold bufCells; rw [List.length_append, List.length_map, List.length_replicate]; omega
theorem bufCells_at (out : List UInt8) (N j : Nat) (h : j < N) : ∃ u, (bufCells out N)[j]? = some u := by
 unfold bufCells
 by_cases hj : j < out.length
 ·rw [List.getElem?_append_left (by simpa using hj)];exact ⟨_, List.getElem?_eq_getElem (by simpa using hj)⟩
 ·rw [List.getElem?_append_right (by simp; omega), List.getElem?_replicate, if_pos (by simp; omega)];exact ⟨_, rfl⟩
theorem bufCells_set (out : List UInt8) (N : Nat) (b : UInt8) (h : out.length < N) : (bufCells out N).set out.length (.int .u8 (b.toNat : Int)) = bufCells (out ++ [b]) N := by
 unfold bufCells;rw [List.set_append_right _ _ (by simp), List.map_append, List.append_assoc, List.length_append]
 congr 1
 obtain ⟨m, hm⟩ : ∃ m, N - out.length = m + 1 := ⟨N - out.length - 1, by omega⟩;rw [hm, List.replicate_succ];simp only [List.length_map, Nat.sub_self, List.set_cons_zero, List.map_cons, List.map_nil, List.singleton_append, List.length_cons, List.length_nil]
 congr 2
 omega
theorem bufCells_splice (out x : List UInt8) (N : Nat) (h : out.length + x.length ≤ N) : splice (bufCells out N) out.length (x.map fun b => Value.int .u8 (b.toNat : Int)) = bufCells (out ++ x) N := by
 unfold splice bufCells;rw [List.take_append_of_le_length (by simp), List.take_of_length_le (by simp), List.drop_append, List.drop_of_length_le (by simp), List.nil_append, List.map_append, List.append_assoc]
 congr 2
 rw [List.length_append];simp only [List.length_map, List.drop_replicate]
 congr 1
 omega
theorem src_cells {w : World} {gg : Nat} {C : Array Value} {fr : Nat × Nat} {u : ByteArray} (hb : w.heap[gg]? = some (.cells C 5 fr)) (hc : ∀ j (hj : j < u.size), C[j]? = some (.int .u8 (u[j].toNat : Int))) :
  ∀ j v, (u.data.toList.map fun b => Value.int .u8 (b.toNat : Int))[j]? = some v -> w.cell? ((⟨gg, 0, none⟩ : Addr).add j) = some v := by
 intro j v h;rw [List.getElem?_map] at h;obtain ⟨b, hb2, rfl⟩ := Option.map_eq_some_iff.1 h;obtain ⟨hj, hb3⟩ := List.getElem?_eq_some_iff.1 hb2;have hj' : j < u.size := by rw [lTq] at hj; exact hj
 rw [Addr.add_mid, Nat.zero_add, cell_of_row w gg j C _ fr hb, hc j hj', <- hb3];rfl
theorem below_dn {B : Nat} {a w : World} (h : Below B a w) (n : Nat) : Below B a (w.drewN n) := ⟨h.os, h.tape, h.output, h.size, h.block⟩
def FillW (ps : List (UInt8 × ByteArray)) (l : List UInt8) (N : Nat) (w : World) (j i : Value) (wr : World) : Prop :=
 ∃ k q : Nat, i = .int .i64 k ∧ k ≤ l.length ∧ j = .int .i64 q ∧ q = (repl ps (l.take k)).length ∧ wr.heap[w.heap.size]? = some (bufObj (repl ps (l.take k)) N) ∧ Below w.heap.size w wr
def ReplR (ps : List (UInt8 × ByteArray)) (s : ByteArray) (w : World) (e : Ending) (w' : World) : Prop := e = .returned (.string ⟨(repl ps s.data.toList).toArray⟩) ∧ Below w.heap.size w w'
def SzAny (ps : List (UInt8 × ByteArray)) (l : List UInt8) (s5 s6 : Value) : Prop := ∃ b : Bool, s6 = .bool b ∧ s5 = .int .i64 ((repl ps l).length : Nat) ∧ (b = false -> ∀ x ∈ l, tabv ps x = none)
def Cnt (ps : List (UInt8 × ByteArray)) (l : List UInt8) (s5 s6 s32 : Value) : Prop :=
 ∃ (k : Nat) (b : Bool) (z : Int), s32 = .int .i64 k ∧ k ≤ ps.length ∧ s5 = .int .i64 z ∧ z = (l.length : Int) + adj (ps.reverse.take k) l ∧ s6 = .bool b ∧ (b = false -> ∀ p ∈ ps.reverse.take k, l.count p.1 = 0)
def Lin (ps : List (UInt8 × ByteArray)) (l : List UInt8) (s5 s6 s10 : Value) : Prop :=
 ∃ (k : Nat) (b : Bool) (z : Int), s10 = .int .i64 k ∧ k ≤ l.length ∧ s5 = .int .i64 z ∧ z = ((repl ps (l.take k)).length : Int) + ((l.length : Int) - k) ∧ s6 = .bool b ∧ (b = false -> ∀ x ∈ l.take k, tabv ps x = none)
theorem szb {l : List UInt8} {L ps : List (UInt8 × ByteArray)} {k : Nat} {s : ByteArray} {z : Int} (hk : k ≤ ps.length) (hn : ps.length ≤ 100) (hsl : l.length = s.size) (hs : s.size ≤ 1099511627776) (hz : z = (l.length : Int) + adj (L.take k) l)
  (hb : -(((L.take k).length : Int) * l.length) ≤ adj (L.take k) l ∧ adj (L.take k) l ≤ 8 * (((L.take k).length : Int) * l.length)) : -1099511627776000 ≤ z ∧ z ≤ 1099511627776000 := by
 have h1 : (L.take k).length ≤ 100 := by rw [List.length_take]; omega
 have h2 : (((L.take k).length : Int) * l.length) ≤ 100 * l.length := Int.mul_le_mul_of_nonneg_right (by omega) (by omega);rw [hsl] at *;omega
theorem hSLn {s : ByteArray} (h : s.data.toList.length = s.size) : ((s.data.toList.length : Nat) : Int) = (s.size : Int) := by rw [h]
theorem replace_any (ps : List (UInt8 × ByteArray)) (lo B : Nat) (s : ByteArray) (w : World) (h0 : 0 < ps.length) (hn : ps.length ≤ 100) (hv : ∀ p ∈ ps, p.2.size ≤ 8) (hnd : (ps.map (·.1)).Nodup) (hs : s.size ≤ 1099511627776) (hB : BSR lo B ps w) :
  Calls Tryz.prog 276 #[.pointer (some ⟨B, 0, none⟩), .string s] w (ReplR ps s w) := by
 obtain ⟨cs, v, hb, hcv, ht, hown⟩ := hB;obtain ⟨g, cap, rfl, hge, hgl⟩ := hown.form h0;have hsl : s.data.toList.length = s.size := lTq;have b256 : w.cell? ⟨B, 256, none⟩ = some (.slice (some ⟨g, 0, none⟩) ps.length cap) := by rw [cell_of_row w _ 256 cs _ (0, 0) hb]; exact hcv
 have hrow : ∀ k (hk : k < ps.reverse.length), w.cell? ⟨g, k, none⟩ = some (.string ⟨#[ps.reverse[k].1]⟩) := by
  intro k hk;have := hown.cellAt k (by rw [List.length_reverse] at hk; omega);rw [this, List.getElem?_map, List.getElem?_eq_getElem hk];rfl
 have hcell : ∀ x : UInt8, (tabv ps x = none -> w.cell? ⟨B, x.toNat, none⟩ = some (.slice none 0 0)) ∧ ∀ u, tabv ps x = some u -> ∃ (gg c : Nat) (C : Array Value) (fr : Nat × Nat), w.cell? ⟨B, x.toNat, none⟩ = some (.slice (some ⟨gg, 0, none⟩) u.size c) ∧ w.heap[gg]? = some (.cells C 5 fr) ∧ ∀ j (hj : j < u.size), C[j]? = some (.int .u8 (u[j].toNat : Int)) := by
  intro x;rw [cell_of_row w _ _ cs _ (0, 0) hb];refine ⟨(ht x).1, fun u hu => ?_⟩;obtain ⟨gg, c, C, fr, q1, _, q3, q4⟩ := (ht x).2 u hu;exact ⟨gg, c, C, fr, q1, q3, q4⟩
 have hBw : B < w.heap.size := lt_of_block hb;have HROW := hdn hrow;have HCELL := hdn hcell;have HND := hdn hnd;have HSL := hdn hsl;have HV := hdn hv;have hcnt : ∀ (s : ByteArray) (c : UInt8) (w : World), Calls Tryz.prog 119 #[.string s, .string ⟨#[c]⟩] w fun e w' => e = .returned (.int .i64 (s.data.toList.count c : Nat)) ∧ w = w' := count_one;have HCNT := hdn hcnt
 have qN : ∀ (w : World) (a : Option Addr) (n c n' c' : Nat), (binOp .neq 22 (.slice a n c) (.slice none n' c')).run Tryz.prog w = .ok (.bool (!a.isNone)) w := fun w a n c n' c' => run_neq_slice_nil_any w _ _ a n c n' c' Tryz.underlying22;clear hb hcv ht hown hrow hcell hnd hsl hv hcnt;obtain ⟨bb, hbb⟩ : ∃ bb, decide ((ps.length : Int) * 8 ≤ (s.size : Int)) = bb := ⟨_, rfl⟩;go_enter Tryz.func276, Tryz.ntmps276
 go_upto_if 26 with (fail)
 go_cut [5, 6] (fun s5 s6 wx => (∃ d, wx = w.drewN d) ∧ SzAny ps s.data.toList s5 s6)
 case first =>
  rcases hbb' : bb with _ | _
  rotate_left
  ·subst hbb';go_wp2_with fail
   go_loopw [5, 6, 32] (fun s5 s6 s32 wr => Cnt ps s.data.toList s5 s6 s32 ∧ ∃ d, wr = w.drewN d) (fun _ _ i _ => ps.length - (intOf i).toNat)
   case atStart => exact ⟨⟨0, false, _, rfl, Nat.zero_le _, rfl, by simp [adj, HSL.out], rfl, by simp⟩, 0, rfl⟩
   case round =>
    obtain ⟨⟨k, b, z, rfl, hk, rfl, hz, rfl, hb⟩, d, rfl⟩ := hrel;have HBF := hdn hb;clear hb;have hbd := adj_bound s.data.toList (ps.reverse.take k) (fun p hp => HV.out p (List.mem_reverse.1 (List.mem_of_mem_take hp)));have hzb : -1099511627776000 ≤ z ∧ z ≤ 1099511627776000 := szb hk hn HSL.out hs hz hbd;have HZ := hdn hz;clear hz hbd;obtain ⟨hz1, hz2⟩ := hzb
    by_cases hlt : k < ps.length
    ·have hkr : k < ps.reverse.length := by rw [List.length_reverse]; exact hlt
     obtain ⟨p, hp⟩ : ∃ p, ps.reverse[k] = p := ⟨_, rfl⟩;have hmem : p ∈ ps := by rw [<- hp]; exact List.mem_reverse.1 (List.getElem_mem hkr)
     have hcr := HROW.out k hkr;rw [hp] at hcr;obtain ⟨x, u⟩ := p;obtain ⟨gg, c, C, fr, e1, _, _⟩ := (HCELL.out x).2 u (tabv_of_mem HND.out hmem);have hterm := adj_term s.data.toList (x, u) (HV.out _ hmem);have htk := adj_take ps.reverse s.data.toList k hkr;rw [hp] at htk;obtain ⟨n, hcn⟩ : ∃ n, s.data.toList.count x = n := ⟨_, rfl⟩;have hnle : n ≤ s.size := by rw [<- hcn, <- HSL.out]; exact List.count_le_length
     simp only [hcn] at hterm htk;have HTK := hdn htk;have HP := hdn hp;have HCN := hdn hcn;have hu8 : u.size ≤ 8 := HV.out _ hmem;have hlit : ∀ h, (⟨#[x]⟩ : ByteArray)[0]'h = x := fun _ => rfl;have hx8 : (x.toNat : Int) < 256 := by have := UInt8.toNat_lt x; omega
     have hx9 : x.toNat < 256 := UInt8.toNat_lt x;have hki : (k : Int) < (ps.length : Int) := by omega
     clear htk hp hcn hmem;go_wp2_with fail;refine cMq (HCNT.out s x _) ?_;rintro e w' ⟨rfl, rfl⟩;rw [HCN.out];obtain ⟨T, hT⟩ : ∃ T, (n : Int) * ((u.size : Int) - 1) = T := ⟨_, rfl⟩;rw [hT] at hterm;rw [hSLn HSL.out] at hterm;obtain ⟨ht1, ht2⟩ := hterm;have v1 : IntKind.i64.wrap ((u.size : Int) - 1) = (u.size : Int) - 1 := IntWalk.i64_in _ (by omega);have v2 : IntKind.i64.wrap ((n : Int) * ((u.size : Int) - 1)) = T := by rw [hT]; exact IntWalk.i64_in _ (by omega)
     have v3 : IntKind.i64.wrap (z + T) = z + T := IntWalk.i64_in _ (by omega)
     by_cases hn0 : n = 0
     ·subst hn0;have hT0 : T = 0 := by rw [<- hT]; simp
      have HT0 := hdn hT0;clear hT hT0;go_wp2
      go_roundw
      case rel =>
       refine ⟨⟨k + 1, b, _, by go_num, by omega, rfl, ?_, rfl, ?_⟩, d, rfl⟩
       ·rw [HZ.out, HTK.out]; simp
       ·intro hbf q hq;rw [List.take_succ_eq_append_getElem hkr] at hq;rcases List.mem_append.1 hq with hq | hq
        ·exact HBF.out hbf q hq
        ·rw [List.mem_singleton.1 hq, HP.out]; exact HCN.out
      case measure => simp [intOf]; omega
     ·have hnb : (((n : Nat) : Int) != 0) = true := by rw [bne_iff_ne]; omega
      have HTT := hdn hT;clear hT;go_wp2_with fail
      go_quiet (fail)
      go_wp2
      go_roundw
      case rel =>
       refine ⟨⟨k + 1, true, _, by go_num, by omega, rfl, ?_, rfl, (fun h => by cases h)⟩, _, rfl⟩;rw [HZ.out, HTK.out, HTT.out]; omega
      case measure => simp [intOf]; omega
    ·obtain rfl : k = ps.length := by omega
     go_wp2
     go_meet
     refine ⟨⟨d, rfl⟩, b, rfl, ?_, ?_⟩
     ·have e := HZ.out;rw [List.take_of_length_le (by rw [List.length_reverse]; exact Nat.le_refl _), adj_reverse] at e;rw [repl_len ps HND.out, <- e]
     ·intro hbf x hx;refine tabv_none fun hm => ?_;obtain ⟨p, hp, rfl⟩ := List.mem_map.1 hm;have h := HBF.out hbf p (by rw [List.take_of_length_le (by rw [List.length_reverse]; exact Nat.le_refl _)]; exact List.mem_reverse.2 hp);exact absurd hx (List.count_eq_zero.1 h)
  ·subst hbb';go_wp2_with fail;go_loop [5, 6, 10] (fun s5 s6 s10 => Lin ps s.data.toList s5 s6 s10) (fun _ _ i => s.size - (intOf i).toNat)
   case atStart => exact ⟨0, false, _, rfl, Nat.zero_le _, rfl, by rw [List.take_zero, hSLn HSL.out]; simp [repl], rfl, by simp⟩
   case round =>
    obtain ⟨k, b, z, rfl, hk, rfl, hz, rfl, hb⟩ := hrel;have HBF := hdn hb;clear hb;have hkl : k ≤ s.size := by rw [HSL.out] at hk; exact hk
    have hle := repl_le ps HV.out (s.data.toList.take k);have htl : (s.data.toList.take k).length ≤ k := List.length_take_le _ _;have hzb : 0 ≤ z ∧ z ≤ 9895604649984 := by
     have := hSLn HSL.out;omega
    obtain ⟨hz1, hz2⟩ := hzb;have HZ := hdn hz;clear hz hle htl
    by_cases hlt : k < s.size
    ·have hlt' : k < s.data.toList.length := by rw [HSL.out]; exact hlt
     obtain ⟨x, hx⟩ : ∃ x, s[k] = x := ⟨_, rfl⟩;have hxl : s.data.toList[k] = x := by rw [<- hx]; rfl
     have hrt := repl_take ps s.data.toList k hlt';rw [hxl] at hrt;have htt : s.data.toList.take (k + 1) = s.data.toList.take k ++ [x] := by rw [List.take_succ_eq_append_getElem hlt', hxl]
     have hlen := rep1_len ps x;have HRT := hdn (congrArg List.length hrt);have HTT := hdn htt;have hx8 : (x.toNat : Int) < 256 := by have := UInt8.toNat_lt x; omega
     have hx9 : x.toNat < 256 := UInt8.toNat_lt x;have hki : (k : Int) < (s.size : Int) := by omega
     clear hrt htt hxl
     cases htb : tabv ps x with
     | none =>
      have e1 := (HCELL.out x).1 htb;rw [show adj1 ps x = 0 by unfold adj1; rw [htb]] at hlen;have HTB := hdn htb;have HLEN := hdn hlen;clear htb hlen;go_wp2
      go_round
      case rel =>
       refine ⟨k + 1, b, _, by go_num, by omega, rfl, ?_, rfl, ?_⟩
       ·rw [HZ.out, HRT.out, List.length_append];have := HLEN.out
        push_cast
        omega
       ·intro hbf y hy;rw [HTT.out] at hy;rcases List.mem_append.1 hy with hy | hy
        ·exact HBF.out hbf y hy
        ·rw [List.mem_singleton.1 hy]; exact HTB.out
      case measure => simp [intOf]; omega
     | some u =>
      obtain ⟨gg, c, C, fr, e1, _, _⟩ := (HCELL.out x).2 u htb;have hu8 : u.size ≤ 8 := HV.out _ (tabv_mem htb);rw [show adj1 ps x = (u.size : Int) - 1 by unfold adj1; rw [htb]] at hlen;have v1 : IntKind.i64.wrap ((u.size : Int) - 1) = (u.size : Int) - 1 := IntWalk.i64_in _ (by omega);have v2 : IntKind.i64.wrap (z + ((u.size : Int) - 1)) = z + ((u.size : Int) - 1) := IntWalk.i64_in _ (by omega);have HLEN := hdn hlen;clear htb hlen;go_wp2
      go_round
      case rel =>
       refine ⟨k + 1, true, _, by go_num, by omega, rfl, ?_, rfl, fun h => by cases h⟩;rw [HZ.out, HRT.out, List.length_append];have := HLEN.out
       push_cast
       omega
      case measure => simp [intOf]; omega
    ·obtain rfl : k = s.size := by omega
     go_wp2
     go_meet
     refine ⟨⟨0, rfl⟩, b, rfl, ?_, ?_⟩
     ·have e := HZ.out;rw [List.take_of_length_le (by rw [HSL.out]; exact Nat.le_refl _), hSLn HSL.out] at e;rw [e]
      congr 1
      omega
     ·intro hbf x hx;exact HBF.out hbf x (by rw [List.take_of_length_le (by rw [HSL.out]; exact Nat.le_refl _)]; exact hx)
 case rest =>
  obtain ⟨⟨d, rfl⟩, b, rfl, rfl, hb⟩ := hcut
  cases b with
  | false =>
   have e := repl_same ps s.data.toList (hb rfl);have HE := hdn e;clear e hb hbb;go_wp2;go_ret;refine ⟨?_, below_dn (Below.refl _ w) d⟩;have e2 : (⟨(repl ps s.data.toList).toArray⟩ : ByteArray) = s := by rw [HE.out]
   rw [e2];rfl
  | true =>
   obtain ⟨N, hN⟩ : ∃ N, (repl ps s.data.toList).length = N := ⟨_, rfl⟩;have hNle : N ≤ 8796093022208 := by
    have := repl_le ps HV.out s.data.toList;have := HSL.out;omega
   obtain ⟨i0, hi, hz0, hz1, hz2⟩ := info_parts repl_byte;have hms : ∀ W : World, (Instr.makeSlice 22 (.int .i64 (N : Int)) (.int .i64 (N : Int))).run Tryz.prog W = .ok (.slice (some ⟨W.heap.size, 0, none⟩) N N) (W.alloc (bufObj [] N)) := fun W => by
    have h := run_make_rowN (P := Tryz.prog) 22 5 i0 _ Tryz.underlying22 hi hz0 .i64 .i64 N N (Nat.le_refl _) (by rw [hz2]; omega) (by omega) W;rw [hz1, Nat.mul_one] at h;rw [h];simp only [bufObj, bufCells, List.map_nil, List.nil_append, List.length_nil, Nat.sub_zero, Value.cells]
    congr 3
    apply Array.toList_inj.1;rw [toList_madeCells_one]
   clear hi hz0 hz1 hz2 hb hbb;rw [hN];have HN := hdn hN;clear hN;go_wp2_with fail
   go_loopw [13, 14] (fun j i wr => FillW ps s.data.toList N w j i wr) (fun _ i _ => s.size - (intOf i).toNat)
   case atStart =>
    refine ⟨0, 0, rfl, Nat.zero_le _, rfl, rfl, ?_, ?_⟩
    ·exact heap_alloc_new w _
    ·exact below_dn ((Below.refl _ w).alloc (Nat.le_refl _) _) d
   case round =>
    obtain ⟨k, q, rfl, hk, rfl, hq, hbuf, hbl⟩ := hrel;have hkl : k ≤ s.size := by rw [HSL.out] at hk; exact hk
    by_cases hlt : k < s.size
    ·have hlt' : k < s.data.toList.length := by rw [HSL.out]; exact hlt
     obtain ⟨x, hx⟩ : ∃ x, s[k] = x := ⟨_, rfl⟩;have hxl : s.data.toList[k] = x := by rw [<- hx]; rfl
     have hrt := repl_take ps s.data.toList k hlt';rw [hxl] at hrt;have hspl := congrArg List.length (repl_split ps s.data.toList (k + 1));rw [hrt, List.length_append, List.length_append, HN.out, <- hq] at hspl;have hx8 : (x.toNat : Int) < 256 := by have := UInt8.toNat_lt x; omega
     have hx9 : x.toNat < 256 := UInt8.toNat_lt x;have hki : (k : Int) < (s.size : Int) := by omega
     have hqN : q ≤ N := by omega
     have HRT := hdn hrt;have HQ := hdn hq;have HBUF := hdn hbuf;have HBL := hdn hbl;have hwz := hbl.size;have bB : ∀ v, w.cell? ⟨B, x.toNat, none⟩ = some v -> wr.cell? ⟨B, x.toNat, none⟩ = some v := fun v h => (hbl.cell (p := ⟨B, x.toNat, none⟩) hBw).trans h;clear hrt hxl hq hbuf hbl
     cases htb : tabv ps x with
     | none =>
      have e1 := bB _ ((HCELL.out x).1 htb);have e2 : rep1 ps x = [x] := by unfold rep1; rw [htb]
      rw [e2] at hspl;simp only [List.length_cons, List.length_nil] at hspl;have hqlt : q < N := by omega
      have hqi : (q : Int) < (N : Int) := by omega
      obtain ⟨u0, hu0⟩ := bufCells_at (repl ps (s.data.toList.take k)) N q hqlt;have c1 : wr.cell? ⟨w.heap.size, q, none⟩ = some u0 := by rw [cell_of_row wr _ q _ _ (0, 0) HBUF.out, List.getElem?_toArray]; exact hu0
      have c2 : wr.frozen? ⟨w.heap.size, q, none⟩ = false := by simp [World.frozen?, HBUF.out, bufObj]
      have HE2 := hdn e2;have HSP := hdn hspl;clear bB htb e2 hu0 hspl;go_wp2
      go_roundw
      case rel =>
       refine ⟨k + 1, q + 1, by go_num, by omega, by go_num, ?_, ?_, ?_⟩
       ·rw [HRT.out, HE2.out, List.length_append, <- HQ.out]; rfl
       ·rw [HRT.out, HE2.out];have h := set_block HBUF.out q (.int .u8 (x.toNat : Int));rw [List.setIfInBounds_toArray, HQ.out, bufCells_set _ _ _ (by rw [<- HQ.out]; exact hqlt)] at h;rw [HQ.out];exact h
       ·exact HBL.out.setCell (Nat.le_refl _) _
      case measure => simp [intOf]; omega
     | some u =>
      obtain ⟨gg, c, C, fr, e1, e3, e4⟩ := (HCELL.out x).2 u htb;have e1 := bB _ e1;have e2 : rep1 ps x = u.data.toList := by unfold rep1; rw [htb]
      rw [e2] at hspl;have hul : u.data.toList.length = u.size := lTq;rw [hul] at hspl;have hu8 : u.size ≤ 8 := HV.out _ (tabv_mem htb);have HE2 := hdn e2;have HE3 := hdn e3;have HE4 := hdn e4;have HUL := hdn hul;have hqle : q + u.size ≤ N := by omega
      clear bB htb e2 e3 e4 hul hspl;have hsrc := src_cells ((HBL.out.block gg (lt_of_block HE3.out)).trans HE3.out) HE4.out;have SRC := hdn hsrc;have hcl : (u.data.toList.map fun b => Value.int .u8 (b.toNat : Int)).length = u.size := by rw [List.length_map, HUL.out]
      have hone : ∀ v ∈ (u.data.toList.map fun b => Value.int .u8 (b.toNat : Int)), v.oneCell' = true := by
       intro v hv;obtain ⟨b, _, rfl⟩ := List.mem_map.1 hv;rfl
      have hbl2 : (bufCells (repl ps (s.data.toList.take k)) N).length = N := bufCells_len _ _ (by rw [<- HQ.out]; exact hqN);have HBL2 := hdn hbl2;have HONE := hdn hone;have hend : ∀ W : World, W.heap[w.heap.size]? = some (.cells (splice (bufCells (repl ps (s.data.toList.take k)) N) q (u.data.toList.map fun b => Value.int .u8 (b.toNat : Int))).toArray 5 (0, 0)) -> W.heap[w.heap.size]? = some (bufObj (repl ps (s.data.toList.take (k + 1))) N) := by
       intro W h;rw [HQ.out, bufCells_splice _ _ _ (by rw [<- HQ.out, HUL.out]; exact hqle)] at h;rw [HRT.out, HE2.out];exact h
      have hqz : q + u.size = (repl ps (s.data.toList.take (k + 1))).length := by rw [HRT.out, HE2.out, List.length_append, <- HQ.out, HUL.out]
      have HEND := hdn hend;have HQZ := hdn hqz;have HCL := hdn hcl;clear hsrc hone hbl2 hend hqz hcl
      by_cases hqe : N = q
      ·subst hqe;have hu0 : u.size = 0 := by omega
       go_wp2_with fail
       go_region_law (refine step_copy_splice rfl (.tmp 105) (.tmp 111) 22 22 rfl 5 Tryz.underlying22 (by kernel_rfl) _ _ _ _ _ _ rfl rfl w.heap.size N (bufCells (repl ps (s.data.toList.take k)) N) 5 HBUF.out (u.data.toList.map fun b => Value.int .u8 (b.toNat : Int)) (by rw [HCL.out]; exact hu0) (fun h => absurd h (by rw [HCL.out]; omega)) (by rw [HCL.out, HBL2.out]; exact hqle) HONE.out w.heap.size w HBL.out.drew (Nat.le_refl _) ?_; intro W2 hh hb2; rw [HCL.out])
       go_wp2
       go_roundw
       case rel => exact ⟨k + 1, N + u.size, by go_num, by omega, by go_num, HQZ.out, HEND.out _ hh.out, hb2⟩
       case measure => simp [intOf]; omega
      ·have hqlt : (q : Int) < (N : Int) := by omega
       go_wp2_with fail
       go_region_law (refine step_copy_splice rfl (.tmp 105) (.tmp 111) 22 22 rfl 5 Tryz.underlying22 (by kernel_rfl) _ _ _ _ _ _ rfl rfl w.heap.size q (bufCells (repl ps (s.data.toList.take k)) N) 5 HBUF.out (u.data.toList.map fun b => Value.int .u8 (b.toNat : Int)) (by rw [HCL.out]; exact (Nat.min_eq_left (by omega)).symm) (fun _ => ⟨rfl, ⟨gg, 0, none⟩, rfl, SRC.out⟩) (by rw [HCL.out, HBL2.out]; exact hqle) HONE.out w.heap.size w HBL.out.drew (Nat.le_refl _) ?_; intro W2 hh hb2; rw [HCL.out])
       go_wp2
       go_roundw
       case rel => exact ⟨k + 1, q + u.size, by go_num, by omega, by go_num, HQZ.out, HEND.out _ hh.out, hb2⟩
       case measure => simp [intOf]; omega
    ·obtain rfl : k = s.size := by omega
     rw [List.take_of_length_le (by rw [HSL.out]; exact Nat.le_refl _)] at hbuf;have hcv : (convert 22 9 (.slice (some ⟨w.heap.size, 0, none⟩) N N)).run Tryz.prog wr = .ok (.string ⟨(repl ps s.data.toList).toArray⟩) wr := by
      have h := run_convert_bytes_back (P := Tryz.prog) wr 22 9 5 ⟨w.heap.size, 0, none⟩ N (repl ps s.data.toList) Tryz.underlying22 Tryz.underlying5 Tryz.underlying9 (fun j hj => by
       rw [Addr.add_mid, Nat.zero_add, cell_of_row wr _ j _ _ (0, 0) hbuf, List.getElem?_toArray];unfold bufCells;rw [List.getElem?_append_left (by rw [List.length_map]; exact hj), List.getElem?_map, List.getElem?_eq_getElem hj];rfl)
      rw [HN.out] at h;exact h
     have HBL := hdn hbl;clear hq hbuf hbl;go_wp2;go_ret;exact ⟨rfl, HBL.out⟩
end
section
open Go.RowKit
structure Pairs (ps : List (UInt8 × ByteArray)) : Prop where
 pos : 0 < ps.length
 few : ps.length ≤ 100
 small : ∀ p ∈ ps, p.2.size ≤ 8
 notOne : ∀ p ∈ ps, p.2.size ≠ 1
 nodup : (ps.map (·.1)).Nodup
def BuiltK (lo R : Nat) (ps : List (UInt8 × ByteArray)) (w : World) (w' : World) : Prop :=
 ∃ (B l2 : Nat), B ≠ R ∧ w'.heap[R]? = some (.cells #[.int .u32 0, .int .i32 1, .int .u32 0, .iface 249 (.pointer (some ⟨B, 0, none⟩)), .slice none 0 0] 198 (0, 0)) ∧ BSR l2 B ps w' ∧ Below lo w w'
theorem bsr_set {lo B R i : Nat} {ps : List (UInt8 × ByteArray)} {w : World} {cs : Array Value} {u : Value} (h : BSR lo B ps w) (hR : w.heap[R]? = some (.cells cs 198 (0, 0))) : BSR lo B ps (w.setCell ⟨R, i, none⟩ u) := by
 obtain ⟨c, v, hb, hv, ht, ho⟩ := h;have hne : B ≠ R := by
  rintro rfl;rw [hR] at hb;injection hb with hb;injection hb with _ hb
  cases hb
 refine ⟨c, v, (Below.heap_setCell _ _ _ _ hne).trans hb, hv, ?_, own_set_other ho (p := ⟨R, i, none⟩) (own_ne_block ho hR (by decide)) u⟩;intro x;obtain ⟨t1, t2⟩ := ht x;refine ⟨t1, fun s hs => ?_⟩;obtain ⟨gg, cc, C, fr, q1, q2, q3, q4⟩ := t2 s hs;refine ⟨gg, cc, C, fr, q1, q2, ?_, q4⟩;refine (Below.heap_setCell _ _ _ _ ?_).trans q3;rintro rfl;rw [hR] at q3;injection q3 with q3;injection q3 with _ q3
 cases q3
theorem buildOnce_any (ps : List (UInt8 × ByteArray)) (hps : Pairs ps) (lo R : Nat) (v : Value) (w : World) (hlo : lo ≤ R) (hlw : lo ≤ w.heap.size)
  (hR : w.heap[R]? = some (.cells #[.int .u32 0, .int .i32 1, .int .u32 0, .nilIface, v] 198 (0, 0))) (hown : w.ownsRow lo 9 1 v (2 * ps.length) (pairCells ps)) :
  Calls Tryz.prog 177 #[.pointer (some ⟨R, 0, none⟩)] w fun e w' => e = .returned (.tuple #[]) ∧ BuiltK lo R ps w w' := by
 have hp := hps.pos;obtain ⟨g, cap, rfl, hge, hgl⟩ := hown.form (by omega);have c4 : w.cell? ⟨R, 4, none⟩ = some (.slice (some ⟨g, 0, none⟩) (2 * ps.length) cap) := by rw [cell_of_row w R 4 _ _ (0, 0) hR]; rfl
 have hcells : ∀ j u, (pairCells ps)[j]? = some u -> w.cell? ⟨g, j, none⟩ = some u := by
  intro j u hu;have hj := (List.getElem?_eq_some_iff.1 hu).1;rw [pairCells_len] at hj;rw [hown.cellAt j (by omega)];exact hu
 have hbuild := build_any ps R g (2 * ps.length) cap w rfl hp (by have := hps.few; omega) hps.notOne hps.nodup hgl c4 hcells;have HBU := hdn hbuild;have HR := hdn hR;have hRl := lt_of_block hR;clear hbuild hcells c4 hown hR;go_enter Tryz.func177, Tryz.ntmps177;go_wp2_with fail;refine cMq HBU.out ?_;rintro e w1 ⟨B, hBw, rfl, hbsr, hb1⟩
 have hR1 : w1.heap[R]? = some (.cells #[.int .u32 0, .int .i32 1, .int .u32 0, .nilIface, .slice (some ⟨g, 0, none⟩) (2 * ps.length) cap] 198 (0, 0)) := (hb1.block R hRl).trans HR.out;have hR2 := set_block hR1 3 (.iface 249 (.pointer (some ⟨B, 0, none⟩)));have hR3 := set_block hR2 4 (.slice none 0 0);have d1 : w1.cell? ⟨R, 3, none⟩ = some .nilIface := by rw [cell_of_row w1 R 3 _ _ (0, 0) hR1]; rfl
 have d2 : w1.frozen? ⟨R, 3, none⟩ = false := by simp [World.frozen?, hR1]
 have d3 : (w1.setCell ⟨R, 3, none⟩ (.iface 249 (.pointer (some ⟨B, 0, none⟩)))).cell? ⟨R, 4, none⟩ = some (.slice (some ⟨g, 0, none⟩) (2 * ps.length) cap) := by rw [cell_of_row _ R 4 _ _ (0, 0) hR2]; rfl
 have d4 : (w1.setCell ⟨R, 3, none⟩ (.iface 249 (.pointer (some ⟨B, 0, none⟩)))).frozen? ⟨R, 4, none⟩ = false := by simp [World.frozen?, hR2]
 have HR1 := hdn hR1;have HR2 := hdn hR2;have HR3 := hdn hR3;have HBS := hdn hbsr;have HB1 := hdn hb1;clear hR1 hR2 hR3 hbsr hb1;go_wp2
 go_end0
 refine ⟨rfl, B, _, by omega, HR3.out, bsr_set (bsr_set HBS.out HR1.out) HR2.out, ?_⟩;exact ((HB1.out.mono hlw).setCell (p := ⟨R, 3, none⟩) hlo _).setCell (p := ⟨R, 4, none⟩) hlo _
theorem replacer_any (ps : List (UInt8 × ByteArray)) (hps : Pairs ps) (lo R : Nat) (v : Value) (s : ByteArray) (w : World) (hs : s.size ≤ 1099511627776) (hlo : lo ≤ R) (hlw : lo ≤ w.heap.size)
  (hR : w.heap[R]? = some (.cells #[.int .u32 0, .int .i32 0, .int .u32 0, .nilIface, v] 198 (0, 0))) (hown : w.ownsRow lo 9 1 v (2 * ps.length) (pairCells ps)) :
  Calls Tryz.prog 140 #[.pointer (some ⟨R, 0, none⟩), .string s] w fun e w' => e = .returned (.string ⟨(repl ps s.data.toList).toArray⟩) ∧ Below lo w w' := by
 have hR1 : (w.setCell ⟨R, 1, none⟩ (.int .i32 1)).heap[R]? = some (.cells #[.int .u32 0, .int .i32 1, .int .u32 0, .nilIface, v] 198 (0, 0)) := set_block hR 1 (.int .i32 1);have hsz : (w.setCell ⟨R, 1, none⟩ (.int .i32 1)).heap.size = w.heap.size := by simp [World.setCell]
 have hbo := buildOnce_any ps hps lo R v (w.setCell ⟨R, 1, none⟩ (.int .i32 1)) hlo (by rw [hsz]; exact hlw) hR1 (own_set_other hown (p := ⟨R, 1, none⟩) (own_ne_block hown hR (by decide)) _);have hdo := do_fresh R 0 177 #[.pointer (some ⟨R, 0, none⟩)] (BuiltK lo R ps (w.setCell ⟨R, 1, none⟩ (.int .i32 1))) w
  (by rw [cell_of_row w R 0 _ _ (0, 0) hR]; rfl) (by rw [cell_of_row w R (0 + 1) _ _ (0, 0) hR]; rfl) (by simp [World.frozen?, hR]) (by simp [World.frozen?, hR])
  (enters_of Tryz.func177 (by kernel_rfl) rfl) hbo (by
   rintro w' ⟨B, l2, hne, h3, _, _⟩;exact ⟨by rw [cell_of_row w' R 0 _ _ (0, 0) h3]; rfl, by rw [cell_of_row w' R (0 + 1) _ _ (0, 0) h3]; rfl, by simp [World.frozen?, h3], by simp [World.frozen?, h3]⟩)
 have HDO := hdn hdo;have hbw : Below lo w (w.setCell ⟨R, 1, none⟩ (.int .i32 1)) := (Below.refl lo w).setCell (p := ⟨R, 1, none⟩) hlo _;clear hdo hbo hR1 hsz hown hR;go_enter Tryz.func140, Tryz.ntmps140;go_wp2_with fail;refine cMq HDO.out ?_;rintro e W2 ⟨w1, ⟨B, l2, hne, h3, h4, h5⟩, rfl, hW2⟩;have k1 : w1.drew.heap[R]? = some (.cells #[.int .u32 0, .int .i32 1, .int .u32 0, .iface 249 (.pointer (some ⟨B, 0, none⟩)), .slice none 0 0] 198 (0, 0)) := h3
 have k2 := set_block k1 0 (.int .u32 1);have k3 := set_block k2 1 (.int .i32 0);have k4 : BSR l2 B ps w1.drew := h4;have k5 : BSR l2 B ps W2 := by rw [hW2]; exact bsr_set (i := 1) (bsr_set (i := 0) k4 k1) k2
 have k6 : Below lo w W2 := by
  rw [hW2];exact ((((hbw.trans h5).drew).setCell (p := ⟨R, 0, none⟩) hlo _).setCell (p := ⟨R, 0 + 1, none⟩) hlo _)
 have k7 : W2.cell? ⟨R, 3, none⟩ = some (.iface 249 (.pointer (some ⟨B, 0, none⟩))) := by
  rw [hW2, cell_of_row _ R 3 _ _ (0, 0) k3];rfl
 have K5 := hdn k5;have K6 := hdn k6;clear hW2 h3 h4 h5 k1 k2 k3 k4 k5 k6 hbw;have hme : ∀ W : World, (method 425 249 (.pointer (some ⟨B, 0, none⟩)) "Replace").run Tryz.prog W = .ok (276, .pointer (some ⟨B, 0, none⟩)) W := fun W => by kernel_rfl
 go_wp2_with fail;refine cMq (replace_any ps l2 B s W2 hps.pos hps.few hps.small hps.nodup hs K5.out) ?_;rintro e W3 ⟨rfl, b3⟩;have K7 := hdn (K6.out.trans (b3.mono (Nat.le_trans hlw K6.out.size)));clear b3;go_wp2;go_ret;exact ⟨rfl, K7.out⟩
theorem repl_use (ps : List (UInt8 × ByteArray)) (hps : Pairs ps) (s : ByteArray) (w : World) (hs : s.size ≤ 1099511627776) {e : Ending} {w' : World} (h : NewRepl ps w e w') :
  ∃ R, e = .returned (.pointer (some ⟨R, 0, none⟩)) ∧ Below w.heap.size w w' ∧ Calls Tryz.prog 140 #[.pointer (some ⟨R, 0, none⟩), .string s] w' fun e w'' => e = .returned (.string ⟨(repl ps s.data.toList).toArray⟩) ∧ Below w.heap.size w w'' := by
 obtain ⟨R, v, rfl, h1, h2, h3, h4⟩ := h;exact ⟨R, rfl, h2, (replacer_any ps hps w.heap.size R v s w' hs h1 h2.size h3 h4).mono fun _ _ ⟨he, hb⟩ => ⟨he, h2.trans hb⟩⟩
end
section
open Go.RowKit
def rulePairs : List (UInt8 × ByteArray) := [(32, ⟨#[]⟩), (9, ⟨#[]⟩)]
theorem rulePairs_ok : Pairs rulePairs := ⟨by decide, by decide, by decide, by decide, by decide⟩
def ruleT (l : List UInt8) : List UInt8 := repl rulePairs l
theorem rep1_small (b : UInt8) : (rep1 rulePairs b).length ≤ 1 := by
 unfold rep1 tabv rulePairs
 by_cases h1 : b = 32
 ·subst h1; decide
 ·by_cases h2 : b = 9
  ·subst h2; decide
  ·simp [tabv, Ne.symm h1, Ne.symm h2]
theorem ruleT_len (l : List UInt8) : (ruleT l).length ≤ l.length := by
 unfold ruleT repl
 induction l with
 | nil => exact Nat.le_refl _
 | cons b l ih =>
  rw [List.map_cons, List.flatten_cons, List.length_append, List.length_cons];have := rep1_small b;omega
def ruleS : List UInt8 := [42, 45, 95]
def ruleB (l : List UInt8) : Bool := match l with
 | [] => false
 | b :: _ => decide (0 ≤ Lib.indexByte ruleS b) && decide (3 ≤ (ruleT l).length) && decide (frontN (ruleT l) b = (ruleT l).length)
theorem ruleS_in {b : UInt8} (h : 0 ≤ Lib.indexByte ruleS b) : b = 42 ∨ b = 45 ∨ b = 95 := by
 rcases indexByte_spec ruleS b with ⟨h1, _⟩ | ⟨k, h1, h2, _⟩
 ·omega
 ·have := List.mem_of_getElem? h2;simpa [ruleS] using this
theorem rule_any (s : ByteArray) (w : World) (hs : s.size ≤ 1099511627) : Calls Tryz.prog 93 #[.string s] w (RBw w (ruleB s.data.toList)) := by
 by_cases h0 : s.size = 0
 ·obtain rfl : s = ⟨#[]⟩ := by
   have : s.data = #[] := Array.eq_empty_of_size_eq_zero h0;rw [<- Lib.mk_data s, this]
  go_enter Tryz.func93, Tryz.ntmps93;go_wp2;go_ret;exact ⟨rfl, Below.refl _ _⟩
 ·have hpos : 0 < s.size := by omega
  obtain ⟨b, r, hl⟩ : ∃ b r, s.data.toList = b :: r := by
   cases hl : s.data.toList with
   | nil => have := congrArg List.length hl; rw [lTq] at this; exact absurd this h0
   | cons b r => exact ⟨b, r, rfl⟩
  have hb : s[0] = b := by
   have h1 : s.data.toList[0]? = some b := by rw [hl]; rfl
   have h2 : s.data.toList[0]? = some s[0] := by rw [List.getElem?_eq_getElem (by rw [lTq]; exact hpos)]; rfl
   rw [h1] at h2;exact (Option.some.inj h2).symm
  have ht : ¬ s.toList = [] := by rw [Lib.toList_data, hl]; simp
  have ht2 : s.toList.isEmpty = false := by rw [Lib.toList_data, hl]; rfl
  have hI := indexByte_any ⟨#[42, 45, 95]⟩ b w;obtain ⟨q, hq⟩ : ∃ q, Lib.indexByte (⟨#[42, 45, 95]⟩ : ByteArray).data.toList b = q := ⟨_, rfl⟩;obtain ⟨L, hL⟩ : ∃ L, ruleT s.data.toList = L := ⟨_, rfl⟩;have hLl : L.length ≤ s.size := by rw [<- hL]; have := ruleT_len s.data.toList; rw [lTq] at this; exact this
  have hv : ruleB s.data.toList = (decide (0 ≤ q) && decide (3 ≤ L.length) && decide (frontN L b = L.length)) := by
   rw [<- hL, <- hq, hl];rfl
  have hqb : 0 ≤ q -> b.toNat < 128 := fun h => by
   rw [<- hq] at h;rcases ruleS_in h with rfl | rfl | rfl <;> decide
  rw [hv];rw [hq] at hI;have HI := hdn hI;have HB := hdn hb
  by_cases hq0 : q < 0
  ·have z1 : decide (0 ≤ q) = false := by simp; omega
   rw [z1, Bool.false_and, Bool.false_and];clear hI hb hv hq hl hL hqb z1;go_enter Tryz.func93, Tryz.ntmps93;go_wp2_with fail;rw [HB.out];refine cMq HI.out ?_;rintro e w1 ⟨rfl, rfl⟩;go_wp2;go_ret;exact ⟨rfl, Below.refl _ _⟩
  ·have z1 : decide (0 ≤ q) = true := by simp; omega
   rw [z1, Bool.true_and];have hus : s.size ≤ 1099511627776 := by omega
   obtain ⟨Y, hY⟩ : ∃ Y : ByteArray, (⟨L.toArray⟩ : ByteArray) = Y := ⟨_, rfl⟩;have hYs : Y.size = L.length := by rw [<- hY]; rfl
   have HR0 := hdn fun w' (e : Ending) w'' (h : NewRepl rulePairs w' e w'') => repl_use rulePairs rulePairs_ok s w' hus h;have HL := hdn hL;have HF := hdn fun w' => front_any Y b w' (by omega) (hqb (by omega));have HY := hdn hY;have e1 : Y.data.toList = L := by rw [<- hY]
   have hfl := frontN_le L b;rw [e1] at HF;obtain ⟨k, hk⟩ : ∃ k, frontN L b = k := ⟨_, rfl⟩;rw [<- hYs, hk];rw [hk] at HF;have hYle : Y.size ≤ s.size := by omega
   clear hI hb hv hq hl hL hqb z1 hY hk hfl e1 hYs hLl;go_enter Tryz.func93, Tryz.ntmps93;go_wp2_with fail;rw [HB.out];refine cMq HI.out ?_;rintro e w1 ⟨rfl, rfl⟩;go_wp2_with fail;refine cMq (newReplacer_any rulePairs ⟨w.heap.size, 0, none⟩ 4 4 _ rfl (by decide) (by decide) ?_) ?_
   ·intro j v hj;have h : (w.alloc (.cells #[.string ⟨#[32]⟩, .string ⟨#[]⟩, .string ⟨#[9]⟩, .string ⟨#[]⟩] 9)).heap[w.heap.size]? = some (.cells (pairCells rulePairs).toArray 9 (0, 0)) := heap_alloc_new w _;have e : (⟨w.heap.size, 0, none⟩ : Addr).add j = ⟨w.heap.size, j, none⟩ := by unfold Addr.add; split <;> simp_all
    rw [e, cell_of_row _ _ j _ _ _ h, List.getElem?_toArray];exact hj
   rintro e w2 h2;obtain ⟨R, rfl, b2, hrep⟩ := HR0.out _ _ _ h2;rw [show repl rulePairs s.data.toList = L from HL.out, HY.out] at hrep;have HR := hdn hrep;have HB2 := hdn b2;clear h2 hrep b2;go_wp2_with fail;refine cMq HR.out ?_;rintro e w3 ⟨rfl, b3⟩;have b3 : Below w.heap.size w w3 := by
    refine ((Below.refl w.heap.size w).alloc (Nat.le_refl _) _).trans (b3.mono ?_);simp
   have HB3 := hdn b3;clear b3
   by_cases h3 : 3 ≤ Y.size
   ·have z3 : (3 : Int) ≤ (Y.size : Int) := by omega
    have ZZ := hdn (show decide (3 ≤ Y.size) = true by simp; omega);go_wp2_with fail;rw [HB.out];refine cMq (HF.out _) ?_;rintro e w4 ⟨rfl, rfl⟩
    by_cases h4 : k = Y.size
    ·have Z4 := hdn (show decide (k = Y.size) = true by simpa using h4);have z5 : (k : Int) = (Y.size : Int) := by omega
     clear h4;go_wp2;go_ret;rw [ZZ.out, Z4.out];exact ⟨rfl, HB3.out⟩
    ·have Z4 := hdn (show decide (k = Y.size) = false by simpa using h4);have z5 : ((k : Int) == (Y.size : Int)) = false := by simp; omega
     clear h4;go_wp2;go_ret;rw [ZZ.out, Z4.out];exact ⟨rfl, HB3.out⟩
   ·have z3 : ¬ (3 : Int) ≤ (Y.size : Int) := by omega
    clear HY;go_wp2;go_ret;exact ⟨rfl, HB3.out⟩
end
section
open Go.RowKit
def Rd.popF (kind : Nat) : Nat -> Rd -> Rd
 | 0, r => r
 | f + 1, r => match r.cur with
  | some a => if holdsB (r.nd a).kind kind = true then r else Rd.popF kind f { (r.close a) with cur := (r.nd a).parent }
  | none => r
def Rd.push (r : Rd) (b : Nat) : Rd := match r.cur with
 | some a =>
  let r1 := r.upd b { r.nd b with parent := some a, opn := true, first := r.n, last := r.n }
  { (r1.upd a { r1.nd a with kids := (r1.nd a).kids ++ [b] }) with lzy := false, tip := some b }
 | none => r
def Rd.begin (r : Rd) (b : Nat) : Rd := (r.settle.popF (r.nd b).kind r.nds.length).push b
def Rd.more (r : Rd) (d : Nd) : Rd := { r with nds := r.nds ++ [d] }
def Rd.curK (r : Rd) : Nat := match r.cur with | some i => (r.nd i).kind | none => 0
def Rd.tipK (r : Rd) : Nat := match r.tip with | some i => (r.nd i).kind | none => 0
def Rd.fresh (r : Rd) (d : Nd) : Rd := (r.more d).begin r.nds.length
def Rd.turn (r : Rd) (b : Nat) (f : Nd -> Nd) : Rd := r.upd b (f (r.nd b))
def Rd.goes (r : Rd) (b : Nat) : Rd × Bool × Bool :=
 let t := r.bareT
 let w := r.bareW
 let d := r.nd b
 if d.kind = 2 then
  if 4 ≤ w ∨ t.data.toList.head? ≠ some 62 then (r, false, false)
  else (((r.pass 1).cut 1).turn b fun x => { x with last := r.n }, true, false)
 else if d.kind = 4 then
  if t.size = 0 then (r, !d.kids.isEmpty, false)
  else if (w : Int) < d.indent then (r, false, false)
  else (r.cut d.indent.toNat, true, false)
 else if d.kind = 5 ∨ d.kind = 10 then (r, t.size != 0, false)
 else if d.kind = 8 then (r, t.size != 0 || decide (d.html < 6), false)
 else if d.kind = 7 then
  if 0 < d.fm then
   if w < 4 ∧ shutB t.data.toList d.fc d.fm = true then (((r.turn b fun x => { x with last := r.n }).close b), true, true)
   else (r.cut d.offset.toNat, true, false)
  else if 4 ≤ w then (r.cut 4, true, false)
  else if t.size = 0 then ({ r with rest := ⟨#[]⟩ }, true, false)
  else (r, false, false)
 else (r, true, false)
def Rd.code (r : Rd) (t : ByteArray) : Rd × Nat :=
 if t.size = 0 ∨ r.tipK = 5 then (r, 0) else
  let r1 := r.cut 4
  let r2 := r1.fresh (Nd.new 7)
  (r2.turn r1.nds.length fun x => { x with lines := [r2.rest] }, 2)
def Rd.quote (r : Rd) : Rd × Nat :=
 let r1 := (r.pass 1).cut 1
 ({ (r1.fresh (Nd.new 2)) with cur := some r1.nds.length }, 1)
def Rd.head (r : Rd) (t : ByteArray) : Option Rd :=
 if headLev t.data.toList = 0 then none else
  some ((r.fresh (Nd.new 6)).turn r.nds.length fun x => { x with level := headLev t.data.toList, text := ⟨(headText t.data.toList).toArray⟩, opn := false })
def Rd.fenced (r : Rd) (t : ByteArray) (w : Nat) : Option Rd := match openV t.data.toList with
 | none => none
 | some (c, n, i) => some ((r.fresh (Nd.new 7)).turn r.nds.length fun x => { x with fc := c.toNat, fm := n, fi := ⟨i.toArray⟩, offset := w, info := unescB ⟨i.toArray⟩ })
def Rd.html (r : Rd) (t : ByteArray) : Option Rd :=
 let k := htmlN t.data.toList
 if k = 0 ∨ (k = 7 ∧ (r.curK = 5 ∨ (r.lzy = true ∧ t.size ≠ 0 ∧ r.tipK = 5))) then none else
  let r2 := (r.fresh (Nd.new 8)).turn r.nds.length fun x => { x with html := k, lines := [r.rest] }
  some (if endsB t.data.toList k = true then r2.close r.nds.length else r2)
def Rd.table (r : Rd) (t : ByteArray) : Option Rd := match r.cur with
 | none => none
 | some b => if (r.nd b).kind ≠ 5 then none else match (r.nd b).lines with
  | [l] => match alignsL t with
   | none => none
   | some a => if (rowL l).length ≠ a.length then none else some (r.turn b fun x => { x with kind := 10, align := a, last := r.n })
  | _ => none
def Rd.under (r : Rd) (t : ByteArray) : Rd × Bool := match r.cur with
 | none => (r, false)
 | some b => if (r.nd b).kind ≠ 5 ∨ underN t.data.toList = 0 then (r, false) else
  let s := joinN (r.nd b).lines
  let x := defineF s.size s r.refs
  let r1 := { (r.turn b fun d => { d with lines := [] }) with refs := x.2 }
  if (trimN x.1).size = 0 then (r1, false) else
   (r1.turn b fun d => { d with kind := 6, level := underN t.data.toList, text := trimN x.1, last := r.n, opn := false }, true)
def Rd.rule (r : Rd) (t : ByteArray) : Option Rd :=
 if ruleB t.data.toList = true then some ((r.fresh (Nd.new 9)).turn r.nds.length fun x => { x with opn := false }) else none
def Rd.item (r : Rd) (t : ByteArray) (w : Nat) : Rd × Nat := match itemN t.data.toList with
 | none => (r, 0)
 | some (c, start, width) =>
  if r.curK = 5 ∧ ((blankT (t.data.toList.drop width)).isEmpty = true ∨ ((c = 46 ∨ c = 41) ∧ start ≠ 1)) then (r, 0) else
  let r1 := r.pass width
  let v0 := widthN r1.rest.data.toList r1.col
  let v := if 5 ≤ v0 ∨ (blankT r1.rest.data.toList).isEmpty = true then 1 else v0
  let r2 := r1.cut v
  let r3 := if r2.curK ≠ 3 ∨ (match r2.cur with | some i => (r2.nd i).mark | none => 0) ≠ c.toNat then
   { (r2.fresh { Nd.new 3 with mark := c.toNat, start := start }) with cur := some r2.nds.length } else r2
  ({ (r3.fresh { Nd.new 4 with indent := w + width + v }) with cur := some r3.nds.length }, 1)
def Rd.look (r : Rd) : Rd × Nat :=
 let t := r.bareT
 let w := r.bareW
 if 4 ≤ w then r.code t
 else if t.data.toList.head? = some 62 then r.quote
 else match r.head t with
 | some r1 => (r1, 2)
 | none => match r.fenced t w with
  | some r1 => (r1, 2)
  | none => match r.html t with
   | some r1 => (r1, 2)
   | none => match r.table t with
    | some r1 => (r1, 2)
    | none =>
     let x := r.under t
     if x.2 = true then (x.1, 2) else match x.1.rule t with
     | some r1 => (r1, 2)
     | none => x.1.item t w
def Rd.left (r : Rd) : Rd :=
 let t := r.bareT
 let b := (if r.lzy = true ∧ t.size ≠ 0 ∧ r.tipK = 5 then r.tip else r.cur).getD 0
 let r1 := if r.lzy = true ∧ t.size ≠ 0 ∧ r.tipK = 5 then r else r.settle
 let d := r1.nd b
 if d.kind = 7 then r1.upd b { d with lines := d.lines ++ [r1.rest], last := if 0 < d.fm ∨ t.size ≠ 0 then r1.n else d.last }
 else if d.kind = 8 then
  let r2 := r1.upd b { d with lines := d.lines ++ [r1.rest], last := r1.n }
  if endsB r1.rest.data.toList d.html = true then r2.close b else r2
 else if d.kind = 5 ∨ d.kind = 10 then r1.upd b { d with lines := d.lines ++ [t], last := r1.n }
 else if t.size ≠ 0 then (r1.fresh (Nd.new 5)).turn r1.nds.length fun x => { x with lines := [t] }
 else r1
def Rd.walkF : Nat -> Rd -> Rd × Bool
 | 0, r => (r, false)
 | f + 1, r => match r.cur with
  | none => (r, false)
  | some a => match r.inner a with
   | none => (r, false)
   | some k =>
    let x := r.goes k
    if x.2.2 = true then (x.1, true) else if x.2.1 = true then Rd.walkF f { x.1 with cur := some k } else (x.1, false)
def Rd.lookF : Nat -> Rd -> Rd
 | 0, r => r
 | f + 1, r => if r.curK = 7 ∨ r.curK = 8 then r.left else
  let x := r.look
  if x.2 = 2 then x.1 else if x.2 = 0 then x.1.left else Rd.lookF f x.1
def Rd.read (r : Rd) (s : ByteArray) : Rd :=
 let x := Rd.walkF r.nds.length { r with rest := s, col := 0, cur := some 0 }
 if x.2 = true then x.1 else
  let tp := x.1.deepest (x.1.cur.getD 0)
  let r2 := { x.1 with tip := some tp, lzy := decide (some tp ≠ x.1.cur) }
  Rd.lookF (r2.rest.size + 1) r2
def Rd.linesF : List ByteArray -> Rd -> Rd
 | [], r => r
 | l :: ls, r => Rd.linesF ls (({ r with n := r.n + 1 } : Rd).read l)
def Rd.start : Rd := ⟨[{ Nd.new 1 with opn := true }], ⟨#[]⟩, 0, 0, none, none, false, []⟩
def Rd.final (ls : List ByteArray) : Rd := ({ (Rd.linesF ls Rd.start) with cur := some 0 } : Rd).close 0
end
