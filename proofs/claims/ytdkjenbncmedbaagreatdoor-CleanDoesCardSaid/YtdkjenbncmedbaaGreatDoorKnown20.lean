/- tympanlaw20.known. tympanlaw20.known is true. -/
import Derived.Test.YtdkjenbncmedbaaGreatDoorClnG
import Derived.Test.YtdkjenbncmedbaaGreatDoorClnR
import Derived.Test.YtdkjenbncmedbaaGreatDoorBase
namespace Go.Proofs.YtdkjenbncmedbaaGreatDoor
open Go.RowKit

def elemO (nm : ByteArray) (vk : Value) : Obj := .cells #[.int .u8 1, .int .u8 0, .string nm, .slice none 0 0, .string ⟨#[]⟩, vk] 48
def elemV (nm : ByteArray) (vk : Value) : Value := .agg #[.int .u8 1, .int .u8 0, .string nm, .slice none 0 0, .string ⟨#[]⟩, vk]
set_option maxHeartbeats 2000000 in
set_option maxRecDepth 100000 in
theorem elem_any (nm : ByteArray) (A : Option Addr) (m c : Nat) (w : World) : Calls Tryz.prog 43 #[.string nm, .slice A m c] w fun e w' => e = .returned (elemV nm (.slice A m c)) ∧ w' = w.alloc (elemO nm (.slice A m c)) := by
  go_enter Tryz.func43, Tryz.ntmps43
  go_wp2
  (try simp only [Exit.inBlock, Exit.then])
  refine bodyPost_ret (results_cell_row rfl _ _ w.heap.size _ _ _ _ rfl (heap_alloc_new _ _) Tryz.underlying48 rfl (by kernel_rfl)) rfl ?_
  exact ⟨rfl, rfl⟩
/-- A block of nodes, written out, reads as them. -/
theorem nodes_block {n b : Nat} {w : World} {S : Nat → Prop} {ar : Array Value} (l : List (NodeD (List (NT n)))) (css : List (List Value)) (hb : w.heap[b]? = some (.cells ar 48 (0, 0))) (har : ar.toList = css.flatten) (hl : css.length = l.length) (h6 : ∀ c ∈ css, c.length = 6) (hS : S b) (hlen : l.length ≤ 1000)
    (hE : ∀ (j : Nat) (c : List Value) (x : NodeD (List (NT n))), css[j]? = some c → l[j]? = some x → NodeIs (NodesAt n) w S c x) : NodesAt (n + 1) w S (.slice (some ⟨b, 0, none⟩) l.length l.length) l := by
  have hfl := flat_six css h6
  have hown : w.ownsRow 0 48 6 (.slice (some ⟨b, 0, none⟩) l.length l.length) l.length css.flatten :=
    ⟨by rw [hfl, hl], .inr ⟨b, l.length, ar, rfl, Nat.zero_le _, hb, Nat.le_refl _, by unfold maxLen; omega, by rw [← Array.length_toList, har, hfl, hl], by rw [har]; exact List.take_of_length_le (by rw [hfl, hl]; exact Nat.le_refl _)⟩⟩
  exact Row.of_own (α := NodeD (List (NT n))) css hown (fun k hk => by cases hk; exact hS) (Nat.le_trans hlen (by decide)) h6 hl hE
theorem nodes_one {n b : Nat} {w : World} {S : Nat → Prop} {c0 c1 c2 c3 c4 c5 : Value} (y : NodeD (List (NT n))) (hb : w.heap[b]? = some (.cells #[c0, c1, c2, c3, c4, c5] 48 (0, 0))) (hS : S b) (hE : NodeIs (NodesAt n) w S [c0, c1, c2, c3, c4, c5] y) : NodesAt (n + 1) w S (.slice (some ⟨b, 0, none⟩) 1 1) [y] :=
  nodes_block (l := ([y] : List (NodeD (List (NT n))))) [[c0, c1, c2, c3, c4, c5]] hb rfl rfl (by simp) hS (Nat.le_of_ble_eq_true rfl) fun j c x hc hx => by
    match j, hc, hx with
    | 0, hc, hx => cases hc; cases hx; exact hE
    | j + 1, hc, _ => cases hc
theorem text_is {n : Nat} {w : World} {S : Nat → Prop} (t : ByteArray) (ht : t.size ≤ 1000) : NodeIs (NodesAt n) w S [.int .u8 2, .int .u8 0, .string ⟨#[]⟩, .slice none 0 0, .string t, .slice none 0 0] ⟨2, 0, ⟨#[]⟩, [], t, []⟩ :=
  ⟨_, _, rfl, Row.nil _ _ _ _, nodes_nil _ _ _, Nat.zero_le _, by show t.size ≤ _; omega, (by decide : (2 : Nat) < 256), (by decide : (0 : Nat) < 256)⟩
theorem elem_node {n : Nat} {w : World} {S : Nat → Prop} {vk : Value} (nm : ByteArray) (k : List (NT n)) (hn : nm.size ≤ 1000) (hk : NodesAt n w S vk k) : NodeIs (NodesAt n) w S [.int .u8 1, .int .u8 0, .string nm, .slice none 0 0, .string ⟨#[]⟩, vk] ⟨1, 0, nm, [], ⟨#[]⟩, k⟩ :=
  ⟨_, _, rfl, Row.nil _ _ _ _, hk, by show nm.size ≤ _; omega, Nat.zero_le _, (by decide : (1 : Nat) < 256), (by decide : (0 : Nat) < 256)⟩
theorem lt_block {w : World} {b : Nat} {o : Obj} (h : w.heap[b]? = some o) : b < w.heap.size := (Array.getElem?_eq_some_iff.1 h).1
def tx (n : Nat) (t : ByteArray) : NT (n + 1) := (⟨2, 0, ⟨#[]⟩, [], t, []⟩ : NodeD (List (NT n)))
def el (n : Nat) (nm : ByteArray) (k : List (NT n)) : NT (n + 1) := (⟨1, 0, nm, [], ⟨#[]⟩, k⟩ : NodeD (List (NT n)))
def T1 : List (NT 5) := [el 4 ⟨#[112]⟩ [tx 3 ⟨#[49]⟩, el 3 ⟨#[100, 105, 118]⟩ [el 2 ⟨#[112]⟩ [tx 1 ⟨#[50]⟩]], el 3 ⟨#[115, 99, 114, 105, 112, 116]⟩ [tx 2 ⟨#[49]⟩]]]
def T2 : List (NT 5) := [el 4 ⟨#[112, 114, 101]⟩ [tx 3 ⟨#[10, 10, 120]⟩]]
def T3 : List (NT 5) := [el 4 ⟨#[115, 99, 114, 105, 112, 116]⟩ []]
theorem known_tree {w : World} {n0 b11 b13 b17 b19 : Nat} (h19 : w.heap[b19]? = some (.cells #[.int .u8 1, .int .u8 0, .string ⟨#[112]⟩, .slice none 0 0, .string ⟨#[]⟩, .slice (some ⟨b17, 0, none⟩) 3 3] 48 (0, 0)))
    (h17 : w.heap[b17]? = some (.cells #[.int .u8 2, .int .u8 0, .string ⟨#[]⟩, .slice none 0 0, .string ⟨#[49]⟩, .slice none 0 0, .int .u8 1, .int .u8 0, .string ⟨#[100, 105, 118]⟩, .slice none 0 0, .string ⟨#[]⟩, .slice (some ⟨b13, 0, none⟩) 1 1, .int .u8 1, .int .u8 0, .string ⟨#[115, 99, 114, 105, 112, 116]⟩, .slice none 0 0, .string ⟨#[]⟩, .slice (some ⟨n0, 0, none⟩) 1 1] 48 (0, 0)))
    (h13 : w.heap[b13]? = some (.cells #[.int .u8 1, .int .u8 0, .string ⟨#[112]⟩, .slice none 0 0, .string ⟨#[]⟩, .slice (some ⟨b11, 0, none⟩) 1 1] 48 (0, 0)))
    (h11 : w.heap[b11]? = some (.cells #[.int .u8 2, .int .u8 0, .string ⟨#[]⟩, .slice none 0 0, .string ⟨#[50]⟩, .slice none 0 0] 48 (0, 0)))
    (h0 : w.heap[n0]? = some (.cells #[.int .u8 2, .int .u8 0, .string ⟨#[]⟩, .slice none 0 0, .string ⟨#[49]⟩, .slice none 0 0] 48 (0, 0))) : NodesAt 5 w (fun k => k < w.heap.size) (.slice (some ⟨b19, 0, none⟩) 1 1) T1 := by
  obtain ⟨S, hSd⟩ : ∃ S : Nat → Prop, (fun k => k < w.heap.size) = S := ⟨_, rfl⟩
  have hS : S b19 ∧ S b17 ∧ S b13 ∧ S b11 ∧ S n0 := by
    rw [← hSd]
    exact ⟨lt_block h19, lt_block h17, lt_block h13, lt_block h11, lt_block h0⟩
  rw [hSd]
  have k11 : NodesAt 2 w S (.slice (some ⟨b11, 0, none⟩) 1 1) [tx 1 ⟨#[50]⟩] := nodes_one _ h11 hS.2.2.2.1 (text_is _ (by decide))
  have k13 : NodesAt 3 w S (.slice (some ⟨b13, 0, none⟩) 1 1) [el 2 ⟨#[112]⟩ [tx 1 ⟨#[50]⟩]] := nodes_one _ h13 hS.2.2.1 (elem_node _ _ (by decide) k11)
  have k0 : NodesAt 3 w S (.slice (some ⟨n0, 0, none⟩) 1 1) [tx 2 ⟨#[49]⟩] := nodes_one _ h0 hS.2.2.2.2 (text_is _ (by decide))
  have k17 : NodesAt 4 w S (.slice (some ⟨b17, 0, none⟩) 3 3) [tx 3 ⟨#[49]⟩, el 3 ⟨#[100, 105, 118]⟩ [el 2 ⟨#[112]⟩ [tx 1 ⟨#[50]⟩]], el 3 ⟨#[115, 99, 114, 105, 112, 116]⟩ [tx 2 ⟨#[49]⟩]] :=
    nodes_block (l := ([tx 3 ⟨#[49]⟩, el 3 ⟨#[100, 105, 118]⟩ [el 2 ⟨#[112]⟩ [tx 1 ⟨#[50]⟩]], el 3 ⟨#[115, 99, 114, 105, 112, 116]⟩ [tx 2 ⟨#[49]⟩]] : List (NodeD (List (NT 3))))) [[.int .u8 2, .int .u8 0, .string ⟨#[]⟩, .slice none 0 0, .string ⟨#[49]⟩, .slice none 0 0], [.int .u8 1, .int .u8 0, .string ⟨#[100, 105, 118]⟩, .slice none 0 0, .string ⟨#[]⟩, .slice (some ⟨b13, 0, none⟩) 1 1], [.int .u8 1, .int .u8 0, .string ⟨#[115, 99, 114, 105, 112, 116]⟩, .slice none 0 0, .string ⟨#[]⟩, .slice (some ⟨n0, 0, none⟩) 1 1]] h17 rfl rfl (by simp) hS.2.1 (Nat.le_of_ble_eq_true rfl) fun j c x hc hx => by
      match j, hc, hx with
      | 0, hc, hx => cases hc; cases hx; exact text_is _ (by decide)
      | 1, hc, hx => cases hc; cases hx; exact elem_node _ _ (by decide) k13
      | 2, hc, hx => cases hc; cases hx; exact elem_node _ _ (by decide) k0
      | j + 3, hc, _ => cases hc
  exact nodes_one _ h19 hS.1 (elem_node _ _ (by decide) k17)
theorem r1_eq : kidsN baseE baseA baseS 5 5 0 zeroPl T1 = [el 4 ⟨#[112]⟩ [tx 3 ⟨#[49, 50]⟩]] := by kernel_rfl
theorem r2_eq : kidsN baseE baseA baseS 5 5 0 zeroPl T2 = [el 4 ⟨#[112, 114, 101]⟩ [tx 3 ⟨#[120]⟩]] := by kernel_rfl
theorem r3_eq : rightN baseE baseA baseS 5 T3 = false := by kernel_rfl
theorem w1_le : wt 5 T1 ≤ 100000 := by decide +kernel
theorem w2_le : wt 5 T2 ≤ 100000 := by decide +kernel
theorem w3_le : wt 5 T3 ≤ 100000 := by decide +kernel

def All (w : World) (k : Nat) : Prop := k < w.heap.size
/-- What Clean gives of a tree that is written out. -/
theorem clean_known {W : World} {vE vA vS vl : Value} {T : List (NT 5)} {R : List (NT 5)} (hw : wt 5 T ≤ 100000) (hR : kidsN baseE baseA baseS 5 5 0 zeroPl T = R) (hT : NodesAt 5 W (All W) vl T) (hp : PolAt W (.agg #[vE, vA, vS]) baseE baseA baseS) (hG : Glob W) (ht : SpTab W) :
    Calls Tryz.prog 15 #[vl, .agg #[vE, vA, vS]] W (KidsR W 5 R) := by
  rw [← hR]
  exact clean_any baseE baseA baseS 5 5 vE vA vS vl T (All W) W W (Nat.le_refl _) ⟨hp, hG, ht⟩ hT (fun _ h => h) (Below.refl _ _) hw
theorem right_known {W : World} {vE vA vS vl : Value} {T : List (NT 5)} {b : Bool} (hw : wt 5 T ≤ 100000) (hR : rightN baseE baseA baseS 5 T = b) (hT : NodesAt 5 W (All W) vl T) (hp : PolAt W (.agg #[vE, vA, vS]) baseE baseA baseS) (hG : Glob W) (ht : SpTab W) :
    Calls Tryz.prog 20 #[vl, .agg #[vE, vA, vS]] W (BoolR W b) := by
  rw [← hR]
  exact right_all baseE baseA baseS 5 vE vA vS vl T (All W) W W ⟨hp, hG, ht⟩ hT (fun _ h => h) (Below.refl _ _) hw
theorem below_al {w w' : World} (h : Below w.heap.size w w') (o : Obj) : Below w.heap.size w (w'.alloc o) := h.alloc h.size o
theorem s_seven7 {a b c d e f g : Prop} (s : a ∧ b ∧ c ∧ d ∧ e ∧ f ∧ g) : g := s.2.2.2.2.2.2
theorem heap_nw {w : World} {n : Nat} {cs : Array Value} {t : TypeId} (h : n = w.heap.size) : (w.alloc (.cells cs t)).heap[n]? = some (.cells cs t (0, 0)) := by
  rw [h]
  exact heap_alloc_new w _
theorem heap_up {w : World} {n : Nat} {o c : Obj} (h : w.heap[n]? = some c) : (w.alloc o).heap[n]? = some c := (Below.heap_alloc _ _ _ (lt_block h)).trans h
theorem heap_dr {w : World} {n : Nat} {c : Obj} (h : w.heap[n]? = some c) : w.drew.heap[n]? = some c := h
theorem heap_by {w w' : World} {n : Nat} {c : Obj} (hb : Below w.heap.size w w') (h : w.heap[n]? = some c) : w'.heap[n]? = some c := (hb.block n (lt_block h)).trans h
theorem one_cells {w : World} {S : Nat → Prop} {v : Value} {nm t : ByteArray} (h : NodesAt 5 w S v [el 4 nm [tx 3 t]]) : ∃ ad c ad2 c2, v = .slice (some ad) 1 c ∧ w.cell? ⟨ad.block, ad.off + 5, none⟩ = some (.slice (some ad2) 1 c2) ∧ w.cell? ⟨ad2.block, ad2.off + 4, none⟩ = some (.string t) := by
  obtain ⟨A, c, rfl, _, hg⟩ := h.get
  obtain ⟨ad, va, vk, rfl, _, hk, _, _, _, _, _, _, _, _, _, _, c5⟩ := hg 0 (Nat.zero_lt_succ 0)
  obtain ⟨A2, c2, rfl, _, hg2⟩ := NodesAt.get (n := 3) (l := [tx 3 t]) hk
  obtain ⟨ad2, va2, vk2, rfl, _, _, _, _, _, _, _, _, _, _, _, d4, _⟩ := hg2 0 (Nat.zero_lt_succ 0)
  exact ⟨ad, c, ad2, c2, rfl, c5, d4⟩
def Got (w0 : World) (R : List (NT 5)) (v : Value) (wx : World) : Prop := NodesAt 5 wx (All wx) v R ∧ Below w0.heap.size w0 wx
set_option maxHeartbeats 40000000 in
set_option maxRecDepth 100000 in
theorem known_any20 (w : World) (ht : SpTab w) (hG : Glob w) : Calls Tryz.prog 18 #[] w (Yes w) := by
  obtain ⟨wa, hwa⟩ : ∃ wa, w.alloc (.cells #[.int .u8 2, .int .u8 0, .string ⟨#[]⟩, .slice none 0 0, .string ⟨#[49]⟩, .slice none 0 0] 48) = wa := ⟨_, rfl⟩
  have hba : Below w.heap.size w wa := by rw [← hwa]; exact (Below.refl _ w).alloc (Nat.le_refl _) _
  have hza : w.heap.size + 1 ≤ wa.heap.size ∧ wa.heap.size ≤ w.heap.size + 1 := by rw [← hwa]; simp
  have hna : wa.heap[w.heap.size]? = some (.cells #[.int .u8 2, .int .u8 0, .string ⟨#[]⟩, .slice none 0 0, .string ⟨#[49]⟩, .slice none 0 0] 48 (0, 0)) := by rw [← hwa]; exact heap_alloc_new _ _
  have hcl : ∀ w' : World, Below wa.heap.size wa w' → (w'.cell? ⟨w.heap.size, 0, none⟩ = some (.int .u8 2) ∧ w'.cell? ⟨w.heap.size, 1, none⟩ = some (.int .u8 0) ∧ w'.cell? ⟨w.heap.size, 2, none⟩ = some (.string ⟨#[]⟩) ∧ w'.cell? ⟨w.heap.size, 3, none⟩ = some (.slice none 0 0) ∧ w'.cell? ⟨w.heap.size, 4, none⟩ = some (.string ⟨#[49]⟩) ∧ w'.cell? ⟨w.heap.size, 5, none⟩ = some (.slice none 0 0) ∧ Below wa.heap.size wa w') := fun w' hb' => by
    have q := fun i => cell_of_row w' w.heap.size i _ _ _ ((hb'.block _ (by omega)).trans hna)
    exact ⟨q 0, q 1, q 2, q 3, q 4, q 5, hb'⟩
  have HCe := Lib.hid hcl; have HS5 := Lib.hid (hcl wa (Below.refl _ _)); have HNA := Lib.hid hna; have HWA := Lib.hid hwa; have HBA := Lib.hid hba
  have HBase := Lib.hid fun (w' : World) (hb : Below wa.heap.size wa w') => base_any w' (ht.later (below_on hba hb)) (hG.later (below_on hba hb))
  have HT := Lib.hid fun (w' : World) (hb : Below wa.heap.size wa w') => ht.later (below_on hba hb)
  have HGl := Lib.hid fun (w' : World) (hb : Below wa.heap.size wa w') => hG.later (below_on hba hb)
  have HN0 := Lib.hid fun (w' : World) (hb : Below wa.heap.size wa w') => (hb.block w.heap.size (by omega)).trans hna
  clear ht hG hcl hna hwa hba
  go_enter Tryz.func18, Tryz.ntmps18
  go_upto_region 2 with fail
  rw [HWA.out]
  go_cut [2] from 7 to 85 (fun v2 wx => Got wa [el 4 ⟨#[112]⟩ [tx 3 ⟨#[49, 50]⟩]] v2 wx)
  case first =>
    go_region_held3 (fun w' => w'.cell? ⟨w.heap.size, 0, none⟩ = some (.int .u8 2) ∧ w'.cell? ⟨w.heap.size, 1, none⟩ = some (.int .u8 0) ∧ w'.cell? ⟨w.heap.size, 2, none⟩ = some (.string ⟨#[]⟩) ∧ w'.cell? ⟨w.heap.size, 3, none⟩ = some (.slice none 0 0) ∧ w'.cell? ⟨w.heap.size, 4, none⟩ = some (.string ⟨#[49]⟩) ∧ w'.cell? ⟨w.heap.size, 5, none⟩ = some (.slice none 0 0) ∧ Below wa.heap.size wa w') (first | assumption | exact HS5.out | (with_reducible exact HCe.out _ (Below.drew (Below.refl _ _))) | (with_reducible exact HCe.out _ (Below.drew (s_seven7 (by assumption)))) | (with_reducible exact HCe.out _ (below_al (s_seven7 (by assumption)) _)) | (with_reducible exact HCe.out _ (below_on (s_seven7 (by assumption)) (by assumption)))) (first
      | (go_at_call 43; (with_reducible refine Calls.mono (elem_any _ _ _ _ _) ?_); rintro e w2 ⟨rfl, rfl⟩; unfold elemV)
      | (go_at_call 26; (with_reducible refine Calls.mono (HBase.out _ (s_seven7 (by assumption))) ?_); rintro e w3 ⟨v, rfl, hown, b3⟩; have HP := Lib.hid (base_pol hown); obtain ⟨bE, bA, bS, cE, cA, cS, xE, xA, xS, rfl, _⟩ := hown.is; have hz3 := b3.size; have HB3 := Lib.hid b3; clear hown)
      | (go_at_call 15; refine Calls.mono (clean_known w1_le r1_eq ?_ ?_ ?_ ?_) ?_; (focus (apply known_tree (n0 := w.heap.size); (focus (repeat (first | exact HNA.out | (with_reducible refine heap_dr ?_) | ((with_reducible refine heap_nw ?_); simp; done) | (with_reducible refine heap_up ?_) | (with_reducible refine heap_by HB3.out ?_)))); (focus (repeat (first | exact HNA.out | (with_reducible refine heap_dr ?_) | ((with_reducible refine heap_nw ?_); simp; done) | (with_reducible refine heap_up ?_) | (with_reducible refine heap_by HB3.out ?_)))); (focus (repeat (first | exact HNA.out | (with_reducible refine heap_dr ?_) | ((with_reducible refine heap_nw ?_); simp; done) | (with_reducible refine heap_up ?_) | (with_reducible refine heap_by HB3.out ?_)))); (focus (repeat (first | exact HNA.out | (with_reducible refine heap_dr ?_) | ((with_reducible refine heap_nw ?_); simp; done) | (with_reducible refine heap_up ?_) | (with_reducible refine heap_by HB3.out ?_)))); (focus (repeat (first | exact HNA.out | (with_reducible refine heap_dr ?_) | ((with_reducible refine heap_nw ?_); simp; done) | (with_reducible refine heap_up ?_) | (with_reducible refine heap_by HB3.out ?_)))))); (focus (refine HP.out.later ?_; (repeat (first | exact Below.refl _ _ | (with_reducible refine below_al ?_ _) | (with_reducible refine Below.drew ?_))))); (exact HGl.out _ (s_seven7 (by assumption))); (exact HT.out _ (s_seven7 (by assumption))); rintro e w9 ⟨v9, rfl, hk9, b9⟩; obtain ⟨A9, m9, c9, rfl⟩ := hk9.shape; have HK9 := Lib.hid (show NodesAt 5 w9 (All w9) _ _ from NodesAt.mono (fun j hj => hj.2) 5 hk9); clear hk9))
    all_goals
      go_wp2_with fail
      go_meet
      exact ⟨HK9.out, s_seven7 (by assumption)⟩
  case rest =>
    obtain ⟨hk2, hb2⟩ := hcut
    obtain ⟨A2, m2, c2, rfl⟩ := hk2.shape
    obtain ⟨wz, hwz⟩ : ∃ wz : World, wz = wc := ⟨_, rfl⟩
    subst hwz
    have HK2 := Lib.hid hk2; have HB2 := Lib.hid hb2
    clear hk2 hb2
    go_wp2_with fail
    refine Calls.mono (elem_any _ _ _ _ _) ?_
    rintro e w3 ⟨rfl, rfl⟩
    unfold elemV
    go_wp2_with fail
    refine Calls.mono (HBase.out _ (below_al (below_al (below_al HB2.out _) _) _)) ?_
    rintro e w4 ⟨v, rfl, hown, b4⟩
    have HP := Lib.hid (base_pol hown)
    obtain ⟨bE, bA, bS, cE, cA, cS, xE, xA, xS, rfl, _⟩ := hown.is
    have hz4 := b4.size
    have HB4 := Lib.hid (below_on (below_al (below_al (below_al (Below.refl _ wz) _) _) _) b4)
    have HT4 : NodesAt 5 w4 (All w4) (.slice (some ⟨wz.heap.size + 1 + 1, 0, none⟩) 1 1) T2 := by
      have k1 := heap_by b4 (heap_nw (w := ((wz.alloc (.cells #[.int .u8 2, .int .u8 0, .string ⟨#[]⟩, .slice none 0 0, .string ⟨#[10, 10, 120]⟩, .slice none 0 0] 48)).alloc (elemO ⟨#[112, 114, 101]⟩ (.slice (some ⟨wz.heap.size, 0, none⟩) 1 1)))) (n := wz.heap.size + 1 + 1) (by simp))
      have k2 := heap_by b4 (heap_up (heap_up (heap_nw (w := wz) (n := wz.heap.size) rfl)))
      exact nodes_one _ k1 (lt_block k1) (elem_node _ _ (by decide) (nodes_one _ k2 (lt_block k2) (text_is _ (by decide))))
    have HT4 := Lib.hid HT4
    clear hown b4
    go_wp2_with fail
    refine Calls.mono (clean_known w2_le r2_eq HT4.out HP.out (HGl.out _ (below_on HB2.out HB4.out)) (HT.out _ (below_on HB2.out HB4.out))) ?_
    rintro e w5 ⟨v5, rfl, hk5, b5⟩
    have hb5 := below_on HB4.out b5
    have hk52 : NodesAt 5 w5 (All wz) (.slice A2 m2 c2) _ := NodesAt.keep (w' := w5) (fun j hj => hb5.block j hj) 5 HK2.out
    have HK52 := Lib.hid hk52
    obtain ⟨ad, ac, ad2, ac2, ea, f1, f2⟩ := one_cells hk52
    obtain ⟨bd, bc, bd2, bc2, eb, f3, f4⟩ := one_cells hk5
    cases ea
    subst eb
    have HB5 := Lib.hid hb5
    clear hk5 hb5 b5 hk52
    go_wp2_with fail
    refine Calls.mono (HBase.out _ (below_on HB2.out HB5.out)) ?_
    rintro e w6 ⟨v, rfl, hown, b6⟩
    have HP6 := Lib.hid (base_pol hown)
    obtain ⟨bE6, bA6, bS6, cE6, cA6, cS6, xE6, xA6, xS6, rfl, _⟩ := hown.is
    have hb6 := below_on HB5.out b6
    have HB6 := Lib.hid hb6
    have HR6 := Lib.hid (right_known (T := [el 4 ⟨#[112]⟩ [tx 3 ⟨#[49, 50]⟩]]) (b := true) (by decide +kernel) (by kernel_rfl) (NodesAt.mono (S' := All w6) (fun j hj => Nat.lt_of_lt_of_le hj hb6.size) 5 (NodesAt.keep (w' := w6) (fun j hj => b6.block j (Nat.lt_of_lt_of_le hj HB5.out.size)) 5 HK52.out)) HP6.out (HGl.out _ (below_on HB2.out hb6)) (HT.out _ (below_on HB2.out hb6)))
    clear hown b6 hb6
    go_wp2_with fail
    refine Calls.mono HR6.out ?_
    rintro e w7 ⟨rfl, b7⟩
    have HB7 := Lib.hid (below_on HB6.out b7)
    clear b7
    go_wp2_with fail
    refine Calls.mono (elem_any _ _ _ _ _) ?_
    rintro e w8 ⟨rfl, rfl⟩
    unfold elemV
    go_wp2_with fail
    refine Calls.mono (HBase.out _ (below_al (below_al (below_on HB2.out HB7.out) _) _)) ?_
    rintro e w9 ⟨v, rfl, hown, b9⟩
    have HP9 := Lib.hid (base_pol hown)
    obtain ⟨bE9, bA9, bS9, cE9, cA9, cS9, xE9, xA9, xS9, rfl, _⟩ := hown.is
    have hb9 := below_on (below_al (below_al HB7.out _) _) b9
    have HB9 := Lib.hid hb9
    have HT9 : NodesAt 5 w9 (All w9) (.slice (some ⟨w7.heap.size + 1, 0, none⟩) 1 1) T3 := by
      have k1 := heap_by b9 (heap_nw (w := w7.alloc (elemO ⟨#[115, 99, 114, 105, 112, 116]⟩ (.slice none 0 0))) (n := w7.heap.size + 1) (by simp))
      exact nodes_one _ k1 (lt_block k1) (elem_node _ _ (by decide) (nodes_nil _ _ _))
    have HR9 := Lib.hid (right_known w3_le r3_eq HT9 HP9.out (HGl.out _ (below_on HB2.out hb9)) (HT.out _ (below_on HB2.out hb9)))
    clear hown b9 hb9
    go_wp2_with fail
    refine Calls.mono HR9.out ?_
    rintro e w10 ⟨rfl, b10⟩
    have HB10 := Lib.hid (below_on HB9.out b10)
    clear b10
    go_wp2
    go_ret
    exact ⟨rfl, below_on HBA.out (below_on HB2.out HB10.out)⟩
end Go.Proofs.YtdkjenbncmedbaaGreatDoor
