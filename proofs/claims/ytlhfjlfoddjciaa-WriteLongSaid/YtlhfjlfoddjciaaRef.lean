/- The reference's Fragment, walked. -/
import Derived.Test.YtlhfjlfoddjciaaSame
namespace Go.Proofs.Ytlhfjlfoddjciaa
open Go.RowKit

def voids : List ByteArray := [⟨#[97, 114, 101, 97]⟩, ⟨#[98, 97, 115, 101]⟩, ⟨#[98, 97, 115, 101, 102, 111, 110, 116]⟩, ⟨#[98, 103, 115, 111, 117, 110, 100]⟩, ⟨#[98, 114]⟩, ⟨#[99, 111, 108]⟩, ⟨#[101, 109, 98, 101, 100]⟩, ⟨#[102, 114, 97, 109, 101]⟩, ⟨#[104, 114]⟩, ⟨#[105, 109, 103]⟩, ⟨#[105, 110, 112, 117, 116]⟩, ⟨#[107, 101, 121, 103, 101, 110]⟩, ⟨#[108, 105, 110, 107]⟩, ⟨#[109, 101, 116, 97]⟩, ⟨#[112, 97, 114, 97, 109]⟩, ⟨#[115, 111, 117, 114, 99, 101]⟩, ⟨#[116, 114, 97, 99, 107]⟩, ⟨#[119, 98, 114]⟩]
def bares : List ByteArray := [⟨#[115, 116, 121, 108, 101]⟩, ⟨#[115, 99, 114, 105, 112, 116]⟩, ⟨#[120, 109, 112]⟩, ⟨#[105, 102, 114, 97, 109, 101]⟩, ⟨#[110, 111, 101, 109, 98, 101, 100]⟩, ⟨#[110, 111, 102, 114, 97, 109, 101, 115]⟩, ⟨#[112, 108, 97, 105, 110, 116, 101, 120, 116]⟩]
def inList (l : List ByteArray) (s : ByteArray) : Bool := l.any fun t => t.toList == s.toList
def strVals (l : List ByteArray) : List Value := l.map Value.string

set_option maxHeartbeats 1000000 in
theorem in_any (l : List ByteArray) (g c : Nat) (s : ByteArray) (w : World) (hl : l.length ≤ 1000) (h : ∀ (j : Nat) (hj : j < l.length), w.cell? ⟨g, j, none⟩ = some (.string l[j])) :
    Calls Try.prog 24 #[.slice (some ⟨g, 0, none⟩) l.length c, .string s] w fun e w' => e = .returned (.bool (inList l s)) ∧ w = w' := by
  have HL := Lib.hid h
  clear h
  go_enter Try.func24, Try.ntmps24
  go_wp2
  go_loop [5] (fun i => ∃ k : Nat, i = .int .i64 k ∧ k ≤ l.length ∧ Hid (inList (l.take k) s = false)) (fun i => l.length - (intOf i).toNat)
  case atStart => exact ⟨0, rfl, Nat.zero_le _, rfl⟩
  case round =>
    obtain ⟨k, rfl, hk, hno⟩ := hrel
    by_cases hlt : k < l.length
    · have c0 := HL.out k hlt
      go_wp2
      · have heq : (l[k].toList == s.toList) = true := by assumption
        go_ret
        refine ⟨?_, rfl⟩
        have : inList l s = true := by
          unfold inList
          rw [List.any_eq_true]
          exact ⟨l[k], List.getElem_mem hlt, heq⟩
        rw [this]
        rfl
      · have heq : (l[k].toList == s.toList) = false := by assumption
        go_round
        case rel =>
          refine ⟨k + 1, by go_num, by omega, ?_⟩
          show inList (l.take (k + 1)) s = false
          rw [List.take_succ_eq_append_getElem hlt]
          have := hno.out
          unfold inList at *
          rw [List.any_append, this]
          simp [heq]
        case measure => simp [intOf]; omega
    · go_wp2
      go_ret
      have := hno.out
      rw [List.take_of_length_le (by omega)] at this
      rw [this]
      exact ⟨rfl, rfl⟩

/-! ### what the chapter says, plainly -/
def attrOut (a : AttrD) : List UInt8 := [32] ++ a.name.data.toList ++ [61, 34] ++ esc true a.value.data.toList ++ [34]
def attrsOut (l : List AttrD) : List UInt8 := (l.map attrOut).flatten
def isVoid (space : Nat) (name : ByteArray) : Bool := decide (space = 0) && inList voids name
def isBare (space : Nat) (name : ByteArray) : Bool := decide (space = 0) && inList bares name
def nodeOut {K : Type} (f : Bool → K → List UInt8) (raw : Bool) (x : NodeD K) : List UInt8 :=
  if x.kind = 2 then (if raw = true then x.text.data.toList else esc false x.text.data.toList)
  else if x.kind = 3 then [60, 33, 45, 45] ++ x.text.data.toList ++ [45, 45, 62]
  else if x.kind = 1 then
    [60] ++ x.name.data.toList ++ attrsOut x.attrs ++ [62] ++
      (if isVoid x.space x.name = true then [] else f (isBare x.space x.name) x.kids ++ [60, 47] ++ x.name.data.toList ++ [62])
  else []
def rowOut {K : Type} (f : Bool → K → List UInt8) (raw : Bool) (l : List (NodeD K)) : List UInt8 := (l.map (nodeOut f raw)).flatten
def frag : (n : Nat) → Bool → List (NT n) → List UInt8
  | 0, _, _ => []
  | n + 1, raw, l => rowOut (frag n) raw l

theorem attrOut_le (a : AttrD) : (attrOut a).length ≤ a.name.size + 6 * a.value.size + 4 := by
  have h1 := esc_le true a.value.data.toList
  have h2 : a.value.data.toList.length = a.value.size := Array.length_toList
  have h3 : a.name.data.toList.length = a.name.size := Array.length_toList
  unfold attrOut
  simp only [List.length_append, List.length_cons, List.length_nil]
  omega
theorem attrsOut_le (l : List AttrD) : (attrsOut l).length ≤ 100 * attrsWt l := by
  unfold attrsOut attrsWt
  induction l with
  | nil => simp
  | cons x r ih =>
    have := attrOut_le x
    simp only [List.map_cons, List.flatten_cons, List.length_append, List.sum_cons] at *
    omega
theorem nodeOut_le {K : Type} (f : Bool → K → List UInt8) (g : K → Nat) (hf : ∀ b k, (f b k).length ≤ 100 * g k) (raw : Bool) (x : NodeD K) :
    (nodeOut f raw x).length ≤ 100 * (1 + x.text.size / 8 + x.name.size / 8 + attrsWt x.attrs + g x.kids) := by
  have h1 := esc_le false x.text.data.toList
  have h2 : x.text.data.toList.length = x.text.size := Array.length_toList
  have h3 : x.name.data.toList.length = x.name.size := Array.length_toList
  have h4 := attrsOut_le x.attrs
  have h5 := hf (isBare x.space x.name) x.kids
  unfold nodeOut
  repeat' split
  all_goals (first | (simp only [List.length_append, List.length_cons, List.length_nil]; omega) | (simp only [List.length_nil]; omega) | omega)
theorem rowOut_le {K : Type} (f : Bool → K → List UInt8) (g : K → Nat) (hf : ∀ b k, (f b k).length ≤ 100 * g k) (raw : Bool) (l : List (NodeD K)) : (rowOut f raw l).length ≤ 100 * rowWt g l := by
  unfold rowOut rowWt
  induction l with
  | nil => simp
  | cons x r ih =>
    have := nodeOut_le f g hf raw x
    simp only [List.map_cons, List.flatten_cons, List.length_append, List.sum_cons] at *
    omega
theorem frag_le : ∀ (n : Nat) (raw : Bool) (l : List (NT n)), (frag n raw l).length ≤ 100 * wt n l
  | 0, _, _ => by simp [frag]
  | n + 1, raw, l => rowOut_le (frag n) (wt n) (frag_le n) raw l
theorem attrsOut_take (l : List AttrD) (k : Nat) (hk : k < l.length) : attrsOut (l.take (k + 1)) = attrsOut (l.take k) ++ attrOut l[k] := by
  unfold attrsOut; rw [List.take_succ_eq_append_getElem hk]; simp only [List.map_append, List.flatten_append, List.map_cons, List.map_nil, List.flatten_cons, List.flatten_nil, List.append_nil]
theorem rowOut_take {K : Type} (f : Bool → K → List UInt8) (raw : Bool) (l : List (NodeD K)) (k : Nat) (hk : k < l.length) : rowOut f raw (l.take (k + 1)) = rowOut f raw (l.take k) ++ nodeOut f raw l[k] := by
  unfold rowOut; rw [List.take_succ_eq_append_getElem hk]; simp only [List.map_append, List.flatten_append, List.map_cons, List.map_nil, List.flatten_cons, List.flatten_nil, List.append_nil]
theorem attrsWt_mono (l : List AttrD) (k : Nat) : attrsWt (l.take k) ≤ attrsWt l := by
  have h : attrsWt l = attrsWt (l.take k) + attrsWt (l.drop k) := by
    unfold attrsWt; rw [← List.sum_append, ← List.map_append, List.take_append_drop]
  omega
theorem attrsWt_get (l : List AttrD) (k : Nat) (hk : k < l.length) : attrsWt (l.take k) + (1 + l[k].name.size / 8 + l[k].value.size / 8) ≤ attrsWt l := by
  have h1 := attrsWt_take l k hk
  have h2 := attrsWt_mono l (k + 1)
  omega
theorem rowWt_mono {K : Type} (f : K → Nat) (l : List (NodeD K)) (k : Nat) : rowWt f (l.take k) ≤ rowWt f l := by
  have h : rowWt f l = rowWt f (l.take k) + rowWt f (l.drop k) := by
    unfold rowWt; rw [← List.sum_append, ← List.map_append, List.take_append_drop]
  omega
end Go.Proofs.Ytlhfjlfoddjciaa
