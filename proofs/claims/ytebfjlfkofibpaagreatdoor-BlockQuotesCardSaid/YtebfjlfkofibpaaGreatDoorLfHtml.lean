/- leaf.after. -/
import Derived.Test.YtebfjlfkofibpaaGreatDoorAtLeaf
import Derived.Lib.SmallJoins
import Derived.Deep.DeepCutAuto
namespace Go.Proofs.YtebfjlfkofibpaaGreatDoor
set_option maxHeartbeats 4000000
set_option maxRecDepth 100000
section
open Go.RowKit
def SpTab (w : World) : Prop := Lib.TabIs Tryz.prog w "strings.asciiSpace" .u8 Lib.asciiSpaceTab
theorem SpTab.later {w w' : World} (h : SpTab w) (hb : Below w.heap.size w w') : SpTab w' :=
 Joins.tab_stays (g := 1) (by kernel_rfl) h hb (Nat.le_refl _)
def aftW (low : List UInt8) (front : ByteArray) (ends : List ByteArray) (x : List UInt8) : Bool :=
 Lib.hasPrefix low (front.data.toList ++ x) && (apartB (Lib.trimPrefix low (front.data.toList ++ x)) || decide (0 < closedN (Lib.trimPrefix low (front.data.toList ++ x)) 0 ends))
def aftB (low : List UInt8) (front : ByteArray) (ends : List ByteArray) (ws : List (List UInt8)) : Bool := ws.any (aftW low front ends)
theorem aft_take (low : List UInt8) (front : ByteArray) (ends : List ByteArray) (ws : List (List UInt8)) (k : Nat) (hk : k < ws.length) : aftB low front ends (ws.take (k + 1)) = (aftB low front ends (ws.take k) || aftW low front ends ws[k]) := by
 unfold aftB;rw [List.take_succ_eq_append_getElem hk, List.any_append];simp
theorem aft_yes (low : List UInt8) (front : ByteArray) (ends : List ByteArray) (ws : List (List UInt8)) (k : Nat) (hk : k < ws.length) (h : aftW low front ends ws[k] = true) : aftB low front ends ws = true := List.any_eq_true.2 ⟨_, List.getElem_mem hk, h⟩
def AftW (W : World) (low : List UInt8) (front : ByteArray) (ends : List ByteArray) (ws : List (List UInt8)) (i : Value) (wr : World) : Prop := ∃ k : Nat, i = .int .i64 k ∧ k ≤ ws.length ∧ aftB low front ends (ws.take k) = false ∧ wr = W
theorem trimPrefix_len (l p : List UInt8) : (Lib.trimPrefix l p).length ≤ l.length := by
 unfold Lib.trimPrefix;split
 ·rw [List.length_drop]; omega
 ·exact Nat.le_refl _
theorem after_any (s front words : ByteArray) (g : Nat) (ends : List ByteArray) (w : World) (hs : s.size ≤ 1099511627) (hf : front.size ≤ 100) (hw : words.size ≤ 100000) (hascii : ∀ (j : Nat) b, words.data.toList[j]? = some b -> b.toNat < 128)
  (hws : ∀ x ∈ Lib.fields words.data.toList, x.length ≤ 100) (hwn : (Lib.fields words.data.toList).length ≤ 100000) (hb : Box w g 9 (ends.map Value.string).toArray) (hx : ∀ x ∈ ends, x.size ≤ 100) (hn : ends.length ≤ 100) (ht : SpTab w) :
  Calls Tryz.prog 137 #[.string s, .string front, .string words, .slice (some ⟨g, 0, none⟩) ends.length ends.length] w (RBw w (aftB (lowerL s.data.toList) front ends (Lib.fields words.data.toList))) := by
 have hL := lower_any s w (by omega);have hll : (lowerL s.data.toList).length ≤ s.size := by unfold lowerL; rw [List.length_map]; exact Nat.le_of_eq lTq
 obtain ⟨L, hLe⟩ : ∃ L : ByteArray, (⟨(lowerL s.data.toList).toArray⟩ : ByteArray) = L := ⟨_, rfl⟩;have hLd : lowerL s.data.toList = L.data.toList := by rw [<- hLe]
 have hLs : L.size ≤ s.size := by rw [<- hLe]; exact hll
 unfold StrR at hL;rw [hLe] at hL;rw [hLd];have hF := fun w' (h : SpTab w') => Tryz.strings_Fields words w' (by omega) hascii h;obtain ⟨ws, hwse⟩ : ∃ ws, Lib.fields words.data.toList = ws := ⟨_, rfl⟩;rw [hwse] at hF hws hwn ⊢;have HF := hdn hF;have HL := hdn hL;have HWS := hdn hws;have HT := hdn ht;have HB := hdn hb;clear hLe hLd hll hL hF hws ht hb hwse hascii;have HCL := hdn fun (X : ByteArray) w' (hX : X.size ≤ 1099511627) (hbx : Box w' g 9 (ends.map Value.string).toArray) => closed_any X 0 g ends w' hX (Nat.zero_le _) hbx hx hn;clear hx hn
 go_enter Tryz.func137, Tryz.ntmps137;go_wp2_with fail;refine cMq HL.out ?_;rintro e w1 ⟨rfl, b1⟩;have HB1 := hdn b1;clear b1;go_wp2_with fail;refine cMq (HF.out _ (HT.out.later HB1.out)) ?_;rintro e w2 ⟨rfl, hw2⟩;have bw : Below w.heap.size w w2 := by rw [hw2]; exact HB1.out.alloc HB1.out.size _
 have hbw : Box w2 w1.heap.size 9 (ws.map fun l => Value.string ⟨l.toArray⟩).toArray := by rw [hw2]; exact Box.new w1 _ _
 have hbe : Box w2 g 9 (ends.map Value.string).toArray := HB.out.below bw HB.out.lt;have HBW := hdn bw;have HBX := hdn hbw;have HBE := hdn hbe;clear hw2 bw hbw hbe;go_wp2_with fail
 go_loopw [19] (fun v wr => AftW w2 L.data.toList front ends ws v wr) (fun v _ => ws.length - (intOf v).toNat)
 case atStart => exact ⟨0, rfl, Nat.zero_le _, rfl, rfl⟩
 case round =>
  obtain ⟨k, rfl, hk, hu, rfl⟩ := hrel;have HU := hdn hu;clear hu
  by_cases hlt : k < ws.length
  ·have hki : (k : Int) < (ws.length : Int) := by omega
   have x1 := box_lie HBX.out k (.string ⟨ws[k].toArray⟩) (by simp);have x2 := HBX.out.cell k;rw [show (ws.map fun l => Value.string ⟨l.toArray⟩).toArray[k]? = some (.string ⟨ws[k].toArray⟩) by simp] at x2;have hsz := HWS.out _ (List.getElem_mem hlt);have ht1 := aft_take L.data.toList front ends ws k hlt;rw [HU.out, Bool.false_or] at ht1;have HYes := hdn (aft_yes L.data.toList front ends ws k hlt);obtain ⟨p, hp⟩ : ∃ p : ByteArray, p = ⟨ws[k].toArray⟩ := ⟨_, rfl⟩;have hpd : p.data.toList = ws[k] := by rw [hp]
   have hps : p.size ≤ 100 := by rw [hp]; exact hsz
   rw [<- hp] at x1 x2;rw [<- hpd] at ht1 HYes;clear hp hpd hsz;have hov : ¬ (9223372036854775807 < front.size + p.size) := by omega
   have HC := hdn (fun w' => Tryz.strings_CutPrefix L (front ++ p) w');have hfp : (front ++ p).data.toList = front.data.toList ++ p.data.toList := by rw [ByteArray.data_append, Array.toList_append]
   rw [hfp] at HC;obtain ⟨R, hR⟩ : ∃ R : ByteArray, (⟨(Lib.trimPrefix L.data.toList (front.data.toList ++ p.data.toList)).toArray⟩ : ByteArray) = R := ⟨_, rfl⟩;have hRd : Lib.trimPrefix L.data.toList (front.data.toList ++ p.data.toList) = R.data.toList := by rw [<- hR]
   have hRs : R.size ≤ L.size := by rw [<- hR]; have := trimPrefix_len L.data.toList (front.data.toList ++ p.data.toList); rw [show L.data.toList.length = L.size from lTq] at this; exact this
   rw [hR] at HC;have hw0 : aftW L.data.toList front ends p.data.toList = (Lib.hasPrefix L.data.toList (front.data.toList ++ p.data.toList) && (apartB R.data.toList || decide (0 < closedN R.data.toList 0 ends))) := by
    unfold aftW;rw [hRd]
   rw [hw0] at ht1 HYes;have HA := hdn fun w' => apart_any R w';have HCX := hdn (HCL.out R wr (by omega) HBE.out);have HT1 := hdn ht1;clear hR hRd hfp hw0 ht1
   cases hh : Lib.hasPrefix L.data.toList (front.data.toList ++ p.data.toList) with
   | false =>
    rw [hh] at HC HT1;clear hh HYes;go_wp2_with fail;refine cMq (HC.out _) ?_;rintro e w4 ⟨rfl, rfl⟩;go_wp2
    go_roundw
    case rel => exact ⟨k + 1, by go_num, hlt, HT1.out, rfl⟩
    case measure => simp [intOf]; omega
   | true =>
    rw [hh] at HC HT1 HYes;clear hh
    cases ha : apartB R.data.toList with
    | true =>
     rw [ha] at HA HYes;have HY2 := hdn (HYes.out rfl);clear ha;go_wp2_with fail;refine cMq (HC.out _) ?_;rintro e w4 ⟨rfl, rfl⟩;go_wp2_with fail;refine cMq (HA.out _) ?_;rintro e w4 ⟨rfl, rfl⟩;go_wp2;go_ret;rw [HY2.out];exact ⟨rfl, HBW.out⟩
    | false =>
     rw [ha] at HA HYes HT1;clear ha;obtain ⟨c, hc⟩ : ∃ c, closedN R.data.toList 0 ends = c := ⟨_, rfl⟩;rw [hc] at HCX HYes HT1;clear hc
     by_cases hc0 : 0 < c
     ·have z0 : (0 : Int) < (c : Int) := by omega
      have HY2 := hdn (HYes.out (by simpa using hc0));clear HYes;go_wp2_with fail;refine cMq (HC.out _) ?_;rintro e w4 ⟨rfl, rfl⟩;go_wp2_with fail;refine cMq (HA.out _) ?_;rintro e w4 ⟨rfl, rfl⟩;go_wp2_with fail;refine cMq HCX.out ?_;rintro e w4 ⟨rfl, rfl⟩;go_wp2;go_ret;rw [HY2.out];exact ⟨rfl, HBW.out⟩
     ·have z0 : ¬ (0 : Int) < (c : Int) := by omega
      rw [show decide (0 < c) = false by simpa using hc0] at HT1;clear HYes;go_wp2_with fail;refine cMq (HC.out _) ?_;rintro e w4 ⟨rfl, rfl⟩;go_wp2_with fail;refine cMq (HA.out _) ?_;rintro e w4 ⟨rfl, rfl⟩;go_wp2_with fail;refine cMq HCX.out ?_;rintro e w4 ⟨rfl, rfl⟩;go_wp2
      go_roundw
      case rel => exact ⟨k + 1, by go_num, hlt, HT1.out, rfl⟩
      case measure => simp [intOf]; omega
  ·obtain rfl : k = ws.length := by omega
   have hv : aftB L.data.toList front ends ws = false := by have := HU.out; rw [List.take_length] at this; exact this
   have HV := hdn hv;clear hv HU;go_wp2;go_ret;rw [HV.out];exact ⟨rfl, HBW.out⟩
end
section
open Go.RowKit
def rawsT : ByteArray := ⟨#[115, 99, 114, 105, 112, 116, 32, 112, 114, 101, 32, 116, 101, 120, 116, 97, 114, 101, 97, 32, 115, 116, 121, 108, 101]⟩
def blocksT : ByteArray := ⟨#[97, 100, 100, 114, 101, 115, 115, 32, 97, 114, 116, 105, 99, 108, 101, 32, 97, 115, 105, 100, 101, 32, 98, 97, 115, 101, 32, 98, 97, 115, 101, 102, 111, 110, 116, 32, 98, 108, 111, 99, 107, 113, 117, 111, 116, 101, 32, 98, 111, 100, 121, 32, 99, 97, 112, 116, 105, 111, 110, 32, 99, 101, 110, 116, 101, 114, 32, 99, 111, 108, 32, 99, 111, 108, 103, 114, 111, 117, 112, 32, 100, 100, 32, 100, 101, 116, 97, 105, 108, 115, 32, 100, 105, 97, 108, 111, 103, 32, 100, 105, 114, 32, 100, 105, 118, 32, 100, 108, 32, 100, 116, 32, 102, 105, 101, 108, 100, 115, 101, 116, 32, 102, 105, 103, 99, 97, 112, 116, 105, 111, 110, 32, 102, 105, 103, 117, 114, 101, 32, 102, 111, 111, 116, 101, 114, 32, 102, 111, 114, 109, 32, 102, 114, 97, 109, 101, 32, 102, 114, 97, 109, 101, 115, 101, 116, 32, 104, 49, 32, 104, 50, 32, 104, 51, 32, 104, 52, 32, 104, 53, 32, 104, 54, 32, 104, 101, 97, 100, 32, 104, 101, 97, 100, 101, 114, 32, 104, 114, 32, 104, 116, 109, 108, 32, 105, 102, 114, 97, 109, 101, 32, 108, 101, 103, 101, 110, 100, 32, 108, 105, 32, 108, 105, 110, 107, 32, 109, 97, 105, 110, 32, 109, 101, 110, 117, 32, 109, 101, 110, 117, 105, 116, 101, 109, 32, 110, 97, 118, 32, 110, 111, 102, 114, 97, 109, 101, 115, 32, 111, 108, 32, 111, 112, 116, 103, 114, 111, 117, 112, 32, 111, 112, 116, 105, 111, 110, 32, 112, 32, 112, 97, 114, 97, 109, 32, 115, 101, 97, 114, 99, 104, 32, 115, 101, 99, 116, 105, 111, 110, 32, 115, 117, 109, 109, 97, 114, 121, 32, 116, 97, 98, 108, 101, 32, 116, 98, 111, 100, 121, 32, 116, 100, 32, 116, 102, 111, 111, 116, 32, 116, 104, 32, 116, 104, 101, 97, 100, 32, 116, 105, 116, 108, 101, 32, 116, 114, 32, 116, 114, 97, 99, 107, 32, 117, 108]⟩
theorem all_ascii {l : List UInt8} (h : l.all (fun b => decide (b.toNat < 128)) = true) : ∀ (j : Nat) b, l[j]? = some b -> b.toNat < 128 := ascii_of_all h
theorem raws_ascii : rawsT.data.toList.all (fun b => decide (b.toNat < 128)) = true := by decide +kernel
theorem blocks_ascii : blocksT.data.toList.all (fun b => decide (b.toNat < 128)) = true := by decide +kernel
theorem raws_small : (Lib.fields rawsT.data.toList).all (fun x => decide (x.length ≤ 100)) = true := by decide +kernel
theorem blocks_small : (Lib.fields blocksT.data.toList).all (fun x => decide (x.length ≤ 100)) = true := by decide +kernel
theorem raws_n : (Lib.fields rawsT.data.toList).length = 4 := by decide +kernel
theorem blocks_n : (Lib.fields blocksT.data.toList).length ≤ 100000 := by decide +kernel
theorem small_all {l : List (List UInt8)} (h : l.all (fun x => decide (x.length ≤ 100)) = true) : ∀ x ∈ l, x.length ≤ 100 := fun x hx => by simpa using List.all_eq_true.1 h x hx
def afterR (l : List UInt8) : Bool := aftB (lowerL l) ⟨#[60]⟩ [⟨#[62]⟩] (Lib.fields rawsT.data.toList)
def afterO (l : List UInt8) : Bool := aftB (lowerL l) ⟨#[60]⟩ [⟨#[62]⟩, ⟨#[47, 62]⟩] (Lib.fields blocksT.data.toList)
def afterS (l : List UInt8) : Bool := aftB (lowerL l) ⟨#[60, 47]⟩ [⟨#[62]⟩, ⟨#[47, 62]⟩] (Lib.fields blocksT.data.toList)
theorem after_r (s : ByteArray) (g : Nat) (w : World) (hs : s.size ≤ 1099511627) (hb : Box w g 9 ([⟨#[62]⟩].map Value.string).toArray) (ht : SpTab w) : Calls Tryz.prog 137 #[.string s, .string ⟨#[60]⟩, .string rawsT, .slice (some ⟨g, 0, none⟩) 1 1] w (RBw w (afterR s.data.toList)) :=
 after_any s ⟨#[60]⟩ rawsT g [⟨#[62]⟩] w hs (by decide) (by decide +kernel) (all_ascii raws_ascii) (small_all raws_small) (by rw [raws_n]; decide) hb (by decide) (by decide) ht
theorem after_o (s : ByteArray) (g : Nat) (w : World) (hs : s.size ≤ 1099511627) (hb : Box w g 9 ([⟨#[62]⟩, ⟨#[47, 62]⟩].map Value.string).toArray) (ht : SpTab w) : Calls Tryz.prog 137 #[.string s, .string ⟨#[60]⟩, .string blocksT, .slice (some ⟨g, 0, none⟩) 2 2] w (RBw w (afterO s.data.toList)) :=
 after_any s ⟨#[60]⟩ blocksT g [⟨#[62]⟩, ⟨#[47, 62]⟩] w hs (by decide) (by decide +kernel) (all_ascii blocks_ascii) (small_all blocks_small) blocks_n hb (by decide) (by decide) ht
theorem after_s (s : ByteArray) (g : Nat) (w : World) (hs : s.size ≤ 1099511627) (hb : Box w g 9 ([⟨#[62]⟩, ⟨#[47, 62]⟩].map Value.string).toArray) (ht : SpTab w) : Calls Tryz.prog 137 #[.string s, .string ⟨#[60, 47]⟩, .string blocksT, .slice (some ⟨g, 0, none⟩) 2 2] w (RBw w (afterS s.data.toList)) :=
 after_any s ⟨#[60, 47]⟩ blocksT g [⟨#[62]⟩, ⟨#[47, 62]⟩] w hs (by decide) (by decide +kernel) (all_ascii blocks_ascii) (small_all blocks_small) blocks_n hb (by decide) (by decide) ht
def declB (l : List UInt8) : Bool := decide (2 < l.length) && (l.take 2 == [60, 33]) && (match l[2]? with | some b => letter b | none => false)
def blankB (l : List UInt8) : Bool := decide (0 < tagN l) && (blankT (l.drop (tagN l))).isEmpty
def htmlN (l : List UInt8) : Nat :=
 if afterR l = true then 1 else if Lib.hasPrefix l [60, 33, 45, 45] = true then 2 else if Lib.hasPrefix l [60, 63] = true then 3 else if declB l = true then 4 else
 if Lib.hasPrefix l [60, 33, 91, 67, 68, 65, 84, 65, 91] = true then 5 else if afterO l = true then 6 else if afterS l = true then 6 else if blankB l = true then 7 else 0
theorem html_any (s : ByteArray) (w : World) (hs : s.size ≤ 1099511627) (ht : SpTab w) : Calls Tryz.prog 90 #[.string s] w (RIb w (htmlN s.data.toList : Nat)) := by
 have HR := hdn fun g w' h1 h2 => after_r s g w' hs h1 h2;have HO := hdn fun g w' h1 h2 => after_o s g w' hs h1 h2;have HS := hdn fun g w' h1 h2 => after_s s g w' hs h1 h2;have HTg := hdn fun w' => tag_any s w' hs;have HP2 := hdn fun w' => Tryz.strings_HasPrefix s ⟨#[60, 33, 45, 45]⟩ w';have HP3 := hdn fun w' => Tryz.strings_HasPrefix s ⟨#[60, 63]⟩ w';have HP5 := hdn fun w' => Tryz.strings_HasPrefix s ⟨#[60, 33, 91, 67, 68, 65, 84, 65, 91]⟩ w';rw [show (⟨#[60, 33, 45, 45]⟩ : ByteArray).data.toList = [60, 33, 45, 45] from rfl] at HP2
 rw [show (⟨#[60, 63]⟩ : ByteArray).data.toList = [60, 63] from rfl] at HP3;rw [show (⟨#[60, 33, 91, 67, 68, 65, 84, 65, 91]⟩ : ByteArray).data.toList = [60, 33, 91, 67, 68, 65, 84, 65, 91] from rfl] at HP5;have HT := hdn ht;clear ht;obtain ⟨K, hK⟩ : ∃ K, htmlN s.data.toList = K := ⟨_, rfl⟩;rw [hK];have HK := hdn hK;clear hK;obtain ⟨C, hC⟩ : ∃ C, declB s.data.toList = C := ⟨_, rfl⟩;have HC := hdn hC;clear hC;go_enter Tryz.func90, Tryz.ntmps90;go_wp2_with fail;refine cMq (HTg.out _) ?_;rintro e w1 ⟨rfl, b1⟩;have HB1 := hdn b1;clear b1;go_wp2_with fail
 refine cMq (HR.out _ _ (Box.new w1 _ _) (HT.out.later (HB1.out.alloc HB1.out.size _))) ?_;rintro e w2 ⟨rfl, b2⟩;have b2 := (HB1.out.alloc HB1.out.size _).trans (b2.mono (by simp; exact Nat.le_succ_of_le HB1.out.size));have HB2 := hdn b2;clear b2 HB1
 cases h1 : afterR s.data.toList with
 | true =>
  have HV := hdn (show K = 1 by rw [<- HK.out]; unfold htmlN; rw [if_pos h1]);clear h1;go_wp2;go_ret;rw [HV.out];exact ⟨rfl, HB2.out⟩
 | false =>
  have HN1 := hdn h1;clear h1;go_wp2_with fail;refine cMq (HP2.out _) ?_;rintro e w3 ⟨rfl, rfl⟩
  cases h2 : Lib.hasPrefix s.data.toList [60, 33, 45, 45] with
  | true =>
   have HV := hdn (show K = 2 by rw [<- HK.out]; unfold htmlN; rw [if_neg (by rw [HN1.out]; simp), if_pos h2]);clear h2;go_wp2;go_ret;rw [HV.out];exact ⟨rfl, HB2.out⟩
  | false =>
   have HN2 := hdn h2;clear h2;go_wp2_with fail;refine cMq (HP3.out _) ?_;rintro e w3 ⟨rfl, rfl⟩
   cases h3 : Lib.hasPrefix s.data.toList [60, 63] with
   | true =>
    have HV := hdn (show K = 3 by rw [<- HK.out]; unfold htmlN; rw [if_neg (by rw [HN1.out]; simp), if_neg (by rw [HN2.out]; simp), if_pos h3]);clear h3;go_wp2;go_ret;rw [HV.out];exact ⟨rfl, HB2.out⟩
   | false =>
    have HN3 := hdn h3;clear h3
    go_upto_region 8 with fail
    go_cut [16] (fun s16 wx => s16 = .bool C ∧ wx = w3)
    case first =>
     by_cases hl2 : 2 < s.size
     ·have z2 : (2 : Int) < (s.size : Int) := by omega
      obtain ⟨x, hx⟩ : ∃ x, s[2] = x := ⟨_, rfl⟩;have hg2 : s.data.toList[2]? = some x := by rw [<- hx]; exact get_list s 2 hl2
      have hX : (s.extract 0 2).toList = s.data.toList.take 2 := by rw [Lib.toList_data, Lib.extract_data]; simp
      have hd : C = ((s.data.toList.take 2 == [60, 33]) && letter x) := by
       rw [<- HC.out];unfold declB;rw [hg2, show s.data.toList.length = s.size from lTq, show decide (2 < s.size) = true by simpa using hl2, Bool.true_and]
      rw [<- hX] at hd;have HX := hdn hx;clear hx hg2 hX
      by_cases he : (s.extract 0 2).toList = [60, 33]
      ·have he2 : ((s.extract 0 2).toList == [60, 33]) = true := by rw [he]; rfl
       rw [he] at hd;have hd2 : C = letter x := by rw [hd]; rfl
       have HL := hdn fun w' => letter_any x w';obtain ⟨b, hb⟩ : ∃ b, letter x = b := ⟨_, rfl⟩;rw [hb] at hd2 HL;clear hd hb
       cases b with
       | true =>
        subst hd2;go_wp2_with fail;rw [HX.out];refine cMq (HL.out _) ?_;rintro e w' ⟨rfl, rfl⟩;go_wp2_with fail
        go_meet
        exact ⟨rfl, rfl⟩
       | false =>
        subst hd2;go_wp2_with fail;rw [HX.out];refine cMq (HL.out _) ?_;rintro e w' ⟨rfl, rfl⟩;go_wp2_with fail
        go_meet
        exact ⟨rfl, rfl⟩
      ·have he2 : ((s.extract 0 2).toList == [60, 33]) = false := by simpa using he
       have hd2 : C = false := by rw [hd, he2]; rfl
       subst hd2;clear hd;go_wp2_with fail
       go_meet
       exact ⟨rfl, rfl⟩
     ·have z2 : ¬ (2 : Int) < (s.size : Int) := by omega
      have hd : C = false := by
       rw [<- HC.out];unfold declB;rw [show s.data.toList.length = s.size from lTq, show decide (2 < s.size) = false by simpa using hl2];rfl
      subst hd;go_wp2_with fail
      go_meet
      exact ⟨rfl, rfl⟩
    case rest =>
     obtain ⟨rfl, rfl⟩ := hcut
     cases h4 : C with
     | true =>
      have HV := hdn (show K = 4 by rw [<- HK.out]; unfold htmlN; rw [if_neg (by rw [HN1.out]; simp), if_neg (by rw [HN2.out]; simp), if_neg (by rw [HN3.out]; simp), if_pos (HC.out.trans h4)]);clear h4;go_wp2;go_ret;rw [HV.out];exact ⟨rfl, HB2.out⟩
     | false =>
      have HN4 := hdn (HC.out.trans h4);clear h4;go_wp2_with fail;refine cMq (HP5.out _) ?_;rintro e w4 ⟨rfl, rfl⟩
      cases h5 : Lib.hasPrefix s.data.toList [60, 33, 91, 67, 68, 65, 84, 65, 91] with
      | true =>
       have HV := hdn (show K = 5 by rw [<- HK.out]; unfold htmlN; rw [if_neg (by rw [HN1.out]; simp), if_neg (by rw [HN2.out]; simp), if_neg (by rw [HN3.out]; simp), if_neg (by rw [HN4.out]; simp), if_pos h5]);clear h5;go_wp2;go_ret;rw [HV.out];exact ⟨rfl, HB2.out⟩
      | false =>
       have HN5 := hdn h5;clear h5;go_wp2_with fail;refine cMq (HO.out _ _ (Box.new _ _ _) (HT.out.later (HB2.out.alloc HB2.out.size _))) ?_;rintro e w5 ⟨rfl, b5⟩;have b5 := (HB2.out.alloc HB2.out.size _).trans (b5.mono (by simp; exact Nat.le_succ_of_le HB2.out.size));have HB5 := hdn b5;clear b5
       cases h6 : afterO s.data.toList with
       | true =>
        have HV := hdn (show K = 6 by rw [<- HK.out]; unfold htmlN; rw [if_neg (by rw [HN1.out]; simp), if_neg (by rw [HN2.out]; simp), if_neg (by rw [HN3.out]; simp), if_neg (by rw [HN4.out]; simp), if_neg (by rw [HN5.out]; simp), if_pos h6]);clear h6;go_wp2;go_ret;rw [HV.out];exact ⟨rfl, HB5.out⟩
       | false =>
        have HN6 := hdn h6;clear h6;go_wp2_with fail;refine cMq (HS.out _ _ (Box.new _ _ _) (HT.out.later (HB5.out.alloc HB5.out.size _))) ?_;rintro e w6 ⟨rfl, b6⟩;have b6 := (HB5.out.alloc HB5.out.size _).trans (b6.mono (by simp; exact Nat.le_succ_of_le HB5.out.size));have HB6 := hdn b6;clear b6
        cases h7 : afterS s.data.toList with
        | true =>
         have HV := hdn (show K = 6 by rw [<- HK.out]; unfold htmlN; rw [if_neg (by rw [HN1.out]; simp), if_neg (by rw [HN2.out]; simp), if_neg (by rw [HN3.out]; simp), if_neg (by rw [HN4.out]; simp), if_neg (by rw [HN5.out]; simp), if_neg (by rw [HN6.out]; simp), if_pos h7]);clear h7;go_wp2;go_ret;rw [HV.out];exact ⟨rfl, HB6.out⟩
        | false =>
         have hv : K = if blankB s.data.toList = true then 7 else 0 := by rw [<- HK.out]; unfold htmlN; rw [if_neg (by rw [HN1.out]; simp), if_neg (by rw [HN2.out]; simp), if_neg (by rw [HN3.out]; simp), if_neg (by rw [HN4.out]; simp), if_neg (by rw [HN5.out]; simp), if_neg (by rw [HN6.out]; simp), if_neg (by rw [h7]; simp)]
         have htn := tagN_le s.data.toList;rw [show s.data.toList.length = s.size from lTq] at htn;have HBK := hdn fun w' => show Calls Tryz.prog 76 #[.string (s.extract (tagN s.data.toList) s.size)] w' (RBw w' (blankT (s.data.toList.drop (tagN s.data.toList))).isEmpty) by
          rw [<- ext_drop s];refine colsBlank_any _ w' ?_;have h1 := congrArg List.length (ext_drop s (tagN s.data.toList));rw [lTq, List.length_drop, show s.data.toList.length = s.size from lTq] at h1;have h2 : (s.extract (tagN s.data.toList) s.size).size = _ := h1;omega
         have hbb : blankB s.data.toList = (decide (0 < tagN s.data.toList) && (blankT (s.data.toList.drop (tagN s.data.toList))).isEmpty) := rfl;rw [hbb] at hv;obtain ⟨n, hn⟩ : ∃ n, tagN s.data.toList = n := ⟨_, rfl⟩;rw [hn] at hv HBK htn ⊢;have hki : (n : Int) ≤ (s.size : Int) := by omega
         clear h7 hbb hn
         by_cases h0 : 0 < n
         ·have z0 : (0 : Int) < (n : Int) := by omega
          rw [show decide (0 < n) = true by simpa using h0, Bool.true_and] at hv;have HV := hdn hv;clear hv;go_wp2_with fail;refine cMq (HBK.out _) ?_;rintro e w7 ⟨rfl, b7⟩;have b7 := HB6.out.trans (b7.mono HB6.out.size)
          cases h8 : (blankT (s.data.toList.drop n)).isEmpty with
          | true =>
           have HV2 := hdn (show K = 7 by rw [HV.out, if_pos h8]);clear h8;go_wp2;go_ret;rw [HV2.out];exact ⟨rfl, b7⟩
          | false =>
           have HV2 := hdn (show K = 0 by rw [HV.out, if_neg (by rw [h8]; simp)]);clear h8;go_wp2;go_ret;rw [HV2.out];exact ⟨rfl, b7⟩
         ·have z0 : ¬ (0 : Int) < (n : Int) := by omega
          rw [show decide (0 < n) = false by simpa using h0, Bool.false_and, if_neg (by simp)] at hv;have HV := hdn hv;clear hv;go_wp2;go_ret;rw [HV.out];exact ⟨rfl, HB6.out⟩
end
section
open Go.RowKit
def endT (l : List UInt8) : List UInt8 := Lib.trimRightS l [32, 9]
def headTxt (t : List UInt8) : List UInt8 := if Lib.trimRightB t 35 = [] ∨ endT (Lib.trimRightB t 35) ≠ Lib.trimRightB t 35 then endT (Lib.trimRightB t 35) else t
def headIs (l : List UInt8) : Bool := decide (1 ≤ frontN l 35) && decide (frontN l 35 ≤ 6) && apartB (l.drop (frontN l 35))
def headLev (l : List UInt8) : Nat := if headIs l = true then frontN l 35 else 0
def headText (l : List UInt8) : List UInt8 := if headIs l = true then headTxt (blankT (l.drop (frontN l 35))) else []
def HeadR (w : World) (n : Nat) (t : List UInt8) (e : Ending) (w' : World) : Prop := e = .returned (.tuple #[.int .i64 (n : Int), .string ⟨t.toArray⟩]) ∧ Below w.heap.size w w'
theorem right_set (s : ByteArray) (w : World) (hs : s.size ≤ 1099511627) : Calls Tryz.prog 130 #[.string s, .string ⟨#[32, 9]⟩] w (StrB w (endT s.data.toList)) :=
 Any.strings_TrimRight_laid Tryz.lays162 (by kernel_rfl) s ⟨#[32, 9]⟩ w (by omega) (by decide) (ascii_of_all (by decide))
theorem trimRB_len (l : List UInt8) (c : UInt8) : (Lib.trimRightB l c).length ≤ l.length := by
 unfold Lib.trimRightB;have h1 := (List.dropWhile_sublist (l := l.reverse) (· == c)).length_le;rw [List.length_reverse] at h1 ⊢;exact h1
theorem head_any (s : ByteArray) (w : World) (hs : s.size ≤ 1099511627) : Calls Tryz.prog 87 #[.string s] w (HeadR w (headLev s.data.toList) (headText s.data.toList)) := by
 have hsl : s.data.toList.length = s.size := lTq;have hnle := frontN_le s.data.toList 35;rw [hsl] at hnle;have hF := front_any s 35 w hs (by decide);obtain ⟨X, hX⟩ : ∃ X : ByteArray, s.extract (frontN s.data.toList 35) s.size = X := ⟨_, rfl⟩;have hXl : X.data.toList = s.data.toList.drop (frontN s.data.toList 35) := by
  rw [<- hX, Lib.extract_data, <- hsl];exact List.take_of_length_le (by rw [List.length_drop]; omega)
 have hXs : X.size ≤ s.size := by
  have := congrArg List.length hXl;rw [lTq, List.length_drop] at this;have : X.size = _ := this;omega
 have hv1 : headLev s.data.toList = if (decide (1 ≤ frontN s.data.toList 35) && decide (frontN s.data.toList 35 ≤ 6) && apartB X.data.toList) = true then frontN s.data.toList 35 else 0 := by rw [hXl]; rfl
 have hv2 : headText s.data.toList = if (decide (1 ≤ frontN s.data.toList 35) && decide (frontN s.data.toList 35 ≤ 6) && apartB X.data.toList) = true then headTxt (blankT X.data.toList) else [] := by rw [hXl]; rfl
 rw [hv1, hv2];clear hv1 hv2 hXl;obtain ⟨n, hn⟩ : ∃ n, frontN s.data.toList 35 = n := ⟨_, rfl⟩;rw [hn] at hF hX hnle ⊢;have hki : (n : Int) ≤ (s.size : Int) := by omega
 have HF := hdn hF;have HX := hdn hX;clear hF hX hn hsl
 by_cases h1 : 1 ≤ n
 ·have y1 : ¬ (n : Int) < 1 := by omega
  by_cases h6 : n ≤ 6
  ·have y6 : ¬ (6 : Int) < (n : Int) := by omega
   rw [show decide (1 ≤ n) = true by simpa using h1, show decide (n ≤ 6) = true by simpa using h6, Bool.true_and, Bool.true_and];have HA := hdn fun w' => apart_any X w'
   cases ha : apartB X.data.toList with
   | false =>
    rw [ha] at HA;rw [if_neg (by simp), if_neg (by simp)];clear ha;go_enter Tryz.func87, Tryz.ntmps87;go_wp2_with fail;refine cMq HF.out ?_;rintro e w1 ⟨rfl, rfl⟩;go_wp2_with fail;rw [HX.out];refine cMq (HA.out _) ?_;rintro e w1 ⟨rfl, rfl⟩;go_wp2
    go_ret2
    exact ⟨rfl, Below.refl _ _⟩
   | true =>
    rw [ha] at HA;rw [if_pos rfl, if_pos rfl];clear ha;have hT := fun w' => colsTrim_any X w' (by omega);have hTl := trimS_len X.data.toList [32, 9];rw [show X.data.toList.length = X.size from lTq] at hTl;obtain ⟨T, hT0⟩ : ∃ T : ByteArray, (⟨(blankT X.data.toList).toArray⟩ : ByteArray) = T := ⟨_, rfl⟩;have hTd : blankT X.data.toList = T.data.toList := by rw [<- hT0]
    have hTs : T.size ≤ X.size := by rw [<- hT0]; exact hTl
    unfold StrB at hT;rw [hT0] at hT;rw [hTd];clear hT0 hTl hTd;have hB := fun w' => Tryz.strings_TrimRight_one T 35 (by decide) w' (by omega);have hBl := trimRB_len T.data.toList 35;rw [show T.data.toList.length = T.size from lTq] at hBl;obtain ⟨B, hB0⟩ : ∃ B : ByteArray, (⟨(Lib.trimRightB T.data.toList 35).toArray⟩ : ByteArray) = B := ⟨_, rfl⟩;have hBd : Lib.trimRightB T.data.toList 35 = B.data.toList := by rw [<- hB0]
    have hBs : B.size ≤ T.size := by rw [<- hB0]; exact hBl
    rw [hB0] at hB;have hE := fun w' => right_set B w' (by omega);obtain ⟨E, hE0⟩ : ∃ E : ByteArray, (⟨(endT B.data.toList).toArray⟩ : ByteArray) = E := ⟨_, rfl⟩;have hEd : endT B.data.toList = E.data.toList := by rw [<- hE0]
    unfold StrB at hE;rw [hE0] at hE;have hv : headTxt T.data.toList = if B.data.toList = [] ∨ E.data.toList ≠ B.data.toList then E.data.toList else T.data.toList := by
     unfold headTxt;rw [hBd, hEd]
    rw [hv];clear hv hEd hE0 hB0 hBd hBl;have HT := hdn hT;have HB := hdn hB;have HE := hdn hE;clear hT hB hE
    by_cases hb : B.data.toList = []
    ·rw [if_pos (.inl hb)];have t1 : B.toList = [] := by rw [Lib.toList_data]; exact hb
     have t2 : B.toList.isEmpty = true := by rw [t1]; rfl
     clear hb;go_enter Tryz.func87, Tryz.ntmps87;go_wp2_with fail;refine cMq HF.out ?_;rintro e w1 ⟨rfl, rfl⟩;go_wp2_with fail;rw [HX.out];refine cMq (HA.out _) ?_;rintro e w1 ⟨rfl, rfl⟩;go_wp2_with fail;rw [HX.out];refine cMq (HT.out _) ?_;rintro e w2 ⟨rfl, b2⟩;go_wp2_with fail;refine cMq (HB.out _) ?_;rintro e w3 ⟨rfl, rfl⟩;go_wp2_with fail;refine cMq (HE.out _) ?_;rintro e w4 ⟨rfl, b4⟩;have b4 := b2.trans (b4.mono b2.size);go_wp2
     go_ret2
     exact ⟨by rfl, b4⟩
    ·have t1 : ¬ B.toList = [] := by rw [Lib.toList_data]; exact hb
     have t2 : B.toList.isEmpty = false := by cases hq : B.toList with | nil => exact absurd hq t1 | cons _ _ => rfl
     by_cases he : E.data.toList = B.data.toList
     ·rw [if_neg (by rintro (h | h); exact hb h; exact h he)];have t3 : E.toList = B.toList := by rw [Lib.toList_data, Lib.toList_data]; exact he
      clear hb he;go_enter Tryz.func87, Tryz.ntmps87;go_wp2_with fail;refine cMq HF.out ?_;rintro e w1 ⟨rfl, rfl⟩;go_wp2_with fail;rw [HX.out];refine cMq (HA.out _) ?_;rintro e w1 ⟨rfl, rfl⟩;go_wp2_with fail;rw [HX.out];refine cMq (HT.out _) ?_;rintro e w2 ⟨rfl, b2⟩;go_wp2_with fail;refine cMq (HB.out _) ?_;rintro e w3 ⟨rfl, rfl⟩;go_wp2_with fail;refine cMq (HE.out _) ?_;rintro e w4 ⟨rfl, b4⟩;have b4 := b2.trans (b4.mono b2.size);go_wp2
      go_ret2
      exact ⟨by rfl, b4⟩
     ·rw [if_pos (.inr he)];have t3 : ¬ E.toList = B.toList := by rw [Lib.toList_data, Lib.toList_data]; exact he
      have t4 : (E.toList == B.toList) = false := by simpa using t3
      clear hb he;go_enter Tryz.func87, Tryz.ntmps87;go_wp2_with fail;refine cMq HF.out ?_;rintro e w1 ⟨rfl, rfl⟩;go_wp2_with fail;rw [HX.out];refine cMq (HA.out _) ?_;rintro e w1 ⟨rfl, rfl⟩;go_wp2_with fail;rw [HX.out];refine cMq (HT.out _) ?_;rintro e w2 ⟨rfl, b2⟩;go_wp2_with fail;refine cMq (HB.out _) ?_;rintro e w3 ⟨rfl, rfl⟩;go_wp2_with fail;refine cMq (HE.out _) ?_;rintro e w4 ⟨rfl, b4⟩;have b4 := b2.trans (b4.mono b2.size);go_wp2
      go_ret2
      exact ⟨by rfl, b4⟩
  ·have y6 : (6 : Int) < (n : Int) := by omega
   rw [show decide (n ≤ 6) = false by simpa using h6, Bool.and_false, Bool.false_and, if_neg (by simp), if_neg (by simp)];go_enter Tryz.func87, Tryz.ntmps87;go_wp2_with fail;refine cMq HF.out ?_;rintro e w1 ⟨rfl, rfl⟩;go_wp2
   go_ret2
   exact ⟨rfl, Below.refl _ _⟩
 ·have y1 : (n : Int) < 1 := by omega
  rw [show decide (1 ≤ n) = false by simpa using h1, Bool.false_and, Bool.false_and, if_neg (by simp), if_neg (by simp)];go_enter Tryz.func87, Tryz.ntmps87;go_wp2_with fail;refine cMq HF.out ?_;rintro e w1 ⟨rfl, rfl⟩;go_wp2
  go_ret2
  exact ⟨rfl, Below.refl _ _⟩
end
