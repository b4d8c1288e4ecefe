/- lower's writer: an inline of any kind. -/
import Derived.Test.YtibaoocklempnaaGreatDoorIOther
namespace Go.Proofs.YtibaoocklempnaaGreatDoor
open Go.RowKit

theorem inline_any (B b : Nat) (acc kout pout : List UInt8) (kd : Nat) (tx dest title : ByteArray) (A : Option Addr) (m c : Nat) (w : World) (hB : Bld 83 B b acc w) (hk : KidC (.slice A m c) kout w B b) (hp : PlC (.slice A m c) pout w B)
    (hx : tx.size ≤ 10000000) (hd : dest.size ≤ 10000000) (ht : title.size ≤ 10000000) (hpl : pout.length ≤ 10000000) (hlen : acc.length + (inlK kd tx dest title kout pout).length ≤ 1000000000000) :
    Calls Tryz.prog 93 #[.pointer (some ⟨b, 0, none⟩), .agg #[.int .u8 kd, .string tx, .string dest, .string title, .slice A m c]] w (WrR w B b (acc ++ inlK kd tx dest title kout pout)) := by
  by_cases h1 : kd = 1
  · subst h1
    exact inline_1 B b acc tx dest title A m c w hB hx hlen
  by_cases h2 : kd = 2
  · subst h2
    exact inline_2 B b acc tx dest title A m c w hB hx hlen
  by_cases h3 : kd = 3
  · subst h3
    exact inline_3 B b acc kout tx dest title A m c w hB hk hlen
  by_cases h4 : kd = 4
  · subst h4
    exact inline_4 B b acc kout tx dest title A m c w hB hk hlen
  by_cases h5 : kd = 5
  · subst h5
    exact inline_5 B b acc kout tx dest title A m c w hB hk hd ht hlen
  by_cases h6 : kd = 6
  · subst h6
    exact inline_6 B b acc pout tx dest title A m c w hB hp hd ht hpl hlen
  by_cases h7 : kd = 7
  · subst h7
    exact inline_7 B b acc tx dest title A m c w hB hlen
  by_cases h8 : kd = 8
  · subst h8
    exact inline_8 B b acc tx dest title A m c w hB hlen
  by_cases h9 : kd = 9
  · subst h9
    exact inline_9 B b acc tx dest title A m c w hB hlen
  have ho : inlK kd tx dest title kout pout = [] := by unfold inlK; rw [if_neg h1, if_neg h2, if_neg h3, if_neg h4, if_neg h5, if_neg h6, if_neg h7, if_neg h8, if_neg h9]
  rw [ho, List.append_nil]
  exact inline_other B b acc kd tx dest title A m c w hB (by omega)
end Go.Proofs.YtibaoocklempnaaGreatDoor
