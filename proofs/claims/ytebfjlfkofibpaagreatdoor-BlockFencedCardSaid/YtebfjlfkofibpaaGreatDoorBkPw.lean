/- Lines of letters are one paragraph. -/
import Derived.Test.YtebfjlfkofibpaaGreatDoorBkKn
import Derived.Test.YtebfjlfkofibpaaGreatDoorBkPq
namespace Go.Proofs.YtebfjlfkofibpaaGreatDoor
set_option maxHeartbeats 8000000
set_option maxRecDepth 100000
open Go.RowKit
theorem pq_none {s : ByteArray} {ls : List ByteArray} {cur : List UInt8} (h : GoodS s ls cur) (hs : s.size ≤ 10000) (hq : linesG ls cur = []) (w : World) (hG : GlobB w) : Calls Tryz.prog 10 #[.string s] w fun e w' => ∃ kd lv mk st tg inf tx A m c Ak ck rvA rvc,
  e = .returned (.tuple #[aggB kd lv mk st tg inf tx A m c (.slice Ak 0 ck), .slice rvA 0 rvc, .int .i64 0]) ∧ Below w.heap.size w w' := by
 refine (parse_any s w hs hG).mono ?_;intro e w' hp;obtain ⟨kd, lv, mk, st, tg, inf, tx, A, m, c, vk, rv, rfl, hb, hr, hbw⟩ := hp.open;obtain ⟨h1, h2⟩ := h.fin;rw [h1] at hr;obtain ⟨Ar, cr, rfl⟩ := bk_own_slice hr;rcases h2 with ⟨_, h3, h4⟩ | ⟨h3, _⟩
 ·rw [h3] at hb;rw [h4];obtain ⟨Ak, ck, rfl⟩ := hb.form;exact ⟨kd, lv, mk, st, tg, inf, tx, A, m, c, Ak, ck, Ar, cr, rfl, hbw⟩
 ·exact absurd hq h3
theorem pq_one {s : ByteArray} {ls : List ByteArray} {cur : List UInt8} (h : GoodS s ls cur) (hs : s.size ≤ 10000) (hq : linesG ls cur ≠ []) (w : World) (hG : GlobB w) : Calls Tryz.prog 10 #[.string s] w fun e w' => ∃ kd lv mk st tg inf tx A m c ad1 c1 rvA rvc tg1 A2 m2 c2,
  e = .returned (.tuple #[aggB kd lv mk st tg inf tx A m c (.slice (some ad1) 1 c1), .slice rvA 0 rvc, .int .i64 0]) ∧ KidP w' ad1 5 tg1 (joinN (linesG ls cur)) A2 m2 c2 ∧ Below w.heap.size w w' := by
 refine (parse_any s w hs hG).mono ?_;intro e w' hp;obtain ⟨kd, lv, mk, st, tg, inf, tx, A, m, c, vk, rv, rfl, hb, hr, hbw⟩ := hp.open;obtain ⟨h1, h2⟩ := h.fin;rw [h1] at hr;obtain ⟨Ar, cr, rfl⟩ := bk_own_slice hr;rcases h2 with ⟨h3, _⟩ | ⟨_, ⟨y, y1, y2, y3⟩, h4⟩
 ·exact absurd h3 hq
 ·rw [h4];obtain ⟨ad1, c1, A2, c2, hv, hk1, hp1⟩ := BlksAt.kid (n := fueT s + 1) hb (fun _ h => h) 0 (y := y) (by rw [y1]; rfl);rw [y1] at hv;rw [y2, y3, add_zero_a] at hp1;subst hv;exact ⟨kd, lv, mk, st, tg, inf, tx, A, m, c, ad1, c1, Ar, cr, _, _, _, _, rfl, hp1, hbw⟩
def PwW (w1 : World) (m : Nat) (v3 v4 : Value) (wr : World) : Prop := ∃ (k : Nat) (s : ByteArray) (ls : List ByteArray) (cur : List UInt8), v4 = .int .i64 k ∧ v3 = .string s ∧ k ≤ m ∧ s.size ≤ k ∧ GoodS s ls cur ∧ Below w1.heap.size w1 wr
theorem app_data (s : ByteArray) (b : UInt8) : (s ++ (⟨#[b]⟩ : ByteArray)).data.toList = s.data.toList ++ [b] := by simp [ByteArray.data_append]
theorem last_get {s : ByteArray} (hs : s.size ≠ 0) {b : UInt8} (h : s.data.toList.getLast? = some b) : s[s.size - 1]'(by omega) = b := by
 have hl : s.data.toList.length = s.size := Array.length_toList;rw [List.getLast?_eq_getElem?, hl] at h;have := (List.getElem?_eq_some_iff.1 h).2;exact this
