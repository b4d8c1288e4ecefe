/- A definition written well is read as it is: plainly. -/
import Derived.Test.YtbcfhpomclkccaaDoorRsLabLaw
namespace Go.Proofs.YtbcfhpomclkccaaDoor
open Go.RowKit

theorem blk_pre (pre : List UInt8) (c : UInt8) (post : List UInt8) (h : wsB c = false) : blk (pre ++ c :: post) pre.length = pre.length := by
  unfold blk
  rw [List.drop_left, List.takeWhile_cons, h]
  simp
theorem blk_pre1 (pre : List UInt8) (c : UInt8) (post : List UInt8) (h : wsB c = false) : blk (pre ++ 32 :: c :: post) pre.length = pre.length + 1 := by
  unfold blk
  rw [List.drop_left, List.takeWhile_cons, show wsB 32 = true from rfl, if_pos rfl, List.takeWhile_cons, h]
  simp
theorem gap_pre1 (pre : List UInt8) (c : UInt8) (post : List UInt8) (h : wsB c = false) (h10 : ¬ c = 10) : gapN (pre ++ 32 :: c :: post) pre.length = pre.length + 1 := by
  unfold gapN
  rw [blk_pre1 pre c post h]
  have : (pre ++ 32 :: c :: post)[pre.length + 1]? = some c := by simp
  rw [this, if_neg (by simpa using h10)]
theorem line_pre (pre post : List UInt8) : lineN (pre ++ 10 :: post) pre.length = some (pre.length + 1) := by
  unfold lineN
  rw [blk_pre pre 10 post (by decide)]
  have : (pre ++ 10 :: post)[pre.length]? = some 10 := by simp
  rw [this]
  simp
theorem ext_mid (s : ByteArray) (a b post : List UInt8) (h : s.data.toList = a ++ (b ++ post)) (i j : Nat) (hi : i = a.length) (hj : j = a.length + b.length) : (s.extract i j).data.toList = b := by
  subst hi hj
  rw [Lib.extract_data, h, List.drop_left, show a.length + b.length - a.length = b.length by omega, List.take_left]
theorem back_plain (S : ByteArray) (D T M : List UInt8) (hD : ∀ c ∈ D, ¬ c = 10)
    (hS : S.data.toList = [91, 120, 93, 58, 32, 60] ++ (escL [92, 60, 62, 38] D ++ 62 :: 32 :: 34 :: (escL [92, 34, 38] T ++ 34 :: 10 :: M))) :
    defV S = (⟨#[120]⟩, ⟨D.toArray⟩, ⟨T.toArray⟩, 11 + (escL [92, 60, 62, 38] D).length + (escL [92, 34, 38] T).length) := by
  obtain ⟨E1, hE1⟩ : ∃ E1, escL [92, 60, 62, 38] D = E1 := ⟨_, rfl⟩
  obtain ⟨E2, hE2⟩ : ∃ E2, escL [92, 34, 38] T = E2 := ⟨_, rfl⟩
  have hlen : S.data.toList.length = 11 + E1.length + E2.length + M.length := by rw [hS, hE1, hE2]; simp; omega
  obtain ⟨q1, q2⟩ := label_law S [120] (58 :: 32 :: 60 :: (E1 ++ 62 :: 32 :: 34 :: (E2 ++ 34 :: 10 :: M))) (by rw [hS, hE1, hE2]; rfl) (by decide) (by decide)
  have q1' : labelS S 0 = ⟨#[120]⟩ := q1
  have q2' : labelE S.data.toList 0 = 3 := q2
  have hlab : defLab S = ⟨#[120]⟩ := by
    unfold defLab
    rw [q1']
    decide +kernel
  have f1 : S.data.toList = [91, 120, 93, 58] ++ 32 :: 60 :: (E1 ++ 62 :: 32 :: 34 :: (E2 ++ 34 :: 10 :: M)) := by rw [hS, hE1, hE2]; rfl
  have g1 : gapN S.data.toList 4 = 5 := by rw [f1]; exact gap_pre1 [91, 120, 93, 58] 60 _ (by decide) (by decide)
  have hp1 : ([91, 120, 93, 58, 32, 60] : List UInt8).length = 6 := rfl
  have u1 := upF_esc sgDest 62 noNlLt (by decide) (32 :: 34 :: (escL [92, 34, 38] T ++ 34 :: 10 :: M)) D [91, 120, 93, 58, 32, 60] S.data.toList.length (fun c hc hg => ⟨fun e => hg (by rw [e]; decide), by
    unfold noNlLt
    rw [Bool.and_eq_true, bne_iff_ne, bne_iff_ne]
    exact ⟨hD c hc, fun e => hg (by rw [e]; decide)⟩⟩) (by rw [hlen, hE1]; omega)
  rw [← hS, hp1, hE1] at u1
  have d1 : destN S.data.toList 5 = some (6, 6 + E1.length, 7 + E1.length) := by
    unfold destN
    have h5 : S.data.toList[5]? = some 60 := by rw [f1]; rfl
    rw [h5, if_pos (by rfl), show (5 + 1 : Nat) = 6 from rfl, u1, if_pos (by rfl)]
    simp only [Option.some.injEq, Prod.mk.injEq, true_and]
    omega
  have v1 : destV S 5 = (⟨D.toArray⟩, 7 + E1.length, true) := by
    unfold destV
    rw [d1]
    simp only
    rw [unescB_esc sgDest D _ (by rw [ext_mid S [91, 120, 93, 58, 32, 60] (escL [92, 60, 62, 38] D) _ hS 6 (6 + E1.length) rfl (by rw [hE1]; rfl)])]
  have p2 : ([91, 120, 93, 58, 32, 60] ++ E1 ++ [62]).length = 7 + E1.length := by simp; omega
  have f2 : S.data.toList = ([91, 120, 93, 58, 32, 60] ++ E1 ++ [62]) ++ 32 :: 34 :: (E2 ++ 34 :: 10 :: M) := by rw [hS, hE1, hE2]; simp
  have g2 : gapN S.data.toList (7 + E1.length) = 8 + E1.length := by
    rw [f2, ← p2, gap_pre1 _ 34 _ (by decide) (by decide)]
    rw [p2]; omega
  have p3 : ([91, 120, 93, 58, 32, 60] ++ E1 ++ [62, 32, 34]).length = 9 + E1.length := by simp; omega
  have f3 : S.data.toList = ([91, 120, 93, 58, 32, 60] ++ E1 ++ [62, 32, 34]) ++ (escL [92, 34, 38] T ++ 34 :: 10 :: M) := by rw [hS, hE1]; simp
  have u2 := upF_esc sgTitle 34 (mayT 34) (by decide) (10 :: M) T ([91, 120, 93, 58, 32, 60] ++ E1 ++ [62, 32, 34]) S.data.toList.length (fun c _ hg => ⟨fun e => hg (by rw [e]; decide), rfl⟩) (by rw [hlen, hE2]; omega)
  rw [← f3, p3, hE2] at u2
  have t1 : titleN S.data.toList (8 + E1.length) = some (9 + E1.length, 9 + E1.length + E2.length, 10 + E1.length + E2.length) := by
    unfold titleN
    have h8 : S.data.toList[8 + E1.length]? = some 34 := by
      rw [f2, show 8 + E1.length = ([91, 120, 93, 58, 32, 60] ++ E1 ++ [62]).length + 1 by rw [p2]; omega]
      simp
    rw [h8]
    simp only
    rw [if_neg (by decide), show endU 34 = 34 from rfl, show 8 + E1.length + 1 = 9 + E1.length by omega, u2, if_pos (by rfl)]
    simp only [Option.some.injEq, Prod.mk.injEq, true_and]
    omega
  have v2 : titleV S (8 + E1.length) = (⟨T.toArray⟩, 10 + E1.length + E2.length, true) := by
    unfold titleV
    rw [t1]
    simp only
    rw [unescB_esc sgTitle T _ (by rw [ext_mid S ([91, 120, 93, 58, 32, 60] ++ E1 ++ [62, 32, 34]) (escL [92, 34, 38] T) _ f3 (9 + E1.length) (9 + E1.length + E2.length) p3.symm (by rw [p3, hE2])])]
  have p4 : ([91, 120, 93, 58, 32, 60] ++ E1 ++ [62, 32, 34] ++ E2 ++ [34]).length = 10 + E1.length + E2.length := by simp; omega
  have f4 : S.data.toList = ([91, 120, 93, 58, 32, 60] ++ E1 ++ [62, 32, 34] ++ E2 ++ [34]) ++ 10 :: M := by rw [hS, hE1, hE2]; simp
  have l1 : lineN S.data.toList (10 + E1.length + E2.length) = some (11 + E1.length + E2.length) := by
    rw [f4, ← p4, line_pre, p4]
    congr 1; omega
  have ht : defTail S (7 + E1.length) = some (⟨T.toArray⟩, 11 + E1.length + E2.length) := by
    unfold defTail
    rw [g2, v2, if_pos ⟨by omega, rfl⟩, l1]
  unfold defV defN
  rw [q2', show (3 + 1 : Nat) = 4 from rfl, g1, v1, hlab]
  simp only
  rw [ht, if_pos]
  · rw [hE1, hE2]; rfl
  · exact ⟨by rw [f1]; rfl, by decide, by first | rfl | trivial, by decide⟩
end Go.Proofs.YtbcfhpomclkccaaDoor
