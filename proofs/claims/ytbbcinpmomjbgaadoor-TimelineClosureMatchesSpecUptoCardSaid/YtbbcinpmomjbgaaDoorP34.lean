import Derived.Test.YtbbcinpmomjbgaaDoorP33
set_option linter.unusedSimpArgs false
namespace Go.Proofs.YtbbcinpmomjbgaaDoor
open Go Go.Abs Go.Proofs

theorem ord2 : ordM 2 earlyM = ([[0, 1]], ⟨0, 0⟩) := by decide
theorem cons_ords {p : Nat} {l : List Time} (h : (timesM p l).code = 0) : consM p l = decide ((0 : Int) < (((orders p l).map ints).length : Int)) := by
  rw [Bool.eq_iff_iff, orders_sat (okT_of h), decide_eq_true_eq, List.length_map, ← List.length_pos_iff]
  omega

set_option maxRecDepth 100000 in
set_option maxHeartbeats 1000000 in
theorem lawF7 (hT : TblOk Tryd.prog G1 V6) (p : Int) (l : List Time) (_ : (enc p).Wf) (_ : (enc l).Wf) : Wcall Tryd.prog G1 7 [.fz (enc p), .fz (enc l)] (hpL []) 0 (fun d _ _ => d = .fz (.b true)) := by
  refine Wcall_K (N := 108) hm hT 7000 (lst []) ok7 Tryd.func7 rfl rfl (by simp) (by kernel_rfl) ?_
  by_cases h1 : (timesM p l).code = 0
  · obtain ⟨hz, hp0, hp12, hll, _⟩ := times_zero h1
    obtain ⟨p, rfl⟩ := Int.eq_ofNat_of_zero_le hp0
    have e1 : conM p l = (consM p l, ⟨0, 0⟩) := by unfold conM; rw [if_pos h1]; rfl
    by_cases h6 : 6 < p
    · have h6' : ((6 : Int) < (p : Int)) = True := eq_true (by omega)
      have e2 : ordM p l = ([], ⟨17, -1⟩) := by unfold ordM; rw [if_pos h1, if_pos (by omega)]
      repeat' (first | refine ReqK.i (by unfold maxL; decide) fun _ => ?_ | simp only [go_sem, reduceIte, reduceCtorEq, Nat.reduceEqDiff, Nat.reduceAdd, Nat.reduceSub, Nat.reduceMul, Nat.reduceDiv, Nat.reduceMod, Nat.reduceLT, Nat.reduceLeDiff, Nat.reduceBEq, Nat.reducePow, Int.reduceLE, Int.reduceLT, Int.reduceEq, Int.reduceNeg, Int.reduceAdd, Int.reduceToNat, V6, V5, V4, V3, V2, V1, U12, U11, U10, U9, U8, U7, U6, U5, U4, U3, U2, U1, Tbl0, ord2, G1, Tryd.f7, hz, e1, e2, h6'])
    · have h6' : ((6 : Int) < (p : Int)) = False := eq_false (by omega)
      have hpre : p ≤ 6 ∧ ∀ x ∈ l, OkT p x := ⟨by omega, okT_of h1⟩
      have hpre' : (p : Int) ≤ 6 ∧ ∀ x ∈ l, OkT p x := ⟨by omega, okT_of h1⟩
      have e2 : ordM p l = ((orders p l).map ints, ⟨0, 0⟩) := by unfold ordM; rw [if_pos h1, if_neg (by omega)]; rfl
      have e3 := cons_ords h1
      obtain ⟨W, hW⟩ : ∃ W, W = (orders p l).map ints := ⟨_, rfl⟩
      rw [← hW] at e2 e3
      rw [e3] at e1
      by_cases h5 : 5 < p
      · have h5' : ((5 : Int) < (p : Int)) = True := eq_true (by omega)
        repeat' (first | refine ReqK.i (by unfold maxL; decide) fun _ => ?_ | simp only [go_sem, reduceIte, reduceCtorEq, Nat.reduceEqDiff, Nat.reduceAdd, Nat.reduceSub, Nat.reduceMul, Nat.reduceDiv, Nat.reduceMod, Nat.reduceLT, Nat.reduceLeDiff, Nat.reduceBEq, Nat.reducePow, Int.reduceLE, Int.reduceLT, Int.reduceEq, Int.reduceNeg, Int.reduceAdd, Int.reduceToNat, V6, V5, V4, V3, V2, V1, U12, U11, U10, U9, U8, U7, U6, U5, U4, U3, U2, U1, Tbl0, ord2, G1, Tryd.f7, hz, e1, e2, h6', h5'])
      · have h5' : ((5 : Int) < (p : Int)) = False := eq_false (by omega)
        repeat' (first | refine ReqK.i (by unfold maxL; decide) fun _ => ?_ | refine ReqK.i hpre fun _ => ?_ | refine ReqK.i hpre' fun _ => ?_ | simp only [go_sem, reduceIte, reduceCtorEq, Nat.reduceEqDiff, Nat.reduceAdd, Nat.reduceSub, Nat.reduceMul, Nat.reduceDiv, Nat.reduceMod, Nat.reduceLT, Nat.reduceLeDiff, Nat.reduceBEq, Nat.reducePow, Int.reduceLE, Int.reduceLT, Int.reduceEq, Int.reduceNeg, Int.reduceAdd, Int.reduceToNat, V6, V5, V4, V3, V2, V1, U12, U11, U10, U9, U8, U7, U6, U5, U4, U3, U2, U1, Tbl0, ord2, G1, Tryd.f7, hz, e1, e2, h6', h5', ← hW])
  · have hz : ¬ timesM p l = ⟨0, 0⟩ := fun e => h1 (by rw [e])
    have e1 : conM p l = (false, timesM p l) := by unfold conM; rw [if_neg h1]
    have e2 : ordM p l = ([], timesM p l) := by unfold ordM; rw [if_neg h1]
    repeat' (first | refine ReqK.i (by unfold maxL; decide) fun _ => ?_ | simp only [go_sem, reduceIte, reduceCtorEq, Nat.reduceEqDiff, Nat.reduceAdd, Nat.reduceSub, Nat.reduceMul, Nat.reduceDiv, Nat.reduceMod, Nat.reduceLT, Nat.reduceLeDiff, Nat.reduceBEq, Nat.reducePow, Int.reduceLE, Int.reduceLT, Int.reduceEq, Int.reduceNeg, Int.reduceAdd, Int.reduceToNat, V6, V5, V4, V3, V2, V1, U12, U11, U10, U9, U8, U7, U6, U5, U4, U3, U2, U1, Tbl0, ord2, G1, Tryd.f7, h1, e1, e2])
end Go.Proofs.YtbbcinpmomjbgaaDoor
