import Derived.Test.YtbbcinpmomjbgaaDoorP28
set_option linter.unusedSimpArgs false
namespace Go.Proofs.YtbbcinpmomjbgaaDoor
open Go Go.Abs Go.Proofs

def tree8 : Tr := (.node (.cons 0 (.node (.cons 1 (.node (.cons 2 (.node (.cons 3 (.node (.cons 4 (.node (.cons 5 (.node (.cons 6 .leaf .nil)) .nil)) .nil)) .nil)) (.cons 3 (.node (.cons 2 (.node (.cons 4 (.node (.cons 5 (.node (.cons 6 .leaf .nil)) .nil)) .nil)) (.cons 4 (.node (.cons 2 (.node (.cons 5 (.node (.cons 6 .leaf .nil)) .nil)) .nil)) .nil))) .nil))) (.cons 3 (.node (.cons 1 (.node (.cons 2 (.node (.cons 4 (.node (.cons 5 (.node (.cons 6 .leaf .nil)) .nil)) .nil)) (.cons 4 (.node (.cons 2 (.node (.cons 5 (.node (.cons 6 .leaf .nil)) .nil)) .nil)) .nil))) (.cons 4 (.node (.cons 1 (.node (.cons 2 (.node (.cons 5 (.node (.cons 6 .leaf .nil)) .nil)) .nil)) .nil)) .nil))) .nil))) (.cons 1 (.node (.cons 0 (.node (.cons 2 (.node (.cons 3 (.node (.cons 4 (.node (.cons 5 (.node (.cons 6 .leaf .nil)) .nil)) .nil)) .nil)) (.cons 3 (.node (.cons 2 (.node (.cons 4 (.node (.cons 5 (.node (.cons 6 .leaf .nil)) .nil)) .nil)) (.cons 4 (.node (.cons 2 (.node (.cons 5 (.node (.cons 6 .leaf .nil)) .nil)) .nil)) .nil))) .nil))) (.cons 3 (.node (.cons 0 (.node (.cons 2 (.node (.cons 4 (.node (.cons 5 (.node (.cons 6 .leaf .nil)) .nil)) .nil)) (.cons 4 (.node (.cons 2 (.node (.cons 5 (.node (.cons 6 .leaf .nil)) .nil)) .nil)) .nil))) (.cons 4 (.node (.cons 0 (.node (.cons 2 (.node (.cons 5 (.node (.cons 6 .leaf .nil)) .nil)) .nil)) .nil)) .nil))) .nil))) (.cons 3 (.node (.cons 0 (.node (.cons 1 (.node (.cons 2 (.node (.cons 4 (.node (.cons 5 (.node (.cons 6 .leaf .nil)) .nil)) .nil)) (.cons 4 (.node (.cons 2 (.node (.cons 5 (.node (.cons 6 .leaf .nil)) .nil)) .nil)) .nil))) (.cons 4 (.node (.cons 1 (.node (.cons 2 (.node (.cons 5 (.node (.cons 6 .leaf .nil)) .nil)) .nil)) .nil)) .nil))) (.cons 1 (.node (.cons 0 (.node (.cons 2 (.node (.cons 4 (.node (.cons 5 (.node (.cons 6 .leaf .nil)) .nil)) .nil)) (.cons 4 (.node (.cons 2 (.node (.cons 5 (.node (.cons 6 .leaf .nil)) .nil)) .nil)) .nil))) (.cons 4 (.node (.cons 0 (.node (.cons 2 (.node (.cons 5 (.node (.cons 6 .leaf .nil)) .nil)) .nil)) .nil)) .nil))) (.cons 4 (.node (.cons 0 (.node (.cons 1 (.node (.cons 2 (.node (.cons 5 (.node (.cons 6 .leaf .nil)) .nil)) .nil)) .nil)) (.cons 1 (.node (.cons 0 (.node (.cons 2 (.node (.cons 5 (.node (.cons 6 .leaf .nil)) .nil)) .nil)) .nil)) .nil))) .nil)))) .nil))))
theorem con2 : conM 2 earlyM = (true, ⟨0, 0⟩) := by decide

@[go_sem] theorem flats_times {l : List Time} : (flatFz (l.map enc)).all oneB = true := by
  rw [List.all_eq_true]
  intro d hd
  simp only [flatFz, List.mem_flatMap, List.mem_map] at hd
  obtain ⟨_, ⟨a, _, rfl⟩, x, hx, rfl⟩ := hd
  simp only [enc_time, FD.cells, List.mem_cons, List.not_mem_nil, or_false] at hx
  rcases hx with rfl | rfl | rfl <;> rfl

set_option maxRecDepth 100000 in
set_option maxHeartbeats 20000000 in
theorem lawF8 (hT : TblOk Tryd.prog G1 U12) (p : Int) (l : List Time) (x : Time) (_ : (enc p).Wf) (hl : (enc l).Wf) (_ : (enc x).Wf) : Wcall Tryd.prog G1 8 [.fz (enc p), .fz (enc l), .fz (enc x)] (hpL []) 0 (fun d _ _ => d = .fz (.b true)) := by
  have la := Wf_sl hl
  simp only [List.length_map, maxL] at la
  refine Wcall_K (N := 93) hm hT 8000 (lsw [47, 50] [1000007]) ok8 Tryd.func8 rfl rfl (by simp) (by kernel_rfl) ?_
  by_cases h0 : (timesM p l).code = 0 ∧ relCode p x = 0 ∧ l.length < 300
  · obtain ⟨h1, h2, h3⟩ := h0
    obtain ⟨hz, hp0, hp12, _, _⟩ := times_zero h1
    obtain ⟨p, rfl⟩ := Int.eq_ofNat_of_zero_le hp0
    have hge : (300 ≤ (l.length : Int)) = False := eq_false (by omega)
    have e : entM p l x = (!consM p (l ++ [negT x]), ⟨0, 0⟩) := by unfold entM; rw [if_pos h1, if_pos h2]; rfl
    have ec : cloM p l = (gridB p l p, ⟨0, 0⟩) := by unfold cloM; rw [if_pos h1]; rfl
    have hm1 := times_app h1 h2 h3
    have ec2 : cloM p (l ++ [x]) = (gridB p (l ++ [x]) p, ⟨0, 0⟩) := by unfold cloM; rw [if_pos (by rw [hm1])]; rfl
    have e2 : conM p l = (consM p l, ⟨0, 0⟩) := by unfold conM; rw [if_pos h1]; rfl
    cases hb : !consM p (l ++ [negT x])
    · rw [hb] at e
      obtain ⟨g1, g2⟩ := ent_false h1 h2 h3 hb
      repeat' (first | refine ReqK.i (by unfold maxL; decide) fun _ => ?_ | simp only [go_sem, reduceIte, reduceCtorEq, Nat.reduceEqDiff, Nat.reduceAdd, Nat.reduceSub, Nat.reduceMul, Nat.reduceDiv, Nat.reduceMod, Nat.reduceLT, Nat.reduceLeDiff, Nat.reduceBEq, Nat.reducePow, Int.reduceLE, Int.reduceLT, Int.reduceEq, Int.reduceNeg, Int.reduceAdd, Int.reduceToNat, U12, U11, U10, U9, U8, U7, U6, U5, U4, U3, U2, U1, con2, G1, Tryd.f8, hge, e])
      refine WK_tree hm hT 8000 (lsw [47, 50] [1000007]) tree8 (by kernel_rfl) (by kernel_rfl) ?_
      repeat' (first | refine And.intro ?_ ?_ | refine ReqK.i (fits_of (by omega) (by decide)) fun _ => ?_ | refine ReqK.i (by unfold maxL; omega) fun _ => ?_ | simp only [go_sem, reduceIte, reduceCtorEq, Nat.reduceEqDiff, Nat.reduceAdd, Nat.reduceSub, Nat.reduceMul, Nat.reduceDiv, Nat.reduceMod, Nat.reduceLT, Nat.reduceLeDiff, Nat.reduceBEq, Nat.reducePow, Int.reduceLE, Int.reduceLT, Int.reduceEq, Int.reduceNeg, Int.reduceAdd, Int.reduceToNat, tree8, U12, U11, U10, U9, U8, U7, U6, U5, U4, U3, U2, U1, con2, G1, Tryd.f8, e, ec, ec2, e2, g1, g2])
    · have hb' : !consM p (l ++ [negT x]) = true := by simpa using hb
      rw [hb] at e
      have g := ent_true h1 h2 h3 hb'
      repeat' (first | refine ReqK.i (by unfold maxL; decide) fun _ => ?_ | simp only [go_sem, reduceIte, reduceCtorEq, Nat.reduceEqDiff, Nat.reduceAdd, Nat.reduceSub, Nat.reduceMul, Nat.reduceDiv, Nat.reduceMod, Nat.reduceLT, Nat.reduceLeDiff, Nat.reduceBEq, Nat.reducePow, Int.reduceLE, Int.reduceLT, Int.reduceEq, Int.reduceNeg, Int.reduceAdd, Int.reduceToNat, U12, U11, U10, U9, U8, U7, U6, U5, U4, U3, U2, U1, con2, G1, Tryd.f8, hge, e])
      refine WK_tree hm hT 8000 (lsw [47, 50] [1000007]) tree8 (by kernel_rfl) (by kernel_rfl) ?_
      repeat' (first | refine And.intro ?_ ?_ | refine ReqK.i (fits_of (by omega) (by decide)) fun _ => ?_ | refine ReqK.i (by unfold maxL; omega) fun _ => ?_ | simp only [go_sem, reduceIte, reduceCtorEq, Nat.reduceEqDiff, Nat.reduceAdd, Nat.reduceSub, Nat.reduceMul, Nat.reduceDiv, Nat.reduceMod, Nat.reduceLT, Nat.reduceLeDiff, Nat.reduceBEq, Nat.reducePow, Int.reduceLE, Int.reduceLT, Int.reduceEq, Int.reduceNeg, Int.reduceAdd, Int.reduceToNat, tree8, U12, U11, U10, U9, U8, U7, U6, U5, U4, U3, U2, U1, con2, G1, Tryd.f8, e, ec, ec2, e2, g])
  · have hc : (entM p l x).2.code = 0 → 300 ≤ (l.length : Int) := fun h => by
      unfold entM at h
      split at h
      · rename_i g1
        split at h
        · rename_i g2
          exact Decidable.byContradiction fun g3 => h0 ⟨g1, g2, by omega⟩
        · rename_i g2; exact absurd h g2
      · rename_i g1; exact absurd h g1
    obtain ⟨r, hr⟩ : ∃ r, r = entM p l x := ⟨_, rfl⟩
    rw [← hr] at hc
    have g0 : r = ⟨r.1, ⟨r.2.code, r.2.index⟩⟩ := rfl
    have gf : ∀ {c : Int}, (c = 0) = False → ¬ c = 0 := fun h e => by rw [h] at e; exact e
    by_cases e1 : r.2.code = 0
    · have e3 := eq_true (hc e1)
      by_cases e2 : r.2.index = 0
      · repeat' (first | refine ReqK.i (by unfold maxL; decide) fun _ => ?_ | simp only [go_sem, reduceIte, reduceCtorEq, Nat.reduceEqDiff, Nat.reduceAdd, Nat.reduceSub, Nat.reduceMul, Nat.reduceDiv, Nat.reduceMod, Nat.reduceLT, Nat.reduceLeDiff, Nat.reduceBEq, Nat.reducePow, Int.reduceLE, Int.reduceLT, Int.reduceEq, Int.reduceNeg, Int.reduceAdd, Int.reduceToNat, U12, U11, U10, U9, U8, U7, U6, U5, U4, U3, U2, U1, con2, G1, Tryd.f8, ← hr, e1, e2, e3])
      · repeat' (first | refine ReqK.i (by unfold maxL; decide) fun _ => ?_ | simp only [go_sem, reduceIte, reduceCtorEq, Nat.reduceEqDiff, Nat.reduceAdd, Nat.reduceSub, Nat.reduceMul, Nat.reduceDiv, Nat.reduceMod, Nat.reduceLT, Nat.reduceLeDiff, Nat.reduceBEq, Nat.reducePow, Int.reduceLE, Int.reduceLT, Int.reduceEq, Int.reduceNeg, Int.reduceAdd, Int.reduceToNat, U12, U11, U10, U9, U8, U7, U6, U5, U4, U3, U2, U1, con2, G1, Tryd.f8, ← hr, e1, e2, e3])
    · repeat' (first | refine ReqK.i (by unfold maxL; decide) fun _ => ?_ | simp only [go_sem, reduceIte, reduceCtorEq, Nat.reduceEqDiff, Nat.reduceAdd, Nat.reduceSub, Nat.reduceMul, Nat.reduceDiv, Nat.reduceMod, Nat.reduceLT, Nat.reduceLeDiff, Nat.reduceBEq, Nat.reducePow, Int.reduceLE, Int.reduceLT, Int.reduceEq, Int.reduceNeg, Int.reduceAdd, Int.reduceToNat, U12, U11, U10, U9, U8, U7, U6, U5, U4, U3, U2, U1, con2, G1, Tryd.f8, ← hr, e1])
end Go.Proofs.YtbbcinpmomjbgaaDoor
