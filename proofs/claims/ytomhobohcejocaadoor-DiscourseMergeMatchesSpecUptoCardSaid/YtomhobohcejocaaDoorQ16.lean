import Derived.Test.YtomhobohcejocaaDoorQ15
set_option linter.unusedSimpArgs false
namespace Go.Proofs.YtomhobohcejocaaDoor
open Go Go.Abs Go.Proofs

theorem reach_le : ∀ (n : Nat) (p : List Int), p.length ≤ n → ∀ (b : Abs.Box) (l : List Abs.Box), reachM b p = some l → (refsOf l).length ≤ Cond.tots b.conds := by
  intro n
  induction n with
  | zero =>
    intro p hp b l h
    obtain rfl : p = [] := List.eq_nil_of_length_eq_zero (by omega)
    rw [reachM] at h
    obtain rfl := Option.some.inj h
    simp [refsOf]
  | succ n ih =>
    intro p hp b l h
    rcases p with _ | ⟨i, _ | ⟨k, p⟩⟩
    · rw [reachM] at h
      obtain rfl := Option.some.inj h
      simp [refsOf]
    · rw [reachM] at h
      obtain rfl := Option.some.inj h
      simp [refsOf]
    · rw [reachM] at h
      rcases Int.lt_or_le i 0 with hi | hi
      · rw [stepB_none1 (.inl hi)] at h; cases h
      obtain ⟨i, rfl⟩ := Int.eq_ofNat_of_zero_le hi
      rcases Nat.lt_or_ge i b.conds.length with hi1 | hi1
      rotate_left
      · rw [stepB_none1 (.inr (by omega))] at h; cases h
      rcases Int.lt_or_le k 0 with hk | hk
      · rw [stepB_none2 hi1 (.inl hk)] at h; cases h
      obtain ⟨k, rfl⟩ := Int.eq_ofNat_of_zero_le hk
      rcases Nat.lt_or_ge k (b.conds[i]).boxes.length with hk1 | hk1
      rotate_left
      · rw [stepB_none2 hi1 (.inr (by omega))] at h; cases h
      rw [stepB_some2 hi1 rfl hk1 rfl] at h
      simp only [Option.map_eq_some_iff] at h
      obtain ⟨l2, h2, rfl⟩ := h
      have h3 := ih p (by simp at hp; omega) _ _ h2
      have h4 := step_le hi1 rfl hk1 rfl
      rw [refsOf_app, List.length_append]
      by_cases hc : (b.conds[i]).kind = 3 ∧ (k : Int) = 1
      · obtain rfl : k = 1 := by omega
        have h5 := step_le2 hi1 rfl hk1 rfl
        rw [if_pos hc]
        simp only [refsOf, List.flatMap_append, List.flatMap_cons, List.flatMap_nil, List.length_append, List.append_nil] at h3 ⊢
        omega
      · rw [if_neg hc]
        simp only [refsOf, List.flatMap_append, List.flatMap_cons, List.flatMap_nil, List.length_append, List.append_nil, List.nil_append] at h3 ⊢
        omega

def G1 : Nat → List FD := fun g => if g = 0 then [.i .i64 0, .i .i64 0] else []
theorem acc_said : accM saidM [] = ([sX, sY], ⟨0, 0⟩) := by kernel_rfl
set_option maxRecDepth 100000 in
set_option maxHeartbeats 1000000 in
theorem lawF3 (hT : TblOk Tryd.prog G1 Q27) (b : Abs.Box) (path : List Int) (hb : (enc b).Wf) (hp : (enc path).Wf) : Wcall Tryd.prog G1 3 [.fz (enc b), .fz (enc path)] (hpL []) 0 (fun d _ _ => d = .fz (.b true)) := by
  have hpl : path.length ≤ maxL := by
    have := Wf_sl hp
    simpa using this
  unfold maxL at hpl
  have dl : dec (α := List Str) (.sl [.s [120], .s [121]]) = [sX, sY] := rfl
  refine Wcall_K (N := 82) hm hT 3000 (lst []) ok3 Tryd.func3 rfl rfl (by simp) (by kernel_rfl) ?_
  by_cases hc : (boxM b).code = 0
  · obtain ⟨hz, htot⟩ := boxM_ok hc
    rw [Box.tot_eq] at htot
    by_cases hev : path.length % 2 = 0
    · have hev2 : ((path.length : Int) % 2 = 0) = True := eq_true (by omega)
      have hpre : path.length % 2 = 0 ∧ (boxM b).code = 0 := ⟨hev, hc⟩
      cases hr : reachM b path with
      | none =>
        have e1 : accM b path = ([], ⟨3, -2⟩) := by unfold accM; rw [if_neg (by simp [hc]), if_neg (by simp [hev]), hr]
        have e2 : reachP b path = ([], false) := by unfold reachP; rw [hr]
        repeat' (first | refine ReqK.i (by omega) fun _ => ?_ | refine ReqK.i (by unfold maxL; omega) fun _ => ?_ | refine ReqK.i rfl fun _ => ?_ | simp only [go_sem, reduceIte, reduceCtorEq, Nat.reduceEqDiff, Nat.reduceAdd, Nat.reduceSub, Nat.reduceMul, Nat.reduceDiv, Nat.reduceMod, Nat.reduceLT, Nat.reduceLeDiff, Nat.reduceBEq, Nat.reducePow, Int.reduceLE, Int.reduceLT, Int.reduceEq, Int.reduceNeg, Int.reduceAdd, Int.reduceToNat, acc_said, dl, G1, e1, e2, hz, hev, hev2, Tryd.f3, Q27, Q26, Q25, Q24, Q23, Q22, Q21, Q20, Q19, Q18, Q17, Q16, Q15, Q14, Q13, Q12, Q11, Q10, Q9, Q8, Q7, Q6, Q5, Q4, Q3, Q2, Q1, Tbl0])
      | some l =>
        have hrl := reach_le _ path (Nat.le_refl _) _ _ hr
        have e1 : accM b path = (refsOf (b :: l), ⟨0, 0⟩) := by unfold accM; rw [if_neg (by simp [hc]), if_neg (by simp [hev]), hr]
        have e2 : reachP b path = (b :: l, true) := by unfold reachP; rw [hr]
        obtain ⟨z, hzz⟩ : ∃ z, b :: l = z := ⟨_, rfl⟩
        have hzl : (refsOf z).length ≤ 1000000 := by
          rw [← hzz]
          simp only [refsOf, List.flatMap_cons, List.length_append] at hrl ⊢
          omega
        rw [hzz] at e1 e2
        repeat' (first | refine ReqK.i (by omega) fun _ => ?_ | refine ReqK.i (by unfold maxL; omega) fun _ => ?_ | refine ReqK.i rfl fun _ => ?_ | simp only [go_sem, reduceIte, reduceCtorEq, Nat.reduceEqDiff, Nat.reduceAdd, Nat.reduceSub, Nat.reduceMul, Nat.reduceDiv, Nat.reduceMod, Nat.reduceLT, Nat.reduceLeDiff, Nat.reduceBEq, Nat.reducePow, Int.reduceLE, Int.reduceLT, Int.reduceEq, Int.reduceNeg, Int.reduceAdd, Int.reduceToNat, acc_said, dl, G1, e1, e2, hz, hev, hev2, Tryd.f3, Q27, Q26, Q25, Q24, Q23, Q22, Q21, Q20, Q19, Q18, Q17, Q16, Q15, Q14, Q13, Q12, Q11, Q10, Q9, Q8, Q7, Q6, Q5, Q4, Q3, Q2, Q1, Tbl0])
    · have hev2 : ((path.length : Int) % 2 = 0) = False := eq_false (by omega)
      have e1 : accM b path = ([], ⟨9, -2⟩) := by unfold accM; rw [if_neg (by simp [hc]), if_pos hev]
      repeat' (first | refine ReqK.i (by omega) fun _ => ?_ | refine ReqK.i (by unfold maxL; omega) fun _ => ?_ | refine ReqK.i rfl fun _ => ?_ | simp only [go_sem, reduceIte, reduceCtorEq, Nat.reduceEqDiff, Nat.reduceAdd, Nat.reduceSub, Nat.reduceMul, Nat.reduceDiv, Nat.reduceMod, Nat.reduceLT, Nat.reduceLeDiff, Nat.reduceBEq, Nat.reducePow, Int.reduceLE, Int.reduceLT, Int.reduceEq, Int.reduceNeg, Int.reduceAdd, Int.reduceToNat, acc_said, dl, G1, e1, hz, hev, hev2, Tryd.f3, Q27, Q26, Q25, Q24, Q23, Q22, Q21, Q20, Q19, Q18, Q17, Q16, Q15, Q14, Q13, Q12, Q11, Q10, Q9, Q8, Q7, Q6, Q5, Q4, Q3, Q2, Q1, Tbl0])
  · have e1 : accM b path = ([], boxM b) := by unfold accM; rw [if_pos hc]
    have hc2 := eq_false hc
    repeat' (first | refine ReqK.i (by omega) fun _ => ?_ | refine ReqK.i (by unfold maxL; omega) fun _ => ?_ | refine ReqK.i rfl fun _ => ?_ | simp only [go_sem, reduceIte, reduceCtorEq, Nat.reduceEqDiff, Nat.reduceAdd, Nat.reduceSub, Nat.reduceMul, Nat.reduceDiv, Nat.reduceMod, Nat.reduceLT, Nat.reduceLeDiff, Nat.reduceBEq, Nat.reducePow, Int.reduceLE, Int.reduceLT, Int.reduceEq, Int.reduceNeg, Int.reduceAdd, Int.reduceToNat, acc_said, dl, G1, e1, hc2, Tryd.f3, Q27, Q26, Q25, Q24, Q23, Q22, Q21, Q20, Q19, Q18, Q17, Q16, Q15, Q14, Q13, Q12, Q11, Q10, Q9, Q8, Q7, Q6, Q5, Q4, Q3, Q2, Q1, Tbl0])
end Go.Proofs.YtomhobohcejocaaDoor
