import Derived.Test.YtomhobohcejocaaDoorQ21
import Derived.Test.YtomhobohcejocaaDoorAbs43
set_option linter.unusedSimpArgs false
namespace Go.Proofs.YtomhobohcejocaaDoor
open Go Go.Abs Go.Proofs

def tree412 : Tv := (.q 0 (.q 1 (.q 2 (.q 4 (.q 7 (.q 8 (.q 11 (.r 5 (.r 9 (.r 12 (.br [(3, (.br [(6, (.br [(10, (.br [(13, (.q 14 (.br [(15, (.br [(16, .leaf)]))]))), (15, (.br [(13, (.q 14 (.br [(16, .leaf)])))]))])), (15, (.br [(10, (.br [(13, (.q 14 (.br [(16, .leaf)])))]))]))])), (15, (.br [(6, (.br [(10, (.br [(13, (.q 14 (.br [(16, .leaf)])))]))]))]))])), (15, (.br [(3, (.br [(6, (.br [(10, (.br [(13, (.q 14 (.br [(16, .leaf)])))]))]))]))]))])))))))))))
theorem Weak_rpL {G : Nat → List FD} {N : Nat} {l : List (Nat × D)} {H : Heap} {n : Nat} {id : Abs.Id} {t : Nat} {ys : List FD} {b : Bool} (ho : H id = some ⟨ys.map .fz, b, false⟩) (hs : frL l t = .ptr id 0) :
    Weak G N ⟨frL l, H, n⟩ ⟨frL ((t, .rp ys) :: l), updH H id none, n⟩ := Weak_rp (st := ⟨frL l, H, n⟩) ho hs
def xBox : Abs.Box := .mk [sX] []
theorem merge_x : mergeM xBox noB = (xBox, ⟨0, 0⟩) := by kernel_rfl
set_option maxRecDepth 100000 in
set_option maxHeartbeats 1000000 in
set_option maxHeartbeats 80000000 in
theorem lawF4 (hT : TblOk Tryd.prog G1 Q32) (a b : Abs.Box) (_ : (enc a).Wf) (_ : (enc b).Wf) : Wcall Tryd.prog G1 4 [.fz (enc a), .fz (enc b)] (hpL []) 0 (fun d _ _ => d = .fz (.b true)) := by
  have dl : dec (α := List Str) (.sl [.s [120]]) = [sX] := rfl
  have dx : Box.mk [sX] [] = xBox := rfl
  have dn : Box.mk [] [] = noB := rfl
  have ln : noB.refs = [] := rfl
  have lc : noB.conds = [] := rfl
  have xr : xBox.refs = [sX] := rfl
  have xc : xBox.conds = [] := rfl
  have sx : sX.l = [120] := rfl
  refine Wcall_K (N := 101) hm hT 4000 (lsw [66, 69, 73, 76] [1000012]) ok4 Tryd.func4 rfl rfl (by simp) (by kernel_rfl) ?_
  by_cases hca : ¬ (boxM a).code = 0
  · have e1 : mergeM a b = (noB, boxM a) := by unfold mergeM; rw [if_pos hca]
    repeat' (first | refine ReqK.i (by omega) fun _ => ?_ | refine ReqK.i (by unfold maxL; omega) fun _ => ?_ | refine ReqK.i rfl fun _ => ?_ | simp only [go_sem, reduceIte, reduceCtorEq, Nat.reduceEqDiff, Nat.reduceAdd, Nat.reduceSub, Nat.reduceMul, Nat.reduceDiv, Nat.reduceMod, Nat.reduceLT, Nat.reduceLeDiff, Nat.reduceBEq, Nat.reducePow, Int.reduceLE, Int.reduceLT, Int.reduceEq, Int.reduceNeg, Int.reduceAdd, Int.reduceToNat, merge_x, dl, dx, dn, ln, lc, xr, xc, sx, G1, hca, e1, Tryd.f4, Q32, Q29, Q28, Q27, Q26, Q25, Q24, Q23, Q22, Q21, Q20, Q19, Q18, Q17, Q16, Q15, Q14, Q13, Q12, Q11, Q10, Q9, Q8, Q7, Q6, Q5, Q4, Q3, Q2, Q1, Tbl0])
  have hca := Decidable.not_not.1 hca
  have ea := (boxM_ok hca).1
  by_cases hcb : ¬ (boxM b).code = 0
  · have e1 : mergeM a b = (noB, boxM b) := by unfold mergeM; rw [if_neg (by simp [hca]), if_pos hcb]
    repeat' (first | refine ReqK.i (by omega) fun _ => ?_ | refine ReqK.i (by unfold maxL; omega) fun _ => ?_ | refine ReqK.i rfl fun _ => ?_ | simp only [go_sem, reduceIte, reduceCtorEq, Nat.reduceEqDiff, Nat.reduceAdd, Nat.reduceSub, Nat.reduceMul, Nat.reduceDiv, Nat.reduceMod, Nat.reduceLT, Nat.reduceLeDiff, Nat.reduceBEq, Nat.reducePow, Int.reduceLE, Int.reduceLT, Int.reduceEq, Int.reduceNeg, Int.reduceAdd, Int.reduceToNat, merge_x, dl, dx, dn, ln, lc, xr, xc, sx, G1, ea, hcb, e1, Tryd.f4, Q32, Q29, Q28, Q27, Q26, Q25, Q24, Q23, Q22, Q21, Q20, Q19, Q18, Q17, Q16, Q15, Q14, Q13, Q12, Q11, Q10, Q9, Q8, Q7, Q6, Q5, Q4, Q3, Q2, Q1, Tbl0])
  have hcb := Decidable.not_not.1 hcb
  have eb := (boxM_ok hcb).1
  have hra := Box.fit_eq (boxM_fit hca)
  have hrb := Box.fit_eq (boxM_fit hcb)
  obtain ⟨c, e, hce, hcase⟩ : ∃ (c : Abs.Box) (e : Fault), mergeM a b = (c, e) ∧ ((¬ (boxM (withM a b)).code = 0 ∧ c = noB ∧ e = ⟨(boxM (withM a b)).code, -2⟩) ∨ ((boxM (withM a b)).code = 0 ∧ c = withM a b ∧ e = ⟨0, 0⟩)) := by
    by_cases hcc : (boxM (withM a b)).code = 0
    · exact ⟨_, _, by unfold mergeM; rw [if_neg (by simp [hca]), if_neg (by simp [hcb]), if_neg (by simp [hcc])], .inr ⟨hcc, rfl, rfl⟩⟩
    · exact ⟨_, _, by unfold mergeM; rw [if_neg (by simp [hca]), if_neg (by simp [hcb]), if_pos hcc], .inl ⟨hcc, rfl, rfl⟩⟩
  have kc := Kp.mk hcase
  clear hcase
  repeat' (first | refine ReqK.i (by omega) fun _ => ?_ | refine ReqK.i (by unfold maxL; omega) fun _ => ?_ | refine ReqK.i rfl fun _ => ?_ | simp only [go_sem, reduceIte, reduceCtorEq, Nat.reduceEqDiff, Nat.reduceAdd, Nat.reduceSub, Nat.reduceMul, Nat.reduceDiv, Nat.reduceMod, Nat.reduceLT, Nat.reduceLeDiff, Nat.reduceBEq, Nat.reducePow, Int.reduceLE, Int.reduceLT, Int.reduceEq, Int.reduceNeg, Int.reduceAdd, Int.reduceToNat, merge_x, dl, dx, dn, ln, lc, xr, xc, sx, G1, ea, eb, hce, Tryd.f4, Q32, Q29, Q28, Q27, Q26, Q25, Q24, Q23, Q22, Q21, Q20, Q19, Q18, Q17, Q16, Q15, Q14, Q13, Q12, Q11, Q10, Q9, Q8, Q7, Q6, Q5, Q4, Q3, Q2, Q1, Tbl0])
  refine WK_join (ι := Nat × Nat × Nat) (fun g => ⟨frL [(8, .ptr (4008, 5) 0), (9, .ptr (4009, 6) 0), (12, .ptr (4012, g.1) 0)],
    hpL [((4008, 5), some ⟨[.fz (.sl (c.refs.map enc)), .fz (.sl (c.conds.map enc))], true, false⟩), ((4009, 6), some ⟨[.fz (.i .i64 e.code), .fz (.i .i64 e.index)], true, false⟩),
      ((4012, g.1), some ⟨[.ow (4069, g.2.1) 1 ((a.refs ++ b.refs).map enc), .ow (4076, g.2.2) 7 ((a.conds ++ b.conds).map enc)], true, false⟩)], 14⟩) (fun g => ?_) ?_
  rotate_left
  · refine WK_weak2 (Weak_rpL (id := (4002, 0)) (t := 2) (b := true) (ys := [.sl (a.refs.map enc), .sl (a.conds.map enc)]) (by simp only [go_sem, reduceIte, reduceCtorEq, Nat.reduceEqDiff, Nat.reduceAdd, Nat.reduceSub, Nat.reduceMul, Nat.reduceDiv, Nat.reduceMod, Nat.reduceLT, Nat.reduceLeDiff, Nat.reduceBEq, Nat.reducePow, Int.reduceLE, Int.reduceLT, Int.reduceEq, Int.reduceNeg, Int.reduceAdd, Int.reduceToNat]) (by simp only [go_sem, reduceIte, reduceCtorEq, Nat.reduceEqDiff, Nat.reduceAdd, Nat.reduceSub, Nat.reduceMul, Nat.reduceDiv, Nat.reduceMod, Nat.reduceLT, Nat.reduceLeDiff, Nat.reduceBEq, Nat.reducePow, Int.reduceLE, Int.reduceLT, Int.reduceEq, Int.reduceNeg, Int.reduceAdd, Int.reduceToNat])) ?_
    refine WK_weak2 (Weak_rpL (id := (4003, 1)) (t := 3) (b := true) (ys := [.sl (b.refs.map enc), .sl (b.conds.map enc)]) (by simp only [go_sem, reduceIte, reduceCtorEq, Nat.reduceEqDiff, Nat.reduceAdd, Nat.reduceSub, Nat.reduceMul, Nat.reduceDiv, Nat.reduceMod, Nat.reduceLT, Nat.reduceLeDiff, Nat.reduceBEq, Nat.reducePow, Int.reduceLE, Int.reduceLT, Int.reduceEq, Int.reduceNeg, Int.reduceAdd, Int.reduceToNat]) (by simp only [go_sem, reduceIte, reduceCtorEq, Nat.reduceEqDiff, Nat.reduceAdd, Nat.reduceSub, Nat.reduceMul, Nat.reduceDiv, Nat.reduceMod, Nat.reduceLT, Nat.reduceLeDiff, Nat.reduceBEq, Nat.reducePow, Int.reduceLE, Int.reduceLT, Int.reduceEq, Int.reduceNeg, Int.reduceAdd, Int.reduceToNat])) ?_
    refine WK_drawV hm hT 4000 (lsw [66, 69, 73, 76] [1000012]) tree412 (by kernel_rfl) (by kernel_rfl) ?_
    repeat' (first | refine And.intro ?_ ?_ | exact True.intro | refine ReqK.i (by omega) fun _ => ?_ | refine ReqK.i (by unfold maxL; omega) fun _ => ?_ | refine ReqK.i (fits_of2 (by omega) (by decide)) fun _ => ?_ | simp only [go_sem, reduceIte, reduceCtorEq, Nat.reduceEqDiff, Nat.reduceAdd, Nat.reduceSub, Nat.reduceMul, Nat.reduceDiv, Nat.reduceMod, Nat.reduceLT, Nat.reduceLeDiff, Nat.reduceBEq, Nat.reducePow, Int.reduceLE, Int.reduceLT, Int.reduceEq, Int.reduceNeg, Int.reduceAdd, Int.reduceToNat, tree412, Tryd.f4, Q32, Q29, Q28, Q27, Q26, Q25, Q24, Q23, Q22, Q21, Q20, Q19, Q18, Q17, Q16, Q15, Q14, Q13, Q12, Q11, Q10, Q9, Q8, Q7, Q6, Q5, Q4, Q3, Q2, Q1, Tbl0])
    all_goals first
      | exact ⟨(9, 11, 13), Weak_to ⟨rfl, rfl, rfl, trivial⟩ (by simp only [go_sem, reduceIte, reduceCtorEq, Nat.reduceEqDiff, Nat.reduceAdd, Nat.reduceSub, Nat.reduceMul, Nat.reduceDiv, Nat.reduceMod, Nat.reduceLT, Nat.reduceLeDiff, Nat.reduceBEq, Nat.reducePow, Int.reduceLE, Int.reduceLT, Int.reduceEq, Int.reduceNeg, Int.reduceAdd, Int.reduceToNat, List.map_append]) (by simp only; omega)⟩
      | exact ⟨(10, 11, 13), Weak_to ⟨rfl, rfl, rfl, trivial⟩ (by simp only [go_sem, reduceIte, reduceCtorEq, Nat.reduceEqDiff, Nat.reduceAdd, Nat.reduceSub, Nat.reduceMul, Nat.reduceDiv, Nat.reduceMod, Nat.reduceLT, Nat.reduceLeDiff, Nat.reduceBEq, Nat.reducePow, Int.reduceLE, Int.reduceLT, Int.reduceEq, Int.reduceNeg, Int.reduceAdd, Int.reduceToNat, List.map_append]) (by simp only; omega)⟩
      | exact ⟨(11, 10, 13), Weak_to ⟨rfl, rfl, rfl, trivial⟩ (by simp only [go_sem, reduceIte, reduceCtorEq, Nat.reduceEqDiff, Nat.reduceAdd, Nat.reduceSub, Nat.reduceMul, Nat.reduceDiv, Nat.reduceMod, Nat.reduceLT, Nat.reduceLeDiff, Nat.reduceBEq, Nat.reducePow, Int.reduceLE, Int.reduceLT, Int.reduceEq, Int.reduceNeg, Int.reduceAdd, Int.reduceToNat, List.map_append]) (by simp only; omega)⟩
      | exact ⟨(12, 10, 13), Weak_to ⟨rfl, rfl, rfl, trivial⟩ (by simp only [go_sem, reduceIte, reduceCtorEq, Nat.reduceEqDiff, Nat.reduceAdd, Nat.reduceSub, Nat.reduceMul, Nat.reduceDiv, Nat.reduceMod, Nat.reduceLT, Nat.reduceLeDiff, Nat.reduceBEq, Nat.reducePow, Int.reduceLE, Int.reduceLT, Int.reduceEq, Int.reduceNeg, Int.reduceAdd, Int.reduceToNat, List.map_append]) (by simp only; omega)⟩
      | exact ⟨(13, 10, 12), Weak_to ⟨rfl, rfl, rfl, trivial⟩ (by simp only [go_sem, reduceIte, reduceCtorEq, Nat.reduceEqDiff, Nat.reduceAdd, Nat.reduceSub, Nat.reduceMul, Nat.reduceDiv, Nat.reduceMod, Nat.reduceLT, Nat.reduceLeDiff, Nat.reduceBEq, Nat.reducePow, Int.reduceLE, Int.reduceLT, Int.reduceEq, Int.reduceNeg, Int.reduceAdd, Int.reduceToNat, List.map_append]) (by simp only; omega)⟩
  obtain ⟨g1, g2, g3⟩ := g
  have hm2 : Box.mk (a.refs ++ b.refs) (a.conds ++ b.conds) = withM a b := rfl
  rcases kc.out with ⟨hcc, rfl, rfl⟩ | ⟨hcc, rfl, rfl⟩
  · repeat' (first | refine ReqK.i (by omega) fun _ => ?_ | simp only [go_sem, reduceIte, reduceCtorEq, Nat.reduceEqDiff, Nat.reduceAdd, Nat.reduceSub, Nat.reduceMul, Nat.reduceDiv, Nat.reduceMod, Nat.reduceLT, Nat.reduceLeDiff, Nat.reduceBEq, Nat.reducePow, Int.reduceLE, Int.reduceLT, Int.reduceEq, Int.reduceNeg, Int.reduceAdd, Int.reduceToNat, dn, ln, lc, hm2, hcc, G1, Tryd.f4, Q32, Q29, Q28, Q27, Q26, Q25, Q24, Q23, Q22, Q21, Q20, Q19, Q18, Q17, Q16, Q15, Q14, Q13, Q12, Q11, Q10, Q9, Q8, Q7, Q6, Q5, Q4, Q3, Q2, Q1, Tbl0])
  · have ec := (boxM_ok hcc).1
    repeat' (first | refine ReqK.i (by omega) fun _ => ?_ | simp only [go_sem, reduceIte, reduceCtorEq, Nat.reduceEqDiff, Nat.reduceAdd, Nat.reduceSub, Nat.reduceMul, Nat.reduceDiv, Nat.reduceMod, Nat.reduceLT, Nat.reduceLeDiff, Nat.reduceBEq, Nat.reducePow, Int.reduceLE, Int.reduceLT, Int.reduceEq, Int.reduceNeg, Int.reduceAdd, Int.reduceToNat, dn, ln, lc, hm2, ec, G1, Tryd.f4, Q32, Q29, Q28, Q27, Q26, Q25, Q24, Q23, Q22, Q21, Q20, Q19, Q18, Q17, Q16, Q15, Q14, Q13, Q12, Q11, Q10, Q9, Q8, Q7, Q6, Q5, Q4, Q3, Q2, Q1, Tbl0])
end Go.Proofs.YtomhobohcejocaaDoor
