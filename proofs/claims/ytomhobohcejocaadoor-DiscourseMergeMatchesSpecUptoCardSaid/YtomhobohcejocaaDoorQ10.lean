import Derived.Test.YtomhobohcejocaaDoorQ9
set_option linter.unusedSimpArgs false
namespace Go.Proofs.YtomhobohcejocaaDoor
open Go Go.Abs Go.Proofs

theorem hpL_app (k : List (Abs.Id × Option O)) : ∀ l : List (Abs.Id × Option O), hpL (l ++ k) = hpX l (hpL k)
  | [] => rfl
  | (i, o) :: l => by funext j; simp only [List.cons_append, hpL, hpX, hpL_app k l]
def Q21 : Tbl := Q20.add 26 (sp1 boxM fun _ => True)
set_option maxRecDepth 100000 in
set_option maxHeartbeats 1000000 in
theorem hQ21 : TblOk Tryd.prog G0 Q21 := by
  refine sp1_ok ok26 hQ20 fun b _ hb => ?_
  refine Wcall_K (N := 10) hm hQ20 26000 (lst []) ok26 Tryd.func26 rfl rfl (by simp) (by kernel_rfl) ?_
  have h := f80 b.size b 1 200 0 5 6 [] (hpL [((26002, 1), some ⟨[.fz (.i .i64 0), .fz (.i .i64 0)], true, false⟩)]) (Nat.le_refl _) hb (by omega) (by omega) (by omega) (by simp) (by omega) (by omega) (fun id o ho => by
    simp only [hpL] at ho
    split at ho
    · rename_i e; subst e; simp
    · cases ho)
  rw [enc_box] at h
  repeat' (first | refine ReqK.i (by omega) fun _ => ?_ | simp only [go_sem, reduceIte, reduceCtorEq, Nat.reduceEqDiff, Nat.reduceAdd, Nat.reduceSub, Nat.reduceMul, Nat.reduceDiv, Nat.reduceMod, Nat.reduceLT, Nat.reduceLeDiff, Nat.reduceBEq, Nat.reducePow, Int.reduceLE, Int.reduceLT, Int.reduceEq, Int.reduceNeg, Int.reduceAdd, Int.reduceToNat, Tryd.f26, Q20, Q19, Q18, Q17, Q16, Q15, Q14, Q13, Q12, Q11, Q10, Q9, Q8, Q7, Q6, Q5, Q4, Q3, Q2, Q1, Tbl0])
  refine WcallK.i (Wcall_hd rfl (Wcall_g (args' := [.fz (.agg [.sl (b.refs.map enc), .sl (b.conds.map enc)]), .fz (.i .i64 1), .fz (.i .i64 200), .ptr (26003, 2) 0, .ptr (26004, 3) 0, .ptr (26005, 4) 0])
    (hl := HHv 0 [] 5 ++ [((26002, 1), some ⟨[.fz (.i .i64 0), .fz (.i .i64 0)], true, false⟩)]) (n' := 6) [] [(80070, 5)] [] rfl ?_ ?_ ?_ ?_ ?_ ?_))
  case _ => omega
  case _ => simp only [go_sem, reduceIte, reduceCtorEq, Nat.reduceEqDiff, Nat.reduceAdd, Nat.reduceSub, Nat.reduceMul, Nat.reduceDiv, Nat.reduceMod, Nat.reduceLT, Nat.reduceLeDiff, Nat.reduceBEq, Nat.reducePow, Int.reduceLE, Int.reduceLT, Int.reduceEq, Int.reduceNeg, Int.reduceAdd, Int.reduceToNat]
  case _ => simp only [go_sem, reduceIte, reduceCtorEq, Nat.reduceEqDiff, Nat.reduceAdd, Nat.reduceSub, Nat.reduceMul, Nat.reduceDiv, Nat.reduceMod, Nat.reduceLT, Nat.reduceLeDiff, Nat.reduceBEq, Nat.reducePow, Int.reduceLE, Int.reduceLT, Int.reduceEq, Int.reduceNeg, Int.reduceAdd, Int.reduceToNat, HHv]; first | done | rfl | trace_state
  case _ => simp only [go_sem, reduceIte, reduceCtorEq, Nat.reduceEqDiff, Nat.reduceAdd, Nat.reduceSub, Nat.reduceMul, Nat.reduceDiv, Nat.reduceMod, Nat.reduceLT, Nat.reduceLeDiff, Nat.reduceBEq, Nat.reducePow, Int.reduceLE, Int.reduceLT, Int.reduceEq, Int.reduceNeg, Int.reduceAdd, Int.reduceToNat, HHv]; first | done | rfl | trace_state
  case _ => simp only [go_sem, reduceIte, reduceCtorEq, Nat.reduceEqDiff, Nat.reduceAdd, Nat.reduceSub, Nat.reduceMul, Nat.reduceDiv, Nat.reduceMod, Nat.reduceLT, Nat.reduceLeDiff, Nat.reduceBEq, Nat.reducePow, Int.reduceLE, Int.reduceLT, Int.reduceEq, Int.reduceNeg, Int.reduceAdd, Int.reduceToNat]; first | done | rfl | trace_state
  rw [hpL_app]
  refine Wcall_mono h ?_
  rintro d' H' n' ⟨rfl, e1, e2, e3⟩
  have b2 := e3 (26002, 1) ⟨[.fz (.i .i64 0), .fz (.i .i64 0)], true, false⟩ (by simp only [go_sem, reduceIte, reduceCtorEq, Nat.reduceEqDiff, Nat.reduceAdd, Nat.reduceSub, Nat.reduceMul, Nat.reduceDiv, Nat.reduceMod, Nat.reduceLT, Nat.reduceLeDiff, Nat.reduceBEq, Nat.reducePow, Int.reduceLE, Int.reduceLT, Int.reduceEq, Int.reduceNeg, Int.reduceAdd, Int.reduceToNat])
  rw [show H' = hpX [] H' from rfl]
  repeat' (first | refine ReqK.i (by omega) fun _ => ?_ | simp only [go_sem, reduceIte, reduceCtorEq, Nat.reduceEqDiff, Nat.reduceAdd, Nat.reduceSub, Nat.reduceMul, Nat.reduceDiv, Nat.reduceMod, Nat.reduceLT, Nat.reduceLeDiff, Nat.reduceBEq, Nat.reducePow, Int.reduceLE, Int.reduceLT, Int.reduceEq, Int.reduceNeg, Int.reduceAdd, Int.reduceToNat, agg2, b2, boxM, Tryd.f26])
end Go.Proofs.YtomhobohcejocaaDoor
