import Derived.Test.YtoicheicnbjfeaaDoorQ40E
import Derived.Test.YtoicheicnbjfeaaDoorEV
set_option linter.unusedSimpArgs false
namespace Go.Proofs.YtoicheicnbjfeaaDoor
open Go Go.Abs Go.Proofs

/-! ## small functions of the package event, and of the document -/
def V29 : Tbl := R28.add 105 (sp2 predM fun _ _ => True)
set_option maxRecDepth 100000 in
set_option maxHeartbeats 1000000 in
theorem hV29 : TblOk Tryd.prog GA V29 := by
  refine sp2_ok ok105 hR28 fun nm w _ _ hs => ?_
  refine Wcall_K (N := 8) hm hR28 105000 (lst []) ok105 Tryd.func105 rfl rfl (by simp) (by kernel_rfl) ?_
  repeat' (first | refine ReqK.i (by omega) fun _ => ?_ | refine ReqK.i (by unfold maxL; omega) fun _ => ?_ | simp only [go_sem, reduceIte, reduceCtorEq, Nat.reduceEqDiff, Nat.reduceAdd, Nat.reduceSub, Nat.reduceMul, Nat.reduceDiv, Nat.reduceMod, Nat.reduceLT, Nat.reduceLeDiff, Nat.reduceBEq, Nat.reducePow, Int.reduceLE, Int.reduceLT, Int.reduceEq, Int.reduceNeg, Int.reduceAdd, Int.reduceToNat, Tryd.f105, predM])
def V30 : Tbl := V29.add 107 (sp2 andF fun _ _ => True)
set_option maxRecDepth 100000 in
set_option maxHeartbeats 1000000 in
theorem hV30 : TblOk Tryd.prog GA V30 := by
  refine sp2_ok ok107 hV29 fun f g _ _ _ => ?_
  simp only [andF]
  refine Wcall_K (N := 9) hm hV29 107000 (lst []) ok107 Tryd.func107 rfl rfl (by simp) (by kernel_rfl) ?_
  repeat' (first | refine ReqK.i (by omega) fun _ => ?_ | refine ReqK.i (by unfold maxL; omega) fun _ => ?_ | simp only [go_sem, reduceIte, reduceCtorEq, Nat.reduceEqDiff, Nat.reduceAdd, Nat.reduceSub, Nat.reduceMul, Nat.reduceDiv, Nat.reduceMod, Nat.reduceLT, Nat.reduceLeDiff, Nat.reduceBEq, Nat.reducePow, Int.reduceLE, Int.reduceLT, Int.reduceEq, Int.reduceNeg, Int.reduceAdd, Int.reduceToNat, form_eta, Tryd.f107, V29, R28, R27, R22, R21, R20, R19, R18, R17, R16, R15, R14, R13, R12, R11, R10, R9, R8, R7, R6, R5, R4, R3, R2, R1, Q20, Q19, Q18, Q17, Q16, Q15, Q14, Q13, Q12, Q11, Q10, Q9, Q8, Q7, Q6, Q5, Q4, Q3, Q2, Q1, Tbl0])
def argI (i : Int) : Str := argS i.toNat
def V31 : Tbl := V30.add 104 (sp1 argI fun i => 0 ≤ i ∧ i ≤ 1000)
set_option maxRecDepth 100000 in
set_option maxHeartbeats 1000000 in
theorem hV31 : TblOk Tryd.prog GA V31 := by
  refine sp1_ok ok104 hV30 fun i hi _ => ?_
  obtain ⟨k, rfl⟩ : ∃ k : Nat, i = (k : Int) := ⟨i.toNat, by omega⟩
  have hdl := digits_len (k + 1)
  have e : argI (k : Int) = argS k := rfl
  have e2 : (argS k).l = 97 :: 114 :: 103 :: digits (k + 1) := rfl
  have e3 : (itoaS ((k : Int) + 1)).l = digits (k + 1) := itoaS_nat (k + 1)
  rw [e]
  refine Wcall_K (N := 7) hm hV30 104000 (lst []) ok104 Tryd.func104 rfl rfl (by simp) (by kernel_rfl) ?_
  repeat' (first | refine ReqK.i ⟨by omega, by omega⟩ fun _ => ?_ | refine ReqK.i (by omega) fun _ => ?_ | refine ReqK.i (by unfold maxL; omega) fun _ => ?_ | simp only [go_sem, reduceIte, reduceCtorEq, Nat.reduceEqDiff, Nat.reduceAdd, Nat.reduceSub, Nat.reduceMul, Nat.reduceDiv, Nat.reduceMod, Nat.reduceLT, Nat.reduceLeDiff, Nat.reduceBEq, Nat.reducePow, Int.reduceLE, Int.reduceLT, Int.reduceEq, Int.reduceNeg, Int.reduceAdd, Int.reduceToNat, e2, e3, Tryd.f104, V30, V29, R28, R27, R22, R21, R20, R19, R18, R17, R16, R15, R14, R13, R12, R11, R10, R9, R8, R7, R6, R5, R4, R3, R2, R1, Q20, Q19, Q18, Q17, Q16, Q15, Q14, Q13, Q12, Q11, Q10, Q9, Q8, Q7, Q6, Q5, Q4, Q3, Q2, Q1, Tbl0])
def V32 : Tbl := V31
theorem hV32 : TblOk Tryd.prog GA V32 := hV31
def V33 : Tbl := V32.add 100 (sp1p (fun f : Abs.Form => (doneF f, doneE f)) szPre)
set_option maxRecDepth 100000 in
set_option maxHeartbeats 1000000 in
theorem hV33 : TblOk Tryd.prog GA V33 := by
  refine sp1p_ok ok100 hV32 fun f hpre hw => ?_
  cases hf : fitsM f with
  | true =>
    have h1 := of_decide_eq_true hf
    have hp : f.fit = true ∧ f.size ≤ 1000 := ⟨hpre.1, by omega⟩
    have e1 : doneF f = canonM f [] := by unfold doneF; rw [if_pos hf]
    have e2 : doneE f = ⟨0, 0⟩ := by unfold doneE; rw [if_pos hf]
    obtain ⟨c, hc⟩ : ∃ c, canonM f [] = c := ⟨_, rfl⟩
    simp only [e1, e2, hc]
    refine Wcall_K (N := 12) hm hV32 100000 (lst []) ok100 Tryd.func100 rfl rfl (by simp) (by kernel_rfl) ?_
    repeat' (first | refine ReqK.i hpre fun _ => ?_ | refine ReqK.i hp fun _ => ?_ | refine ReqK.i (by omega) fun _ => ?_ | refine ReqK.i (by unfold maxL; omega) fun _ => ?_ | simp only [go_sem, reduceIte, reduceCtorEq, Nat.reduceEqDiff, Nat.reduceAdd, Nat.reduceSub, Nat.reduceMul, Nat.reduceDiv, Nat.reduceMod, Nat.reduceLT, Nat.reduceLeDiff, Nat.reduceBEq, Nat.reducePow, Int.reduceLE, Int.reduceLT, Int.reduceEq, Int.reduceNeg, Int.reduceAdd, Int.reduceToNat, hf, hc, form_eta, Tryd.f100, V32, V31, V30, V29, R28, R27, R22, R21, R20, R19, R18, R17, R16, R15, R14, R13, R12, R11, R10, R9, R8, R7, R6, R5, R4, R3, R2, R1, Q20, Q19, Q18, Q17, Q16, Q15, Q14, Q13, Q12, Q11, Q10, Q9, Q8, Q7, Q6, Q5, Q4, Q3, Q2, Q1, Tbl0])
  | false =>
    have e1 : doneF f = zeroF := by unfold doneF; rw [if_neg (by simp [hf])]
    have e2 : doneE f = ⟨1, -1⟩ := by unfold doneE; rw [if_neg (by simp [hf])]
    simp only [e1, e2, zeroF]
    refine Wcall_K (N := 12) hm hV32 100000 (lst []) ok100 Tryd.func100 rfl rfl (by simp) (by kernel_rfl) ?_
    repeat' (first | refine ReqK.i hpre fun _ => ?_ | refine ReqK.i (by omega) fun _ => ?_ | refine ReqK.i (by unfold maxL; omega) fun _ => ?_ | simp only [go_sem, reduceIte, reduceCtorEq, Nat.reduceEqDiff, Nat.reduceAdd, Nat.reduceSub, Nat.reduceMul, Nat.reduceDiv, Nat.reduceMod, Nat.reduceLT, Nat.reduceLeDiff, Nat.reduceBEq, Nat.reducePow, Int.reduceLE, Int.reduceLT, Int.reduceEq, Int.reduceNeg, Int.reduceAdd, Int.reduceToNat, hf, form_eta, Tryd.f100, V32, V31, V30, V29, R28, R27, R22, R21, R20, R19, R18, R17, R16, R15, R14, R13, R12, R11, R10, R9, R8, R7, R6, R5, R4, R3, R2, R1, Q20, Q19, Q18, Q17, Q16, Q15, Q14, Q13, Q12, Q11, Q10, Q9, Q8, Q7, Q6, Q5, Q4, Q3, Q2, Q1, Tbl0])
end Go.Proofs.YtoicheicnbjfeaaDoor
