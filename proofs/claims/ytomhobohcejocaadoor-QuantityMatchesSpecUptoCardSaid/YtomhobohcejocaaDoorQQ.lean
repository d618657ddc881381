/- several texts of this proof in one; no conditions -/
import Derived.Test.YtomhobohcejocaaDoorQ40
import Derived.Test.YtomhobohcejocaaDoorAL
set_option linter.unusedSimpArgs false
namespace Go.Proofs.YtomhobohcejocaaDoor
open Go Go.Abs Go.Proofs

/-! ## small functions of the package quantity, and of the laws -/
def R29 : Tbl := R28.add 113 (sp1 notF fun _ => True)
set_option maxRecDepth 100000 in
set_option maxHeartbeats 1000000 in
theorem hR29 : TblOk Tryd.prog GA R29 := by
  refine sp1_ok ok113 hR28 fun f _ _ => ?_
  simp only [notF]
  refine Wcall_K (N := 6) hm hR28 113000 (lst []) ok113 Tryd.func113 rfl rfl (by simp) (by kernel_rfl) ?_
  repeat' (first | refine ReqK.i (by omega) fun _ => ?_ | refine ReqK.i (by unfold maxL; omega) fun _ => ?_ | simp only [go_sem, reduceIte, reduceCtorEq, Nat.reduceEqDiff, Nat.reduceAdd, Nat.reduceSub, Nat.reduceMul, Nat.reduceDiv, Nat.reduceMod, Nat.reduceLT, Nat.reduceLeDiff, Nat.reduceBEq, Nat.reducePow, Int.reduceLE, Int.reduceLT, Int.reduceEq, Int.reduceNeg, Int.reduceAdd, Int.reduceToNat, form_eta, Tryd.f113, R28, R27, R26, R25, R24, R23, R22, R21, R20, R19, R18, R17, R16, R15, R14, R13, R12, R11, R10, R9, R8, R7, R6, R5, R4, R3, R2, R1, Q20, Q19, Q18, Q17, Q16, Q15, Q14, Q13, Q12, Q11, Q10, Q9, Q8, Q7, Q6, Q5, Q4, Q3, Q2, Q1, Tbl0])
def R30 : Tbl := R29.add 39 (sp1 notF fun _ => True)
set_option maxRecDepth 100000 in
set_option maxHeartbeats 1000000 in
theorem hR30 : TblOk Tryd.prog GA R30 := by
  refine sp1_ok ok39 hR29 fun f _ _ => ?_
  simp only [notF]
  refine Wcall_K (N := 6) hm hR29 39000 (lst []) ok39 Tryd.func39 rfl rfl (by simp) (by kernel_rfl) ?_
  repeat' (first | refine ReqK.i (by omega) fun _ => ?_ | refine ReqK.i (by unfold maxL; omega) fun _ => ?_ | simp only [go_sem, reduceIte, reduceCtorEq, Nat.reduceEqDiff, Nat.reduceAdd, Nat.reduceSub, Nat.reduceMul, Nat.reduceDiv, Nat.reduceMod, Nat.reduceLT, Nat.reduceLeDiff, Nat.reduceBEq, Nat.reducePow, Int.reduceLE, Int.reduceLT, Int.reduceEq, Int.reduceNeg, Int.reduceAdd, Int.reduceToNat, form_eta, Tryd.f39, R29, R28, R27, R26, R25, R24, R23, R22, R21, R20, R19, R18, R17, R16, R15, R14, R13, R12, R11, R10, R9, R8, R7, R6, R5, R4, R3, R2, R1, Q20, Q19, Q18, Q17, Q16, Q15, Q14, Q13, Q12, Q11, Q10, Q9, Q8, Q7, Q6, Q5, Q4, Q3, Q2, Q1, Tbl0])
def R31 : Tbl := R30.add 114 (sp2 andF fun _ _ => True)
set_option maxRecDepth 100000 in
set_option maxHeartbeats 1000000 in
theorem hR31 : TblOk Tryd.prog GA R31 := by
  refine sp2_ok ok114 hR30 fun f g _ _ _ => ?_
  simp only [andF]
  refine Wcall_K (N := 9) hm hR30 114000 (lst []) ok114 Tryd.func114 rfl rfl (by simp) (by kernel_rfl) ?_
  repeat' (first | refine ReqK.i (by omega) fun _ => ?_ | refine ReqK.i (by unfold maxL; omega) fun _ => ?_ | simp only [go_sem, reduceIte, reduceCtorEq, Nat.reduceEqDiff, Nat.reduceAdd, Nat.reduceSub, Nat.reduceMul, Nat.reduceDiv, Nat.reduceMod, Nat.reduceLT, Nat.reduceLeDiff, Nat.reduceBEq, Nat.reducePow, Int.reduceLE, Int.reduceLT, Int.reduceEq, Int.reduceNeg, Int.reduceAdd, Int.reduceToNat, form_eta, Tryd.f114, R30, R29, R28, R27, R26, R25, R24, R23, R22, R21, R20, R19, R18, R17, R16, R15, R14, R13, R12, R11, R10, R9, R8, R7, R6, R5, R4, R3, R2, R1, Q20, Q19, Q18, Q17, Q16, Q15, Q14, Q13, Q12, Q11, Q10, Q9, Q8, Q7, Q6, Q5, Q4, Q3, Q2, Q1, Tbl0])
def boundM (k : Int) (x : Str) (f : Abs.Form) : Abs.Form := .mk k x [] [f]
def R32 : Tbl := R31.add 42 (sp3 boundM fun _ _ _ => True)
set_option maxRecDepth 100000 in
set_option maxHeartbeats 1000000 in
theorem hR32 : TblOk Tryd.prog GA R32 := by
  refine sp3_ok ok42 hR31 fun k x f _ _ _ _ => ?_
  simp only [boundM]
  refine Wcall_K (N := 12) hm hR31 42000 (lst []) ok42 Tryd.func42 rfl rfl (by simp) (by kernel_rfl) ?_
  repeat' (first | refine ReqK.i (by omega) fun _ => ?_ | refine ReqK.i (by unfold maxL; omega) fun _ => ?_ | simp only [go_sem, reduceIte, reduceCtorEq, Nat.reduceEqDiff, Nat.reduceAdd, Nat.reduceSub, Nat.reduceMul, Nat.reduceDiv, Nat.reduceMod, Nat.reduceLT, Nat.reduceLeDiff, Nat.reduceBEq, Nat.reducePow, Int.reduceLE, Int.reduceLT, Int.reduceEq, Int.reduceNeg, Int.reduceAdd, Int.reduceToNat, form_eta, Tryd.f42, R31, R30, R29, R28, R27, R26, R25, R24, R23, R22, R21, R20, R19, R18, R17, R16, R15, R14, R13, R12, R11, R10, R9, R8, R7, R6, R5, R4, R3, R2, R1, Q20, Q19, Q18, Q17, Q16, Q15, Q14, Q13, Q12, Q11, Q10, Q9, Q8, Q7, Q6, Q5, Q4, Q3, Q2, Q1, Tbl0])
def qnS (i : Int) : Str := ⟨63 :: digits i.toNat⟩
def R33 : Tbl := R32.add 182 (sp1 qnS fun i => 0 ≤ i ∧ i ≤ 1000)
set_option maxRecDepth 100000 in
set_option maxHeartbeats 1000000 in
theorem hR33 : TblOk Tryd.prog GA R33 := by
  refine sp1_ok ok182 hR32 fun i hi _ => ?_
  obtain ⟨k, rfl⟩ : ∃ k : Nat, i = (k : Int) := ⟨i.toNat, by omega⟩
  have hdl := digits_len k
  have e : qnS (k : Int) = qn k := rfl
  have e2 : (qn k).l = 63 :: digits k := rfl
  rw [e]
  refine Wcall_K (N := 6) hm hR32 182000 (lst []) ok182 Tryd.func182 rfl rfl (by simp) (by kernel_rfl) ?_
  repeat' (first | refine ReqK.i ⟨by omega, by omega⟩ fun _ => ?_ | refine ReqK.i (by omega) fun _ => ?_ | refine ReqK.i (by unfold maxL; omega) fun _ => ?_ | simp only [go_sem, reduceIte, reduceCtorEq, Nat.reduceEqDiff, Nat.reduceAdd, Nat.reduceSub, Nat.reduceMul, Nat.reduceDiv, Nat.reduceMod, Nat.reduceLT, Nat.reduceLeDiff, Nat.reduceBEq, Nat.reducePow, Int.reduceLE, Int.reduceLT, Int.reduceEq, Int.reduceNeg, Int.reduceAdd, Int.reduceToNat, itoaS_nat, e2, Tryd.f182, R32, R31, R30, R29, R28, R27, R26, R25, R24, R23, R22, R21, R20, R19, R18, R17, R16, R15, R14, R13, R12, R11, R10, R9, R8, R7, R6, R5, R4, R3, R2, R1, Q20, Q19, Q18, Q17, Q16, Q15, Q14, Q13, Q12, Q11, Q10, Q9, Q8, Q7, Q6, Q5, Q4, Q3, Q2, Q1, Tbl0])
def checkQ (n : Int) (name : Str) (f : Abs.Form) : Fault := if n < 0 ∨ 3 < n then ⟨3, -1⟩ else if isName name = false then ⟨10, -2⟩ else checkM false f
def R34 : Tbl := R33.add 110 (sp3 checkQ fun _ _ _ => True)
set_option maxRecDepth 100000 in
set_option maxHeartbeats 1000000 in
theorem hR34 : TblOk Tryd.prog GA R34 := by
  refine sp3_ok ok110 hR33 fun n name f _ _ _ _ => ?_
  by_cases h1 : n < 0
  · have e : checkQ n name f = ⟨3, -1⟩ := by unfold checkQ; rw [if_pos (.inl h1)]
    refine Wcall_K (N := 20) hm hR33 110000 (lst []) ok110 Tryd.func110 rfl rfl (by simp) (by kernel_rfl) ?_
    repeat' (first | refine ReqK.i (by omega) fun _ => ?_ | refine ReqK.i (by unfold maxL; omega) fun _ => ?_ | simp only [go_sem, reduceIte, reduceCtorEq, Nat.reduceEqDiff, Nat.reduceAdd, Nat.reduceSub, Nat.reduceMul, Nat.reduceDiv, Nat.reduceMod, Nat.reduceLT, Nat.reduceLeDiff, Nat.reduceBEq, Nat.reducePow, Int.reduceLE, Int.reduceLT, Int.reduceEq, Int.reduceNeg, Int.reduceAdd, Int.reduceToNat, h1, e, form_eta, str_eta, Tryd.f110, R33, R32, R31, R30, R29, R28, R27, R26, R25, R24, R23, R22, R21, R20, R19, R18, R17, R16, R15, R14, R13, R12, R11, R10, R9, R8, R7, R6, R5, R4, R3, R2, R1, Q20, Q19, Q18, Q17, Q16, Q15, Q14, Q13, Q12, Q11, Q10, Q9, Q8, Q7, Q6, Q5, Q4, Q3, Q2, Q1, Tbl0])
  by_cases h2 : 3 < n
  · have e : checkQ n name f = ⟨3, -1⟩ := by unfold checkQ; rw [if_pos (.inr h2)]
    refine Wcall_K (N := 20) hm hR33 110000 (lst []) ok110 Tryd.func110 rfl rfl (by simp) (by kernel_rfl) ?_
    repeat' (first | refine ReqK.i (by omega) fun _ => ?_ | refine ReqK.i (by unfold maxL; omega) fun _ => ?_ | simp only [go_sem, reduceIte, reduceCtorEq, Nat.reduceEqDiff, Nat.reduceAdd, Nat.reduceSub, Nat.reduceMul, Nat.reduceDiv, Nat.reduceMod, Nat.reduceLT, Nat.reduceLeDiff, Nat.reduceBEq, Nat.reducePow, Int.reduceLE, Int.reduceLT, Int.reduceEq, Int.reduceNeg, Int.reduceAdd, Int.reduceToNat, h1, h2, e, form_eta, str_eta, Tryd.f110, R33, R32, R31, R30, R29, R28, R27, R26, R25, R24, R23, R22, R21, R20, R19, R18, R17, R16, R15, R14, R13, R12, R11, R10, R9, R8, R7, R6, R5, R4, R3, R2, R1, Q20, Q19, Q18, Q17, Q16, Q15, Q14, Q13, Q12, Q11, Q10, Q9, Q8, Q7, Q6, Q5, Q4, Q3, Q2, Q1, Tbl0])
  cases h3 : isName name with
  | false =>
    have e : checkQ n name f = ⟨10, -2⟩ := by unfold checkQ; rw [if_neg (by omega), if_pos h3]
    refine Wcall_K (N := 20) hm hR33 110000 (lst []) ok110 Tryd.func110 rfl rfl (by simp) (by kernel_rfl) ?_
    repeat' (first | refine ReqK.i (by omega) fun _ => ?_ | refine ReqK.i (by unfold maxL; omega) fun _ => ?_ | simp only [go_sem, reduceIte, reduceCtorEq, Nat.reduceEqDiff, Nat.reduceAdd, Nat.reduceSub, Nat.reduceMul, Nat.reduceDiv, Nat.reduceMod, Nat.reduceLT, Nat.reduceLeDiff, Nat.reduceBEq, Nat.reducePow, Int.reduceLE, Int.reduceLT, Int.reduceEq, Int.reduceNeg, Int.reduceAdd, Int.reduceToNat, h1, h2, h3, e, form_eta, str_eta, Tryd.f110, R33, R32, R31, R30, R29, R28, R27, R26, R25, R24, R23, R22, R21, R20, R19, R18, R17, R16, R15, R14, R13, R12, R11, R10, R9, R8, R7, R6, R5, R4, R3, R2, R1, Q20, Q19, Q18, Q17, Q16, Q15, Q14, Q13, Q12, Q11, Q10, Q9, Q8, Q7, Q6, Q5, Q4, Q3, Q2, Q1, Tbl0])
  | true =>
    have e : checkQ n name f = checkM false f := by unfold checkQ; rw [if_neg (by omega), if_neg (by simp [h3])]
    refine Wcall_K (N := 20) hm hR33 110000 (lst []) ok110 Tryd.func110 rfl rfl (by simp) (by kernel_rfl) ?_
    repeat' (first | refine ReqK.i (by omega) fun _ => ?_ | refine ReqK.i (by unfold maxL; omega) fun _ => ?_ | simp only [go_sem, reduceIte, reduceCtorEq, Nat.reduceEqDiff, Nat.reduceAdd, Nat.reduceSub, Nat.reduceMul, Nat.reduceDiv, Nat.reduceMod, Nat.reduceLT, Nat.reduceLeDiff, Nat.reduceBEq, Nat.reducePow, Int.reduceLE, Int.reduceLT, Int.reduceEq, Int.reduceNeg, Int.reduceAdd, Int.reduceToNat, h1, h2, h3, e, form_eta, str_eta, Tryd.f110, R33, R32, R31, R30, R29, R28, R27, R26, R25, R24, R23, R22, R21, R20, R19, R18, R17, R16, R15, R14, R13, R12, R11, R10, R9, R8, R7, R6, R5, R4, R3, R2, R1, Q20, Q19, Q18, Q17, Q16, Q15, Q14, Q13, Q12, Q11, Q10, Q9, Q8, Q7, Q6, Q5, Q4, Q3, Q2, Q1, Tbl0])
def R35 : Tbl := R34.add 111 (sp1p (fun f : Abs.Form => (doneF f, doneE f)) szPre)
set_option maxRecDepth 100000 in
set_option maxHeartbeats 1000000 in
theorem hR35 : TblOk Tryd.prog GA R35 := by
  refine sp1p_ok ok111 hR34 fun f hpre hw => ?_
  cases hf : fitsM f with
  | true =>
    have h1 := of_decide_eq_true hf
    have hp : f.fit = true ∧ f.size ≤ 1000 := ⟨hpre.1, by omega⟩
    have e1 : doneF f = canonM f [] := by unfold doneF; rw [if_pos hf]
    have e2 : doneE f = ⟨0, 0⟩ := by unfold doneE; rw [if_pos hf]
    obtain ⟨c, hc⟩ : ∃ c, canonM f [] = c := ⟨_, rfl⟩
    simp only [e1, e2, hc]
    refine Wcall_K (N := 12) hm hR34 111000 (lst []) ok111 Tryd.func111 rfl rfl (by simp) (by kernel_rfl) ?_
    repeat' (first | refine ReqK.i hpre fun _ => ?_ | refine ReqK.i hp fun _ => ?_ | refine ReqK.i (by omega) fun _ => ?_ | refine ReqK.i (by unfold maxL; omega) fun _ => ?_ | simp only [go_sem, reduceIte, reduceCtorEq, Nat.reduceEqDiff, Nat.reduceAdd, Nat.reduceSub, Nat.reduceMul, Nat.reduceDiv, Nat.reduceMod, Nat.reduceLT, Nat.reduceLeDiff, Nat.reduceBEq, Nat.reducePow, Int.reduceLE, Int.reduceLT, Int.reduceEq, Int.reduceNeg, Int.reduceAdd, Int.reduceToNat, hf, hc, form_eta, Tryd.f111, R34, R33, R32, R31, R30, R29, R28, R27, R26, R25, R24, R23, R22, R21, R20, R19, R18, R17, R16, R15, R14, R13, R12, R11, R10, R9, R8, R7, R6, R5, R4, R3, R2, R1, Q20, Q19, Q18, Q17, Q16, Q15, Q14, Q13, Q12, Q11, Q10, Q9, Q8, Q7, Q6, Q5, Q4, Q3, Q2, Q1, Tbl0])
  | false =>
    have e1 : doneF f = zeroF := by unfold doneF; rw [if_neg (by simp [hf])]
    have e2 : doneE f = ⟨1, -1⟩ := by unfold doneE; rw [if_neg (by simp [hf])]
    simp only [e1, e2, zeroF]
    refine Wcall_K (N := 12) hm hR34 111000 (lst []) ok111 Tryd.func111 rfl rfl (by simp) (by kernel_rfl) ?_
    repeat' (first | refine ReqK.i hpre fun _ => ?_ | refine ReqK.i (by omega) fun _ => ?_ | refine ReqK.i (by unfold maxL; omega) fun _ => ?_ | simp only [go_sem, reduceIte, reduceCtorEq, Nat.reduceEqDiff, Nat.reduceAdd, Nat.reduceSub, Nat.reduceMul, Nat.reduceDiv, Nat.reduceMod, Nat.reduceLT, Nat.reduceLeDiff, Nat.reduceBEq, Nat.reducePow, Int.reduceLE, Int.reduceLT, Int.reduceEq, Int.reduceNeg, Int.reduceAdd, Int.reduceToNat, hf, form_eta, Tryd.f111, R34, R33, R32, R31, R30, R29, R28, R27, R26, R25, R24, R23, R22, R21, R20, R19, R18, R17, R16, R15, R14, R13, R12, R11, R10, R9, R8, R7, R6, R5, R4, R3, R2, R1, Q20, Q19, Q18, Q17, Q16, Q15, Q14, Q13, Q12, Q11, Q10, Q9, Q8, Q7, Q6, Q5, Q4, Q3, Q2, Q1, Tbl0])
end Go.Proofs.YtomhobohcejocaaDoor

namespace Go.Abs
open Go
/-! the differences of the program, as they are made -/
def difR (v : Nat → Str) (i m : Nat) : List Abs.Form := (List.range' (i + 1) m).map fun k => notF (.mk 3 ⟨[]⟩ [v i, v k] [])
theorem difR_succ (v : Nat → Str) (i m : Nat) : difR v i (m + 1) = difR v i m ++ [notF (.mk 3 ⟨[]⟩ [v i, v (i + 1 + m)] [])] := by
  unfold difR
  rw [List.range'_concat, List.map_append, Nat.one_mul]; rfl
theorem diffs_eq (v : Nat → Str) (n : Nat) : diffs v n = (List.range n).flatMap fun i => difR v i (n - (i + 1)) := rfl
structure WrapI (v : Nat → Str) (R : Abs.Form) (n n0 : Nat) where
  p : Nat
  c : Abs.Form
  m : Nat
  hp : p ≤ n
  hm : n0 ≤ m
  h : wrap v p c = R
end Go.Abs
namespace Go.Proofs.YtomhobohcejocaaDoor
open Go Go.Abs Go.Proofs

/-! ## quantity.least -/
theorem qn_mk (i : Nat) : Str.mk (63 :: digits i) = qn i := rfl
theorem f182 {i : Int} {H : Heap} {n : Nat} {R : D → Heap → Nat → Prop} (hi : 0 ≤ i ∧ i ≤ 1000) (h : R (.fz (.s (63 :: digits i.toNat))) H n) : Wcall Tryd.prog GA 182 [.fz (.i .i64 i)] H n R :=
  Wcall_tbl hR33 (t := sp1 qnS fun i => 0 ≤ i ∧ i ≤ 1000) (by simp only [R33, Tbl.add, if_true]) rfl k_sp1 ⟨rfl, hi⟩ h
def tree1124 : Tv := (.q 1 (.q 2 (.r 0 (.br [(3, (.q 4 (.br [(5, (.br [(6, .leaf)]))]))), (5, (.br [(3, (.q 4 (.br [(6, .leaf)])))]))]))))
def tree1128 : Tv := (.q 2 (.q 3 (.q 4 (.r 1 (.br [(0, (.br [(5, (.q 6 (.q 7 (.br [(8, .leaf)]))))])), (5, (.q 0 (.q 6 (.q 7 (.br [(8, .leaf)])))))])))))
def tree11215 : Tv := (.q 1 (.q 2 (.q 4 (.q 5 (.br [(0, (.br [(3, (.br [(6, (.q 7 (.q 8 (.q 9 (.q 10 (.br [(11, .leaf)]))))))]))])), (3, (.br [(0, (.br [(6, (.q 7 (.q 8 (.q 9 (.q 10 (.br [(11, .leaf)]))))))])), (6, (.q 0 (.q 7 (.q 8 (.q 9 (.q 10 (.br [(11, .leaf)])))))))]))])))))
def tree11220 : Tv := (.q 0 (.q 1 (.br [(2, (.q 3 (.q 4 (.q 5 (.br [(6, .leaf)]))))), (3, (.q 4 (.br [(2, (.q 5 (.br [(6, .leaf)])))])))])))
def leastPre (n : Int) (_ : Str) (f : Abs.Form) : Prop := 0 ≤ n ∧ n ≤ 4 ∧ (checkM false f).code = 0
def R36 : Tbl := R35.add 112 (sp3 (fun n name f => leastP f name n.toNat) leastPre)
set_option maxRecDepth 100000 in
set_option maxHeartbeats 1000000 in
set_option maxHeartbeats 8000000 in
theorem hR36 : TblOk Tryd.prog GA R36 := by
  refine sp3_ok ok112 hR35 fun n name f hpre _ _ _ => ?_
  obtain ⟨h0, h4, hc⟩ := hpre
  obtain ⟨N, rfl⟩ : ∃ N : Nat, n = (N : Int) := ⟨n.toNat, by omega⟩
  rw [show ((N : Int)).toNat = N from rfl]
  have hput : f.fit = true ∧ f.size ≤ 1000 := ⟨checkM_fit hc, by have := checkM_size hc; omega⟩
  by_cases hz : N = 0
  · subst hz
    have e : leastP f name 0 = .mk 1 ⟨[]⟩ [] [] := rfl
    rw [e]
    refine Wcall_K (N := 70) hm hR35 112000 (lst [1000004, 1000008, 1000015, 1000020]) ok112 Tryd.func112 rfl rfl (by simp) (by kernel_rfl) ?_
    repeat' (first | refine ReqK.i (by omega) fun _ => ?_ | refine ReqK.i (by unfold maxL; omega) fun _ => ?_ | simp only [go_sem, reduceIte, reduceCtorEq, Nat.reduceEqDiff, Nat.reduceAdd, Nat.reduceSub, Nat.reduceMul, Nat.reduceDiv, Nat.reduceMod, Nat.reduceLT, Nat.reduceLeDiff, Nat.reduceBEq, Nat.reducePow, Int.reduceLE, Int.reduceLT, Int.reduceEq, Int.reduceNeg, Int.reduceAdd, Int.reduceToNat, Tryd.f112, R35, R34, R33, R32, R31, R30, R29, R28, R27, R26, R25, R24, R23, R22, R21, R20, R19, R18, R17, R16, R15, R14, R13, R12, R11, R10, R9, R8, R7, R6, R5, R4, R3, R2, R1, Q20, Q19, Q18, Q17, Q16, Q15, Q14, Q13, Q12, Q11, Q10, Q9, Q8, Q7, Q6, Q5, Q4, Q3, Q2, Q1, Tbl0])
  obtain ⟨M, hN⟩ : ∃ M, M + 1 = N := ⟨N - 1, by omega⟩
  have hz' : ((N : Int) = 0) = False := eq_false (by omega)
  obtain ⟨R, hR⟩ : ∃ R, leastP f name N = R := ⟨_, rfl⟩
  obtain ⟨P, hP⟩ : ∃ P : Nat → List Abs.Form, P = fun i => (List.range i).map fun i => canonM f [⟨name, qn i⟩] := ⟨_, rfl⟩
  have hPl : ∀ i, (P i).length = i := fun i => by rw [hP]; simp only [List.length_map, List.length_range]
  obtain ⟨J, hJ⟩ : ∃ J : Nat → Abs.Form, J = fun i => joinM 5 (P (i + 1)) := ⟨_, rfl⟩
  have hJ0 : J 0 = canonM f [⟨name, qn 0⟩] := by rw [hJ, hP]; rfl
  have hJs : ∀ i, J (i + 1) = andF (J i) (canonM f [⟨name, qn (i + 1)⟩]) := fun i => by
    have : P (i + 1 + 1) = P (i + 1) ++ [canonM f [⟨name, qn (i + 1)⟩]] := by rw [hP]; simp only [List.range_succ (n := i + 1), List.map_append, List.map_cons, List.map_nil]
    rw [hJ]; simp only [this]
    exact joinM_snoc 5 (list_ne (by rw [hPl]; omega)) _
  obtain ⟨L, hL⟩ : ∃ L : Nat → List Abs.Form, L = fun i => P N ++ (List.range i).flatMap fun i => difR qn i (N - (i + 1)) := ⟨_, rfl⟩
  have hLn : ∀ i, L i ≠ [] := fun i => list_ne (by rw [hL]; simp only [List.length_append, hPl]; omega)
  obtain ⟨V, hV⟩ : ∃ V : Nat → Nat → Abs.Form, V = fun i m => joinM 5 (L i ++ difR qn i m) := ⟨_, rfl⟩
  obtain ⟨W, hW⟩ : ∃ W : Nat → Abs.Form, W = fun i => joinM 5 (L i) := ⟨_, rfl⟩
  have hW0 : W 0 = J M := by rw [hW, hJ, hL]; simp only [List.range_zero, List.flatMap_nil, List.append_nil, hN]
  have hV0 : ∀ i, V i 0 = W i := fun i => by rw [hV, hW]; simp [difR]
  have hVs : ∀ i m, V i (m + 1) = andF (V i m) (notF (.mk 3 ⟨[]⟩ [qn i, qn (i + 1 + m)] [])) := fun i m => by
    rw [hV]; simp only [difR_succ, ← List.append_assoc]
    exact joinM_snoc 5 (by simp [hLn i]) _
  have hVe : ∀ i, V i (N - (i + 1)) = W (i + 1) := fun i => by
    rw [hV, hW]
    have : L (i + 1) = L i ++ difR qn i (N - (i + 1)) := by rw [hL]; simp only [List.range_succ, List.flatMap_append, List.flatMap_singleton, List.append_assoc]
    simp only [this]
  have hWe : wrap qn N (W N) = R := by
    rw [← hR]
    unfold leastP leastG
    rw [if_neg (by omega), hW, hL, hP, diffs_eq]
  rw [hR]
  have kJ := Kp.mk hJs
  have kV := Kp.mk hVs
  have kVe := Kp.mk hVe
  have kV0 := Kp.mk hV0
  clear hP hPl hJ hJs hL hLn hV hW hVs hVe hV0 hR
  refine Wcall_K (N := 70) hm hR35 112000 (lst [1000004, 1000008, 1000015, 1000020]) ok112 Tryd.func112 rfl rfl (by simp) (by kernel_rfl) ?_
  repeat' (first | refine ReqK.i (by omega) fun _ => ?_ | refine ReqK.i (by unfold maxL; omega) fun _ => ?_ | simp only [go_sem, reduceIte, reduceCtorEq, Nat.reduceEqDiff, Nat.reduceAdd, Nat.reduceSub, Nat.reduceMul, Nat.reduceDiv, Nat.reduceMod, Nat.reduceLT, Nat.reduceLeDiff, Nat.reduceBEq, Nat.reducePow, Int.reduceLE, Int.reduceLT, Int.reduceEq, Int.reduceNeg, Int.reduceAdd, Int.reduceToNat, hz', Tryd.f112, R35, R34, R33, R32, R31, R30, R29, R28, R27, R26, R25, R24, R23, R22, R21, R20, R19, R18, R17, R16, R15, R14, R13, R12, R11, R10, R9, R8, R7, R6, R5, R4, R3, R2, R1, Q20, Q19, Q18, Q17, Q16, Q15, Q14, Q13, Q12, Q11, Q10, Q9, Q8, Q7, Q6, Q5, Q4, Q3, Q2, Q1, Tbl0])
  refine WK_weak2 (Weak_rpL (id := (112005, 0)) (t := 5) (b := true) (ys := [.i .i64 f.kind, .s f.name.l, .sl (f.words.map enc), .sl (f.subs.map enc)]) (by simp only [go_sem, reduceIte, reduceCtorEq, Nat.reduceEqDiff, Nat.reduceAdd, Nat.reduceSub, Nat.reduceMul, Nat.reduceDiv, Nat.reduceMod, Nat.reduceLT, Nat.reduceLeDiff, Nat.reduceBEq, Nat.reducePow, Int.reduceLE, Int.reduceLT, Int.reduceEq, Int.reduceNeg, Int.reduceAdd, Int.reduceToNat]) (by simp only [go_sem, reduceIte, reduceCtorEq, Nat.reduceEqDiff, Nat.reduceAdd, Nat.reduceSub, Nat.reduceMul, Nat.reduceDiv, Nat.reduceMod, Nat.reduceLT, Nat.reduceLeDiff, Nat.reduceBEq, Nat.reducePow, Int.reduceLE, Int.reduceLT, Int.reduceEq, Int.reduceNeg, Int.reduceAdd, Int.reduceToNat])) ?_
  obtain ⟨j0, hj0⟩ : ∃ j, canonM f [⟨name, qn 0⟩] = j := ⟨_, rfl⟩
  rw [hj0] at hJ0
  have hd0 : Str.mk (63 :: digits (Int.toNat 0)) = qn 0 := rfl
  have hq0 : qnS 0 = qn 0 := rfl
  have hqn : ∀ i : Nat, qnS (i : Int) = qn i := fun i => rfl
  have hqs : ∀ i : Nat, qnS ((i : Int) + 1) = qn (i + 1) := fun i => rfl
  refine WK_drawV hm hR35 112000 (lst [1000004, 1000008, 1000015, 1000020]) tree1124 (by kernel_rfl) (by kernel_rfl) ?_
  repeat' (first | refine And.intro ?_ ?_ | exact True.intro | refine ReqK.i hput fun _ => ?_ | refine WcallK.i (f182 (by omega) ?_) | refine ReqK.i (by omega) fun _ => ?_ | refine ReqK.i (by unfold maxL; omega) fun _ => ?_ | simp only [go_sem, reduceIte, reduceCtorEq, Nat.reduceEqDiff, Nat.reduceAdd, Nat.reduceSub, Nat.reduceMul, Nat.reduceDiv, Nat.reduceMod, Nat.reduceLT, Nat.reduceLeDiff, Nat.reduceBEq, Nat.reducePow, Int.reduceLE, Int.reduceLT, Int.reduceEq, Int.reduceNeg, Int.reduceAdd, Int.reduceToNat, tree1124, hq0, hj0, form_eta, str_eta, Tryd.f112, R35, R34, R33, R32, R31, R30, R29, R28, R27, R26, R25, R24, R23, R22, R21, R20, R19, R18, R17, R16, R15, R14, R13, R12, R11, R10, R9, R8, R7, R6, R5, R4, R3, R2, R1, Q20, Q19, Q18, Q17, Q16, Q15, Q14, Q13, Q12, Q11, Q10, Q9, Q8, Q7, Q6, Q5, Q4, Q3, Q2, Q1, Tbl0])
  all_goals
    refine WK_loop hm hR35 112000 (lst [1000004, 1000008, 1000015, 1000020]) (ι := LoopI M fun _ => True)
      ⟨fun q => ⟨frL [(0, .fz (.i .i64 N)), (1, .fz (.s name.l)), (5, .rp [.i .i64 f.kind, .s f.name.l, .sl (f.words.map enc), .sl (f.subs.map enc)]), (6, .ptr (112006, 1) 0), (7, .fn 182 []), (8, .ptr (112008, 2) 0), (9, .fz (.i .i64 ((q.i + 1 : Nat) : Int)))], hpL [((112006, 1), some ⟨[.fz (.i .i64 0), .fz (.s []), .full [], .full []], true, false⟩), ((112008, 2), some ⟨[.fz (.i .i64 (J q.i).kind), .fz (.s (J q.i).name.l), .fz (.sl ((J q.i).words.map enc)), .fz (.sl ((J q.i).subs.map enc))], true, false⟩)], 3⟩, fun q => M - q.i⟩
      ⟨0, by omega, trivial⟩ (by kernel_rfl) ?_ ?_
    · refine Weak_to ?_ ?_ ?_ <;> simp only [go_sem, reduceIte, reduceCtorEq, Nat.reduceEqDiff, Nat.reduceAdd, Nat.reduceSub, Nat.reduceMul, Nat.reduceDiv, Nat.reduceMod, Nat.reduceLT, Nat.reduceLeDiff, Nat.reduceBEq, Nat.reducePow, Int.reduceLE, Int.reduceLT, Int.reduceEq, Int.reduceNeg, Int.reduceAdd, Int.reduceToNat, hJ0]
      all_goals first | done | rfl | trace_state
    rintro ⟨i, hi, _⟩
    try simp only at hi
    rcases Nat.lt_or_ge i M with h1 | h1
    · have h1' : ((i : Int) + 1 < (N : Int)) = True := eq_true (by omega)
      have hs := kJ.out i
      obtain ⟨y, hy⟩ : ∃ y, canonM f [⟨name, qn (i + 1)⟩] = y := ⟨_, rfl⟩
      obtain ⟨z, hzz⟩ : ∃ z, J i = z := ⟨_, rfl⟩
      rw [hy, hzz] at hs
      repeat' (first | refine ReqK.i (by omega) fun _ => ?_ | refine ReqK.i (by unfold maxL; omega) fun _ => ?_ | simp only [go_sem, reduceIte, reduceCtorEq, Nat.reduceEqDiff, Nat.reduceAdd, Nat.reduceSub, Nat.reduceMul, Nat.reduceDiv, Nat.reduceMod, Nat.reduceLT, Nat.reduceLeDiff, Nat.reduceBEq, Nat.reducePow, Int.reduceLE, Int.reduceLT, Int.reduceEq, Int.reduceNeg, Int.reduceAdd, Int.reduceToNat, h1', hzz, str_eta, Tryd.f112, R35, R34, R33, R32, R31, R30, R29, R28, R27, R26, R25, R24, R23, R22, R21, R20, R19, R18, R17, R16, R15, R14, R13, R12, R11, R10, R9, R8, R7, R6, R5, R4, R3, R2, R1, Q20, Q19, Q18, Q17, Q16, Q15, Q14, Q13, Q12, Q11, Q10, Q9, Q8, Q7, Q6, Q5, Q4, Q3, Q2, Q1, Tbl0])
      refine WK_drawV hm hR35 112000 (lst [1000004, 1000008, 1000015, 1000020]) tree1128 (by kernel_rfl) (by kernel_rfl) ?_
      repeat' (first | refine And.intro ?_ ?_ | exact True.intro | refine ReqK.i hput fun _ => ?_ | refine WcallK.i (f182 (by omega) ?_) | refine ReqK.i (by omega) fun _ => ?_ | refine ReqK.i (by unfold maxL; omega) fun _ => ?_ | simp only [go_sem, reduceIte, reduceCtorEq, Nat.reduceEqDiff, Nat.reduceAdd, Nat.reduceSub, Nat.reduceMul, Nat.reduceDiv, Nat.reduceMod, Nat.reduceLT, Nat.reduceLeDiff, Nat.reduceBEq, Nat.reducePow, Int.reduceLE, Int.reduceLT, Int.reduceEq, Int.reduceNeg, Int.reduceAdd, Int.reduceToNat, tree1128, hqs, hy, hzz, form_eta, str_eta, Tryd.f112, R35, R34, R33, R32, R31, R30, R29, R28, R27, R26, R25, R24, R23, R22, R21, R20, R19, R18, R17, R16, R15, R14, R13, R12, R11, R10, R9, R8, R7, R6, R5, R4, R3, R2, R1, Q20, Q19, Q18, Q17, Q16, Q15, Q14, Q13, Q12, Q11, Q10, Q9, Q8, Q7, Q6, Q5, Q4, Q3, Q2, Q1, Tbl0])
      all_goals
        refine ⟨⟨i + 1, by omega, trivial⟩, by simp only; omega, ?_⟩
        refine Weak_to ?_ ?_ ?_ <;> simp only [go_sem, reduceIte, reduceCtorEq, Nat.reduceEqDiff, Nat.reduceAdd, Nat.reduceSub, Nat.reduceMul, Nat.reduceDiv, Nat.reduceMod, Nat.reduceLT, Nat.reduceLeDiff, Nat.reduceBEq, Nat.reducePow, Int.reduceLE, Int.reduceLT, Int.reduceEq, Int.reduceNeg, Int.reduceAdd, Int.reduceToNat, hs]
        all_goals first | done | rfl | trace_state
    obtain rfl : i = M := by omega
    have h1' : ((i : Int) + 1 < (N : Int)) = False := eq_false (by omega)
    repeat' (first | refine ReqK.i (by omega) fun _ => ?_ | refine ReqK.i (by unfold maxL; omega) fun _ => ?_ | simp only [go_sem, reduceIte, reduceCtorEq, Nat.reduceEqDiff, Nat.reduceAdd, Nat.reduceSub, Nat.reduceMul, Nat.reduceDiv, Nat.reduceMod, Nat.reduceLT, Nat.reduceLeDiff, Nat.reduceBEq, Nat.reducePow, Int.reduceLE, Int.reduceLT, Int.reduceEq, Int.reduceNeg, Int.reduceAdd, Int.reduceToNat, h1', Tryd.f112, R35, R34, R33, R32, R31, R30, R29, R28, R27, R26, R25, R24, R23, R22, R21, R20, R19, R18, R17, R16, R15, R14, R13, R12, R11, R10, R9, R8, R7, R6, R5, R4, R3, R2, R1, Q20, Q19, Q18, Q17, Q16, Q15, Q14, Q13, Q12, Q11, Q10, Q9, Q8, Q7, Q6, Q5, Q4, Q3, Q2, Q1, Tbl0])
    refine WK_loop hm hR35 112000 (lst [1000004, 1000008, 1000015, 1000020]) (ι := LoopI N fun _ => True)
      ⟨fun q => ⟨frL [(0, .fz (.i .i64 N)), (1, .fz (.s name.l)), (5, .rp [.i .i64 f.kind, .s f.name.l, .sl (f.words.map enc), .sl (f.subs.map enc)]), (6, .ptr (112006, 1) 0), (7, .fn 182 []), (8, .ptr (112008, 2) 0), (34, .fz (.i .i64 N)), (35, .fz (.i .i64 q.i))], hpL [((112006, 1), some ⟨[.fz (.i .i64 0), .fz (.s []), .full [], .full []], true, false⟩), ((112008, 2), some ⟨[.fz (.i .i64 (W q.i).kind), .fz (.s (W q.i).name.l), .fz (.sl ((W q.i).words.map enc)), .fz (.sl ((W q.i).subs.map enc))], true, false⟩)], 3⟩, fun q => N - q.i⟩
      ⟨0, by omega, trivial⟩ (by kernel_rfl) ?_ ?_
    · refine Weak_to ?_ ?_ ?_ <;> simp only [go_sem, reduceIte, reduceCtorEq, Nat.reduceEqDiff, Nat.reduceAdd, Nat.reduceSub, Nat.reduceMul, Nat.reduceDiv, Nat.reduceMod, Nat.reduceLT, Nat.reduceLeDiff, Nat.reduceBEq, Nat.reducePow, Int.reduceLE, Int.reduceLT, Int.reduceEq, Int.reduceNeg, Int.reduceAdd, Int.reduceToNat, hW0]
      all_goals first | done | rfl | trace_state
    rintro ⟨i2, hi2, _⟩
    try simp only at hi2
    rcases Nat.lt_or_ge i2 N with h2 | h2
    · have hv0 := kV0.out i2
      have hve := kVe.out i2
      repeat' (first | refine ReqK.i (by omega) fun _ => ?_ | refine ReqK.i (by unfold maxL; omega) fun _ => ?_ | simp only [go_sem, reduceIte, reduceCtorEq, Nat.reduceEqDiff, Nat.reduceAdd, Nat.reduceSub, Nat.reduceMul, Nat.reduceDiv, Nat.reduceMod, Nat.reduceLT, Nat.reduceLeDiff, Nat.reduceBEq, Nat.reducePow, Int.reduceLE, Int.reduceLT, Int.reduceEq, Int.reduceNeg, Int.reduceAdd, Int.reduceToNat, h2, Tryd.f112, R35, R34, R33, R32, R31, R30, R29, R28, R27, R26, R25, R24, R23, R22, R21, R20, R19, R18, R17, R16, R15, R14, R13, R12, R11, R10, R9, R8, R7, R6, R5, R4, R3, R2, R1, Q20, Q19, Q18, Q17, Q16, Q15, Q14, Q13, Q12, Q11, Q10, Q9, Q8, Q7, Q6, Q5, Q4, Q3, Q2, Q1, Tbl0])
      refine WK_loop hm hR35 112000 (lst [1000004, 1000008, 1000015, 1000020]) (ι := LoopI (N - (i2 + 1)) fun _ => True)
        ⟨fun q => ⟨frL [(0, .fz (.i .i64 N)), (1, .fz (.s name.l)), (5, .rp [.i .i64 f.kind, .s f.name.l, .sl (f.words.map enc), .sl (f.subs.map enc)]), (6, .ptr (112006, 1) 0), (7, .fn 182 []), (8, .ptr (112008, 2) 0), (34, .fz (.i .i64 N)), (35, .fz (.i .i64 i2)), (10, .fz (.i .i64 i2)), (11, .fz (.i .i64 ((i2 + 1 + q.i : Nat) : Int)))], hpL [((112006, 1), some ⟨[.fz (.i .i64 0), .fz (.s []), .full [], .full []], true, false⟩), ((112008, 2), some ⟨[.fz (.i .i64 (V i2 q.i).kind), .fz (.s (V i2 q.i).name.l), .fz (.sl ((V i2 q.i).words.map enc)), .fz (.sl ((V i2 q.i).subs.map enc))], true, false⟩)], 3⟩, fun q => N - (i2 + 1) - q.i⟩
        ⟨0, by omega, trivial⟩ (by kernel_rfl) ?_ ?_
      · refine Weak_to ?_ ?_ ?_ <;> simp only [go_sem, reduceIte, reduceCtorEq, Nat.reduceEqDiff, Nat.reduceAdd, Nat.reduceSub, Nat.reduceMul, Nat.reduceDiv, Nat.reduceMod, Nat.reduceLT, Nat.reduceLeDiff, Nat.reduceBEq, Nat.reducePow, Int.reduceLE, Int.reduceLT, Int.reduceEq, Int.reduceNeg, Int.reduceAdd, Int.reduceToNat, hv0]
        all_goals first | done | rfl | trace_state
      rintro ⟨m, hm3, _⟩
      try simp only at hm3
      obtain ⟨k, hk⟩ : ∃ k, i2 + 1 + m = k := ⟨_, rfl⟩
      simp only [hk]
      rcases Nat.lt_or_ge m (N - (i2 + 1)) with h3 | h3
      · have hkN : k < N := by omega
        have hvs := kV.out i2 m
        rw [hk] at hvs
        have hk1 : ((i2 + 1 + (m + 1) : Nat) : Int) = (k : Int) + 1 := by omega
        obtain ⟨z, hzz⟩ : ∃ z, V i2 m = z := ⟨_, rfl⟩
        rw [hzz] at hvs
        repeat' (first | refine ReqK.i (by omega) fun _ => ?_ | refine ReqK.i (by unfold maxL; omega) fun _ => ?_ | simp only [go_sem, reduceIte, reduceCtorEq, Nat.reduceEqDiff, Nat.reduceAdd, Nat.reduceSub, Nat.reduceMul, Nat.reduceDiv, Nat.reduceMod, Nat.reduceLT, Nat.reduceLeDiff, Nat.reduceBEq, Nat.reducePow, Int.reduceLE, Int.reduceLT, Int.reduceEq, Int.reduceNeg, Int.reduceAdd, Int.reduceToNat, hkN, hzz, Tryd.f112, R35, R34, R33, R32, R31, R30, R29, R28, R27, R26, R25, R24, R23, R22, R21, R20, R19, R18, R17, R16, R15, R14, R13, R12, R11, R10, R9, R8, R7, R6, R5, R4, R3, R2, R1, Q20, Q19, Q18, Q17, Q16, Q15, Q14, Q13, Q12, Q11, Q10, Q9, Q8, Q7, Q6, Q5, Q4, Q3, Q2, Q1, Tbl0])
        refine WK_drawV hm hR35 112000 (lst [1000004, 1000008, 1000015, 1000020]) tree11215 (by kernel_rfl) (by kernel_rfl) ?_
        repeat' (first | refine And.intro ?_ ?_ | exact True.intro | refine ReqK.i hput fun _ => ?_ | refine WcallK.i (f182 (by omega) ?_) | refine ReqK.i (by omega) fun _ => ?_ | refine ReqK.i (by unfold maxL; omega) fun _ => ?_ | simp only [go_sem, reduceIte, reduceCtorEq, Nat.reduceEqDiff, Nat.reduceAdd, Nat.reduceSub, Nat.reduceMul, Nat.reduceDiv, Nat.reduceMod, Nat.reduceLT, Nat.reduceLeDiff, Nat.reduceBEq, Nat.reducePow, Int.reduceLE, Int.reduceLT, Int.reduceEq, Int.reduceNeg, Int.reduceAdd, Int.reduceToNat, tree11215, hqn, hzz, form_eta, str_eta, Tryd.f112, R35, R34, R33, R32, R31, R30, R29, R28, R27, R26, R25, R24, R23, R22, R21, R20, R19, R18, R17, R16, R15, R14, R13, R12, R11, R10, R9, R8, R7, R6, R5, R4, R3, R2, R1, Q20, Q19, Q18, Q17, Q16, Q15, Q14, Q13, Q12, Q11, Q10, Q9, Q8, Q7, Q6, Q5, Q4, Q3, Q2, Q1, Tbl0])
        all_goals
          refine ⟨⟨m + 1, by omega, trivial⟩, by simp only; omega, ?_⟩
          simp only [hk1]
          refine Weak_to ?_ ?_ ?_ <;> simp only [go_sem, reduceIte, reduceCtorEq, Nat.reduceEqDiff, Nat.reduceAdd, Nat.reduceSub, Nat.reduceMul, Nat.reduceDiv, Nat.reduceMod, Nat.reduceLT, Nat.reduceLeDiff, Nat.reduceBEq, Nat.reducePow, Int.reduceLE, Int.reduceLT, Int.reduceEq, Int.reduceNeg, Int.reduceAdd, Int.reduceToNat, hvs]
          all_goals first | done | rfl | trace_state
      · obtain rfl : m = N - (i2 + 1) := by omega
        obtain rfl : k = N := by omega
        repeat' (first | refine ReqK.i (by omega) fun _ => ?_ | refine ReqK.i (by unfold maxL; omega) fun _ => ?_ | simp only [go_sem, reduceIte, reduceCtorEq, Nat.reduceEqDiff, Nat.reduceAdd, Nat.reduceSub, Nat.reduceMul, Nat.reduceDiv, Nat.reduceMod, Nat.reduceLT, Nat.reduceLeDiff, Nat.reduceBEq, Nat.reducePow, Int.reduceLE, Int.reduceLT, Int.reduceEq, Int.reduceNeg, Int.reduceAdd, Int.reduceToNat, Nat.lt_irrefl, Tryd.f112, R35, R34, R33, R32, R31, R30, R29, R28, R27, R26, R25, R24, R23, R22, R21, R20, R19, R18, R17, R16, R15, R14, R13, R12, R11, R10, R9, R8, R7, R6, R5, R4, R3, R2, R1, Q20, Q19, Q18, Q17, Q16, Q15, Q14, Q13, Q12, Q11, Q10, Q9, Q8, Q7, Q6, Q5, Q4, Q3, Q2, Q1, Tbl0])
        refine ⟨⟨i2 + 1, by omega, trivial⟩, by simp only; omega, ?_⟩
        refine Weak_to ?_ ?_ ?_ <;> simp only [go_sem, reduceIte, reduceCtorEq, Nat.reduceEqDiff, Nat.reduceAdd, Nat.reduceSub, Nat.reduceMul, Nat.reduceDiv, Nat.reduceMod, Nat.reduceLT, Nat.reduceLeDiff, Nat.reduceBEq, Nat.reducePow, Int.reduceLE, Int.reduceLT, Int.reduceEq, Int.reduceNeg, Int.reduceAdd, Int.reduceToNat, hve]
        all_goals first | done | rfl | trace_state
    obtain rfl : i2 = N := by omega
    repeat' (first | refine ReqK.i (by omega) fun _ => ?_ | refine ReqK.i (by unfold maxL; omega) fun _ => ?_ | simp only [go_sem, reduceIte, reduceCtorEq, Nat.reduceEqDiff, Nat.reduceAdd, Nat.reduceSub, Nat.reduceMul, Nat.reduceDiv, Nat.reduceMod, Nat.reduceLT, Nat.reduceLeDiff, Nat.reduceBEq, Nat.reducePow, Int.reduceLE, Int.reduceLT, Int.reduceEq, Int.reduceNeg, Int.reduceAdd, Int.reduceToNat, Nat.lt_irrefl, Tryd.f112, R35, R34, R33, R32, R31, R30, R29, R28, R27, R26, R25, R24, R23, R22, R21, R20, R19, R18, R17, R16, R15, R14, R13, R12, R11, R10, R9, R8, R7, R6, R5, R4, R3, R2, R1, Q20, Q19, Q18, Q17, Q16, Q15, Q14, Q13, Q12, Q11, Q10, Q9, Q8, Q7, Q6, Q5, Q4, Q3, Q2, Q1, Tbl0])
    refine WK_loop hm hR35 112000 (lst [1000004, 1000008, 1000015, 1000020]) (ι := WrapI qn R i2 3)
      ⟨fun q => ⟨frL [(6, .ptr (112006, 1) 0), (7, .fn 182 []), (8, .ptr (112008, 2) 0), (12, .fz (.i .i64 (idxV q.p)))], hpL [((112006, 1), some ⟨[.fz (.i .i64 0), .fz (.s []), .full [], .full []], true, false⟩), ((112008, 2), some ⟨[.fz (.i .i64 q.c.kind), .fz (.s q.c.name.l), .fz (.sl (q.c.words.map enc)), .fz (.sl (q.c.subs.map enc))], true, false⟩)], q.m⟩, fun q => q.p⟩
      ⟨i2, W i2, 3, Nat.le_refl _, Nat.le_refl _, hWe⟩ (by kernel_rfl) ?_ ?_
    · refine Weak_to ?_ ?_ ?_ <;> simp only [go_sem, reduceIte, reduceCtorEq, Nat.reduceEqDiff, Nat.reduceAdd, Nat.reduceSub, Nat.reduceMul, Nat.reduceDiv, Nat.reduceMod, Nat.reduceLT, Nat.reduceLeDiff, Nat.reduceBEq, Nat.reducePow, Int.reduceLE, Int.reduceLT, Int.reduceEq, Int.reduceNeg, Int.reduceAdd, Int.reduceToNat, idxV]
      all_goals first | done | rfl | trace_state
    rintro ⟨p, c, m, hp, hm4, hwr⟩
    try simp only at hp hm4 hwr
    cases p with
    | zero =>
      have hcR : c = R := hwr
      repeat' (first | refine ReqK.i (by omega) fun _ => ?_ | refine ReqK.i (by unfold maxL; omega) fun _ => ?_ | simp only [go_sem, reduceIte, reduceCtorEq, Nat.reduceEqDiff, Nat.reduceAdd, Nat.reduceSub, Nat.reduceMul, Nat.reduceDiv, Nat.reduceMod, Nat.reduceLT, Nat.reduceLeDiff, Nat.reduceBEq, Nat.reducePow, Int.reduceLE, Int.reduceLT, Int.reduceEq, Int.reduceNeg, Int.reduceAdd, Int.reduceToNat, idxV_zero, hcR, form_eta, Tryd.f112, R35, R34, R33, R32, R31, R30, R29, R28, R27, R26, R25, R24, R23, R22, R21, R20, R19, R18, R17, R16, R15, R14, R13, R12, R11, R10, R9, R8, R7, R6, R5, R4, R3, R2, R1, Q20, Q19, Q18, Q17, Q16, Q15, Q14, Q13, Q12, Q11, Q10, Q9, Q8, Q7, Q6, Q5, Q4, Q3, Q2, Q1, Tbl0])
    | succ p =>
      have hw2 : wrap qn p (.mk 9 (qn p) [] [c]) = R := hwr
      repeat' (first | refine ReqK.i (by omega) fun _ => ?_ | refine ReqK.i (by unfold maxL; omega) fun _ => ?_ | simp only [go_sem, reduceIte, reduceCtorEq, Nat.reduceEqDiff, Nat.reduceAdd, Nat.reduceSub, Nat.reduceMul, Nat.reduceDiv, Nat.reduceMod, Nat.reduceLT, Nat.reduceLeDiff, Nat.reduceBEq, Nat.reducePow, Int.reduceLE, Int.reduceLT, Int.reduceEq, Int.reduceNeg, Int.reduceAdd, Int.reduceToNat, idxV_succ, Tryd.f112, R35, R34, R33, R32, R31, R30, R29, R28, R27, R26, R25, R24, R23, R22, R21, R20, R19, R18, R17, R16, R15, R14, R13, R12, R11, R10, R9, R8, R7, R6, R5, R4, R3, R2, R1, Q20, Q19, Q18, Q17, Q16, Q15, Q14, Q13, Q12, Q11, Q10, Q9, Q8, Q7, Q6, Q5, Q4, Q3, Q2, Q1, Tbl0])
      refine WK_drawV hm hR35 112000 (lst [1000004, 1000008, 1000015, 1000020]) tree11220 (by kernel_rfl) (by kernel_rfl) ?_
      repeat' (first | refine And.intro ?_ ?_ | exact True.intro | refine ReqK.i hput fun _ => ?_ | refine WcallK.i (f182 (by omega) ?_) | refine ReqK.i (by omega) fun _ => ?_ | refine ReqK.i (by unfold maxL; omega) fun _ => ?_ | simp only [go_sem, reduceIte, reduceCtorEq, Nat.reduceEqDiff, Nat.reduceAdd, Nat.reduceSub, Nat.reduceMul, Nat.reduceDiv, Nat.reduceMod, Nat.reduceLT, Nat.reduceLeDiff, Nat.reduceBEq, Nat.reducePow, Int.reduceLE, Int.reduceLT, Int.reduceEq, Int.reduceNeg, Int.reduceAdd, Int.reduceToNat, tree11220, hqn, idxV_succ, form_eta, str_eta, Tryd.f112, R35, R34, R33, R32, R31, R30, R29, R28, R27, R26, R25, R24, R23, R22, R21, R20, R19, R18, R17, R16, R15, R14, R13, R12, R11, R10, R9, R8, R7, R6, R5, R4, R3, R2, R1, Q20, Q19, Q18, Q17, Q16, Q15, Q14, Q13, Q12, Q11, Q10, Q9, Q8, Q7, Q6, Q5, Q4, Q3, Q2, Q1, Tbl0])
      all_goals
        refine ⟨⟨p, .mk 9 (qn p) [] [c], m + 3, by omega, by omega, hw2⟩, by simp only; omega, ?_⟩
        refine Weak_g [] [] [] ?_ ?_ ?_ ?_ ?_ <;> (try simp only [go_sem, reduceIte, reduceCtorEq, Nat.reduceEqDiff, Nat.reduceAdd, Nat.reduceSub, Nat.reduceMul, Nat.reduceDiv, Nat.reduceMod, Nat.reduceLT, Nat.reduceLeDiff, Nat.reduceBEq, Nat.reducePow, Int.reduceLE, Int.reduceLT, Int.reduceEq, Int.reduceNeg, Int.reduceAdd, Int.reduceToNat, idxV])
        all_goals first | done | omega | rfl | trace_state
end Go.Proofs.YtomhobohcejocaaDoor

namespace Go.Abs
open Go
/-! the differences of the document, as they are made -/
def refD (v : Nat → Str) (n k : Nat) : List Abs.Form := ((List.range k).filter fun k => decide (k / n < k % n)).map fun k => notF (.mk 3 ⟨[]⟩ [v (k / n), v (k % n)] [])
theorem refD_succ (v : Nat → Str) (n k : Nat) : refD v n (k + 1) = if k / n < k % n then refD v n k ++ [notF (.mk 3 ⟨[]⟩ [v (k / n), v (k % n)] [])] else refD v n k := by
  unfold refD
  rw [List.range_succ, List.filter_append, List.map_append]
  by_cases h : k / n < k % n
  · rw [if_pos h]; simp [h]
  · rw [if_neg h]; simp [h]
theorem refD_len (v : Nat → Str) (n k : Nat) : (refD v n k).length ≤ k := by
  unfold refD
  rw [List.length_map]
  have := List.length_filter_le (fun k => decide (k / n < k % n)) (List.range k)
  rw [List.length_range] at this
  exact this
theorem refD_all (v : Nat → Str) {n : Nat} (h1 : 1 ≤ n) (h : n ≤ 4) : refD v n (n * n) = diffs v n := by
  have : n = 1 ∨ n = 2 ∨ n = 3 ∨ n = 4 := by omega
  rcases this with rfl | rfl | rfl | rfl <;> rfl
end Go.Abs
namespace Go.Proofs.YtomhobohcejocaaDoor
open Go Go.Abs Go.Proofs

/-! ## the document's Least -/
def tree477 : Tv := (.q 0 (.q 1 (.q 2 (.q 3 (.q 4 (.q 5 (.q 6 (.q 7 (.q 8 (.q 9 (.br [(10, (.q 11 .leaf))])))))))))))
def tree4711 : Tv := (.q 0 (.q 1 (.q 2 (.q 3 (.q 4 (.q 5 (.q 6 .leaf)))))))
def tree4712 : Tv := (.q 0 (.q 1 (.q 2 (.q 3 (.q 4 (.q 5 (.q 6 (.q 7 (.q 8 (.q 9 (.q 10 (.q 11 (.br [(12, (.br [(13, .leaf)]))])))))))))))))
def tree4718 : Tv := (.q 0 (.q 1 (.q 2 (.q 3 (.q 4 (.q 5 (.br [(6, .leaf)])))))))
def R37 : Tbl := R36.add 47 (sp3 (fun n name f => leastR f name n.toNat) leastPre)
set_option maxRecDepth 100000 in
set_option maxHeartbeats 1000000 in
set_option maxHeartbeats 8000000 in
theorem hR37 : TblOk Tryd.prog GA R37 := by
  refine sp3_ok ok47 hR36 fun n name f hpre _ _ _ => ?_
  obtain ⟨h0, h4, hc⟩ := hpre
  obtain ⟨N, rfl⟩ : ∃ N : Nat, n = (N : Int) := ⟨n.toNat, by omega⟩
  rw [show ((N : Int)).toNat = N from rfl]
  have hput : ∀ x : Str, wthPre f [name] [x] := fun x => ⟨checkM_fit hc, by have := checkM_size hc; omega, rfl, by simp⟩
  have hzw : ∀ x : Str, List.zipWith Abs.Bind.mk [name] [x] = [⟨name, x⟩] := fun x => rfl
  by_cases hz : N = 0
  · subst hz
    have e : leastR f name 0 = .mk 1 ⟨[]⟩ [] [] := rfl
    rw [e]
    refine Wcall_K (N := 79) hm hR36 47000 (lsw [31, 63] [1000007, 1000011, 1000012, 1000018]) ok47 Tryd.func47 rfl rfl (by simp) (by kernel_rfl) ?_
    repeat' (first | refine ReqK.i (by omega) fun _ => ?_ | refine ReqK.i (by unfold maxL; omega) fun _ => ?_ | refine ReqK.i ⟨by omega, by omega⟩ fun _ => ?_ | refine ReqK.i (fits_of2 (by first | omega | (simp only [List.length_map, List.length_take, List.length_append, List.length_cons, List.length_nil]; omega)) (by decide)) fun _ => ?_ | simp only [go_sem, reduceIte, reduceCtorEq, Nat.reduceEqDiff, Nat.reduceAdd, Nat.reduceSub, Nat.reduceMul, Nat.reduceDiv, Nat.reduceMod, Nat.reduceLT, Nat.reduceLeDiff, Nat.reduceBEq, Nat.reducePow, Int.reduceLE, Int.reduceLT, Int.reduceEq, Int.reduceNeg, Int.reduceAdd, Int.reduceToNat, Tryd.f47, R36, R35, R34, R33, R32, R31, R30, R29, R28, R27, R26, R25, R24, R23, R22, R21, R20, R19, R18, R17, R16, R15, R14, R13, R12, R11, R10, R9, R8, R7, R6, R5, R4, R3, R2, R1, Q20, Q19, Q18, Q17, Q16, Q15, Q14, Q13, Q12, Q11, Q10, Q9, Q8, Q7, Q6, Q5, Q4, Q3, Q2, Q1, Tbl0])
  have hz' : ((N : Int) = 0) = False := eq_false (by omega)
  obtain ⟨R, hR⟩ : ∃ R, leastR f name N = R := ⟨_, rfl⟩
  obtain ⟨P, hP⟩ : ∃ P : Nat → List Abs.Form, P = fun i => (List.range i).map fun i => wthM f [⟨name, dn i⟩] := ⟨_, rfl⟩
  have hPl : ∀ i, (P i).length = i := fun i => by rw [hP]; simp only [List.length_map, List.length_range]
  have hP0 : P 0 = [] := by rw [hP]; rfl
  have hPs : ∀ i, P (i + 1) = P i ++ [wthM f [⟨name, dn i⟩]] := fun i => by rw [hP]; simp only [List.range_succ, List.map_append, List.map_cons, List.map_nil]
  obtain ⟨NN, hNN⟩ : ∃ NN, N * N = NN := ⟨_, rfl⟩
  have hmul : (N : Int) * (N : Int) = (NN : Int) := by rw [← hNN]; exact (Int.natCast_mul N N).symm
  have hNl : NN ≤ 16 := by rw [← hNN]; exact Nat.mul_le_mul (show N ≤ 4 by omega) (show N ≤ 4 by omega)
  obtain ⟨D, hD⟩ : ∃ D : Nat → List Abs.Form, D = fun k => P N ++ refD dn N k := ⟨_, rfl⟩
  have hD0 : D 0 = P N := by rw [hD]; simp [refD]
  have hDs : ∀ k, D (k + 1) = if k / N < k % N then D k ++ [notF (.mk 3 ⟨[]⟩ [dn (k / N), dn (k % N)] [])] else D k := fun k => by
    rw [hD]; simp only [refD_succ]
    split
    · rw [List.append_assoc]
    · rfl
  have hDl : ∀ k, (D k).length ≤ N + k := fun k => by
    have := refD_len dn N k
    rw [hD]; simp only [List.length_append, hPl]; omega
  have hjp : joinPre 5 (D NN) := ⟨list_ne (by rw [hD]; simp only [List.length_append, hPl]; omega), by have := hDl NN; omega⟩
  obtain ⟨J, hJ⟩ : ∃ J, joinM 5 (D NN) = J := ⟨_, rfl⟩
  have hWe : wrap dn N J = R := by
    rw [← hR, ← hJ]
    unfold leastR leastG
    rw [if_neg hz, hD, ← hNN, hP]
    simp only [refD_all dn (show 1 ≤ N by omega) (by omega)]
  rw [hR]
  have kP := Kp.mk hPs
  have kD := Kp.mk hDs
  have hJe := hJ
  clear hP hPs hD hDs hR hJ
  have hdn : ∀ i : Nat, Str.mk (36 :: digits i) = dn i := fun i => rfl
  have hdl : ∀ i : Nat, (dn i).l = 36 :: digits i := fun i => rfl
  have hdg := digits_len
  refine Wcall_K (N := 79) hm hR36 47000 (lsw [31, 63] [1000007, 1000011, 1000012, 1000018]) ok47 Tryd.func47 rfl rfl (by simp) (by kernel_rfl) ?_
  repeat' (first | refine ReqK.i (by omega) fun _ => ?_ | refine ReqK.i (by unfold maxL; omega) fun _ => ?_ | refine ReqK.i ⟨by omega, by omega⟩ fun _ => ?_ | refine ReqK.i (fits_of2 (by first | omega | (simp only [List.length_map, List.length_take, List.length_append, List.length_cons, List.length_nil]; omega)) (by decide)) fun _ => ?_ | simp only [go_sem, reduceIte, reduceCtorEq, Nat.reduceEqDiff, Nat.reduceAdd, Nat.reduceSub, Nat.reduceMul, Nat.reduceDiv, Nat.reduceMod, Nat.reduceLT, Nat.reduceLeDiff, Nat.reduceBEq, Nat.reducePow, Int.reduceLE, Int.reduceLT, Int.reduceEq, Int.reduceNeg, Int.reduceAdd, Int.reduceToNat, hz', Tryd.f47, R36, R35, R34, R33, R32, R31, R30, R29, R28, R27, R26, R25, R24, R23, R22, R21, R20, R19, R18, R17, R16, R15, R14, R13, R12, R11, R10, R9, R8, R7, R6, R5, R4, R3, R2, R1, Q20, Q19, Q18, Q17, Q16, Q15, Q14, Q13, Q12, Q11, Q10, Q9, Q8, Q7, Q6, Q5, Q4, Q3, Q2, Q1, Tbl0])
  refine WK_weak2 (Weak_rpL (id := (47005, 0)) (t := 5) (b := true) (ys := [.i .i64 f.kind, .s f.name.l, .sl (f.words.map enc), .sl (f.subs.map enc)]) (by simp only [go_sem, reduceIte, reduceCtorEq, Nat.reduceEqDiff, Nat.reduceAdd, Nat.reduceSub, Nat.reduceMul, Nat.reduceDiv, Nat.reduceMod, Nat.reduceLT, Nat.reduceLeDiff, Nat.reduceBEq, Nat.reducePow, Int.reduceLE, Int.reduceLT, Int.reduceEq, Int.reduceNeg, Int.reduceAdd, Int.reduceToNat]) (by simp only [go_sem, reduceIte, reduceCtorEq, Nat.reduceEqDiff, Nat.reduceAdd, Nat.reduceSub, Nat.reduceMul, Nat.reduceDiv, Nat.reduceMod, Nat.reduceLT, Nat.reduceLeDiff, Nat.reduceBEq, Nat.reducePow, Int.reduceLE, Int.reduceLT, Int.reduceEq, Int.reduceNeg, Int.reduceAdd, Int.reduceToNat])) ?_
  refine WK_loop hm hR36 47000 (lsw [31, 63] [1000007, 1000011, 1000012, 1000018]) (ι := LoopG N 3 fun _ => True)
    ⟨fun q => ⟨frL [(0, .fz (.i .i64 N)), (1, .fz (.s name.l)), (5, .rp [.i .i64 f.kind, .s f.name.l, .sl (f.words.map enc), .sl (f.subs.map enc)]), (6, .ptr (47006, 1) 0), (7, .ow (47031, q.g) 4 ((P q.i).map enc)), (8, .fz (.i .i64 q.i))], hpL [((47006, 1), some ⟨[.fz (.i .i64 0), .fz (.s []), .full [], .full []], true, false⟩), ((47031, q.g), some tok)], q.m⟩, fun q => N - q.i⟩
    ⟨0, 2, 3, by omega, by omega, by omega, trivial⟩ (by kernel_rfl) ?_ ?_
  · refine Weak_g [] [(47031, 2)] [] ?_ ?_ ?_ ?_ ?_ <;> simp only [go_sem, reduceIte, reduceCtorEq, Nat.reduceEqDiff, Nat.reduceAdd, Nat.reduceSub, Nat.reduceMul, Nat.reduceDiv, Nat.reduceMod, Nat.reduceLT, Nat.reduceLeDiff, Nat.reduceBEq, Nat.reducePow, Int.reduceLE, Int.reduceLT, Int.reduceEq, Int.reduceNeg, Int.reduceAdd, Int.reduceToNat, hP0]
    all_goals first | done | rfl | omega | trace_state
  rintro ⟨i, g, m, hi, hg, hm1, _⟩
  try simp only at hi hg hm1
  rcases Nat.lt_or_ge i N with h1 | h1
  · have hs := kP.out i
    have hpl := hPl i
    have hdi := hdg i
    have hpx := hput (dn i)
    have hzx := hzw (dn i)
    obtain ⟨y, hy⟩ : ∃ y, wthM f [⟨name, dn i⟩] = y := ⟨_, rfl⟩
    rw [hy] at hs
    repeat' (first | refine ReqK.i (by omega) fun _ => ?_ | refine ReqK.i (by unfold maxL; omega) fun _ => ?_ | refine ReqK.i ⟨by omega, by omega⟩ fun _ => ?_ | refine ReqK.i (fits_of2 (by first | omega | (simp only [List.length_map, List.length_take, List.length_append, List.length_cons, List.length_nil]; omega)) (by decide)) fun _ => ?_ | simp only [go_sem, reduceIte, reduceCtorEq, Nat.reduceEqDiff, Nat.reduceAdd, Nat.reduceSub, Nat.reduceMul, Nat.reduceDiv, Nat.reduceMod, Nat.reduceLT, Nat.reduceLeDiff, Nat.reduceBEq, Nat.reducePow, Int.reduceLE, Int.reduceLT, Int.reduceEq, Int.reduceNeg, Int.reduceAdd, Int.reduceToNat, h1, Tryd.f47, R36, R35, R34, R33, R32, R31, R30, R29, R28, R27, R26, R25, R24, R23, R22, R21, R20, R19, R18, R17, R16, R15, R14, R13, R12, R11, R10, R9, R8, R7, R6, R5, R4, R3, R2, R1, Q20, Q19, Q18, Q17, Q16, Q15, Q14, Q13, Q12, Q11, Q10, Q9, Q8, Q7, Q6, Q5, Q4, Q3, Q2, Q1, Tbl0])
    refine WK_drawV hm hR36 47000 (lsw [31, 63] [1000007, 1000011, 1000012, 1000018]) tree477 (by kernel_rfl) (by kernel_rfl) ?_
    repeat' (first | refine And.intro ?_ ?_ | exact True.intro | refine ReqK.i ⟨rfl, hpx⟩ fun _ => ?_ | refine ReqK.i hpx fun _ => ?_ | refine ReqK.i (by omega) fun _ => ?_ | refine ReqK.i (by unfold maxL; omega) fun _ => ?_ | refine ReqK.i ⟨by omega, by omega⟩ fun _ => ?_ | refine ReqK.i (fits_of2 (by first | omega | (simp only [List.length_map, List.length_take, List.length_append, List.length_cons, List.length_nil]; omega)) (by decide)) fun _ => ?_ | simp only [go_sem, reduceIte, reduceCtorEq, Nat.reduceEqDiff, Nat.reduceAdd, Nat.reduceSub, Nat.reduceMul, Nat.reduceDiv, Nat.reduceMod, Nat.reduceLT, Nat.reduceLeDiff, Nat.reduceBEq, Nat.reducePow, Int.reduceLE, Int.reduceLT, Int.reduceEq, Int.reduceNeg, Int.reduceAdd, Int.reduceToNat, tree477, digS_l, hdn, hzx, hy, form_eta, str_eta, Tryd.f47, R36, R35, R34, R33, R32, R31, R30, R29, R28, R27, R26, R25, R24, R23, R22, R21, R20, R19, R18, R17, R16, R15, R14, R13, R12, R11, R10, R9, R8, R7, R6, R5, R4, R3, R2, R1, Q20, Q19, Q18, Q17, Q16, Q15, Q14, Q13, Q12, Q11, Q10, Q9, Q8, Q7, Q6, Q5, Q4, Q3, Q2, Q1, Tbl0])
    all_goals
      refine ⟨⟨i + 1, m, m + 5, by omega, by omega, by omega, trivial⟩, by simp only; omega, ?_⟩
      refine Weak_to ?_ ?_ ?_ <;> (try simp only [go_sem, reduceIte, reduceCtorEq, Nat.reduceEqDiff, Nat.reduceAdd, Nat.reduceSub, Nat.reduceMul, Nat.reduceDiv, Nat.reduceMod, Nat.reduceLT, Nat.reduceLeDiff, Nat.reduceBEq, Nat.reducePow, Int.reduceLE, Int.reduceLT, Int.reduceEq, Int.reduceNeg, Int.reduceAdd, Int.reduceToNat, hs, List.map_append])
      all_goals first | done | omega | rfl | trace_state
  obtain rfl : i = N := by omega
  repeat' (first | refine ReqK.i (by omega) fun _ => ?_ | refine ReqK.i (by unfold maxL; omega) fun _ => ?_ | refine ReqK.i ⟨by omega, by omega⟩ fun _ => ?_ | refine ReqK.i (fits_of2 (by first | omega | (simp only [List.length_map, List.length_take, List.length_append, List.length_cons, List.length_nil]; omega)) (by decide)) fun _ => ?_ | simp only [go_sem, reduceIte, reduceCtorEq, Nat.reduceEqDiff, Nat.reduceAdd, Nat.reduceSub, Nat.reduceMul, Nat.reduceDiv, Nat.reduceMod, Nat.reduceLT, Nat.reduceLeDiff, Nat.reduceBEq, Nat.reducePow, Int.reduceLE, Int.reduceLT, Int.reduceEq, Int.reduceNeg, Int.reduceAdd, Int.reduceToNat, Nat.lt_irrefl, hmul, Tryd.f47, R36, R35, R34, R33, R32, R31, R30, R29, R28, R27, R26, R25, R24, R23, R22, R21, R20, R19, R18, R17, R16, R15, R14, R13, R12, R11, R10, R9, R8, R7, R6, R5, R4, R3, R2, R1, Q20, Q19, Q18, Q17, Q16, Q15, Q14, Q13, Q12, Q11, Q10, Q9, Q8, Q7, Q6, Q5, Q4, Q3, Q2, Q1, Tbl0])
  refine WK_loop hm hR36 47000 (lsw [31, 63] [1000007, 1000011, 1000012, 1000018]) (ι := LoopG NN (m + 1) fun _ => True)
    ⟨fun q => ⟨frL [(0, .fz (.i .i64 i)), (1, .fz (.s name.l)), (6, .ptr (47006, 1) 0), (7, .ow (47063, q.g) 4 ((D q.i).map enc)), (9, .fz (.i .i64 q.i))], hpL [((47006, 1), some ⟨[.fz (.i .i64 0), .fz (.s []), .full [], .full []], true, false⟩), ((47063, q.g), some tok)], q.m⟩, fun q => NN - q.i⟩
    ⟨0, m, m + 1, by omega, by omega, by omega, trivial⟩ (by kernel_rfl) ?_ ?_
  · refine Weak_g [((47063, m), (47031, g))] [] [] ?_ ?_ ?_ ?_ ?_ <;> simp only [go_sem, reduceIte, reduceCtorEq, Nat.reduceEqDiff, Nat.reduceAdd, Nat.reduceSub, Nat.reduceMul, Nat.reduceDiv, Nat.reduceMod, Nat.reduceLT, Nat.reduceLeDiff, Nat.reduceBEq, Nat.reducePow, Int.reduceLE, Int.reduceLT, Int.reduceEq, Int.reduceNeg, Int.reduceAdd, Int.reduceToNat, hD0]
    all_goals first | done | rfl | omega | exact .inr ⟨Nat.le_refl _, rfl, by simp [preL]⟩ | exact ⟨by omega, ⟨Nat.lt_succ_self _, .inr ⟨Nat.le_refl _, rfl, by simp [preL]⟩⟩⟩ | trace_state
  rintro ⟨k, g2, m2, hk, hg2, hm2, _⟩
  try simp only at hk hg2 hm2
  rcases Nat.lt_or_ge k NN with h2 | h2
  · have hs := kD.out k
    have hdl2 := hDl k
    have e1 : (k : Int) / (i : Int) = ((k / i : Nat) : Int) := (Int.natCast_ediv k i).symm
    have e2 : (k : Int) % (i : Int) = ((k % i : Nat) : Int) := (Int.natCast_emod k i).symm
    have hq := Nat.div_le_self k i
    have hr := Nat.mod_le k i
    obtain ⟨q, hqe⟩ : ∃ q, k / i = q := ⟨_, rfl⟩
    obtain ⟨r, hre⟩ : ∃ r, k % i = r := ⟨_, rfl⟩
    rw [hqe] at e1 hq hs
    rw [hre] at e2 hr hs
    have hdq := hdg q
    have hdr := hdg r
    by_cases hc3 : q < r
    · rw [if_pos hc3] at hs
      repeat' (first | refine ReqK.i (by omega) fun _ => ?_ | refine ReqK.i (by unfold maxL; omega) fun _ => ?_ | refine ReqK.i ⟨by omega, by omega⟩ fun _ => ?_ | refine ReqK.i (fits_of2 (by first | omega | (simp only [List.length_map, List.length_take, List.length_append, List.length_cons, List.length_nil]; omega)) (by decide)) fun _ => ?_ | simp only [go_sem, reduceIte, reduceCtorEq, Nat.reduceEqDiff, Nat.reduceAdd, Nat.reduceSub, Nat.reduceMul, Nat.reduceDiv, Nat.reduceMod, Nat.reduceLT, Nat.reduceLeDiff, Nat.reduceBEq, Nat.reducePow, Int.reduceLE, Int.reduceLT, Int.reduceEq, Int.reduceNeg, Int.reduceAdd, Int.reduceToNat, h2, hmul, Tryd.f47, R36, R35, R34, R33, R32, R31, R30, R29, R28, R27, R26, R25, R24, R23, R22, R21, R20, R19, R18, R17, R16, R15, R14, R13, R12, R11, R10, R9, R8, R7, R6, R5, R4, R3, R2, R1, Q20, Q19, Q18, Q17, Q16, Q15, Q14, Q13, Q12, Q11, Q10, Q9, Q8, Q7, Q6, Q5, Q4, Q3, Q2, Q1, Tbl0])
      refine WK_drawV hm hR36 47000 (lsw [31, 63] [1000007, 1000011, 1000012, 1000018]) tree4711 (by kernel_rfl) (by kernel_rfl) ?_
      repeat' (first | refine And.intro ?_ ?_ | exact True.intro | refine ReqK.i (by omega) fun _ => ?_ | refine ReqK.i (by unfold maxL; omega) fun _ => ?_ | refine ReqK.i ⟨by omega, by omega⟩ fun _ => ?_ | refine ReqK.i (fits_of2 (by first | omega | (simp only [List.length_map, List.length_take, List.length_append, List.length_cons, List.length_nil]; omega)) (by decide)) fun _ => ?_ | simp only [go_sem, reduceIte, reduceCtorEq, Nat.reduceEqDiff, Nat.reduceAdd, Nat.reduceSub, Nat.reduceMul, Nat.reduceDiv, Nat.reduceMod, Nat.reduceLT, Nat.reduceLeDiff, Nat.reduceBEq, Nat.reducePow, Int.reduceLE, Int.reduceLT, Int.reduceEq, Int.reduceNeg, Int.reduceAdd, Int.reduceToNat, tree4711, h2, e1, e2, hc3, Tryd.f47, R36, R35, R34, R33, R32, R31, R30, R29, R28, R27, R26, R25, R24, R23, R22, R21, R20, R19, R18, R17, R16, R15, R14, R13, R12, R11, R10, R9, R8, R7, R6, R5, R4, R3, R2, R1, Q20, Q19, Q18, Q17, Q16, Q15, Q14, Q13, Q12, Q11, Q10, Q9, Q8, Q7, Q6, Q5, Q4, Q3, Q2, Q1, Tbl0])
      refine WK_drawV hm hR36 47000 (lsw [31, 63] [1000007, 1000011, 1000012, 1000018]) tree4712 (by kernel_rfl) (by kernel_rfl) ?_
      repeat' (first | refine And.intro ?_ ?_ | exact True.intro | refine ReqK.i (by omega) fun _ => ?_ | refine ReqK.i (by unfold maxL; omega) fun _ => ?_ | refine ReqK.i ⟨by omega, by omega⟩ fun _ => ?_ | refine ReqK.i (fits_of2 (by first | omega | (simp only [List.length_map, List.length_take, List.length_append, List.length_cons, List.length_nil]; omega)) (by decide)) fun _ => ?_ | simp only [go_sem, reduceIte, reduceCtorEq, Nat.reduceEqDiff, Nat.reduceAdd, Nat.reduceSub, Nat.reduceMul, Nat.reduceDiv, Nat.reduceMod, Nat.reduceLT, Nat.reduceLeDiff, Nat.reduceBEq, Nat.reducePow, Int.reduceLE, Int.reduceLT, Int.reduceEq, Int.reduceNeg, Int.reduceAdd, Int.reduceToNat, tree4712, e1, e2, digS_l, hdn, Tryd.f47, R36, R35, R34, R33, R32, R31, R30, R29, R28, R27, R26, R25, R24, R23, R22, R21, R20, R19, R18, R17, R16, R15, R14, R13, R12, R11, R10, R9, R8, R7, R6, R5, R4, R3, R2, R1, Q20, Q19, Q18, Q17, Q16, Q15, Q14, Q13, Q12, Q11, Q10, Q9, Q8, Q7, Q6, Q5, Q4, Q3, Q2, Q1, Tbl0])
      all_goals
        repeat' (first | refine ReqK.i (by omega) fun _ => ?_ | refine ReqK.i (by unfold maxL; omega) fun _ => ?_ | refine ReqK.i ⟨by omega, by omega⟩ fun _ => ?_ | refine ReqK.i (fits_of2 (by first | omega | (simp only [List.length_map, List.length_take, List.length_append, List.length_cons, List.length_nil]; omega)) (by decide)) fun _ => ?_ | simp only [go_sem, reduceIte, reduceCtorEq, Nat.reduceEqDiff, Nat.reduceAdd, Nat.reduceSub, Nat.reduceMul, Nat.reduceDiv, Nat.reduceMod, Nat.reduceLT, Nat.reduceLeDiff, Nat.reduceBEq, Nat.reducePow, Int.reduceLE, Int.reduceLT, Int.reduceEq, Int.reduceNeg, Int.reduceAdd, Int.reduceToNat, Tryd.f47, R36, R35, R34, R33, R32, R31, R30, R29, R28, R27, R26, R25, R24, R23, R22, R21, R20, R19, R18, R17, R16, R15, R14, R13, R12, R11, R10, R9, R8, R7, R6, R5, R4, R3, R2, R1, Q20, Q19, Q18, Q17, Q16, Q15, Q14, Q13, Q12, Q11, Q10, Q9, Q8, Q7, Q6, Q5, Q4, Q3, Q2, Q1, Tbl0])
        refine ⟨⟨k + 1, m2 + 1, m2 + 6, by omega, by omega, by omega, trivial⟩, by simp only; omega, ?_⟩
        refine Weak_to ?_ ?_ ?_ <;> (try simp only [go_sem, reduceIte, reduceCtorEq, Nat.reduceEqDiff, Nat.reduceAdd, Nat.reduceSub, Nat.reduceMul, Nat.reduceDiv, Nat.reduceMod, Nat.reduceLT, Nat.reduceLeDiff, Nat.reduceBEq, Nat.reducePow, Int.reduceLE, Int.reduceLT, Int.reduceEq, Int.reduceNeg, Int.reduceAdd, Int.reduceToNat, hs, hdl, List.map_append])
        all_goals first | done | omega | rfl | trace_state
    · rw [if_neg hc3] at hs
      repeat' (first | refine ReqK.i (by omega) fun _ => ?_ | refine ReqK.i (by unfold maxL; omega) fun _ => ?_ | refine ReqK.i ⟨by omega, by omega⟩ fun _ => ?_ | refine ReqK.i (fits_of2 (by first | omega | (simp only [List.length_map, List.length_take, List.length_append, List.length_cons, List.length_nil]; omega)) (by decide)) fun _ => ?_ | simp only [go_sem, reduceIte, reduceCtorEq, Nat.reduceEqDiff, Nat.reduceAdd, Nat.reduceSub, Nat.reduceMul, Nat.reduceDiv, Nat.reduceMod, Nat.reduceLT, Nat.reduceLeDiff, Nat.reduceBEq, Nat.reducePow, Int.reduceLE, Int.reduceLT, Int.reduceEq, Int.reduceNeg, Int.reduceAdd, Int.reduceToNat, h2, hmul, Tryd.f47, R36, R35, R34, R33, R32, R31, R30, R29, R28, R27, R26, R25, R24, R23, R22, R21, R20, R19, R18, R17, R16, R15, R14, R13, R12, R11, R10, R9, R8, R7, R6, R5, R4, R3, R2, R1, Q20, Q19, Q18, Q17, Q16, Q15, Q14, Q13, Q12, Q11, Q10, Q9, Q8, Q7, Q6, Q5, Q4, Q3, Q2, Q1, Tbl0])
      refine WK_drawV hm hR36 47000 (lsw [31, 63] [1000007, 1000011, 1000012, 1000018]) tree4711 (by kernel_rfl) (by kernel_rfl) ?_
      repeat' (first | refine And.intro ?_ ?_ | exact True.intro | refine ReqK.i (by omega) fun _ => ?_ | refine ReqK.i (by unfold maxL; omega) fun _ => ?_ | refine ReqK.i ⟨by omega, by omega⟩ fun _ => ?_ | refine ReqK.i (fits_of2 (by first | omega | (simp only [List.length_map, List.length_take, List.length_append, List.length_cons, List.length_nil]; omega)) (by decide)) fun _ => ?_ | simp only [go_sem, reduceIte, reduceCtorEq, Nat.reduceEqDiff, Nat.reduceAdd, Nat.reduceSub, Nat.reduceMul, Nat.reduceDiv, Nat.reduceMod, Nat.reduceLT, Nat.reduceLeDiff, Nat.reduceBEq, Nat.reducePow, Int.reduceLE, Int.reduceLT, Int.reduceEq, Int.reduceNeg, Int.reduceAdd, Int.reduceToNat, tree4711, h2, e1, e2, hc3, Tryd.f47, R36, R35, R34, R33, R32, R31, R30, R29, R28, R27, R26, R25, R24, R23, R22, R21, R20, R19, R18, R17, R16, R15, R14, R13, R12, R11, R10, R9, R8, R7, R6, R5, R4, R3, R2, R1, Q20, Q19, Q18, Q17, Q16, Q15, Q14, Q13, Q12, Q11, Q10, Q9, Q8, Q7, Q6, Q5, Q4, Q3, Q2, Q1, Tbl0])
      refine ⟨⟨k + 1, g2, m2, by omega, by omega, by omega, trivial⟩, by simp only; omega, ?_⟩
      refine Weak_to ?_ ?_ ?_ <;> (try simp only [go_sem, reduceIte, reduceCtorEq, Nat.reduceEqDiff, Nat.reduceAdd, Nat.reduceSub, Nat.reduceMul, Nat.reduceDiv, Nat.reduceMod, Nat.reduceLT, Nat.reduceLeDiff, Nat.reduceBEq, Nat.reducePow, Int.reduceLE, Int.reduceLT, Int.reduceEq, Int.reduceNeg, Int.reduceAdd, Int.reduceToNat, hs])
      all_goals first | done | omega | rfl | trace_state
  obtain rfl : k = NN := by omega
  repeat' (first | refine ReqK.i hjp fun _ => ?_ | refine ReqK.i (by omega) fun _ => ?_ | refine ReqK.i (by unfold maxL; omega) fun _ => ?_ | refine ReqK.i ⟨by omega, by omega⟩ fun _ => ?_ | refine ReqK.i (fits_of2 (by first | omega | (simp only [List.length_map, List.length_take, List.length_append, List.length_cons, List.length_nil]; omega)) (by decide)) fun _ => ?_ | simp only [go_sem, reduceIte, reduceCtorEq, Nat.reduceEqDiff, Nat.reduceAdd, Nat.reduceSub, Nat.reduceMul, Nat.reduceDiv, Nat.reduceMod, Nat.reduceLT, Nat.reduceLeDiff, Nat.reduceBEq, Nat.reducePow, Int.reduceLE, Int.reduceLT, Int.reduceEq, Int.reduceNeg, Int.reduceAdd, Int.reduceToNat, Nat.lt_irrefl, hmul, hJe, form_eta, Tryd.f47, R36, R35, R34, R33, R32, R31, R30, R29, R28, R27, R26, R25, R24, R23, R22, R21, R20, R19, R18, R17, R16, R15, R14, R13, R12, R11, R10, R9, R8, R7, R6, R5, R4, R3, R2, R1, Q20, Q19, Q18, Q17, Q16, Q15, Q14, Q13, Q12, Q11, Q10, Q9, Q8, Q7, Q6, Q5, Q4, Q3, Q2, Q1, Tbl0])
  refine WK_loop hm hR36 47000 (lsw [31, 63] [1000007, 1000011, 1000012, 1000018]) (ι := WrapI dn R i (m2 + 1))
    ⟨fun q => ⟨frL [(6, .ptr (47006, 1) 0), (11, .ptr (47011, m2) 0), (12, .fz (.i .i64 (idxV q.p)))], hpL [((47006, 1), some ⟨[.fz (.i .i64 0), .fz (.s []), .full [], .full []], true, false⟩), ((47011, m2), some ⟨[.fz (.i .i64 q.c.kind), .fz (.s q.c.name.l), .fz (.sl (q.c.words.map enc)), .fz (.sl (q.c.subs.map enc))], true, false⟩)], q.m⟩, fun q => q.p⟩
    ⟨i, J, m2 + 1, Nat.le_refl _, Nat.le_refl _, hWe⟩ (by kernel_rfl) ?_ ?_
  · refine Weak_to ?_ ?_ ?_ <;> simp only [go_sem, reduceIte, reduceCtorEq, Nat.reduceEqDiff, Nat.reduceAdd, Nat.reduceSub, Nat.reduceMul, Nat.reduceDiv, Nat.reduceMod, Nat.reduceLT, Nat.reduceLeDiff, Nat.reduceBEq, Nat.reducePow, Int.reduceLE, Int.reduceLT, Int.reduceEq, Int.reduceNeg, Int.reduceAdd, Int.reduceToNat, idxV]
    all_goals first | done | rfl | trace_state
  rintro ⟨p, c, m3, hp, hm4, hwr⟩
  try simp only at hp hm4 hwr
  cases p with
  | zero =>
    have hcR : c = R := hwr
    repeat' (first | refine ReqK.i (by omega) fun _ => ?_ | refine ReqK.i (by unfold maxL; omega) fun _ => ?_ | refine ReqK.i ⟨by omega, by omega⟩ fun _ => ?_ | refine ReqK.i (fits_of2 (by first | omega | (simp only [List.length_map, List.length_take, List.length_append, List.length_cons, List.length_nil]; omega)) (by decide)) fun _ => ?_ | simp only [go_sem, reduceIte, reduceCtorEq, Nat.reduceEqDiff, Nat.reduceAdd, Nat.reduceSub, Nat.reduceMul, Nat.reduceDiv, Nat.reduceMod, Nat.reduceLT, Nat.reduceLeDiff, Nat.reduceBEq, Nat.reducePow, Int.reduceLE, Int.reduceLT, Int.reduceEq, Int.reduceNeg, Int.reduceAdd, Int.reduceToNat, idxV_zero, hcR, form_eta, Tryd.f47, R36, R35, R34, R33, R32, R31, R30, R29, R28, R27, R26, R25, R24, R23, R22, R21, R20, R19, R18, R17, R16, R15, R14, R13, R12, R11, R10, R9, R8, R7, R6, R5, R4, R3, R2, R1, Q20, Q19, Q18, Q17, Q16, Q15, Q14, Q13, Q12, Q11, Q10, Q9, Q8, Q7, Q6, Q5, Q4, Q3, Q2, Q1, Tbl0])
  | succ p =>
    have hw2 : wrap dn p (.mk 9 (dn p) [] [c]) = R := hwr
    have hdp := hdg p
    repeat' (first | refine ReqK.i (by omega) fun _ => ?_ | refine ReqK.i (by unfold maxL; omega) fun _ => ?_ | refine ReqK.i ⟨by omega, by omega⟩ fun _ => ?_ | refine ReqK.i (fits_of2 (by first | omega | (simp only [List.length_map, List.length_take, List.length_append, List.length_cons, List.length_nil]; omega)) (by decide)) fun _ => ?_ | simp only [go_sem, reduceIte, reduceCtorEq, Nat.reduceEqDiff, Nat.reduceAdd, Nat.reduceSub, Nat.reduceMul, Nat.reduceDiv, Nat.reduceMod, Nat.reduceLT, Nat.reduceLeDiff, Nat.reduceBEq, Nat.reducePow, Int.reduceLE, Int.reduceLT, Int.reduceEq, Int.reduceNeg, Int.reduceAdd, Int.reduceToNat, idxV_succ, Tryd.f47, R36, R35, R34, R33, R32, R31, R30, R29, R28, R27, R26, R25, R24, R23, R22, R21, R20, R19, R18, R17, R16, R15, R14, R13, R12, R11, R10, R9, R8, R7, R6, R5, R4, R3, R2, R1, Q20, Q19, Q18, Q17, Q16, Q15, Q14, Q13, Q12, Q11, Q10, Q9, Q8, Q7, Q6, Q5, Q4, Q3, Q2, Q1, Tbl0])
    refine WK_drawV hm hR36 47000 (lsw [31, 63] [1000007, 1000011, 1000012, 1000018]) tree4718 (by kernel_rfl) (by kernel_rfl) ?_
    repeat' (first | refine And.intro ?_ ?_ | exact True.intro | refine ReqK.i (by omega) fun _ => ?_ | refine ReqK.i (by unfold maxL; omega) fun _ => ?_ | refine ReqK.i ⟨by omega, by omega⟩ fun _ => ?_ | refine ReqK.i (fits_of2 (by first | omega | (simp only [List.length_map, List.length_take, List.length_append, List.length_cons, List.length_nil]; omega)) (by decide)) fun _ => ?_ | simp only [go_sem, reduceIte, reduceCtorEq, Nat.reduceEqDiff, Nat.reduceAdd, Nat.reduceSub, Nat.reduceMul, Nat.reduceDiv, Nat.reduceMod, Nat.reduceLT, Nat.reduceLeDiff, Nat.reduceBEq, Nat.reducePow, Int.reduceLE, Int.reduceLT, Int.reduceEq, Int.reduceNeg, Int.reduceAdd, Int.reduceToNat, tree4718, digS_l, hdn, idxV_succ, form_eta, str_eta, Tryd.f47, R36, R35, R34, R33, R32, R31, R30, R29, R28, R27, R26, R25, R24, R23, R22, R21, R20, R19, R18, R17, R16, R15, R14, R13, R12, R11, R10, R9, R8, R7, R6, R5, R4, R3, R2, R1, Q20, Q19, Q18, Q17, Q16, Q15, Q14, Q13, Q12, Q11, Q10, Q9, Q8, Q7, Q6, Q5, Q4, Q3, Q2, Q1, Tbl0])
    all_goals
      refine ⟨⟨p, .mk 9 (dn p) [] [c], m3 + 3, by omega, by omega, hw2⟩, by simp only; omega, ?_⟩
      refine Weak_g [] [] [] ?_ ?_ ?_ ?_ ?_ <;> (try simp only [go_sem, reduceIte, reduceCtorEq, Nat.reduceEqDiff, Nat.reduceAdd, Nat.reduceSub, Nat.reduceMul, Nat.reduceDiv, Nat.reduceMod, Nat.reduceLT, Nat.reduceLeDiff, Nat.reduceBEq, Nat.reducePow, Int.reduceLE, Int.reduceLT, Int.reduceEq, Int.reduceNeg, Int.reduceAdd, Int.reduceToNat, idxV, hdl])
      all_goals first | done | omega | rfl | trace_state
end Go.Proofs.YtomhobohcejocaaDoor

namespace Go.Proofs.YtomhobohcejocaaDoor
open Go Go.Abs Go.Proofs

/-! ## AtLeast, AtMost, Exactly -/
theorem leastP_ok {f : Abs.Form} {name : Str} {n : Nat} (h : n ≤ 4) (hc : (checkM false f).code = 0) : (leastP f name n).size ≤ 3000 ∧ (leastP f name n).fit = true :=
  leastG_ok h fun w => ⟨by rw [canonM_size]; exact checkM_size hc, by rw [canonM_fit]; exact checkM_fit hc⟩
theorem notF_ok {f : Abs.Form} (h : f.size ≤ 3000 ∧ f.fit = true) : szPre (notF f) := ⟨by simp [notF, Form.fit, Form.fits, h.2], by simp only [notF, Form.size, Form.sizes]; omega⟩
theorem andF_ok {f g : Abs.Form} (h : f.size ≤ 3000 ∧ f.fit = true) (h2 : g.size ≤ 3001 ∧ g.fit = true) : szPre (andF f g) := ⟨by simp [andF, Form.fit, Form.fits, h.2, h2.2], by simp only [andF, Form.size, Form.sizes]; omega⟩
theorem checkQ_ok {n : Int} {name : Str} {f : Abs.Form} (h : (checkQ n name f).code = 0) : checkQ n name f = ⟨0, 0⟩ ∧ 0 ≤ n ∧ n ≤ 3 ∧ isName name = true ∧ (checkM false f).code = 0 := by
  unfold checkQ at h ⊢
  split at h
  · simp at h
  rename_i h1
  rw [if_neg h1]
  split at h
  · simp at h
  rename_i h2
  rw [if_neg h2]
  exact ⟨checkM_code h, by omega, by omega, by simpa using h2, h⟩
def tree464 : Tv := (.q 0 (.q 1 (.q 2 (.q 3 (.q 4 (.q 5 (.q 6 (.q 7 (.q 8 (.q 9 (.q 10 (.q 11 (.q 12 (.q 13 (.br [(14, (.br [(15, .leaf)]))])))))))))))))))
def alP (n : Int) (name : Str) (f : Abs.Form) : Abs.Form × Fault := if (checkQ n name f).code ≠ 0 then (zeroF, checkQ n name f) else (doneF (leastP f name n.toNat), doneE (leastP f name n.toNat))
def R38 : Tbl := R37.add 40 (sp3p alP fun _ _ _ => True)
set_option maxRecDepth 100000 in
set_option maxHeartbeats 1000000 in
theorem hR38 : TblOk Tryd.prog GA R38 := by
  refine sp3p_ok ok40 hR37 fun n name f _ _ _ _ => ?_
  by_cases hc1 : ¬ (checkQ n name f).code = 0
  · have e1 : alP n name f = (zeroF, checkQ n name f) := by unfold alP; rw [if_pos hc1]
    simp only [e1, zeroF]
    refine Wcall_K (N := 25) hm hR37 40000 (lst [1000003]) ok40 Tryd.func40 rfl rfl (by simp) (by kernel_rfl) ?_
    repeat' (first | refine WK_drawV hm hR37 40000 (lst [1000003]) tree503 (by kernel_rfl) (by kernel_rfl) ?_ | refine And.intro ?_ ?_ | exact True.intro | refine ReqK.i (by omega) fun _ => ?_ | refine ReqK.i (by unfold maxL; omega) fun _ => ?_ | simp only [go_sem, reduceIte, reduceCtorEq, Nat.reduceEqDiff, Nat.reduceAdd, Nat.reduceSub, Nat.reduceMul, Nat.reduceDiv, Nat.reduceMod, Nat.reduceLT, Nat.reduceLeDiff, Nat.reduceBEq, Nat.reducePow, Int.reduceLE, Int.reduceLT, Int.reduceEq, Int.reduceNeg, Int.reduceAdd, Int.reduceToNat, hc1, form_eta, str_eta, tree503, Tryd.f40, R37, R36, R35, R34, R33, R32, R31, R30, R29, R28, R27, R26, R25, R24, R23, R22, R21, R20, R19, R18, R17, R16, R15, R14, R13, R12, R11, R10, R9, R8, R7, R6, R5, R4, R3, R2, R1, Q20, Q19, Q18, Q17, Q16, Q15, Q14, Q13, Q12, Q11, Q10, Q9, Q8, Q7, Q6, Q5, Q4, Q3, Q2, Q1, Tbl0])
  · have hc1 := Decidable.not_not.1 hc1
    obtain ⟨hcc, h0, h3, hnm, hc⟩ := checkQ_ok hc1
    have e1 : alP n name f = (doneF (leastP f name n.toNat), doneE (leastP f name n.toNat)) := by unfold alP; rw [if_neg (by simp [hc1])]
    rw [e1]
    obtain ⟨N, rfl⟩ : ∃ N : Nat, n = (N : Int) := ⟨n.toNat, by omega⟩
    have hN0 : ((N : Int)).toNat = N := rfl
    have hN1 : ((N : Int) + 1).toNat = N + 1 := rfl
    have hp0 : leastPre (N : Int) name f := ⟨by omega, by omega, hc⟩
    have hp1 : leastPre ((N : Int) + 1) name f := ⟨by omega, by omega, hc⟩
    have hl0 := leastP_ok (name := name) (show N ≤ 4 by omega) hc
    have hl1 := leastP_ok (name := name) (show N + 1 ≤ 4 by omega) hc
    have hs : szPre (leastP f name N) := ⟨hl0.2, by omega⟩
    rw [hN0]
    obtain ⟨c, hcE⟩ : ∃ c, doneF (leastP f name N) = c := ⟨_, rfl⟩
    rw [hcE]
    refine Wcall_K (N := 25) hm hR37 40000 (lst [1000003]) ok40 Tryd.func40 rfl rfl (by simp) (by kernel_rfl) ?_
    repeat' (first | refine ReqK.i hp0 fun _ => ?_ | refine ReqK.i hp1 fun _ => ?_ | refine ReqK.i hs fun _ => ?_ | refine ReqK.i (by omega) fun _ => ?_ | refine ReqK.i (by unfold maxL; omega) fun _ => ?_ | simp only [go_sem, reduceIte, reduceCtorEq, Nat.reduceEqDiff, Nat.reduceAdd, Nat.reduceSub, Nat.reduceMul, Nat.reduceDiv, Nat.reduceMod, Nat.reduceLT, Nat.reduceLeDiff, Nat.reduceBEq, Nat.reducePow, Int.reduceLE, Int.reduceLT, Int.reduceEq, Int.reduceNeg, Int.reduceAdd, Int.reduceToNat, hcc, hN0, hN1, hcE, form_eta, str_eta, Tryd.f40, R37, R36, R35, R34, R33, R32, R31, R30, R29, R28, R27, R26, R25, R24, R23, R22, R21, R20, R19, R18, R17, R16, R15, R14, R13, R12, R11, R10, R9, R8, R7, R6, R5, R4, R3, R2, R1, Q20, Q19, Q18, Q17, Q16, Q15, Q14, Q13, Q12, Q11, Q10, Q9, Q8, Q7, Q6, Q5, Q4, Q3, Q2, Q1, Tbl0])
def amP (n : Int) (name : Str) (f : Abs.Form) : Abs.Form × Fault := if (checkQ n name f).code ≠ 0 then (zeroF, checkQ n name f) else (doneF (notF (leastP f name (n.toNat + 1))), doneE (notF (leastP f name (n.toNat + 1))))
def R39 : Tbl := R38.add 45 (sp3p amP fun _ _ _ => True)
set_option maxRecDepth 100000 in
set_option maxHeartbeats 1000000 in
theorem hR39 : TblOk Tryd.prog GA R39 := by
  refine sp3p_ok ok45 hR38 fun n name f _ _ _ _ => ?_
  by_cases hc1 : ¬ (checkQ n name f).code = 0
  · have e1 : amP n name f = (zeroF, checkQ n name f) := by unfold amP; rw [if_pos hc1]
    simp only [e1, zeroF]
    refine Wcall_K (N := 27) hm hR38 45000 (lst [1000003]) ok45 Tryd.func45 rfl rfl (by simp) (by kernel_rfl) ?_
    repeat' (first | refine WK_drawV hm hR38 45000 (lst [1000003]) tree503 (by kernel_rfl) (by kernel_rfl) ?_ | refine And.intro ?_ ?_ | exact True.intro | refine ReqK.i (by omega) fun _ => ?_ | refine ReqK.i (by unfold maxL; omega) fun _ => ?_ | simp only [go_sem, reduceIte, reduceCtorEq, Nat.reduceEqDiff, Nat.reduceAdd, Nat.reduceSub, Nat.reduceMul, Nat.reduceDiv, Nat.reduceMod, Nat.reduceLT, Nat.reduceLeDiff, Nat.reduceBEq, Nat.reducePow, Int.reduceLE, Int.reduceLT, Int.reduceEq, Int.reduceNeg, Int.reduceAdd, Int.reduceToNat, hc1, form_eta, str_eta, tree503, Tryd.f45, R38, R37, R36, R35, R34, R33, R32, R31, R30, R29, R28, R27, R26, R25, R24, R23, R22, R21, R20, R19, R18, R17, R16, R15, R14, R13, R12, R11, R10, R9, R8, R7, R6, R5, R4, R3, R2, R1, Q20, Q19, Q18, Q17, Q16, Q15, Q14, Q13, Q12, Q11, Q10, Q9, Q8, Q7, Q6, Q5, Q4, Q3, Q2, Q1, Tbl0])
  · have hc1 := Decidable.not_not.1 hc1
    obtain ⟨hcc, h0, h3, hnm, hc⟩ := checkQ_ok hc1
    have e1 : amP n name f = (doneF (notF (leastP f name (n.toNat + 1))), doneE (notF (leastP f name (n.toNat + 1)))) := by unfold amP; rw [if_neg (by simp [hc1])]
    rw [e1]
    obtain ⟨N, rfl⟩ : ∃ N : Nat, n = (N : Int) := ⟨n.toNat, by omega⟩
    have hN0 : ((N : Int)).toNat = N := rfl
    have hN1 : ((N : Int) + 1).toNat = N + 1 := rfl
    have hp0 : leastPre (N : Int) name f := ⟨by omega, by omega, hc⟩
    have hp1 : leastPre ((N : Int) + 1) name f := ⟨by omega, by omega, hc⟩
    have hl0 := leastP_ok (name := name) (show N ≤ 4 by omega) hc
    have hl1 := leastP_ok (name := name) (show N + 1 ≤ 4 by omega) hc
    have hs : szPre (notF (leastP f name (N + 1))) := notF_ok hl1
    rw [hN0]
    obtain ⟨c, hcE⟩ : ∃ c, doneF (notF (leastP f name (N + 1))) = c := ⟨_, rfl⟩
    rw [hcE]
    refine Wcall_K (N := 27) hm hR38 45000 (lst [1000003]) ok45 Tryd.func45 rfl rfl (by simp) (by kernel_rfl) ?_
    repeat' (first | refine ReqK.i hp0 fun _ => ?_ | refine ReqK.i hp1 fun _ => ?_ | refine ReqK.i hs fun _ => ?_ | refine ReqK.i (by omega) fun _ => ?_ | refine ReqK.i (by unfold maxL; omega) fun _ => ?_ | simp only [go_sem, reduceIte, reduceCtorEq, Nat.reduceEqDiff, Nat.reduceAdd, Nat.reduceSub, Nat.reduceMul, Nat.reduceDiv, Nat.reduceMod, Nat.reduceLT, Nat.reduceLeDiff, Nat.reduceBEq, Nat.reducePow, Int.reduceLE, Int.reduceLT, Int.reduceEq, Int.reduceNeg, Int.reduceAdd, Int.reduceToNat, hcc, hN0, hN1, hcE, form_eta, str_eta, Tryd.f45, R38, R37, R36, R35, R34, R33, R32, R31, R30, R29, R28, R27, R26, R25, R24, R23, R22, R21, R20, R19, R18, R17, R16, R15, R14, R13, R12, R11, R10, R9, R8, R7, R6, R5, R4, R3, R2, R1, Q20, Q19, Q18, Q17, Q16, Q15, Q14, Q13, Q12, Q11, Q10, Q9, Q8, Q7, Q6, Q5, Q4, Q3, Q2, Q1, Tbl0])
def exP (n : Int) (name : Str) (f : Abs.Form) : Abs.Form × Fault := if (checkQ n name f).code ≠ 0 then (zeroF, checkQ n name f) else (doneF (andF (leastP f name n.toNat) (notF (leastP f name (n.toNat + 1)))), doneE (andF (leastP f name n.toNat) (notF (leastP f name (n.toNat + 1)))))
def R40 : Tbl := R39.add 46 (sp3p exP fun _ _ _ => True)
set_option maxRecDepth 100000 in
set_option maxHeartbeats 1000000 in
theorem hR40 : TblOk Tryd.prog GA R40 := by
  refine sp3p_ok ok46 hR39 fun n name f _ _ _ _ => ?_
  by_cases hc1 : ¬ (checkQ n name f).code = 0
  · have e1 : exP n name f = (zeroF, checkQ n name f) := by unfold exP; rw [if_pos hc1]
    simp only [e1, zeroF]
    refine Wcall_K (N := 32) hm hR39 46000 (lst [1000003, 1000004]) ok46 Tryd.func46 rfl rfl (by simp) (by kernel_rfl) ?_
    repeat' (first | refine WK_drawV hm hR39 46000 (lst [1000003, 1000004]) tree503 (by kernel_rfl) (by kernel_rfl) ?_ | refine And.intro ?_ ?_ | exact True.intro | refine ReqK.i (by omega) fun _ => ?_ | refine ReqK.i (by unfold maxL; omega) fun _ => ?_ | simp only [go_sem, reduceIte, reduceCtorEq, Nat.reduceEqDiff, Nat.reduceAdd, Nat.reduceSub, Nat.reduceMul, Nat.reduceDiv, Nat.reduceMod, Nat.reduceLT, Nat.reduceLeDiff, Nat.reduceBEq, Nat.reducePow, Int.reduceLE, Int.reduceLT, Int.reduceEq, Int.reduceNeg, Int.reduceAdd, Int.reduceToNat, hc1, form_eta, str_eta, tree503, Tryd.f46, R39, R38, R37, R36, R35, R34, R33, R32, R31, R30, R29, R28, R27, R26, R25, R24, R23, R22, R21, R20, R19, R18, R17, R16, R15, R14, R13, R12, R11, R10, R9, R8, R7, R6, R5, R4, R3, R2, R1, Q20, Q19, Q18, Q17, Q16, Q15, Q14, Q13, Q12, Q11, Q10, Q9, Q8, Q7, Q6, Q5, Q4, Q3, Q2, Q1, Tbl0])
  · have hc1 := Decidable.not_not.1 hc1
    obtain ⟨hcc, h0, h3, hnm, hc⟩ := checkQ_ok hc1
    have e1 : exP n name f = (doneF (andF (leastP f name n.toNat) (notF (leastP f name (n.toNat + 1)))), doneE (andF (leastP f name n.toNat) (notF (leastP f name (n.toNat + 1))))) := by unfold exP; rw [if_neg (by simp [hc1])]
    rw [e1]
    obtain ⟨N, rfl⟩ : ∃ N : Nat, n = (N : Int) := ⟨n.toNat, by omega⟩
    have hN0 : ((N : Int)).toNat = N := rfl
    have hN1 : ((N : Int) + 1).toNat = N + 1 := rfl
    have hp0 : leastPre (N : Int) name f := ⟨by omega, by omega, hc⟩
    have hp1 : leastPre ((N : Int) + 1) name f := ⟨by omega, by omega, hc⟩
    have hl0 := leastP_ok (name := name) (show N ≤ 4 by omega) hc
    have hl1 := leastP_ok (name := name) (show N + 1 ≤ 4 by omega) hc
    have hs : szPre (andF (leastP f name N) (notF (leastP f name (N + 1)))) := andF_ok hl0 ⟨by simp only [notF, Form.size, Form.sizes]; omega, by simp [notF, Form.fit, Form.fits, hl1.2]⟩
    rw [hN0]
    obtain ⟨c, hcE⟩ : ∃ c, doneF (andF (leastP f name N) (notF (leastP f name (N + 1)))) = c := ⟨_, rfl⟩
    rw [hcE]
    refine Wcall_K (N := 32) hm hR39 46000 (lst [1000003, 1000004]) ok46 Tryd.func46 rfl rfl (by simp) (by kernel_rfl) ?_
    repeat' (first | refine ReqK.i hp0 fun _ => ?_ | refine ReqK.i hp1 fun _ => ?_ | refine ReqK.i hs fun _ => ?_ | refine ReqK.i (by omega) fun _ => ?_ | refine ReqK.i (by unfold maxL; omega) fun _ => ?_ | simp only [go_sem, reduceIte, reduceCtorEq, Nat.reduceEqDiff, Nat.reduceAdd, Nat.reduceSub, Nat.reduceMul, Nat.reduceDiv, Nat.reduceMod, Nat.reduceLT, Nat.reduceLeDiff, Nat.reduceBEq, Nat.reducePow, Int.reduceLE, Int.reduceLT, Int.reduceEq, Int.reduceNeg, Int.reduceAdd, Int.reduceToNat, hcc, hN0, hN1, hcE, form_eta, str_eta, Tryd.f46, R39, R38, R37, R36, R35, R34, R33, R32, R31, R30, R29, R28, R27, R26, R25, R24, R23, R22, R21, R20, R19, R18, R17, R16, R15, R14, R13, R12, R11, R10, R9, R8, R7, R6, R5, R4, R3, R2, R1, Q20, Q19, Q18, Q17, Q16, Q15, Q14, Q13, Q12, Q11, Q10, Q9, Q8, Q7, Q6, Q5, Q4, Q3, Q2, Q1, Tbl0])
    refine WK_weak2 (Weak_rpL (id := (46005, 0)) (t := 5) (b := true) (ys := [.i .i64 f.kind, .s f.name.l, .sl (f.words.map enc), .sl (f.subs.map enc)]) (by simp only [go_sem, reduceIte, reduceCtorEq, Nat.reduceEqDiff, Nat.reduceAdd, Nat.reduceSub, Nat.reduceMul, Nat.reduceDiv, Nat.reduceMod, Nat.reduceLT, Nat.reduceLeDiff, Nat.reduceBEq, Nat.reducePow, Int.reduceLE, Int.reduceLT, Int.reduceEq, Int.reduceNeg, Int.reduceAdd, Int.reduceToNat]) (by simp only [go_sem, reduceIte, reduceCtorEq, Nat.reduceEqDiff, Nat.reduceAdd, Nat.reduceSub, Nat.reduceMul, Nat.reduceDiv, Nat.reduceMod, Nat.reduceLT, Nat.reduceLeDiff, Nat.reduceBEq, Nat.reducePow, Int.reduceLE, Int.reduceLT, Int.reduceEq, Int.reduceNeg, Int.reduceAdd, Int.reduceToNat])) ?_
    repeat' (first | refine ReqK.i hp0 fun _ => ?_ | refine ReqK.i hp1 fun _ => ?_ | refine ReqK.i hs fun _ => ?_ | refine WK_drawV hm hR39 46000 (lst [1000003, 1000004]) tree464 (by kernel_rfl) (by kernel_rfl) ?_ | refine And.intro ?_ ?_ | exact True.intro | refine ReqK.i (by omega) fun _ => ?_ | refine ReqK.i (by unfold maxL; omega) fun _ => ?_ | simp only [go_sem, reduceIte, reduceCtorEq, Nat.reduceEqDiff, Nat.reduceAdd, Nat.reduceSub, Nat.reduceMul, Nat.reduceDiv, Nat.reduceMod, Nat.reduceLT, Nat.reduceLeDiff, Nat.reduceBEq, Nat.reducePow, Int.reduceLE, Int.reduceLT, Int.reduceEq, Int.reduceNeg, Int.reduceAdd, Int.reduceToNat, tree464, hcc, hN0, hN1, hcE, form_eta, str_eta, Tryd.f46, R39, R38, R37, R36, R35, R34, R33, R32, R31, R30, R29, R28, R27, R26, R25, R24, R23, R22, R21, R20, R19, R18, R17, R16, R15, R14, R13, R12, R11, R10, R9, R8, R7, R6, R5, R4, R3, R2, R1, Q20, Q19, Q18, Q17, Q16, Q15, Q14, Q13, Q12, Q11, Q10, Q9, Q8, Q7, Q6, Q5, Q4, Q3, Q2, Q1, Tbl0])
end Go.Proofs.YtomhobohcejocaaDoor

namespace Go.Abs
open Go
mutual
theorem mapF_clean {σ : Str → Str} {p : Str → Prop} (h : ∀ w, p w → ¬ bang (σ w)) : ∀ f : Abs.Form, allW p f → clean (mapF σ f)
  | .mk k nm ws s, hf => by
    rw [allW] at hf
    rw [mapF, clean]
    refine ⟨fun w hw => ?_, mapFs_clean h s hf.2.2⟩
    obtain ⟨x, hx, rfl⟩ := List.mem_map.1 hw
    exact h x (hf.1 x hx)
theorem mapFs_clean {σ : Str → Str} {p : Str → Prop} (h : ∀ w, p w → ¬ bang (σ w)) : ∀ fs : List Abs.Form, allWs p fs → cleans (mapFs σ fs)
  | [], _ => by rw [mapFs, cleans]; trivial
  | f :: fs, hf => by rw [allWs] at hf; rw [mapFs, cleans]; exact ⟨mapF_clean h f hf.1, mapFs_clean h fs hf.2⟩
end
theorem sg_bang {n : Nat} {w : Str} (h : lwP n w) : ¬ bang (sg w) := by
  by_cases e : w.l.head? = some 63
  · obtain ⟨i, _, rfl⟩ := h.1 e
    rw [sg_qn]; simp [bang, dn]
  · rw [sg_fix e]; exact h.2.2
end Go.Abs
namespace Go.Proofs.YtomhobohcejocaaDoor
open Go Go.Abs Go.Proofs

/-! ## the law -/
theorem map_szPre {f : Abs.Form} (h : szPre f) : szPre (mapF sg f) := ⟨by rw [mapF_fit]; exact h.1, by rw [mapF_size]; exact h.2⟩
/-- of formulas alike up to the names of bound variables the same is returned -/
theorem done_both {n : Nat} {P : Abs.Form} (hp : allW (lwP n) P) (hc : ∀ x ∈ cst P [], sg x = x) : doneR (mapF sg P) = doneF P ∧ doneE (mapF sg P) = doneE P := by
  have h1 := done_alpha lwP_inj hp hc
  rw [doneR_eq (mapF_clean (fun w hw => sg_bang hw) P hp)]
  exact h1
def sV0 : Str := ⟨[118, 48]⟩
def fDog : Abs.Form := predM sDog [sX]
def gDog : Abs.Form := .mk 9 sV0 [] [predM sDog [sV0]]
theorem v0_eq : vnum 0 = sV0 := by
  unfold vnum sV0
  rw [digits_small (by decide)]; rfl
theorem put_dog : canonM fDog [⟨sX, qn 0⟩] = predM sDog [qn 0] := by
  have h : lkp [⟨sX, qn 0⟩] sX = qn 0 := by
    have := lkp_snoc [] ⟨sX, qn 0⟩ sX
    rw [List.nil_append] at this
    rw [this, if_pos rfl]
  unfold canonM fDog predM
  rw [ren, if_neg (by decide), rens]
  simp only [List.map_cons, List.map_nil, h]
theorem can_dog : canonM (.mk 9 (qn 0) [] [predM sDog [qn 0]]) [] = gDog := by
  have hc : cst (.mk 9 (qn 0) [] [predM sDog [qn 0]]) [] = [] := by
    unfold predM
    rw [cst, if_pos (show isQ 9 from .inr rfl), csts, csts, cst, csts]
    simp
  have hu : usedM (.mk 9 (qn 0) [] [predM sDog [qn 0]]) = [] := List.eq_nil_of_length_eq_zero (by have := usedM_len (.mk 9 (qn 0) [] [predM sDog [qn 0]]); rw [hc] at this; simpa using this)
  have h : lkp [⟨qn 0, vnum 0⟩] (qn 0) = vnum 0 := by
    have := lkp_snoc [] ⟨qn 0, vnum 0⟩ (qn 0)
    rw [List.nil_append] at this
    rw [this, if_pos rfl]
  have hv : vg (replM [] []) 0 = (vnum 0, 1) := rfl
  unfold canonM
  rw [hu, ren, if_pos (show isQ 9 from .inr rfl), hv]
  unfold predM
  rw [rens, rens, ren, if_neg (by decide), rens]
  simp only [List.nil_append, List.map_cons, List.map_nil, h]
  unfold gDog predM
  rw [v0_eq]
theorem least_dog : leastP fDog sX 1 = .mk 9 (qn 0) [] [predM sDog [qn 0]] := by
  have : leastP fDog sX 1 = .mk 9 (qn 0) [] [canonM fDog [⟨sX, qn 0⟩]] := rfl
  rw [this, put_dog]
theorem fit_dog : fitsM (.mk 9 (qn 0) [] [predM sDog [qn 0]]) = true := by simp [fitsM, predM, Form.size, Form.sizes, Form.depth, Form.depths]
theorem chk_dog : checkQ 1 sX fDog = ⟨0, 0⟩ := by kernel_rfl
theorem atl_x : alP 1 sX fDog = (gDog, ⟨0, 0⟩) := by
  unfold alP
  rw [chk_dog, if_neg (by decide), show ((1 : Int)).toNat = 1 from rfl, least_dog]
  unfold doneF doneE
  rw [fit_dog, if_pos rfl, if_pos rfl, can_dog]
theorem bnd_x : boundM 9 sV0 (predM sDog [sV0]) = gDog := rfl
theorem zero_kind : zeroF.kind = 0 := rfl
def tree1015 : Tv := (.q 0 (.q 1 (.q 2 (.q 3 (.q 4 (.q 5 (.q 6 (.q 7 (.q 8 (.q 9 (.br [(10, (.br [(11, (.br [(12, (.br [(13, .leaf)]))]))])), (11, (.br [(10, (.br [(12, (.br [(13, .leaf)]))]))]))])))))))))))
theorem all_bad {n : Int} {name : Str} {f : Abs.Form} {e : Fault} (h : checkQ n name f = e) (hc : e.code ≠ 0) : alP n name f = (zeroF, e) ∧ amP n name f = (zeroF, e) ∧ exP n name f = (zeroF, e) := by
  unfold alP amP exP
  rw [h, if_pos hc, if_pos hc, if_pos hc]
  exact ⟨rfl, rfl, rfl⟩
set_option maxRecDepth 100000 in
set_option maxHeartbeats 1000000 in
set_option maxHeartbeats 80000000 in
theorem lawF10 (hT : TblOk Tryd.prog GA R40) (n : Int) (name : Str) (f : Abs.Form) (_ : (enc n).Wf) (_ : (enc name).Wf) (_ : (enc f).Wf) : Wcall Tryd.prog GA 10 [.fz (enc n), .fz (enc name), .fz (enc f)] (hpL []) 0 (fun d _ _ => d = .fz (.b true)) := by
  have dD : Str.mk [100, 111, 103] = sDog := rfl
  have dX : Str.mk [120] = sX := rfl
  have dV : Str.mk [118, 48] = sV0 := rfl
  have dF : predM sDog [sX] = fDog := rfl
  have dG := @twoM
  have zm := zero_mk
  have zk := zero_kind
  clear dG
  refine Wcall_K (N := 162) hm hT 10000 (lst [1000015]) ok10 Tryd.func10 rfl rfl (by simp) (by kernel_rfl) ?_
  by_cases h1 : n < 0
  · obtain ⟨ea, em, ex⟩ := all_bad (show checkQ n name f = ⟨3, -1⟩ by unfold checkQ; rw [if_pos (.inl h1)]) (by decide)
    repeat' (first | refine ReqK.i (by omega) fun _ => ?_ | refine ReqK.i (by unfold maxL; omega) fun _ => ?_ | refine ReqK.i ⟨rfl, rfl⟩ fun _ => ?_ | refine ReqK.i rfl fun _ => ?_ | refine ReqK.i ⟨rfl, rfl, rfl⟩ fun _ => ?_ | refine ReqK.i ⟨rfl, rfl, rfl, trivial⟩ fun _ => ?_ | simp only [go_sem, reduceIte, reduceCtorEq, Nat.reduceEqDiff, Nat.reduceAdd, Nat.reduceSub, Nat.reduceMul, Nat.reduceDiv, Nat.reduceMod, Nat.reduceLT, Nat.reduceLeDiff, Nat.reduceBEq, Nat.reducePow, Int.reduceLE, Int.reduceLT, Int.reduceEq, Int.reduceNeg, Int.reduceAdd, Int.reduceToNat, dD, dX, dV, dF, atl_x, bnd_x, zm, zk, h1, ea, em, ex, str_eta, form_eta, GA, Tryd.f10, R40, R39, R38, R37, R36, R35, R34, R33, R32, R31, R30, R29, R28, R27, R26, R25, R24, R23, R22, R21, R20, R19, R18, R17, R16, R15, R14, R13, R12, R11, R10, R9, R8, R7, R6, R5, R4, R3, R2, R1, Q20, Q19, Q18, Q17, Q16, Q15, Q14, Q13, Q12, Q11, Q10, Q9, Q8, Q7, Q6, Q5, Q4, Q3, Q2, Q1, Tbl0])
  by_cases h2 : 3 < n
  · obtain ⟨ea, em, ex⟩ := all_bad (show checkQ n name f = ⟨3, -1⟩ by unfold checkQ; rw [if_pos (.inr h2)]) (by decide)
    repeat' (first | refine ReqK.i (by omega) fun _ => ?_ | refine ReqK.i (by unfold maxL; omega) fun _ => ?_ | refine ReqK.i ⟨rfl, rfl⟩ fun _ => ?_ | refine ReqK.i rfl fun _ => ?_ | refine ReqK.i ⟨rfl, rfl, rfl⟩ fun _ => ?_ | refine ReqK.i ⟨rfl, rfl, rfl, trivial⟩ fun _ => ?_ | simp only [go_sem, reduceIte, reduceCtorEq, Nat.reduceEqDiff, Nat.reduceAdd, Nat.reduceSub, Nat.reduceMul, Nat.reduceDiv, Nat.reduceMod, Nat.reduceLT, Nat.reduceLeDiff, Nat.reduceBEq, Nat.reducePow, Int.reduceLE, Int.reduceLT, Int.reduceEq, Int.reduceNeg, Int.reduceAdd, Int.reduceToNat, dD, dX, dV, dF, atl_x, bnd_x, zm, zk, h1, h2, ea, em, ex, str_eta, form_eta, GA, Tryd.f10, R40, R39, R38, R37, R36, R35, R34, R33, R32, R31, R30, R29, R28, R27, R26, R25, R24, R23, R22, R21, R20, R19, R18, R17, R16, R15, R14, R13, R12, R11, R10, R9, R8, R7, R6, R5, R4, R3, R2, R1, Q20, Q19, Q18, Q17, Q16, Q15, Q14, Q13, Q12, Q11, Q10, Q9, Q8, Q7, Q6, Q5, Q4, Q3, Q2, Q1, Tbl0])
  cases h3 : isName name with
  | false =>
    obtain ⟨ea, em, ex⟩ := all_bad (show checkQ n name f = ⟨10, -2⟩ by unfold checkQ; rw [if_neg (by omega), if_pos h3]) (by decide)
    repeat' (first | refine ReqK.i (by omega) fun _ => ?_ | refine ReqK.i (by unfold maxL; omega) fun _ => ?_ | refine ReqK.i ⟨rfl, rfl⟩ fun _ => ?_ | refine ReqK.i rfl fun _ => ?_ | refine ReqK.i ⟨rfl, rfl, rfl⟩ fun _ => ?_ | refine ReqK.i ⟨rfl, rfl, rfl, trivial⟩ fun _ => ?_ | simp only [go_sem, reduceIte, reduceCtorEq, Nat.reduceEqDiff, Nat.reduceAdd, Nat.reduceSub, Nat.reduceMul, Nat.reduceDiv, Nat.reduceMod, Nat.reduceLT, Nat.reduceLeDiff, Nat.reduceBEq, Nat.reducePow, Int.reduceLE, Int.reduceLT, Int.reduceEq, Int.reduceNeg, Int.reduceAdd, Int.reduceToNat, dD, dX, dV, dF, atl_x, bnd_x, zm, zk, h1, h2, h3, ea, em, ex, str_eta, form_eta, GA, Tryd.f10, R40, R39, R38, R37, R36, R35, R34, R33, R32, R31, R30, R29, R28, R27, R26, R25, R24, R23, R22, R21, R20, R19, R18, R17, R16, R15, R14, R13, R12, R11, R10, R9, R8, R7, R6, R5, R4, R3, R2, R1, Q20, Q19, Q18, Q17, Q16, Q15, Q14, Q13, Q12, Q11, Q10, Q9, Q8, Q7, Q6, Q5, Q4, Q3, Q2, Q1, Tbl0])
  | true =>
    have hcq : checkQ n name f = checkM false f := by unfold checkQ; rw [if_neg (by omega), if_neg (by simp [h3])]
    by_cases h4 : ¬ (checkM false f).code = 0
    · obtain ⟨ea, em, ex⟩ := all_bad hcq h4
      repeat' (first | refine ReqK.i (by omega) fun _ => ?_ | refine ReqK.i (by unfold maxL; omega) fun _ => ?_ | refine ReqK.i ⟨rfl, rfl⟩ fun _ => ?_ | refine ReqK.i rfl fun _ => ?_ | refine ReqK.i ⟨rfl, rfl, rfl⟩ fun _ => ?_ | refine ReqK.i ⟨rfl, rfl, rfl, trivial⟩ fun _ => ?_ | simp only [go_sem, reduceIte, reduceCtorEq, Nat.reduceEqDiff, Nat.reduceAdd, Nat.reduceSub, Nat.reduceMul, Nat.reduceDiv, Nat.reduceMod, Nat.reduceLT, Nat.reduceLeDiff, Nat.reduceBEq, Nat.reducePow, Int.reduceLE, Int.reduceLT, Int.reduceEq, Int.reduceNeg, Int.reduceAdd, Int.reduceToNat, dD, dX, dV, dF, atl_x, bnd_x, zm, zk, h1, h2, h3, h4, ea, em, ex, str_eta, form_eta, GA, Tryd.f10, R40, R39, R38, R37, R36, R35, R34, R33, R32, R31, R30, R29, R28, R27, R26, R25, R24, R23, R22, R21, R20, R19, R18, R17, R16, R15, R14, R13, R12, R11, R10, R9, R8, R7, R6, R5, R4, R3, R2, R1, Q20, Q19, Q18, Q17, Q16, Q15, Q14, Q13, Q12, Q11, Q10, Q9, Q8, Q7, Q6, Q5, Q4, Q3, Q2, Q1, Tbl0])
    have hc := Decidable.not_not.1 h4
    have hce := checkM_code hc
    obtain ⟨N, rfl⟩ : ∃ N : Nat, n = (N : Int) := ⟨n.toNat, by omega⟩
    have hN0 : ((N : Int)).toNat = N := rfl
    have hN1 : ((N : Int) + 1).toNat = N + 1 := rfl
    have hp0 : leastPre (N : Int) name f := ⟨by omega, by omega, hc⟩
    have hp1 : leastPre ((N : Int) + 1) name f := ⟨by omega, by omega, hc⟩
    have hl0 := leastP_ok (name := name) (show N ≤ 4 by omega) hc
    have hl1 := leastP_ok (name := name) (show N + 1 ≤ 4 by omega) hc
    have hs0 : szPre (leastP f name N) := ⟨hl0.2, by omega⟩
    have hs1 := notF_ok hl1
    have hs2 : szPre (andF (leastP f name N) (notF (leastP f name (N + 1)))) := andF_ok hl0 ⟨by simp only [notF, Form.size, Form.sizes]; omega, by simp [notF, Form.fit, Form.fits, hl1.2]⟩
    have w0 := leastP_allW (name := name) hc N
    have w1 := leastP_allW (name := name) hc (N + 1)
    have c0 := leastP_free (name := name) hc N
    have c1 := leastP_free (name := name) hc (N + 1)
    have d0 := done_both w0 c0
    have d1 := done_both (notF_allW w1) (fun x hx => c1 x (notF_cst hx))
    have d2 := done_both (andF_allW (allW_mono (lwP_mono (Nat.le_succ N)) _ w0) (notF_allW w1)) (fun x hx => by
      rcases andF_cst hx with h | h
      · exact c0 x h
      · exact c1 x (notF_cst h))
    have m0 := map_szPre hs0
    have m1 := map_szPre hs1
    have m2 := map_szPre hs2
    rw [andF_map] at d2 m2
    rw [notF_map] at d1 m1 d2 m2
    rw [← leastR_map hc] at d0 d1 d2 m0 m1 m2
    rw [← leastR_map hc] at d2 m2
    have ea : alP (N : Int) name f = (doneF (leastP f name N), doneE (leastP f name N)) := by unfold alP; rw [hcq, if_neg (by simp [hc])]; rfl
    have em : amP (N : Int) name f = (doneF (notF (leastP f name (N + 1))), doneE (notF (leastP f name (N + 1)))) := by unfold amP; rw [hcq, if_neg (by simp [hc])]; rfl
    have ex : exP (N : Int) name f = (doneF (andF (leastP f name N) (notF (leastP f name (N + 1)))), doneE (andF (leastP f name N) (notF (leastP f name (N + 1))))) := by unfold exP; rw [hcq, if_neg (by simp [hc])]; rfl
    rw [← d0.1, ← d0.2] at ea
    rw [← d1.1, ← d1.2] at em
    rw [← d2.1, ← d2.2] at ex
    obtain ⟨x, hx⟩ : ∃ x, leastR f name N = x := ⟨_, rfl⟩
    obtain ⟨z, hzz⟩ : ∃ z, leastR f name (N + 1) = z := ⟨_, rfl⟩
    rw [hx] at ea ex m0 m2
    rw [hzz] at em ex m1 m2
    obtain ⟨y, hy⟩ : ∃ y, notF z = y := ⟨_, rfl⟩
    rw [hy] at em ex m1 m2
    obtain ⟨t, ht⟩ : ∃ t, twoM 5 x y = t := ⟨_, rfl⟩
    have ht2 : andF x y = t := ht
    rw [ht2] at ex m2
    obtain ⟨a1, ha1⟩ : ∃ a, doneR x = a := ⟨_, rfl⟩
    obtain ⟨a2, ha2⟩ : ∃ a, doneR y = a := ⟨_, rfl⟩
    obtain ⟨a3, ha3⟩ : ∃ a, doneR t = a := ⟨_, rfl⟩
    obtain ⟨e1, he1⟩ : ∃ a, doneE x = a := ⟨_, rfl⟩
    obtain ⟨e2, he2⟩ : ∃ a, doneE y = a := ⟨_, rfl⟩
    obtain ⟨e3, he3⟩ : ∃ a, doneE t = a := ⟨_, rfl⟩
    rw [ha1, he1] at ea
    rw [ha2, he2] at em
    rw [ha3, he3] at ex
    clear d0 d1 d2 w0 w1 c0 c1 hs0 hs1 hs2 hl0 hl1
    repeat' (first | refine ReqK.i (by omega) fun _ => ?_ | refine ReqK.i (by unfold maxL; omega) fun _ => ?_ | refine ReqK.i ⟨rfl, rfl⟩ fun _ => ?_ | refine ReqK.i rfl fun _ => ?_ | refine ReqK.i ⟨rfl, rfl, rfl⟩ fun _ => ?_ | refine ReqK.i ⟨rfl, rfl, rfl, trivial⟩ fun _ => ?_ | simp only [go_sem, reduceIte, reduceCtorEq, Nat.reduceEqDiff, Nat.reduceAdd, Nat.reduceSub, Nat.reduceMul, Nat.reduceDiv, Nat.reduceMod, Nat.reduceLT, Nat.reduceLeDiff, Nat.reduceBEq, Nat.reducePow, Int.reduceLE, Int.reduceLT, Int.reduceEq, Int.reduceNeg, Int.reduceAdd, Int.reduceToNat, dD, dX, dV, dF, atl_x, bnd_x, zm, zk, h1, h2, h3, hc, hce, ea, em, ex, str_eta, form_eta, GA, Tryd.f10, R40, R39, R38, R37, R36, R35, R34, R33, R32, R31, R30, R29, R28, R27, R26, R25, R24, R23, R22, R21, R20, R19, R18, R17, R16, R15, R14, R13, R12, R11, R10, R9, R8, R7, R6, R5, R4, R3, R2, R1, Q20, Q19, Q18, Q17, Q16, Q15, Q14, Q13, Q12, Q11, Q10, Q9, Q8, Q7, Q6, Q5, Q4, Q3, Q2, Q1, Tbl0])
    refine WK_weak2 (Weak_rpL (id := (10005, 0)) (t := 5) (b := true) (ys := [.i .i64 f.kind, .s f.name.l, .sl (f.words.map enc), .sl (f.subs.map enc)]) (by simp only [go_sem, reduceIte, reduceCtorEq, Nat.reduceEqDiff, Nat.reduceAdd, Nat.reduceSub, Nat.reduceMul, Nat.reduceDiv, Nat.reduceMod, Nat.reduceLT, Nat.reduceLeDiff, Nat.reduceBEq, Nat.reducePow, Int.reduceLE, Int.reduceLT, Int.reduceEq, Int.reduceNeg, Int.reduceAdd, Int.reduceToNat]) (by simp only [go_sem, reduceIte, reduceCtorEq, Nat.reduceEqDiff, Nat.reduceAdd, Nat.reduceSub, Nat.reduceMul, Nat.reduceDiv, Nat.reduceMod, Nat.reduceLT, Nat.reduceLeDiff, Nat.reduceBEq, Nat.reducePow, Int.reduceLE, Int.reduceLT, Int.reduceEq, Int.reduceNeg, Int.reduceAdd, Int.reduceToNat])) ?_
    refine WK_drawV hm hT 10000 (lst [1000015]) tree1015 (by kernel_rfl) (by kernel_rfl) ?_
    repeat' (first | refine And.intro ?_ ?_ | exact True.intro | refine ReqK.i hp0 fun _ => ?_ | refine ReqK.i hp1 fun _ => ?_ | refine ReqK.i m0 fun _ => ?_ | refine ReqK.i m1 fun _ => ?_ | refine ReqK.i m2 fun _ => ?_ | refine ReqK.i (by omega) fun _ => ?_ | refine ReqK.i (by unfold maxL; omega) fun _ => ?_ | refine ReqK.i ⟨rfl, rfl⟩ fun _ => ?_ | refine ReqK.i rfl fun _ => ?_ | refine ReqK.i ⟨rfl, rfl, rfl⟩ fun _ => ?_ | refine ReqK.i ⟨rfl, rfl, rfl, trivial⟩ fun _ => ?_ | simp only [go_sem, reduceIte, reduceCtorEq, Nat.reduceEqDiff, Nat.reduceAdd, Nat.reduceSub, Nat.reduceMul, Nat.reduceDiv, Nat.reduceMod, Nat.reduceLT, Nat.reduceLeDiff, Nat.reduceBEq, Nat.reducePow, Int.reduceLE, Int.reduceLT, Int.reduceEq, Int.reduceNeg, Int.reduceAdd, Int.reduceToNat, tree1015, hN0, hN1, hx, hzz, hy, ht, ha1, ha2, ha3, he1, he2, he3, str_eta, form_eta, GA, Tryd.f10, R40, R39, R38, R37, R36, R35, R34, R33, R32, R31, R30, R29, R28, R27, R26, R25, R24, R23, R22, R21, R20, R19, R18, R17, R16, R15, R14, R13, R12, R11, R10, R9, R8, R7, R6, R5, R4, R3, R2, R1, Q20, Q19, Q18, Q17, Q16, Q15, Q14, Q13, Q12, Q11, Q10, Q9, Q8, Q7, Q6, Q5, Q4, Q3, Q2, Q1, Tbl0])
end Go.Proofs.YtomhobohcejocaaDoor
