/- several texts of this proof in one; no conditions -/
import Derived.Test.YtoicheicnbjfeaaDoorQ52
import Derived.Test.YtoicheicnbjfeaaDoorAbs45
set_option linter.unusedSimpArgs false
namespace Go.Proofs.YtoicheicnbjfeaaDoor
open Go Go.Abs Go.Proofs

/-! ## PartsOf and EventName -/
structure PartI (f : Abs.Form) where
  c : Abs.Form
  acc : List Abs.Form
  m : Nat
  hm : 1 ≤ m
  h : listM f = listM c ++ acc
  hw : wfE c
  hs : acc.length + c.size ≤ f.size
def V36 : Tbl := V35.add 119 (sp1 listM evPre)
set_option maxRecDepth 100000 in
set_option maxHeartbeats 1000000 in
theorem hV36 : TblOk Tryd.prog GA V36 := by
  refine sp1_ok ok119 hV35 fun f hpre _ => ?_
  have hp2 := hpre.2
  refine Wcall_K (N := 28) hm hV35 119000 (lst []) ok119 Tryd.func119 rfl rfl (by simp) (by kernel_rfl) ?_
  repeat' (first | refine ReqK.i (by omega) fun _ => ?_ | refine ReqK.i (by unfold maxL; omega) fun _ => ?_ | refine ReqK.i (fits_of2 (by first | omega | (simp only [List.length_map, List.length_take, List.length_append, List.length_cons, List.length_nil]; omega)) (by decide)) fun _ => ?_ | simp only [go_sem, reduceIte, reduceCtorEq, Nat.reduceEqDiff, Nat.reduceAdd, Nat.reduceSub, Nat.reduceMul, Nat.reduceDiv, Nat.reduceMod, Nat.reduceLT, Nat.reduceLeDiff, Nat.reduceBEq, Nat.reducePow, Int.reduceLE, Int.reduceLT, Int.reduceEq, Int.reduceNeg, Int.reduceAdd, Int.reduceToNat, Tryd.f119, V35, V34, V33, V32, V31, V30, V29, R28, R27, R22, R21, R20, R19, R18, R17, R16, R15, R14, R13, R12, R11, R10, R9, R8, R7, R6, R5, R4, R3, R2, R1, Q20, Q19, Q18, Q17, Q16, Q15, Q14, Q13, Q12, Q11, Q10, Q9, Q8, Q7, Q6, Q5, Q4, Q3, Q2, Q1, Tbl0])
  refine WK_loop hm hV35 119000 (lst []) (ι := PartI f)
    ⟨fun q => ⟨frL [(1, .ptr (119001, 0) 0), (3, .fz (.sl (q.acc.map enc)))], hpL [((119001, 0), some ⟨[.fz (.i .i64 q.c.kind), .fz (.s q.c.name.l), .fz (.sl (q.c.words.map enc)), .fz (.sl (q.c.subs.map enc))], true, false⟩)], q.m⟩, fun q => q.c.size⟩
    ⟨f, [], 1, Nat.le_refl _, by simp, hpre.1, by simp⟩ (by kernel_rfl) ?_ ?_
  · refine Weak_g [] [] [] ?_ ?_ ?_ ?_ ?_ <;> simp only [go_sem, reduceIte, reduceCtorEq, Nat.reduceEqDiff, Nat.reduceAdd, Nat.reduceSub, Nat.reduceMul, Nat.reduceDiv, Nat.reduceMod, Nat.reduceLT, Nat.reduceLeDiff, Nat.reduceBEq, Nat.reducePow, Int.reduceLE, Int.reduceLT, Int.reduceEq, Int.reduceNeg, Int.reduceAdd, Int.reduceToNat]
    all_goals first | done | rfl | omega | trace_state
  rintro ⟨c, acc, m, hm1, h, hw, hs⟩
  try simp only at hm1 h hw hs
  by_cases hk : c.kind = 5
  · obtain ⟨a, b, hab⟩ := two_of ((wfE_eq.1 hw).1 hk)
    have hsa := Form.size_sub (f := c) (g := a) (by rw [hab]; simp)
    repeat' (first | refine ReqK.i (by omega) fun _ => ?_ | refine ReqK.i (by unfold maxL; omega) fun _ => ?_ | refine ReqK.i (fits_of2 (by first | omega | (simp only [List.length_map, List.length_take, List.length_append, List.length_cons, List.length_nil]; omega)) (by decide)) fun _ => ?_ | simp only [go_sem, reduceIte, reduceCtorEq, Nat.reduceEqDiff, Nat.reduceAdd, Nat.reduceSub, Nat.reduceMul, Nat.reduceDiv, Nat.reduceMod, Nat.reduceLT, Nat.reduceLeDiff, Nat.reduceBEq, Nat.reducePow, Int.reduceLE, Int.reduceLT, Int.reduceEq, Int.reduceNeg, Int.reduceAdd, Int.reduceToNat, hk, hab, Tryd.f119, V35, V34, V33, V32, V31, V30, V29, R28, R27, R22, R21, R20, R19, R18, R17, R16, R15, R14, R13, R12, R11, R10, R9, R8, R7, R6, R5, R4, R3, R2, R1, Q20, Q19, Q18, Q17, Q16, Q15, Q14, Q13, Q12, Q11, Q10, Q9, Q8, Q7, Q6, Q5, Q4, Q3, Q2, Q1, Tbl0])
    refine ⟨⟨a, b :: acc, m + 5, by omega, by rw [h, listM_and hk hab, List.append_assoc]; rfl, wfE_sub hw a (by rw [hab]; simp), by rw [List.length_cons]; omega⟩, by simp only; omega, ?_⟩
    refine Weak_g [] [] [] ?_ ?_ ?_ ?_ ?_ <;> (try simp only [go_sem, reduceIte, reduceCtorEq, Nat.reduceEqDiff, Nat.reduceAdd, Nat.reduceSub, Nat.reduceMul, Nat.reduceDiv, Nat.reduceMod, Nat.reduceLT, Nat.reduceLeDiff, Nat.reduceBEq, Nat.reducePow, Int.reduceLE, Int.reduceLT, Int.reduceEq, Int.reduceNeg, Int.reduceAdd, Int.reduceToNat])
    all_goals first | done | rfl | omega | trace_state
  · have hl := listM_one (f := c) (fun h => hk h.1)
    have hr : listM f = c :: acc := by rw [h, hl]; rfl
    rw [hr]
    repeat' (first | refine ReqK.i (by omega) fun _ => ?_ | refine ReqK.i (by unfold maxL; omega) fun _ => ?_ | refine ReqK.i (fits_of2 (by first | omega | (simp only [List.length_map, List.length_take, List.length_append, List.length_cons, List.length_nil]; omega)) (by decide)) fun _ => ?_ | simp only [go_sem, reduceIte, reduceCtorEq, Nat.reduceEqDiff, Nat.reduceAdd, Nat.reduceSub, Nat.reduceMul, Nat.reduceDiv, Nat.reduceMod, Nat.reduceLT, Nat.reduceLeDiff, Nat.reduceBEq, Nat.reducePow, Int.reduceLE, Int.reduceLT, Int.reduceEq, Int.reduceNeg, Int.reduceAdd, Int.reduceToNat, hk, form_eta, Tryd.f119, V35, V34, V33, V32, V31, V30, V29, R28, R27, R22, R21, R20, R19, R18, R17, R16, R15, R14, R13, R12, R11, R10, R9, R8, R7, R6, R5, R4, R3, R2, R1, Q20, Q19, Q18, Q17, Q16, Q15, Q14, Q13, Q12, Q11, Q10, Q9, Q8, Q7, Q6, Q5, Q4, Q3, Q2, Q1, Tbl0])

def nameE (f : Abs.Form) : Str := if okE f then (headE f).name else ⟨[]⟩
def V37 : Tbl := V36.add 108 (sp1 nameE evPre)
set_option maxRecDepth 100000 in
set_option maxHeartbeats 1000000 in
theorem hV37 : TblOk Tryd.prog GA V37 := by
  refine sp1_ok ok108 hV36 fun f hpre _ => ?_
  by_cases hk : f.kind = 9
  · obtain ⟨a, ha⟩ := one_of ((wfE_eq.1 hpre.1).2.1 hk)
    have hpa : evPre a := ⟨wfE_sub hpre.1 a (by rw [ha]; simp), by have := Form.size_sub (f := f) (g := a) (by rw [ha]; simp); have := hpre.2; omega⟩
    have hpe : partsE f = listM a := by unfold partsE; rw [ha]; rfl
    obtain ⟨x, tl, hx⟩ : ∃ x tl, listM a = x :: tl := by
      have := (listM_len a.size a (Nat.le_refl _)).1
      match h : listM a, this with
      | x :: tl, _ => exact ⟨x, tl, rfl⟩
    have hh : headE f = x := by unfold headE; rw [hpe, hx]; rfl
    obtain ⟨ok, hok⟩ : ∃ ok, okE f = ok := ⟨_, rfl⟩
    have e1 : nameE f = if ok then x.name else ⟨[]⟩ := by unfold nameE; rw [hok, hh]
    unfold okE at hok
    rw [hh] at hok
    rw [e1]
    by_cases c1 : x.kind = 2
    · by_cases c2 : x.words.length = 1
      · obtain ⟨w, hw⟩ : ∃ w, x.words = [w] := by
          match h : x.words, c2 with
          | [w], _ => exact ⟨w, rfl⟩
        by_cases c3 : w = f.name
        · have hb : ok = true := by rw [← hok]; simp [hk, c1, hw, c3]
          refine Wcall_K (N := 40) hm hV36 108000 (lst []) ok108 Tryd.func108 rfl rfl (by simp) (by kernel_rfl) ?_
          repeat' (first | refine ReqK.i hpa fun _ => ?_ | refine ReqK.i (by omega) fun _ => ?_ | refine ReqK.i (by unfold maxL; omega) fun _ => ?_ | refine ReqK.i (fits_of2 (by first | omega | (simp only [List.length_map, List.length_take, List.length_append, List.length_cons, List.length_nil]; omega)) (by decide)) fun _ => ?_ | simp only [go_sem, reduceIte, reduceCtorEq, Nat.reduceEqDiff, Nat.reduceAdd, Nat.reduceSub, Nat.reduceMul, Nat.reduceDiv, Nat.reduceMod, Nat.reduceLT, Nat.reduceLeDiff, Nat.reduceBEq, Nat.reducePow, Int.reduceLE, Int.reduceLT, Int.reduceEq, Int.reduceNeg, Int.reduceAdd, Int.reduceToNat, hk, ha, hx, c1, hw, c3, hb, form_eta, Tryd.f108, V36, V35, V34, V33, V32, V31, V30, V29, R28, R27, R22, R21, R20, R19, R18, R17, R16, R15, R14, R13, R12, R11, R10, R9, R8, R7, R6, R5, R4, R3, R2, R1, Q20, Q19, Q18, Q17, Q16, Q15, Q14, Q13, Q12, Q11, Q10, Q9, Q8, Q7, Q6, Q5, Q4, Q3, Q2, Q1, Tbl0])
        · have hb : ok = false := by rw [← hok]; simp [hk, c1, hw, c3]
          have c3' : (w = f.name) = False := eq_false c3
          refine Wcall_K (N := 40) hm hV36 108000 (lst []) ok108 Tryd.func108 rfl rfl (by simp) (by kernel_rfl) ?_
          repeat' (first | refine ReqK.i hpa fun _ => ?_ | refine ReqK.i (by omega) fun _ => ?_ | refine ReqK.i (by unfold maxL; omega) fun _ => ?_ | refine ReqK.i (fits_of2 (by first | omega | (simp only [List.length_map, List.length_take, List.length_append, List.length_cons, List.length_nil]; omega)) (by decide)) fun _ => ?_ | simp only [go_sem, reduceIte, reduceCtorEq, Nat.reduceEqDiff, Nat.reduceAdd, Nat.reduceSub, Nat.reduceMul, Nat.reduceDiv, Nat.reduceMod, Nat.reduceLT, Nat.reduceLeDiff, Nat.reduceBEq, Nat.reducePow, Int.reduceLE, Int.reduceLT, Int.reduceEq, Int.reduceNeg, Int.reduceAdd, Int.reduceToNat, hk, ha, hx, c1, hw, c3', hb, form_eta, Bool.false_eq_true, Tryd.f108, V36, V35, V34, V33, V32, V31, V30, V29, R28, R27, R22, R21, R20, R19, R18, R17, R16, R15, R14, R13, R12, R11, R10, R9, R8, R7, R6, R5, R4, R3, R2, R1, Q20, Q19, Q18, Q17, Q16, Q15, Q14, Q13, Q12, Q11, Q10, Q9, Q8, Q7, Q6, Q5, Q4, Q3, Q2, Q1, Tbl0])
      · have hb : ok = false := by rw [← hok]; simp [hk, c1, c2]
        have c2' : ((x.words.length : Int) = 1) = False := eq_false (by omega)
        refine Wcall_K (N := 40) hm hV36 108000 (lst []) ok108 Tryd.func108 rfl rfl (by simp) (by kernel_rfl) ?_
        repeat' (first | refine ReqK.i hpa fun _ => ?_ | refine ReqK.i (by omega) fun _ => ?_ | refine ReqK.i (by unfold maxL; omega) fun _ => ?_ | refine ReqK.i (fits_of2 (by first | omega | (simp only [List.length_map, List.length_take, List.length_append, List.length_cons, List.length_nil]; omega)) (by decide)) fun _ => ?_ | simp only [go_sem, reduceIte, reduceCtorEq, Nat.reduceEqDiff, Nat.reduceAdd, Nat.reduceSub, Nat.reduceMul, Nat.reduceDiv, Nat.reduceMod, Nat.reduceLT, Nat.reduceLeDiff, Nat.reduceBEq, Nat.reducePow, Int.reduceLE, Int.reduceLT, Int.reduceEq, Int.reduceNeg, Int.reduceAdd, Int.reduceToNat, hk, ha, hx, c1, c2', hb, form_eta, Bool.false_eq_true, Tryd.f108, V36, V35, V34, V33, V32, V31, V30, V29, R28, R27, R22, R21, R20, R19, R18, R17, R16, R15, R14, R13, R12, R11, R10, R9, R8, R7, R6, R5, R4, R3, R2, R1, Q20, Q19, Q18, Q17, Q16, Q15, Q14, Q13, Q12, Q11, Q10, Q9, Q8, Q7, Q6, Q5, Q4, Q3, Q2, Q1, Tbl0])
    · have hb : ok = false := by rw [← hok]; simp [hk, c1]
      refine Wcall_K (N := 40) hm hV36 108000 (lst []) ok108 Tryd.func108 rfl rfl (by simp) (by kernel_rfl) ?_
      repeat' (first | refine ReqK.i hpa fun _ => ?_ | refine ReqK.i (by omega) fun _ => ?_ | refine ReqK.i (by unfold maxL; omega) fun _ => ?_ | refine ReqK.i (fits_of2 (by first | omega | (simp only [List.length_map, List.length_take, List.length_append, List.length_cons, List.length_nil]; omega)) (by decide)) fun _ => ?_ | simp only [go_sem, reduceIte, reduceCtorEq, Nat.reduceEqDiff, Nat.reduceAdd, Nat.reduceSub, Nat.reduceMul, Nat.reduceDiv, Nat.reduceMod, Nat.reduceLT, Nat.reduceLeDiff, Nat.reduceBEq, Nat.reducePow, Int.reduceLE, Int.reduceLT, Int.reduceEq, Int.reduceNeg, Int.reduceAdd, Int.reduceToNat, hk, ha, hx, c1, hb, form_eta, Bool.false_eq_true, Tryd.f108, V36, V35, V34, V33, V32, V31, V30, V29, R28, R27, R22, R21, R20, R19, R18, R17, R16, R15, R14, R13, R12, R11, R10, R9, R8, R7, R6, R5, R4, R3, R2, R1, Q20, Q19, Q18, Q17, Q16, Q15, Q14, Q13, Q12, Q11, Q10, Q9, Q8, Q7, Q6, Q5, Q4, Q3, Q2, Q1, Tbl0])
  · have e1 : nameE f = ⟨[]⟩ := by
      unfold nameE okE
      rw [decide_eq_false hk]; rfl
    rw [e1]
    refine Wcall_K (N := 40) hm hV36 108000 (lst []) ok108 Tryd.func108 rfl rfl (by simp) (by kernel_rfl) ?_
    repeat' (first | refine ReqK.i (by omega) fun _ => ?_ | refine ReqK.i (by unfold maxL; omega) fun _ => ?_ | refine ReqK.i (fits_of2 (by first | omega | (simp only [List.length_map, List.length_take, List.length_append, List.length_cons, List.length_nil]; omega)) (by decide)) fun _ => ?_ | simp only [go_sem, reduceIte, reduceCtorEq, Nat.reduceEqDiff, Nat.reduceAdd, Nat.reduceSub, Nat.reduceMul, Nat.reduceDiv, Nat.reduceMod, Nat.reduceLT, Nat.reduceLeDiff, Nat.reduceBEq, Nat.reducePow, Int.reduceLE, Int.reduceLT, Int.reduceEq, Int.reduceNeg, Int.reduceAdd, Int.reduceToNat, hk, form_eta, Tryd.f108, V36, V35, V34, V33, V32, V31, V30, V29, R28, R27, R22, R21, R20, R19, R18, R17, R16, R15, R14, R13, R12, R11, R10, R9, R8, R7, R6, R5, R4, R3, R2, R1, Q20, Q19, Q18, Q17, Q16, Q15, Q14, Q13, Q12, Q11, Q10, Q9, Q8, Q7, Q6, Q5, Q4, Q3, Q2, Q1, Tbl0])
end Go.Proofs.YtoicheicnbjfeaaDoor

namespace Go.Proofs.YtoicheicnbjfeaaDoor
open Go Go.Abs Go.Proofs

/-! ## event.Merge$1 -/
theorem mergeBy_no {f : Abs.Form} (h : mergeOk f = false) : mergeBy f = f := by unfold mergeBy; rw [if_neg (by simp [h])]
theorem mergeOk_bad {f : Abs.Form} {i : Nat} (hi : i < (partsE f).length - 1) (h : goodE f i ((partsE f).getD (i + 1) defF) = false) : mergeOk f = false := by
  unfold mergeOk; rw [goodN_false hi h, Bool.and_false]
theorem wordsN_succ (f : Abs.Form) (i : Nat) : wordsN f (i + 1) = wordsN f i ++ [((partsE f).getD (i + 1) defF).words.getD 1 ⟨[]⟩] := by
  unfold wordsN; rw [List.range_succ, List.map_append]; rfl
theorem argI_nat (i : Nat) : argI (i : Int) = argS i := rfl
theorem cut_one {l : List Abs.Form} (y : FD) : cutFD (y :: l.map enc) (1 : Int) ((l.length : Int) + 1) = l.map enc := by
  unfold cutFD
  rw [show ((l.length : Int) + 1).toNat = l.length + 1 by omega, List.take_succ_cons, List.take_of_length_le (by rw [List.length_map]; exact Nat.le_refl _)]
  rfl
def V38 : Tbl := V37.add 102 (sp1 mergeBy evPre)
set_option maxRecDepth 100000 in
set_option maxHeartbeats 1000000 in
set_option maxHeartbeats 8000000 in
theorem hV38 : TblOk Tryd.prog GA V38 := by
  refine sp1_ok ok102 hV37 fun f hpre _ => ?_
  by_cases hk : f.kind = 9
  rotate_left
  · have e1 : evM f = ([], false) := by unfold evM; rw [if_neg hk]
    have e2 : mergeOk f = false := by unfold mergeOk okE; rw [decide_eq_false hk]; rfl
    rw [mergeBy_no e2]
    refine Wcall_K (N := 83) hm hV37 102000 (lsw [75] []) ok102 Tryd.func102 rfl rfl (by simp) (by kernel_rfl) ?_
    repeat' (first | refine ReqK.i hpre fun _ => ?_ | refine ReqK.i (by omega) fun _ => ?_ | refine ReqK.i (by unfold maxL; omega) fun _ => ?_ | refine ReqK.i (fits_of2 (by first | omega | (simp only [List.length_map, List.length_take, List.length_append, List.length_cons, List.length_nil]; omega)) (by decide)) fun _ => ?_ | simp only [go_sem, reduceIte, reduceCtorEq, Nat.reduceEqDiff, Nat.reduceAdd, Nat.reduceSub, Nat.reduceMul, Nat.reduceDiv, Nat.reduceMod, Nat.reduceLT, Nat.reduceLeDiff, Nat.reduceBEq, Nat.reducePow, Int.reduceLE, Int.reduceLT, Int.reduceEq, Int.reduceNeg, Int.reduceAdd, Int.reduceToNat, e1, form_eta, Tryd.f102, V37, V36, V35, V34, V33, V32, V31, V30, V29, R28, R27, R22, R21, R20, R19, R18, R17, R16, R15, R14, R13, R12, R11, R10, R9, R8, R7, R6, R5, R4, R3, R2, R1, Q20, Q19, Q18, Q17, Q16, Q15, Q14, Q13, Q12, Q11, Q10, Q9, Q8, Q7, Q6, Q5, Q4, Q3, Q2, Q1, Tbl0])
  have e1 : evM f = (partsE f, okE f) := by unfold evM; rw [if_pos hk]
  cases hok : okE f with
  | false =>
    have e2 : mergeOk f = false := by unfold mergeOk; rw [hok]; rfl
    rw [mergeBy_no e2]
    refine Wcall_K (N := 83) hm hV37 102000 (lsw [75] []) ok102 Tryd.func102 rfl rfl (by simp) (by kernel_rfl) ?_
    repeat' (first | refine ReqK.i hpre fun _ => ?_ | refine ReqK.i (by omega) fun _ => ?_ | refine ReqK.i (by unfold maxL; omega) fun _ => ?_ | refine ReqK.i (fits_of2 (by first | omega | (simp only [List.length_map, List.length_take, List.length_append, List.length_cons, List.length_nil]; omega)) (by decide)) fun _ => ?_ | simp only [go_sem, reduceIte, reduceCtorEq, Nat.reduceEqDiff, Nat.reduceAdd, Nat.reduceSub, Nat.reduceMul, Nat.reduceDiv, Nat.reduceMod, Nat.reduceLT, Nat.reduceLeDiff, Nat.reduceBEq, Nat.reducePow, Int.reduceLE, Int.reduceLT, Int.reduceEq, Int.reduceNeg, Int.reduceAdd, Int.reduceToNat, e1, hok, form_eta, Tryd.f102, V37, V36, V35, V34, V33, V32, V31, V30, V29, R28, R27, R22, R21, R20, R19, R18, R17, R16, R15, R14, R13, R12, R11, R10, R9, R8, R7, R6, R5, R4, R3, R2, R1, Q20, Q19, Q18, Q17, Q16, Q15, Q14, Q13, Q12, Q11, Q10, Q9, Q8, Q7, Q6, Q5, Q4, Q3, Q2, Q1, Tbl0])
  | true =>
    by_cases h2 : (partsE f).length < 2
    · have e2 : mergeOk f = false := by unfold mergeOk; rw [decide_eq_false (show ¬ 2 ≤ (partsE f).length by omega)]; simp
      have h2' : (((partsE f).length : Int) < 2) = True := eq_true (by omega)
      rw [mergeBy_no e2]
      refine Wcall_K (N := 83) hm hV37 102000 (lsw [75] []) ok102 Tryd.func102 rfl rfl (by simp) (by kernel_rfl) ?_
      repeat' (first | refine ReqK.i hpre fun _ => ?_ | refine ReqK.i (by omega) fun _ => ?_ | refine ReqK.i (by unfold maxL; omega) fun _ => ?_ | refine ReqK.i (fits_of2 (by first | omega | (simp only [List.length_map, List.length_take, List.length_append, List.length_cons, List.length_nil]; omega)) (by decide)) fun _ => ?_ | simp only [go_sem, reduceIte, reduceCtorEq, Nat.reduceEqDiff, Nat.reduceAdd, Nat.reduceSub, Nat.reduceMul, Nat.reduceDiv, Nat.reduceMod, Nat.reduceLT, Nat.reduceLeDiff, Nat.reduceBEq, Nat.reducePow, Int.reduceLE, Int.reduceLT, Int.reduceEq, Int.reduceNeg, Int.reduceAdd, Int.reduceToNat, e1, hok, h2', form_eta, Tryd.f102, V37, V36, V35, V34, V33, V32, V31, V30, V29, R28, R27, R22, R21, R20, R19, R18, R17, R16, R15, R14, R13, R12, R11, R10, R9, R8, R7, R6, R5, R4, R3, R2, R1, Q20, Q19, Q18, Q17, Q16, Q15, Q14, Q13, Q12, Q11, Q10, Q9, Q8, Q7, Q6, Q5, Q4, Q3, Q2, Q1, Tbl0])
    by_cases h4 : 4 < (partsE f).length
    · have e2 : mergeOk f = false := by unfold mergeOk; rw [decide_eq_false (show ¬ (partsE f).length ≤ 4 by omega)]; simp
      have h2' : (((partsE f).length : Int) < 2) = False := eq_false (by omega)
      have h4' : (4 < ((partsE f).length : Int)) = True := eq_true (by omega)
      rw [mergeBy_no e2]
      refine Wcall_K (N := 83) hm hV37 102000 (lsw [75] []) ok102 Tryd.func102 rfl rfl (by simp) (by kernel_rfl) ?_
      repeat' (first | refine ReqK.i hpre fun _ => ?_ | refine ReqK.i (by omega) fun _ => ?_ | refine ReqK.i (by unfold maxL; omega) fun _ => ?_ | refine ReqK.i (fits_of2 (by first | omega | (simp only [List.length_map, List.length_take, List.length_append, List.length_cons, List.length_nil]; omega)) (by decide)) fun _ => ?_ | simp only [go_sem, reduceIte, reduceCtorEq, Nat.reduceEqDiff, Nat.reduceAdd, Nat.reduceSub, Nat.reduceMul, Nat.reduceDiv, Nat.reduceMod, Nat.reduceLT, Nat.reduceLeDiff, Nat.reduceBEq, Nat.reducePow, Int.reduceLE, Int.reduceLT, Int.reduceEq, Int.reduceNeg, Int.reduceAdd, Int.reduceToNat, e1, hok, h2', h4', form_eta, Tryd.f102, V37, V36, V35, V34, V33, V32, V31, V30, V29, R28, R27, R22, R21, R20, R19, R18, R17, R16, R15, R14, R13, R12, R11, R10, R9, R8, R7, R6, R5, R4, R3, R2, R1, Q20, Q19, Q18, Q17, Q16, Q15, Q14, Q13, Q12, Q11, Q10, Q9, Q8, Q7, Q6, Q5, Q4, Q3, Q2, Q1, Tbl0])
    have h2' : (((partsE f).length : Int) < 2) = False := eq_false (by omega)
    have h4' : (4 < ((partsE f).length : Int)) = False := eq_false (by omega)
    obtain ⟨x0, tl, hx⟩ : ∃ x tl, partsE f = x :: tl := by
      match h : partsE f, h2 with
      | x :: tl, _ => exact ⟨x, tl, rfl⟩
      | [], h2 => simp at h2
    have hlen : (partsE f).length = tl.length + 1 := by rw [hx]; rfl
    have hh : headE f = x0 := by unfold headE; rw [hx]; rfl
    have hat : ∀ i (h : i < tl.length), (partsE f).getD (i + 1) defF = tl[i] := fun i h => by
      rw [hx, List.getD_cons_succ, List.getD_eq_getElem?_getD, List.getElem?_eq_getElem h]; rfl
    have hqc : (1 : Int) = (tl.length : Int) + 1 ∨ ((tl.map enc).getD 0 FD.nilf).cells.length = 4 := by
      cases tl with
      | nil => exact .inl rfl
      | cons x t => exact .inr (by show (enc x).cells.length = 4; rw [enc_form]; rfl)
    have hbad : ∀ i (h : i < tl.length), goodE f i tl[i] = false → mergeBy f = f := fun i h hg => mergeBy_no (mergeOk_bad (i := i) (by omega) (by rw [hat i h]; exact hg))
    have hws : ∀ i (h : i < tl.length), wordsN f (i + 1) = wordsN f i ++ [tl[i].words.getD 1 ⟨[]⟩] := fun i h => by rw [wordsN_succ, hat i h]
    have hgs : ∀ i (h : i < tl.length), goodN f i = true → goodE f i tl[i] = true → goodN f (i + 1) = true := fun i h h1 h3 => by rw [goodN, h1, hat i h, h3]; rfl
    have hend : goodN f tl.length = true → mergeBy f = .mk 2 x0.name (wordsN f tl.length) [] := fun h => by
      unfold mergeBy mergeOk
      rw [hok, hlen, hh, Nat.add_sub_cancel, h, decide_eq_true (show 2 ≤ tl.length + 1 by omega), decide_eq_true (show tl.length + 1 ≤ 4 by omega)]
      rfl
    rw [hx] at e1
    rw [hlen] at h2 h4 h2' h4'
    have h2'' : ((tl.length : Int) + 1 < 2) = False := eq_false (by omega)
    have h4'' : (4 < (tl.length : Int) + 1) = False := eq_false (by omega)
    obtain ⟨W, hW⟩ : ∃ W : Nat → List Str, W = wordsN f := ⟨_, rfl⟩
    have hW0 : W 0 = [] := by rw [hW]; rfl
    have hWl : ∀ i, (W i).length = i := fun i => by rw [hW]; exact wordsN_len f i
    rw [← hW] at hend hws
    have kb := Kp.mk hbad
    have kw := Kp.mk hws
    have kg := Kp.mk hgs
    have ke := Kp.mk hend
    clear hbad hws hgs hend hat hW hh hlen h2' h4'
    refine Wcall_K (N := 83) hm hV37 102000 (lsw [75] []) ok102 Tryd.func102 rfl rfl (by simp) (by kernel_rfl) ?_
    repeat' (first | refine ReqK.i hpre fun _ => ?_ | refine ReqK.i ⟨by omega, by omega, hqc⟩ fun _ => ?_ | refine ReqK.i (by omega) fun _ => ?_ | refine ReqK.i (by unfold maxL; omega) fun _ => ?_ | refine ReqK.i (fits_of2 (by first | omega | (simp only [List.length_map, List.length_take, List.length_append, List.length_cons, List.length_nil]; omega)) (by decide)) fun _ => ?_ | simp only [go_sem, reduceIte, reduceCtorEq, Nat.reduceEqDiff, Nat.reduceAdd, Nat.reduceSub, Nat.reduceMul, Nat.reduceDiv, Nat.reduceMod, Nat.reduceLT, Nat.reduceLeDiff, Nat.reduceBEq, Nat.reducePow, Int.reduceLE, Int.reduceLT, Int.reduceEq, Int.reduceNeg, Int.reduceAdd, Int.reduceToNat, e1, hok, h2'', h4'', cut_one, List.length_cons, Tryd.f102, V37, V36, V35, V34, V33, V32, V31, V30, V29, R28, R27, R22, R21, R20, R19, R18, R17, R16, R15, R14, R13, R12, R11, R10, R9, R8, R7, R6, R5, R4, R3, R2, R1, Q20, Q19, Q18, Q17, Q16, Q15, Q14, Q13, Q12, Q11, Q10, Q9, Q8, Q7, Q6, Q5, Q4, Q3, Q2, Q1, Tbl0])
    refine WK_loop hm hV37 102000 (lsw [75] []) (ι := LoopG tl.length 3 fun i => goodN f i = true)
      ⟨fun q => ⟨frL [(1, .ptr (102001, 0) 0), (2, .ptr (102002, 1) 0), (3, .fz (.sl (enc x0 :: tl.map enc))), (5, .ow (102075, q.g) 1 ((W q.i).map enc)), (27, .fz (.sl (tl.map enc))), (28, .fz (.i .i64 tl.length)), (29, .fz (.i .i64 q.i))],
        hpL [((102001, 0), some ⟨[.fz (.i .i64 f.kind), .fz (.s f.name.l), .fz (.sl (f.words.map enc)), .fz (.sl (f.subs.map enc))], true, false⟩), ((102002, 1), some ⟨[.fz (.i .i64 0), .fz (.s []), .full [], .full []], true, false⟩), ((102075, q.g), some tok)], q.m⟩, fun q => tl.length - q.i⟩
      ⟨0, 2, 3, by omega, by omega, by omega, rfl⟩ (by kernel_rfl) ?_ ?_
    · refine Weak_g [] [(102075, 2)] [] ?_ ?_ ?_ ?_ ?_ <;> simp only [go_sem, reduceIte, reduceCtorEq, Nat.reduceEqDiff, Nat.reduceAdd, Nat.reduceSub, Nat.reduceMul, Nat.reduceDiv, Nat.reduceMod, Nat.reduceLT, Nat.reduceLeDiff, Nat.reduceBEq, Nat.reducePow, Int.reduceLE, Int.reduceLT, Int.reduceEq, Int.reduceNeg, Int.reduceAdd, Int.reduceToNat, hW0, cut_one]
      all_goals first | done | rfl | omega | trace_state
    rintro ⟨i, g, m, hi, hg, hm1, hgd⟩
    try simp only at hi hg hm1 hgd
    rcases Nat.lt_or_ge i tl.length with h1 | h1
    · have hb := kb.out i h1
      have hw := kw.out i h1
      have hgg := kg.out i h1 hgd
      have hwl := hWl i
      obtain ⟨x, hxi⟩ : ∃ x, tl[i] = x := ⟨_, rfl⟩
      rw [hxi] at hb hw hgg
      unfold goodE at hb hgg
      by_cases c1 : x.kind = 2
      · by_cases c2 : x.name = argS i
        · by_cases c3 : x.words.length = 2
          · obtain ⟨u, v, huv⟩ : ∃ u v, x.words = [u, v] := by
              match h : x.words, c3 with
              | [u, v], _ => exact ⟨u, v, rfl⟩
            by_cases c4 : u = f.name
            · by_cases c5 : v = f.name
              · rw [hb (by simp [huv, c5])]
                repeat' (first | refine ReqK.i ⟨by omega, by omega⟩ fun _ => ?_ | refine ReqK.i (by omega) fun _ => ?_ | refine ReqK.i (by unfold maxL; omega) fun _ => ?_ | refine ReqK.i (fits_of2 (by first | omega | (simp only [List.length_map, List.length_take, List.length_append, List.length_cons, List.length_nil]; omega)) (by decide)) fun _ => ?_ | simp only [go_sem, reduceIte, reduceCtorEq, Nat.reduceEqDiff, Nat.reduceAdd, Nat.reduceSub, Nat.reduceMul, Nat.reduceDiv, Nat.reduceMod, Nat.reduceLT, Nat.reduceLeDiff, Nat.reduceBEq, Nat.reducePow, Int.reduceLE, Int.reduceLT, Int.reduceEq, Int.reduceNeg, Int.reduceAdd, Int.reduceToNat, h1, hxi, c1, c2, huv, c4, c5, argI_nat, getD_map_lt, form_eta, Tryd.f102, V37, V36, V35, V34, V33, V32, V31, V30, V29, R28, R27, R22, R21, R20, R19, R18, R17, R16, R15, R14, R13, R12, R11, R10, R9, R8, R7, R6, R5, R4, R3, R2, R1, Q20, Q19, Q18, Q17, Q16, Q15, Q14, Q13, Q12, Q11, Q10, Q9, Q8, Q7, Q6, Q5, Q4, Q3, Q2, Q1, Tbl0])
              · have hgo := hgg (by simp [c1, c2, huv, c4, c5])
                have c5' : (v = f.name) = False := eq_false c5
                repeat' (first | refine ReqK.i ⟨by omega, by omega⟩ fun _ => ?_ | refine ReqK.i (by omega) fun _ => ?_ | refine ReqK.i (by unfold maxL; omega) fun _ => ?_ | refine ReqK.i (fits_of2 (by first | omega | (simp only [List.length_map, List.length_take, List.length_append, List.length_cons, List.length_nil]; omega)) (by decide)) fun _ => ?_ | simp only [go_sem, reduceIte, reduceCtorEq, Nat.reduceEqDiff, Nat.reduceAdd, Nat.reduceSub, Nat.reduceMul, Nat.reduceDiv, Nat.reduceMod, Nat.reduceLT, Nat.reduceLeDiff, Nat.reduceBEq, Nat.reducePow, Int.reduceLE, Int.reduceLT, Int.reduceEq, Int.reduceNeg, Int.reduceAdd, Int.reduceToNat, h1, hxi, c1, c2, huv, c4, c5', argI_nat, getD_map_lt, form_eta, Tryd.f102, V37, V36, V35, V34, V33, V32, V31, V30, V29, R28, R27, R22, R21, R20, R19, R18, R17, R16, R15, R14, R13, R12, R11, R10, R9, R8, R7, R6, R5, R4, R3, R2, R1, Q20, Q19, Q18, Q17, Q16, Q15, Q14, Q13, Q12, Q11, Q10, Q9, Q8, Q7, Q6, Q5, Q4, Q3, Q2, Q1, Tbl0])
                refine ⟨⟨i + 1, m + 1, m + 10, by omega, by omega, by omega, hgo⟩, by simp only; omega, ?_⟩
                refine Weak_to ?_ ?_ ?_ <;> (try simp only [go_sem, reduceIte, reduceCtorEq, Nat.reduceEqDiff, Nat.reduceAdd, Nat.reduceSub, Nat.reduceMul, Nat.reduceDiv, Nat.reduceMod, Nat.reduceLT, Nat.reduceLeDiff, Nat.reduceBEq, Nat.reducePow, Int.reduceLE, Int.reduceLT, Int.reduceEq, Int.reduceNeg, Int.reduceAdd, Int.reduceToNat, hw, huv, List.map_append])
                all_goals first | done | omega | rfl | trace_state
            · have c4' : (u = f.name) = False := eq_false c4
              rw [hb (by simp [huv, c4])]
              repeat' (first | refine ReqK.i ⟨by omega, by omega⟩ fun _ => ?_ | refine ReqK.i (by omega) fun _ => ?_ | refine ReqK.i (by unfold maxL; omega) fun _ => ?_ | refine ReqK.i (fits_of2 (by first | omega | (simp only [List.length_map, List.length_take, List.length_append, List.length_cons, List.length_nil]; omega)) (by decide)) fun _ => ?_ | simp only [go_sem, reduceIte, reduceCtorEq, Nat.reduceEqDiff, Nat.reduceAdd, Nat.reduceSub, Nat.reduceMul, Nat.reduceDiv, Nat.reduceMod, Nat.reduceLT, Nat.reduceLeDiff, Nat.reduceBEq, Nat.reducePow, Int.reduceLE, Int.reduceLT, Int.reduceEq, Int.reduceNeg, Int.reduceAdd, Int.reduceToNat, h1, hxi, c1, c2, huv, c4', argI_nat, getD_map_lt, form_eta, Tryd.f102, V37, V36, V35, V34, V33, V32, V31, V30, V29, R28, R27, R22, R21, R20, R19, R18, R17, R16, R15, R14, R13, R12, R11, R10, R9, R8, R7, R6, R5, R4, R3, R2, R1, Q20, Q19, Q18, Q17, Q16, Q15, Q14, Q13, Q12, Q11, Q10, Q9, Q8, Q7, Q6, Q5, Q4, Q3, Q2, Q1, Tbl0])
          · have c3' : ((x.words.length : Int) = 2) = False := eq_false (by omega)
            rw [hb (by simp [c3])]
            repeat' (first | refine ReqK.i ⟨by omega, by omega⟩ fun _ => ?_ | refine ReqK.i (by omega) fun _ => ?_ | refine ReqK.i (by unfold maxL; omega) fun _ => ?_ | refine ReqK.i (fits_of2 (by first | omega | (simp only [List.length_map, List.length_take, List.length_append, List.length_cons, List.length_nil]; omega)) (by decide)) fun _ => ?_ | simp only [go_sem, reduceIte, reduceCtorEq, Nat.reduceEqDiff, Nat.reduceAdd, Nat.reduceSub, Nat.reduceMul, Nat.reduceDiv, Nat.reduceMod, Nat.reduceLT, Nat.reduceLeDiff, Nat.reduceBEq, Nat.reducePow, Int.reduceLE, Int.reduceLT, Int.reduceEq, Int.reduceNeg, Int.reduceAdd, Int.reduceToNat, h1, hxi, c1, c2, c3', argI_nat, getD_map_lt, form_eta, Tryd.f102, V37, V36, V35, V34, V33, V32, V31, V30, V29, R28, R27, R22, R21, R20, R19, R18, R17, R16, R15, R14, R13, R12, R11, R10, R9, R8, R7, R6, R5, R4, R3, R2, R1, Q20, Q19, Q18, Q17, Q16, Q15, Q14, Q13, Q12, Q11, Q10, Q9, Q8, Q7, Q6, Q5, Q4, Q3, Q2, Q1, Tbl0])
        · have c2' : (x.name = argS i) = False := eq_false c2
          rw [hb (by simp [c2])]
          repeat' (first | refine ReqK.i ⟨by omega, by omega⟩ fun _ => ?_ | refine ReqK.i (by omega) fun _ => ?_ | refine ReqK.i (by unfold maxL; omega) fun _ => ?_ | refine ReqK.i (fits_of2 (by first | omega | (simp only [List.length_map, List.length_take, List.length_append, List.length_cons, List.length_nil]; omega)) (by decide)) fun _ => ?_ | simp only [go_sem, reduceIte, reduceCtorEq, Nat.reduceEqDiff, Nat.reduceAdd, Nat.reduceSub, Nat.reduceMul, Nat.reduceDiv, Nat.reduceMod, Nat.reduceLT, Nat.reduceLeDiff, Nat.reduceBEq, Nat.reducePow, Int.reduceLE, Int.reduceLT, Int.reduceEq, Int.reduceNeg, Int.reduceAdd, Int.reduceToNat, h1, hxi, c1, c2', argI_nat, getD_map_lt, form_eta, Tryd.f102, V37, V36, V35, V34, V33, V32, V31, V30, V29, R28, R27, R22, R21, R20, R19, R18, R17, R16, R15, R14, R13, R12, R11, R10, R9, R8, R7, R6, R5, R4, R3, R2, R1, Q20, Q19, Q18, Q17, Q16, Q15, Q14, Q13, Q12, Q11, Q10, Q9, Q8, Q7, Q6, Q5, Q4, Q3, Q2, Q1, Tbl0])
      · have c1' : (x.kind = 2) = False := eq_false c1
        rw [hb (by simp [c1])]
        repeat' (first | refine ReqK.i ⟨by omega, by omega⟩ fun _ => ?_ | refine ReqK.i (by omega) fun _ => ?_ | refine ReqK.i (by unfold maxL; omega) fun _ => ?_ | refine ReqK.i (fits_of2 (by first | omega | (simp only [List.length_map, List.length_take, List.length_append, List.length_cons, List.length_nil]; omega)) (by decide)) fun _ => ?_ | simp only [go_sem, reduceIte, reduceCtorEq, Nat.reduceEqDiff, Nat.reduceAdd, Nat.reduceSub, Nat.reduceMul, Nat.reduceDiv, Nat.reduceMod, Nat.reduceLT, Nat.reduceLeDiff, Nat.reduceBEq, Nat.reducePow, Int.reduceLE, Int.reduceLT, Int.reduceEq, Int.reduceNeg, Int.reduceAdd, Int.reduceToNat, h1, hxi, c1', argI_nat, getD_map_lt, form_eta, Tryd.f102, V37, V36, V35, V34, V33, V32, V31, V30, V29, R28, R27, R22, R21, R20, R19, R18, R17, R16, R15, R14, R13, R12, R11, R10, R9, R8, R7, R6, R5, R4, R3, R2, R1, Q20, Q19, Q18, Q17, Q16, Q15, Q14, Q13, Q12, Q11, Q10, Q9, Q8, Q7, Q6, Q5, Q4, Q3, Q2, Q1, Tbl0])
    obtain rfl : i = tl.length := by omega
    rw [ke.out hgd]
    repeat' (first | refine ReqK.i (by omega) fun _ => ?_ | refine ReqK.i (by unfold maxL; omega) fun _ => ?_ | refine ReqK.i (fits_of2 (by first | omega | (simp only [List.length_map, List.length_take, List.length_append, List.length_cons, List.length_nil]; omega)) (by decide)) fun _ => ?_ | simp only [go_sem, reduceIte, reduceCtorEq, Nat.reduceEqDiff, Nat.reduceAdd, Nat.reduceSub, Nat.reduceMul, Nat.reduceDiv, Nat.reduceMod, Nat.reduceLT, Nat.reduceLeDiff, Nat.reduceBEq, Nat.reducePow, Int.reduceLE, Int.reduceLT, Int.reduceEq, Int.reduceNeg, Int.reduceAdd, Int.reduceToNat, Nat.lt_irrefl, predM, form_eta, Tryd.f102, V37, V36, V35, V34, V33, V32, V31, V30, V29, R28, R27, R22, R21, R20, R19, R18, R17, R16, R15, R14, R13, R12, R11, R10, R9, R8, R7, R6, R5, R4, R3, R2, R1, Q20, Q19, Q18, Q17, Q16, Q15, Q14, Q13, Q12, Q11, Q10, Q9, Q8, Q7, Q6, Q5, Q4, Q3, Q2, Q1, Tbl0])
end Go.Proofs.YtoicheicnbjfeaaDoor

namespace Go.Proofs.YtoicheicnbjfeaaDoor
open Go Go.Abs Go.Proofs

/-! ## event.Split$1 and event.change -/
def HP (ps : List Str) (ga : Nat) : List (Abs.Id × Option O) := [((39003, ga), some ⟨[.fz (.sl (ps.map enc))], true, false⟩)]
set_option maxRecDepth 100000 in
set_option maxHeartbeats 1000000 in
set_option maxHeartbeats 8000000 in
theorem f106 {ps : List Str} {ga : Nat} (c : Abs.Form) (n : Nat) (X : Heap) (hfit : c.fit = true) (_ : ga < n) (hX : ∀ id o, X id = some o → id.2 < n ∧ id.1 ≠ 39003) :
    Wcall Tryd.prog GA 106 [.fz (enc c), .ptr (39003, ga) 0] (hpX (HP ps ga) X) n (fun d' H' n' => d' = .fz (enc (splitBy qM ps c)) ∧ n ≤ n' ∧ HpOk H' (HP ps ga) ∧ ∀ id o, X id = some o → H' id = some o) := by
  obtain ⟨Q, hQ⟩ : ∃ Q : D → Heap → Nat → Prop, Q = (fun d' H' n' => d' = .fz (enc (splitBy qM ps c)) ∧ n ≤ n' ∧ HpOk H' (HP ps ga) ∧ ∀ id o, X id = some o → H' id = some o) := ⟨_, rfl⟩
  obtain ⟨QQ, hQQ⟩ : ∃ QQ : D → Heap → Nat → Prop, QQ = (fun d' H' n' => D.val d' = some (.fz (enc (splitBy qM ps c))) ∧ n ≤ n' ∧ HpOk H' (HP ps ga) ∧ ∀ id o, X id = some o → H' id = some o) := ⟨_, rfl⟩
  have hfin : ∀ d H m, QQ d H m → ∃ d' H' n', Weak GA 1 ⟨frL [(0, d)], H, m⟩ ⟨frL [(0, d')], H', n'⟩ ∧ Q d' H' n' := by
    rw [hQQ, hQ]
    rintro d H m ⟨h1, h2, h3, h4⟩
    exact ⟨_, H, m, Weak_val h1, rfl, h2, h3, h4⟩
  rw [← hQ]
  refine Wcall_post (Q := QQ) ?_ hfin
  clear hfin hQ
  have hX' : ∀ {l : List (Abs.Id × Option O)} (id o), X id = some o → (id.2 < n ∧ id.1 ≠ 39003 → apartL id l) → hpX l X id = some o := fun id o h1 h2 => (hpX_pass (h2 (hX id o h1))).trans h1
  obtain ⟨hwl, _, _⟩ := Form.fit_eq hfit
  have kX := Kp.mk @hX'
  by_cases c1 : c.kind = 2
  rotate_left
  · have e : splitBy qM ps c = c := by unfold splitBy; rw [if_neg (fun h => c1 h.1)]
    rw [e] at hQQ
    have kQ := Kp.mk hQQ
    clear hX' hQQ hX hfit e
    refine Wcall_K (N := 47) hm hV38 106000 (lst []) ok106 Tryd.func106 rfl rfl (by simp) (by kernel_rfl) ?_
    repeat' (first | refine ReqK.i (by omega) fun _ => ?_ | refine ReqK.i (by unfold maxL; omega) fun _ => ?_ | refine ReqK.i (fits_of2 (by first | omega | (simp only [List.length_map, List.length_take, List.length_append, List.length_cons, List.length_nil]; omega)) (by decide)) fun _ => ?_ | simp only [go_sem, reduceIte, reduceCtorEq, Nat.reduceEqDiff, Nat.reduceAdd, Nat.reduceSub, Nat.reduceMul, Nat.reduceDiv, Nat.reduceMod, Nat.reduceLT, Nat.reduceLeDiff, Nat.reduceBEq, Nat.reducePow, Int.reduceLE, Int.reduceLT, Int.reduceEq, Int.reduceNeg, Int.reduceAdd, Int.reduceToNat, HP, c1, form_eta, Tryd.f106, V38, V37, V36, V35, V34, V33, V32, V31, V30, V29, R28, R27, R22, R21, R20, R19, R18, R17, R16, R15, R14, R13, R12, R11, R10, R9, R8, R7, R6, R5, R4, R3, R2, R1, Q20, Q19, Q18, Q17, Q16, Q15, Q14, Q13, Q12, Q11, Q10, Q9, Q8, Q7, Q6, Q5, Q4, Q3, Q2, Q1, Tbl0])
    rw [kQ.out]
    refine ⟨?_, by omega, ?_, fun id o ho => kX.out id o ho fun h1 => ?_⟩
    · first | (simp only [go_sem, reduceIte, reduceCtorEq, Nat.reduceEqDiff, Nat.reduceAdd, Nat.reduceSub, Nat.reduceMul, Nat.reduceDiv, Nat.reduceMod, Nat.reduceLT, Nat.reduceLeDiff, Nat.reduceBEq, Nat.reducePow, Int.reduceLE, Int.reduceLT, Int.reduceEq, Int.reduceNeg, Int.reduceAdd, Int.reduceToNat, form_eta]; done) | simp only [go_sem, reduceIte, reduceCtorEq, Nat.reduceEqDiff, Nat.reduceAdd, Nat.reduceSub, Nat.reduceMul, Nat.reduceDiv, Nat.reduceMod, Nat.reduceLT, Nat.reduceLeDiff, Nat.reduceBEq, Nat.reducePow, Int.reduceLE, Int.reduceLT, Int.reduceEq, Int.reduceNeg, Int.reduceAdd, Int.reduceToNat, c1, form_eta]
    · simp only [go_sem, reduceIte, reduceCtorEq, Nat.reduceEqDiff, Nat.reduceAdd, Nat.reduceSub, Nat.reduceMul, Nat.reduceDiv, Nat.reduceMod, Nat.reduceLT, Nat.reduceLeDiff, Nat.reduceBEq, Nat.reducePow, Int.reduceLE, Int.reduceLT, Int.reduceEq, Int.reduceNeg, Int.reduceAdd, Int.reduceToNat, HP]
    · ((repeat' (first | exact trivial | apply And.intro)) <;> (rintro rfl; simp only at h1; omega))
  by_cases c2 : c.words.length = 0
  · have e : splitBy qM ps c = c := by unfold splitBy; rw [if_neg (fun h => by omega)]
    rw [e] at hQQ
    have kQ := Kp.mk hQQ
    have c2' : ((c.words.length : Int) = 0) = True := eq_true (by omega)
    clear hX' hQQ hX hfit e
    refine Wcall_K (N := 47) hm hV38 106000 (lst []) ok106 Tryd.func106 rfl rfl (by simp) (by kernel_rfl) ?_
    repeat' (first | refine ReqK.i (by omega) fun _ => ?_ | refine ReqK.i (by unfold maxL; omega) fun _ => ?_ | refine ReqK.i (fits_of2 (by first | omega | (simp only [List.length_map, List.length_take, List.length_append, List.length_cons, List.length_nil]; omega)) (by decide)) fun _ => ?_ | simp only [go_sem, reduceIte, reduceCtorEq, Nat.reduceEqDiff, Nat.reduceAdd, Nat.reduceSub, Nat.reduceMul, Nat.reduceDiv, Nat.reduceMod, Nat.reduceLT, Nat.reduceLeDiff, Nat.reduceBEq, Nat.reducePow, Int.reduceLE, Int.reduceLT, Int.reduceEq, Int.reduceNeg, Int.reduceAdd, Int.reduceToNat, HP, c1, c2', form_eta, Tryd.f106, V38, V37, V36, V35, V34, V33, V32, V31, V30, V29, R28, R27, R22, R21, R20, R19, R18, R17, R16, R15, R14, R13, R12, R11, R10, R9, R8, R7, R6, R5, R4, R3, R2, R1, Q20, Q19, Q18, Q17, Q16, Q15, Q14, Q13, Q12, Q11, Q10, Q9, Q8, Q7, Q6, Q5, Q4, Q3, Q2, Q1, Tbl0])
    rw [kQ.out]
    refine ⟨?_, by omega, ?_, fun id o ho => kX.out id o ho fun h1 => ?_⟩
    · first | (simp only [go_sem, reduceIte, reduceCtorEq, Nat.reduceEqDiff, Nat.reduceAdd, Nat.reduceSub, Nat.reduceMul, Nat.reduceDiv, Nat.reduceMod, Nat.reduceLT, Nat.reduceLeDiff, Nat.reduceBEq, Nat.reducePow, Int.reduceLE, Int.reduceLT, Int.reduceEq, Int.reduceNeg, Int.reduceAdd, Int.reduceToNat, form_eta]; done) | simp only [go_sem, reduceIte, reduceCtorEq, Nat.reduceEqDiff, Nat.reduceAdd, Nat.reduceSub, Nat.reduceMul, Nat.reduceDiv, Nat.reduceMod, Nat.reduceLT, Nat.reduceLeDiff, Nat.reduceBEq, Nat.reducePow, Int.reduceLE, Int.reduceLT, Int.reduceEq, Int.reduceNeg, Int.reduceAdd, Int.reduceToNat, c1, form_eta]
    · simp only [go_sem, reduceIte, reduceCtorEq, Nat.reduceEqDiff, Nat.reduceAdd, Nat.reduceSub, Nat.reduceMul, Nat.reduceDiv, Nat.reduceMod, Nat.reduceLT, Nat.reduceLeDiff, Nat.reduceBEq, Nat.reducePow, Int.reduceLE, Int.reduceLT, Int.reduceEq, Int.reduceNeg, Int.reduceAdd, Int.reduceToNat, HP]
    · ((repeat' (first | exact trivial | apply And.intro)) <;> (rintro rfl; simp only at h1; omega))
  have c2' : ((c.words.length : Int) = 0) = False := eq_false (by omega)
  by_cases c3 : c.name ∈ ps
  rotate_left
  · have e : splitBy qM ps c = c := by unfold splitBy; rw [if_neg (fun h => c3 h.2.2)]
    rw [e] at hQQ
    have kQ := Kp.mk hQQ
    clear hX' hQQ hX hfit e
    refine Wcall_K (N := 47) hm hV38 106000 (lst []) ok106 Tryd.func106 rfl rfl (by simp) (by kernel_rfl) ?_
    repeat' (first | refine ReqK.i (by omega) fun _ => ?_ | refine ReqK.i (by unfold maxL; omega) fun _ => ?_ | refine ReqK.i (fits_of2 (by first | omega | (simp only [List.length_map, List.length_take, List.length_append, List.length_cons, List.length_nil]; omega)) (by decide)) fun _ => ?_ | simp only [go_sem, reduceIte, reduceCtorEq, Nat.reduceEqDiff, Nat.reduceAdd, Nat.reduceSub, Nat.reduceMul, Nat.reduceDiv, Nat.reduceMod, Nat.reduceLT, Nat.reduceLeDiff, Nat.reduceBEq, Nat.reducePow, Int.reduceLE, Int.reduceLT, Int.reduceEq, Int.reduceNeg, Int.reduceAdd, Int.reduceToNat, HP, c1, c2', c3, str_eta, form_eta, Tryd.f106, V38, V37, V36, V35, V34, V33, V32, V31, V30, V29, R28, R27, R22, R21, R20, R19, R18, R17, R16, R15, R14, R13, R12, R11, R10, R9, R8, R7, R6, R5, R4, R3, R2, R1, Q20, Q19, Q18, Q17, Q16, Q15, Q14, Q13, Q12, Q11, Q10, Q9, Q8, Q7, Q6, Q5, Q4, Q3, Q2, Q1, Tbl0])
    rw [kQ.out]
    refine ⟨?_, by omega, ?_, fun id o ho => kX.out id o ho fun h1 => ?_⟩
    · first | (simp only [go_sem, reduceIte, reduceCtorEq, Nat.reduceEqDiff, Nat.reduceAdd, Nat.reduceSub, Nat.reduceMul, Nat.reduceDiv, Nat.reduceMod, Nat.reduceLT, Nat.reduceLeDiff, Nat.reduceBEq, Nat.reducePow, Int.reduceLE, Int.reduceLT, Int.reduceEq, Int.reduceNeg, Int.reduceAdd, Int.reduceToNat, form_eta]; done) | simp only [go_sem, reduceIte, reduceCtorEq, Nat.reduceEqDiff, Nat.reduceAdd, Nat.reduceSub, Nat.reduceMul, Nat.reduceDiv, Nat.reduceMod, Nat.reduceLT, Nat.reduceLeDiff, Nat.reduceBEq, Nat.reducePow, Int.reduceLE, Int.reduceLT, Int.reduceEq, Int.reduceNeg, Int.reduceAdd, Int.reduceToNat, c1, form_eta]
    · simp only [go_sem, reduceIte, reduceCtorEq, Nat.reduceEqDiff, Nat.reduceAdd, Nat.reduceSub, Nat.reduceMul, Nat.reduceDiv, Nat.reduceMod, Nat.reduceLT, Nat.reduceLeDiff, Nat.reduceBEq, Nat.reducePow, Int.reduceLE, Int.reduceLT, Int.reduceEq, Int.reduceNeg, Int.reduceAdd, Int.reduceToNat, HP]
    · ((repeat' (first | exact trivial | apply And.intro)) <;> (rintro rfl; simp only at h1; omega))
  obtain ⟨J, hJ⟩ : ∃ J : Nat → Abs.Form, J = fun i => joinM 5 (.mk 2 c.name [qM] [] :: (List.range i).map fun i => .mk 2 (argS i) [qM, c.words.getD i ⟨[]⟩] []) := ⟨_, rfl⟩
  have hJ0 : J 0 = predM c.name [qM] := by rw [hJ]; rfl
  have hJs : ∀ i (h : i < c.words.length), J (i + 1) = andF (J i) (predM (argS i) [qM, c.words[i]]) := fun i h => by
    rw [hJ]
    simp only [List.range_succ, List.map_append, List.map_cons, List.map_nil, ← List.cons_append]
    rw [joinM_snoc 5 (by simp), List.getD_eq_getElem?_getD, List.getElem?_eq_getElem h]
    rfl
  have e : splitBy qM ps c = .mk 9 qM [] [J c.words.length] := by
    unfold splitBy splitF
    rw [if_pos ⟨c1, by omega, c3⟩, hJ]
  rw [e] at hQQ
  have kQ := Kp.mk hQQ
  have kJ := Kp.mk hJs
  have dq : Str.mk [63] = qM := rfl
  have dql : qM.l = [63] := rfl
  clear hX' hQQ hX hfit e hJ hJs
  obtain ⟨j0, hj0⟩ : ∃ j0, predM c.name [qM] = j0 := ⟨_, rfl⟩
  rw [hj0] at hJ0
  refine Wcall_K (N := 47) hm hV38 106000 (lst []) ok106 Tryd.func106 rfl rfl (by simp) (by kernel_rfl) ?_
  repeat' (first | refine ReqK.i ⟨rfl, rfl⟩ fun _ => ?_ | refine ReqK.i rfl fun _ => ?_ | refine ReqK.i (by omega) fun _ => ?_ | refine ReqK.i (by unfold maxL; omega) fun _ => ?_ | refine ReqK.i (fits_of2 (by first | omega | (simp only [List.length_map, List.length_take, List.length_append, List.length_cons, List.length_nil]; omega)) (by decide)) fun _ => ?_ | simp only [go_sem, reduceIte, reduceCtorEq, Nat.reduceEqDiff, Nat.reduceAdd, Nat.reduceSub, Nat.reduceMul, Nat.reduceDiv, Nat.reduceMod, Nat.reduceLT, Nat.reduceLeDiff, Nat.reduceBEq, Nat.reducePow, Int.reduceLE, Int.reduceLT, Int.reduceEq, Int.reduceNeg, Int.reduceAdd, Int.reduceToNat, HP, c1, c2', c3, dq, hj0, str_eta, form_eta, Tryd.f106, V38, V37, V36, V35, V34, V33, V32, V31, V30, V29, R28, R27, R22, R21, R20, R19, R18, R17, R16, R15, R14, R13, R12, R11, R10, R9, R8, R7, R6, R5, R4, R3, R2, R1, Q20, Q19, Q18, Q17, Q16, Q15, Q14, Q13, Q12, Q11, Q10, Q9, Q8, Q7, Q6, Q5, Q4, Q3, Q2, Q1, Tbl0])
  refine WK_loop hm hV38 106000 (lst []) (ι := LoopI c.words.length fun _ => True)
    ⟨fun q => ⟨frL [(1, .ptr (39003, ga) 0), (3, .ptr (106003, n + 1) 0), (4, .ptr (106004, n + 1 + 1) 0), (29, .fz (.sl (c.words.map enc))), (30, .fz (.i .i64 c.words.length)), (31, .fz (.i .i64 q.i))],
      hpX ([((106003, n + 1), some ⟨[.fz (.i .i64 0), .fz (.s []), .full [], .full []], true, false⟩), ((106004, n + 1 + 1), some ⟨[.fz (.i .i64 (J q.i).kind), .fz (.s (J q.i).name.l), .fz (.sl ((J q.i).words.map enc)), .fz (.sl ((J q.i).subs.map enc))], true, false⟩)] ++ HP ps ga) X, n + 1 + 1 + 1⟩, fun q => c.words.length - q.i⟩
    ⟨0, by omega, trivial⟩ (by kernel_rfl) ?_ ?_
  · refine Weak_toX ?_ ?_ (fun id o ho => ?_) ?_
    · simp only [go_sem, reduceIte, reduceCtorEq, Nat.reduceEqDiff, Nat.reduceAdd, Nat.reduceSub, Nat.reduceMul, Nat.reduceDiv, Nat.reduceMod, Nat.reduceLT, Nat.reduceLeDiff, Nat.reduceBEq, Nat.reducePow, Int.reduceLE, Int.reduceLT, Int.reduceEq, Int.reduceNeg, Int.reduceAdd, Int.reduceToNat]
    · simp only [go_sem, reduceIte, reduceCtorEq, Nat.reduceEqDiff, Nat.reduceAdd, Nat.reduceSub, Nat.reduceMul, Nat.reduceDiv, Nat.reduceMod, Nat.reduceLT, Nat.reduceLeDiff, Nat.reduceBEq, Nat.reducePow, Int.reduceLE, Int.reduceLT, Int.reduceEq, Int.reduceNeg, Int.reduceAdd, Int.reduceToNat, HP, hJ0]
    · refine kX.out id o ho fun h1 => ?_
      ((repeat' (first | exact trivial | apply And.intro)) <;> (rintro rfl; simp only at h1; omega))
    · simp only [go_sem, reduceIte, reduceCtorEq, Nat.reduceEqDiff, Nat.reduceAdd, Nat.reduceSub, Nat.reduceMul, Nat.reduceDiv, Nat.reduceMod, Nat.reduceLT, Nat.reduceLeDiff, Nat.reduceBEq, Nat.reducePow, Int.reduceLE, Int.reduceLT, Int.reduceEq, Int.reduceNeg, Int.reduceAdd, Int.reduceToNat]
  rintro ⟨i, hi, _⟩
  try simp only at hi
  rcases Nat.lt_or_ge i c.words.length with h1 | h1
  · have hs := kJ.out i h1
    obtain ⟨w, hw⟩ : ∃ w, c.words[i] = w := ⟨_, rfl⟩
    rw [hw] at hs
    obtain ⟨y, hy⟩ : ∃ y, predM (argS i) [qM, w] = y := ⟨_, rfl⟩
    obtain ⟨z, hz⟩ : ∃ z, J i = z := ⟨_, rfl⟩
    rw [hy, hz] at hs
    repeat' (first | refine ReqK.i ⟨by omega, by omega⟩ fun _ => ?_ | refine ReqK.i ⟨rfl, rfl⟩ fun _ => ?_ | refine ReqK.i rfl fun _ => ?_ | refine ReqK.i (by omega) fun _ => ?_ | refine ReqK.i (by unfold maxL; omega) fun _ => ?_ | refine ReqK.i (fits_of2 (by first | omega | (simp only [List.length_map, List.length_take, List.length_append, List.length_cons, List.length_nil]; omega)) (by decide)) fun _ => ?_ | simp only [go_sem, reduceIte, reduceCtorEq, Nat.reduceEqDiff, Nat.reduceAdd, Nat.reduceSub, Nat.reduceMul, Nat.reduceDiv, Nat.reduceMod, Nat.reduceLT, Nat.reduceLeDiff, Nat.reduceBEq, Nat.reducePow, Int.reduceLE, Int.reduceLT, Int.reduceEq, Int.reduceNeg, Int.reduceAdd, Int.reduceToNat, HP, h1, hw, hy, hz, dq, argI_nat, str_eta, form_eta, getD_map_lt, Tryd.f106, V38, V37, V36, V35, V34, V33, V32, V31, V30, V29, R28, R27, R22, R21, R20, R19, R18, R17, R16, R15, R14, R13, R12, R11, R10, R9, R8, R7, R6, R5, R4, R3, R2, R1, Q20, Q19, Q18, Q17, Q16, Q15, Q14, Q13, Q12, Q11, Q10, Q9, Q8, Q7, Q6, Q5, Q4, Q3, Q2, Q1, Tbl0])
    refine ⟨⟨i + 1, by omega, trivial⟩, by simp only; omega, ?_⟩
    refine Weak_toX ?_ ?_ (fun id o ho => ?_) ?_
    · simp only [go_sem, reduceIte, reduceCtorEq, Nat.reduceEqDiff, Nat.reduceAdd, Nat.reduceSub, Nat.reduceMul, Nat.reduceDiv, Nat.reduceMod, Nat.reduceLT, Nat.reduceLeDiff, Nat.reduceBEq, Nat.reducePow, Int.reduceLE, Int.reduceLT, Int.reduceEq, Int.reduceNeg, Int.reduceAdd, Int.reduceToNat]
    · simp only [go_sem, reduceIte, reduceCtorEq, Nat.reduceEqDiff, Nat.reduceAdd, Nat.reduceSub, Nat.reduceMul, Nat.reduceDiv, Nat.reduceMod, Nat.reduceLT, Nat.reduceLeDiff, Nat.reduceBEq, Nat.reducePow, Int.reduceLE, Int.reduceLT, Int.reduceEq, Int.reduceNeg, Int.reduceAdd, Int.reduceToNat, HP, hs]
    · refine kX.out id o ho fun h1 => ?_
      ((repeat' (first | exact trivial | apply And.intro)) <;> (rintro rfl; simp only at h1; omega))
    · simp only [go_sem, reduceIte, reduceCtorEq, Nat.reduceEqDiff, Nat.reduceAdd, Nat.reduceSub, Nat.reduceMul, Nat.reduceDiv, Nat.reduceMod, Nat.reduceLT, Nat.reduceLeDiff, Nat.reduceBEq, Nat.reducePow, Int.reduceLE, Int.reduceLT, Int.reduceEq, Int.reduceNeg, Int.reduceAdd, Int.reduceToNat]
  obtain rfl : i = c.words.length := by omega
  repeat' (first | refine ReqK.i (by omega) fun _ => ?_ | refine ReqK.i (by unfold maxL; omega) fun _ => ?_ | refine ReqK.i (fits_of2 (by first | omega | (simp only [List.length_map, List.length_take, List.length_append, List.length_cons, List.length_nil]; omega)) (by decide)) fun _ => ?_ | simp only [go_sem, reduceIte, reduceCtorEq, Nat.reduceEqDiff, Nat.reduceAdd, Nat.reduceSub, Nat.reduceMul, Nat.reduceDiv, Nat.reduceMod, Nat.reduceLT, Nat.reduceLeDiff, Nat.reduceBEq, Nat.reducePow, Int.reduceLE, Int.reduceLT, Int.reduceEq, Int.reduceNeg, Int.reduceAdd, Int.reduceToNat, HP, Nat.lt_irrefl, form_eta, Tryd.f106, V38, V37, V36, V35, V34, V33, V32, V31, V30, V29, R28, R27, R22, R21, R20, R19, R18, R17, R16, R15, R14, R13, R12, R11, R10, R9, R8, R7, R6, R5, R4, R3, R2, R1, Q20, Q19, Q18, Q17, Q16, Q15, Q14, Q13, Q12, Q11, Q10, Q9, Q8, Q7, Q6, Q5, Q4, Q3, Q2, Q1, Tbl0])
  rw [kQ.out]
  refine ⟨?_, by omega, ?_, fun id o ho => kX.out id o ho fun h1 => ?_⟩
  · simp only [go_sem, reduceIte, reduceCtorEq, Nat.reduceEqDiff, Nat.reduceAdd, Nat.reduceSub, Nat.reduceMul, Nat.reduceDiv, Nat.reduceMod, Nat.reduceLT, Nat.reduceLeDiff, Nat.reduceBEq, Nat.reducePow, Int.reduceLE, Int.reduceLT, Int.reduceEq, Int.reduceNeg, Int.reduceAdd, Int.reduceToNat, dql, form_eta]
  · simp only [go_sem, reduceIte, reduceCtorEq, Nat.reduceEqDiff, Nat.reduceAdd, Nat.reduceSub, Nat.reduceMul, Nat.reduceDiv, Nat.reduceMod, Nat.reduceLT, Nat.reduceLeDiff, Nat.reduceBEq, Nat.reducePow, Int.reduceLE, Int.reduceLT, Int.reduceEq, Int.reduceNeg, Int.reduceAdd, Int.reduceToNat, HP]
  · ((repeat' (first | exact trivial | apply And.intro)) <;> (rintro rfl; simp only at h1; omega))

def tree1266M : Tv := (.q 0 (.q 2 (.q 3 (.br [(1, (.br [(4, (.q 5 (.br [(6, (.q 7 (.br [(8, .leaf)])))])))])), (4, (.q 1 (.q 5 (.br [(6, (.q 7 (.br [(8, .leaf)])))]))))]))))
set_option maxRecDepth 100000 in
set_option maxHeartbeats 1000000 in
set_option maxHeartbeats 8000000 in
theorem f101M : ∀ (s : Nat) (f : Abs.Form) (n : Nat) (X : Heap), f.size ≤ s → (enc f).Wf → f.fit = true → wfE f → f.size ≤ 100000 → (∀ id o, X id = some o → id.2 < n) →
    Wcall Tryd.prog GA 101 [.fz (enc f), .fn 102 []] (hpX ([]) X) n (fun d' H' n' => d' = .fz (enc (changeM mergeBy f)) ∧ n ≤ n' ∧ ∀ id o, X id = some o → H' id = some o) := by
  intro s
  induction s with
  | zero => intro f n X hs; have := f.size_pos; omega
  | succ s ih =>
    intro f n X hs hw hfit hwf hsz hX
    obtain ⟨R, hR⟩ : ∃ R, changeM mergeBy f = R := ⟨_, rfl⟩
    obtain ⟨Q, hQ⟩ : ∃ Q : D → Heap → Nat → Prop, Q = (fun d' H' n' => d' = .fz (enc (changeM mergeBy f)) ∧ n ≤ n' ∧ ∀ id o, X id = some o → H' id = some o) := ⟨_, rfl⟩
    obtain ⟨QQ, hQQ⟩ : ∃ QQ : D → Heap → Nat → Prop, QQ = (fun d' H' n' => D.val d' = some (.fz (enc (changeM mergeBy f))) ∧ n ≤ n' ∧ ∀ id o, X id = some o → H' id = some o) := ⟨_, rfl⟩
    have hfin : ∀ d H m, QQ d H m → ∃ d' H' n', Weak GA 1 ⟨frL [(0, d)], H, m⟩ ⟨frL [(0, d')], H', n'⟩ ∧ Q d' H' n' := by
      rw [hQQ, hQ]
      rintro d H m ⟨h1, h2, h3⟩
      exact ⟨_, H, m, Weak_val h1, rfl, h2, h3⟩
    rw [← hQ]
    refine Wcall_post (Q := QQ) ?_ hfin
    clear hfin hQ
    rw [hR] at hQQ
    have hX' : ∀ {l : List (Abs.Id × Option O)} (id o), X id = some o → (id.2 < n → apartL id l) → hpX l X id = some o := fun id o h1 h2 => (hpX_pass (h2 (hX id o h1))).trans h1
    obtain ⟨hwl, hsl, hfs⟩ := Form.fit_eq hfit
    have hsw : ∀ g ∈ f.subs, (enc g).Wf := fun g hg => Wf_mem (Wf_agg (by have h := hw; rw [enc_form] at h; exact h) (FD.sl (f.subs.map enc)) (by simp)) _ (List.mem_map_of_mem hg)
    have hss : ∀ g ∈ f.subs, g.size ≤ s ∧ g.fit = true ∧ wfE g ∧ g.size ≤ 100000 := fun g hg => ⟨by have := Form.size_sub hg; omega, Form.fits_mem hfs hg, wfE_sub hwf g hg, by have := Form.size_sub hg; omega⟩
    obtain ⟨A, hA⟩ : ∃ A : Nat → List Abs.Form, A = fun j => (f.subs.take j).map (changeM mergeBy) := ⟨_, rfl⟩
    have hA0 : A 0 = [] := by rw [hA]; rfl
    have hAs : ∀ j (h : j < f.subs.length), A (j + 1) = A j ++ [changeM mergeBy f.subs[j]] := fun j h => by rw [hA]; simp only [List.take_succ_eq_append_getElem h, List.map_append, List.map_cons, List.map_nil]
    have hAl : ∀ j, (A j).length ≤ f.subs.length := fun j => by rw [hA]; simp only [List.length_map, List.length_take]; omega
    have hRe : mergeBy (.mk f.kind f.name f.words (A f.subs.length)) = R := by rw [← hR, changeM_eq, hA]; simp only [List.take_length]
    have hAf : A f.subs.length = changeMs mergeBy f.subs := by rw [hA, changeMs_map]; simp only [List.take_length]
    have hgo : evPre (.mk f.kind f.name f.words (A f.subs.length)) ∧ (Abs.Form.mk f.kind f.name f.words (A f.subs.length)).fit = true := by
      rw [hAf]
      have h5 := wfE_eq.1 hwf
      refine ⟨⟨?_, ?_⟩, ?_⟩
      · rw [wfE]
        exact ⟨by rw [changeMs_map, List.length_map]; exact h5.1, by rw [changeMs_map, List.length_map]; exact h5.2.1, h5.2.2.1, changeMs_wfE (fun f h => mergeBy_wfE h) f.subs h5.2.2.2⟩
      · have h6 := changeMs_size (c := 0) (by' := mergeBy) (fun f => mergeBy_size f) f.subs
        have h7 : f.size = Form.sizes f.subs + 1 := by cases f; rw [Form.size]; rfl
        refine Nat.le_trans (m := Form.sizes f.subs * (0 + 1) + 1) ?_ (by omega)
        rw [Form.size]; omega
      · rw [Form.fit, changeMs_fit (fun f h => mergeBy_fit h) f.subs hfs, changeMs_map, List.length_map, decide_eq_true hwl, decide_eq_true hsl]; rfl
    have kX := Kp.mk @hX'
    have kQ := Kp.mk hQQ
    have kI := Kp.mk ih
    have kS := Kp.mk hsw
    have kZ := Kp.mk hss
    have kx := Kp.mk hX
    have kA := Kp.mk hAs
    have kL := Kp.mk hAl
    have kG := Kp.mk hgo
    have kR := Kp.mk hRe
    clear hX' hQQ ih hsw hss hX hfs hw hfit hA hAs hAl hR hgo hRe hAf
    refine Wcall_K (N := 29) hm hV38 101000 (lsw [23] [1000006]) ok101 Tryd.func101 rfl rfl (by simp) (by kernel_rfl) ?_
    repeat' (first | refine ReqK.i (by omega) fun _ => ?_ | refine ReqK.i (by unfold maxL; omega) fun _ => ?_ | refine ReqK.i (fits_of2 (by first | omega | (simp only [List.length_map, List.length_take, List.length_append, List.length_cons, List.length_nil]; omega)) (by decide)) fun _ => ?_ | simp only [go_sem, reduceIte, reduceCtorEq, Nat.reduceEqDiff, Nat.reduceAdd, Nat.reduceSub, Nat.reduceMul, Nat.reduceDiv, Nat.reduceMod, Nat.reduceLT, Nat.reduceLeDiff, Nat.reduceBEq, Nat.reducePow, Int.reduceLE, Int.reduceLT, Int.reduceEq, Int.reduceNeg, Int.reduceAdd, Int.reduceToNat, HP, Tryd.f101, V38, V37, V36, V35, V34, V33, V32, V31, V30, V29, R28, R27, R22, R21, R20, R19, R18, R17, R16, R15, R14, R13, R12, R11, R10, R9, R8, R7, R6, R5, R4, R3, R2, R1, Q20, Q19, Q18, Q17, Q16, Q15, Q14, Q13, Q12, Q11, Q10, Q9, Q8, Q7, Q6, Q5, Q4, Q3, Q2, Q1, Tbl0])
    refine WK_loop hm hV38 101000 (lsw [23] [1000006]) (ι := LoopX f.subs.length (n + 4) n)
      ⟨fun q => ⟨frL [(1, .fn 102 []), (4, .ptr (101004, n + 1) 0), (5, .ptr (101005, n + 1 + 1) 0), (11, .fz (.sl (f.subs.map enc))), (12, .fz (.i .i64 f.subs.length)), (13, .fz (.i .i64 q.i))],
        hpX ([((101004, n + 1), some ⟨[.fz (.i .i64 0), .fz (.s []), .full [], .full []], true, false⟩), ((101005, n + 1 + 1), some ⟨[.fz (.i .i64 f.kind), .fz (.s f.name.l), .fz (.sl (f.words.map enc)), .ow (101023, q.g) 4 ((A q.i).map enc)], true, false⟩), ((101023, q.g), some tok)]) X, q.m⟩, fun q => f.subs.length - q.i⟩
      ⟨0, n + 1 + 1 + 1, n + 1 + 1 + 1 + 1, by omega, by omega, by omega, by omega⟩ (by kernel_rfl) ?_ ?_
    · refine Weak_then (Weak_newvX 101023) (Weak_then (Weak_cellX (id := (101005, n + 1 + 1)) (id2 := (101023, n + 1 + 1 + 1)) (es := 4) (k := 3) (xs := []) (b := true) (by simp only [go_sem, reduceIte, reduceCtorEq, Nat.reduceEqDiff, Nat.reduceAdd, Nat.reduceSub, Nat.reduceMul, Nat.reduceDiv, Nat.reduceMod, Nat.reduceLT, Nat.reduceLeDiff, Nat.reduceBEq, Nat.reducePow, Int.reduceLE, Int.reduceLT, Int.reduceEq, Int.reduceNeg, Int.reduceAdd, Int.reduceToNat]; rfl) (by simp) (by rfl) (by simp only; omega)) ?_)
      refine Weak_toX ?_ ?_ (fun id o ho => ?_) ?_
      · simp only [go_sem, reduceIte, reduceCtorEq, Nat.reduceEqDiff, Nat.reduceAdd, Nat.reduceSub, Nat.reduceMul, Nat.reduceDiv, Nat.reduceMod, Nat.reduceLT, Nat.reduceLeDiff, Nat.reduceBEq, Nat.reducePow, Int.reduceLE, Int.reduceLT, Int.reduceEq, Int.reduceNeg, Int.reduceAdd, Int.reduceToNat]
      · simp only [go_sem, reduceIte, reduceCtorEq, Nat.reduceEqDiff, Nat.reduceAdd, Nat.reduceSub, Nat.reduceMul, Nat.reduceDiv, Nat.reduceMod, Nat.reduceLT, Nat.reduceLeDiff, Nat.reduceBEq, Nat.reducePow, Int.reduceLE, Int.reduceLT, Int.reduceEq, Int.reduceNeg, Int.reduceAdd, Int.reduceToNat, HP, hA0]
      · refine kX.out id o ho fun h1 => ?_
        ((repeat' (first | exact trivial | apply And.intro)) <;> (rintro rfl; simp only at h1; omega))
      · simp only [go_sem, reduceIte, reduceCtorEq, Nat.reduceEqDiff, Nat.reduceAdd, Nat.reduceSub, Nat.reduceMul, Nat.reduceDiv, Nat.reduceMod, Nat.reduceLT, Nat.reduceLeDiff, Nat.reduceBEq, Nat.reducePow, Int.reduceLE, Int.reduceLT, Int.reduceEq, Int.reduceNeg, Int.reduceAdd, Int.reduceToNat]
    rintro ⟨j, g2, m2, hj, hg2, hm2, hgl2⟩
    try simp only at hj hg2 hm2 hgl2
    rcases Nat.lt_or_ge j f.subs.length with h2 | h2
    · have hmem := List.getElem_mem h2
      obtain ⟨x, hx⟩ : ∃ x, f.subs[j] = x := ⟨_, rfl⟩
      have hz := kZ.out _ hmem
      have hwx := kS.out _ hmem
      have hAj := kA.out j h2
      have hAlj := kL.out j
      rw [hx] at hz hwx hAj
      obtain ⟨y, hy⟩ : ∃ y, changeM mergeBy x = y := ⟨_, rfl⟩
      rw [hy] at hAj
      have ih2 : ∀ (m3 : Nat), m2 ≤ m3 → _ := fun m3 hm3 => kI.out x m3 (hpX [((101004, n + 1), some ⟨[.fz (.i .i64 0), .fz (.s []), .full [], .full []], true, false⟩), ((101005, n + 1 + 1), some ⟨[.fz (.i .i64 f.kind), .fz (.s f.name.l), .fz (.sl (f.words.map enc)), .ow (101023, g2) 4 ((A j).map enc)], true, false⟩), ((101023, g2), some tok)] X) hz.1 hwx hz.2.1 hz.2.2.1 hz.2.2.2 (by
        intro id o ho
        simp only [hpX] at ho
        split at ho
        · rename_i e; subst e; simp only; omega
        split at ho
        · rename_i e; subst e; simp only; omega
        split at ho
        · rename_i e; subst e; simp only; omega
        · have := kx.out id o ho; omega)
      simp only [hy] at ih2
      rw [enc_form (f := x)] at ih2
      obtain ⟨fy, hfy⟩ : ∃ fy, enc y = fy := ⟨_, rfl⟩
      have hcy : fy.cells.length = 4 := by rw [← hfy, enc_form]; rfl
      have hff : (flatFz [fy]).all oneB = true := by rw [← hfy]; have h9 := @flats_forms [y]; exact eq_true h9 ▸ h9
      repeat' (first | refine ReqK.i (by omega) fun _ => ?_ | refine ReqK.i (by unfold maxL; omega) fun _ => ?_ | refine ReqK.i (fits_of2 (by first | omega | (simp only [List.length_map, List.length_take, List.length_append, List.length_cons, List.length_nil]; omega)) (by decide)) fun _ => ?_ | simp only [go_sem, reduceIte, reduceCtorEq, Nat.reduceEqDiff, Nat.reduceAdd, Nat.reduceSub, Nat.reduceMul, Nat.reduceDiv, Nat.reduceMod, Nat.reduceLT, Nat.reduceLeDiff, Nat.reduceBEq, Nat.reducePow, Int.reduceLE, Int.reduceLT, Int.reduceEq, Int.reduceNeg, Int.reduceAdd, Int.reduceToNat, HP, h2, hx, getD_map_lt, Tryd.f101, V38, V37, V36, V35, V34, V33, V32, V31, V30, V29, R28, R27, R22, R21, R20, R19, R18, R17, R16, R15, R14, R13, R12, R11, R10, R9, R8, R7, R6, R5, R4, R3, R2, R1, Q20, Q19, Q18, Q17, Q16, Q15, Q14, Q13, Q12, Q11, Q10, Q9, Q8, Q7, Q6, Q5, Q4, Q3, Q2, Q1, Tbl0])
      refine WK_weak2 (Weak_rpL (id := (101007, m2)) (t := 7) (b := true) (ys := [.i .i64 x.kind, .s x.name.l, .sl (x.words.map enc), .sl (x.subs.map enc)]) (by simp only [go_sem, reduceIte, reduceCtorEq, Nat.reduceEqDiff, Nat.reduceAdd, Nat.reduceSub, Nat.reduceMul, Nat.reduceDiv, Nat.reduceMod, Nat.reduceLT, Nat.reduceLeDiff, Nat.reduceBEq, Nat.reducePow, Int.reduceLE, Int.reduceLT, Int.reduceEq, Int.reduceNeg, Int.reduceAdd, Int.reduceToNat]) (by simp only [go_sem, reduceIte, reduceCtorEq, Nat.reduceEqDiff, Nat.reduceAdd, Nat.reduceSub, Nat.reduceMul, Nat.reduceDiv, Nat.reduceMod, Nat.reduceLT, Nat.reduceLeDiff, Nat.reduceBEq, Nat.reducePow, Int.reduceLE, Int.reduceLT, Int.reduceEq, Int.reduceNeg, Int.reduceAdd, Int.reduceToNat])) ?_
      refine WK_drawV hm hV38 101000 (lsw [23] [1000006]) tree1266M (by kernel_rfl) (by kernel_rfl) ?_
      repeat' (first | refine And.intro ?_ ?_ | exact True.intro | refine ReqK.i (by omega) fun _ => ?_ | refine ReqK.i (by unfold maxL; omega) fun _ => ?_ | refine ReqK.i (fits_of2 (by first | omega | (simp only [List.length_map, List.length_take, List.length_append, List.length_cons, List.length_nil]; omega)) (by decide)) fun _ => ?_ | simp only [go_sem, reduceIte, reduceCtorEq, Nat.reduceEqDiff, Nat.reduceAdd, Nat.reduceSub, Nat.reduceMul, Nat.reduceDiv, Nat.reduceMod, Nat.reduceLT, Nat.reduceLeDiff, Nat.reduceBEq, Nat.reducePow, Int.reduceLE, Int.reduceLT, Int.reduceEq, Int.reduceNeg, Int.reduceAdd, Int.reduceToNat, HP, tree1266M, h2, hx, getD_map_lt, Tryd.f101, V38, V37, V36, V35, V34, V33, V32, V31, V30, V29, R28, R27, R22, R21, R20, R19, R18, R17, R16, R15, R14, R13, R12, R11, R10, R9, R8, R7, R6, R5, R4, R3, R2, R1, Q20, Q19, Q18, Q17, Q16, Q15, Q14, Q13, Q12, Q11, Q10, Q9, Q8, Q7, Q6, Q5, Q4, Q3, Q2, Q1, Tbl0])
      all_goals
        refine WcallK.i (Wcall_toX (by simp only [go_sem, reduceIte, reduceCtorEq, Nat.reduceEqDiff, Nat.reduceAdd, Nat.reduceSub, Nat.reduceMul, Nat.reduceDiv, Nat.reduceMod, Nat.reduceLT, Nat.reduceLeDiff, Nat.reduceBEq, Nat.reducePow, Int.reduceLE, Int.reduceLT, Int.reduceEq, Int.reduceNeg, Int.reduceAdd, Int.reduceToNat, argL]) (by simp only [go_sem, reduceIte, reduceCtorEq, Nat.reduceEqDiff, Nat.reduceAdd, Nat.reduceSub, Nat.reduceMul, Nat.reduceDiv, Nat.reduceMod, Nat.reduceLT, Nat.reduceLeDiff, Nat.reduceBEq, Nat.reducePow, Int.reduceLE, Int.reduceLT, Int.reduceEq, Int.reduceNeg, Int.reduceAdd, Int.reduceToNat, HP]) (fun id o ho => ?_) (Nat.le_refl _) (Wcall_mono (ih2 _ (by omega)) ?_))
        · simp only [hpX] at ho
          split at ho
          · rename_i e; subst e; simp only [go_sem, reduceIte, reduceCtorEq, Nat.reduceEqDiff, Nat.reduceAdd, Nat.reduceSub, Nat.reduceMul, Nat.reduceDiv, Nat.reduceMod, Nat.reduceLT, Nat.reduceLeDiff, Nat.reduceBEq, Nat.reducePow, Int.reduceLE, Int.reduceLT, Int.reduceEq, Int.reduceNeg, Int.reduceAdd, Int.reduceToNat]; exact Option.some.inj ho
          split at ho
          · rename_i e; subst e; simp only [go_sem, reduceIte, reduceCtorEq, Nat.reduceEqDiff, Nat.reduceAdd, Nat.reduceSub, Nat.reduceMul, Nat.reduceDiv, Nat.reduceMod, Nat.reduceLT, Nat.reduceLeDiff, Nat.reduceBEq, Nat.reducePow, Int.reduceLE, Int.reduceLT, Int.reduceEq, Int.reduceNeg, Int.reduceAdd, Int.reduceToNat]; exact Option.some.inj ho
          split at ho
          · rename_i e; subst e; simp only [go_sem, reduceIte, reduceCtorEq, Nat.reduceEqDiff, Nat.reduceAdd, Nat.reduceSub, Nat.reduceMul, Nat.reduceDiv, Nat.reduceMod, Nat.reduceLT, Nat.reduceLeDiff, Nat.reduceBEq, Nat.reducePow, Int.reduceLE, Int.reduceLT, Int.reduceEq, Int.reduceNeg, Int.reduceAdd, Int.reduceToNat]; exact Option.some.inj ho
          · refine kX.out id o ho fun h1 => ?_
            ((repeat' (first | exact trivial | apply And.intro)) <;> (rintro rfl; simp only at h1; omega))
        rintro d' H' n' ⟨rfl, e1, e3⟩
        have c6 := e3 (101004, n + 1) ⟨[.fz (.i .i64 0), .fz (.s []), .full [], .full []], true, false⟩ (by simp only [go_sem, reduceIte, reduceCtorEq, Nat.reduceEqDiff, Nat.reduceAdd, Nat.reduceSub, Nat.reduceMul, Nat.reduceDiv, Nat.reduceMod, Nat.reduceLT, Nat.reduceLeDiff, Nat.reduceBEq, Nat.reducePow, Int.reduceLE, Int.reduceLT, Int.reduceEq, Int.reduceNeg, Int.reduceAdd, Int.reduceToNat])
        have c7 := e3 (101005, n + 1 + 1) ⟨[.fz (.i .i64 f.kind), .fz (.s f.name.l), .fz (.sl (f.words.map enc)), .ow (101023, g2) 4 ((A j).map enc)], true, false⟩ (by simp only [go_sem, reduceIte, reduceCtorEq, Nat.reduceEqDiff, Nat.reduceAdd, Nat.reduceSub, Nat.reduceMul, Nat.reduceDiv, Nat.reduceMod, Nat.reduceLT, Nat.reduceLeDiff, Nat.reduceBEq, Nat.reducePow, Int.reduceLE, Int.reduceLT, Int.reduceEq, Int.reduceNeg, Int.reduceAdd, Int.reduceToNat])
        have c8 := e3 (101023, g2) tok (by simp only [go_sem, reduceIte, reduceCtorEq, Nat.reduceEqDiff, Nat.reduceAdd, Nat.reduceSub, Nat.reduceMul, Nat.reduceDiv, Nat.reduceMod, Nat.reduceLT, Nat.reduceLeDiff, Nat.reduceBEq, Nat.reducePow, Int.reduceLE, Int.reduceLT, Int.reduceEq, Int.reduceNeg, Int.reduceAdd, Int.reduceToNat])
        have hX2 : ∀ id o, X id = some o → H' id = some o := fun id o ho => e3 id o (kX.out id o ho fun h1 => by
          ((repeat' (first | exact trivial | apply And.intro)) <;> (rintro rfl; simp only at h1; omega)))
        clear e3
        skip
        have c1 := e1
        rw [show H' = hpX [] H' from rfl]
        rw [hfy]
        repeat' (first | refine ReqK.i (by omega) fun _ => ?_ | refine ReqK.i (by unfold maxL; omega) fun _ => ?_ | refine ReqK.i (fits_of2 (by first | omega | (simp only [List.length_map, List.length_take, List.length_append, List.length_cons, List.length_nil]; omega)) (by decide)) fun _ => ?_ | simp only [go_sem, reduceIte, reduceCtorEq, Nat.reduceEqDiff, Nat.reduceAdd, Nat.reduceSub, Nat.reduceMul, Nat.reduceDiv, Nat.reduceMod, Nat.reduceLT, Nat.reduceLeDiff, Nat.reduceBEq, Nat.reducePow, Int.reduceLE, Int.reduceLT, Int.reduceEq, Int.reduceNeg, Int.reduceAdd, Int.reduceToNat, HP, tree1266M, c6, c7, c8, h2, hcy, hff, Tryd.f101, V38, V37, V36, V35, V34, V33, V32, V31, V30, V29, R28, R27, R22, R21, R20, R19, R18, R17, R16, R15, R14, R13, R12, R11, R10, R9, R8, R7, R6, R5, R4, R3, R2, R1, Q20, Q19, Q18, Q17, Q16, Q15, Q14, Q13, Q12, Q11, Q10, Q9, Q8, Q7, Q6, Q5, Q4, Q3, Q2, Q1, Tbl0])
        refine ⟨⟨j + 1, n', n' + 1, by omega, by omega, by omega, by omega⟩, by simp only; omega, ?_⟩
        refine Weak_toX ?_ ?_ (fun id o ho => ?_) ?_
        · simp only [go_sem, reduceIte, reduceCtorEq, Nat.reduceEqDiff, Nat.reduceAdd, Nat.reduceSub, Nat.reduceMul, Nat.reduceDiv, Nat.reduceMod, Nat.reduceLT, Nat.reduceLeDiff, Nat.reduceBEq, Nat.reducePow, Int.reduceLE, Int.reduceLT, Int.reduceEq, Int.reduceNeg, Int.reduceAdd, Int.reduceToNat]
        · simp only [go_sem, reduceIte, reduceCtorEq, Nat.reduceEqDiff, Nat.reduceAdd, Nat.reduceSub, Nat.reduceMul, Nat.reduceDiv, Nat.reduceMod, Nat.reduceLT, Nat.reduceLeDiff, Nat.reduceBEq, Nat.reducePow, Int.reduceLE, Int.reduceLT, Int.reduceEq, Int.reduceNeg, Int.reduceAdd, Int.reduceToNat, HP, c6, c7, c8, hAj, hfy, List.map_append]
        · have h1 := kx.out id o ho
          refine (hpX_pass ?_).trans (hX2 id o ho)
          ((repeat' (first | exact trivial | apply And.intro)) <;> (rintro rfl; simp only at h1; omega))
        · simp only [go_sem, reduceIte, reduceCtorEq, Nat.reduceEqDiff, Nat.reduceAdd, Nat.reduceSub, Nat.reduceMul, Nat.reduceDiv, Nat.reduceMod, Nat.reduceLT, Nat.reduceLeDiff, Nat.reduceBEq, Nat.reducePow, Int.reduceLE, Int.reduceLT, Int.reduceEq, Int.reduceNeg, Int.reduceAdd, Int.reduceToNat]
    · obtain rfl : j = f.subs.length := by omega
      have hE := kG.out
      have hRe := kR.out
      obtain ⟨AA, hAA⟩ : ∃ AA, A f.subs.length = AA := ⟨_, rfl⟩
      rw [hAA] at hE hRe
      repeat' (first | refine ReqK.i hE.1 fun _ => ?_ | refine ReqK.i (by omega) fun _ => ?_ | refine ReqK.i (by unfold maxL; omega) fun _ => ?_ | refine ReqK.i (fits_of2 (by first | omega | (simp only [List.length_map, List.length_take, List.length_append, List.length_cons, List.length_nil]; omega)) (by decide)) fun _ => ?_ | simp only [go_sem, reduceIte, reduceCtorEq, Nat.reduceEqDiff, Nat.reduceAdd, Nat.reduceSub, Nat.reduceMul, Nat.reduceDiv, Nat.reduceMod, Nat.reduceLT, Nat.reduceLeDiff, Nat.reduceBEq, Nat.reducePow, Int.reduceLE, Int.reduceLT, Int.reduceEq, Int.reduceNeg, Int.reduceAdd, Int.reduceToNat, HP, Nat.lt_irrefl, hAA, hRe, str_eta, form_eta, Tryd.f101, V38, V37, V36, V35, V34, V33, V32, V31, V30, V29, R28, R27, R22, R21, R20, R19, R18, R17, R16, R15, R14, R13, R12, R11, R10, R9, R8, R7, R6, R5, R4, R3, R2, R1, Q20, Q19, Q18, Q17, Q16, Q15, Q14, Q13, Q12, Q11, Q10, Q9, Q8, Q7, Q6, Q5, Q4, Q3, Q2, Q1, Tbl0])
      rw [kQ.out]
      refine ⟨?_, by omega, fun id o ho => kX.out id o ho fun h1 => ?_⟩
      · simp only [go_sem, reduceIte, reduceCtorEq, Nat.reduceEqDiff, Nat.reduceAdd, Nat.reduceSub, Nat.reduceMul, Nat.reduceDiv, Nat.reduceMod, Nat.reduceLT, Nat.reduceLeDiff, Nat.reduceBEq, Nat.reducePow, Int.reduceLE, Int.reduceLT, Int.reduceEq, Int.reduceNeg, Int.reduceAdd, Int.reduceToNat, form_eta]
      · ((repeat' (first | exact trivial | apply And.intro)) <;> (rintro rfl; simp only at h1; omega))
end Go.Proofs.YtoicheicnbjfeaaDoor

namespace Go.Proofs.YtoicheicnbjfeaaDoor
open Go Go.Abs Go.Proofs

/-! ## event.change with Split$1 -/
theorem splitBy_size {v : Str} {ps : List Str} (f : Abs.Form) : (splitBy v ps f).size ≤ f.size + 2 * f.words.length + 4 := by
  unfold splitBy
  split
  · have := (splitF_size v f.name f.words).1; omega
  · omega

def tree1266S : Tv := (.q 0 (.q 2 (.q 3 (.br [(1, (.br [(4, (.q 5 (.br [(6, (.q 7 (.br [(8, .leaf)])))])))])), (4, (.q 1 (.q 5 (.br [(6, (.q 7 (.br [(8, .leaf)])))]))))]))))
set_option maxRecDepth 100000 in
set_option maxHeartbeats 1000000 in
set_option maxHeartbeats 8000000 in
theorem f101S {ps : List Str} {ga : Nat} : ∀ (s : Nat) (f : Abs.Form) (n : Nat) (X : Heap), f.size ≤ s → (enc f).Wf → f.fit = true → wfE f → f.size ≤ 100000 → ga < n → (∀ id o, X id = some o → id.2 < n ∧ id.1 ≠ 39003) →
    Wcall Tryd.prog GA 101 [.fz (enc f), .fn 106 [.ptr (39003, ga) 0]] (hpX (HP ps ga) X) n (fun d' H' n' => d' = .fz (enc (changeM (splitBy qM ps) f)) ∧ n ≤ n' ∧ HpOk H' (HP ps ga) ∧ ∀ id o, X id = some o → H' id = some o) := by
  intro s
  induction s with
  | zero => intro f n X hs; have := f.size_pos; omega
  | succ s ih =>
    intro f n X hs hw hfit hwf hsz hga hX
    obtain ⟨R, hR⟩ : ∃ R, changeM (splitBy qM ps) f = R := ⟨_, rfl⟩
    obtain ⟨Q, hQ⟩ : ∃ Q : D → Heap → Nat → Prop, Q = (fun d' H' n' => d' = .fz (enc (changeM (splitBy qM ps) f)) ∧ n ≤ n' ∧ HpOk H' (HP ps ga) ∧ ∀ id o, X id = some o → H' id = some o) := ⟨_, rfl⟩
    obtain ⟨QQ, hQQ⟩ : ∃ QQ : D → Heap → Nat → Prop, QQ = (fun d' H' n' => D.val d' = some (.fz (enc (changeM (splitBy qM ps) f))) ∧ n ≤ n' ∧ HpOk H' (HP ps ga) ∧ ∀ id o, X id = some o → H' id = some o) := ⟨_, rfl⟩
    have hfin : ∀ d H m, QQ d H m → ∃ d' H' n', Weak GA 1 ⟨frL [(0, d)], H, m⟩ ⟨frL [(0, d')], H', n'⟩ ∧ Q d' H' n' := by
      rw [hQQ, hQ]
      rintro d H m ⟨h1, h2, h3, h4⟩
      exact ⟨_, H, m, Weak_val h1, rfl, h2, h3, h4⟩
    rw [← hQ]
    refine Wcall_post (Q := QQ) ?_ hfin
    clear hfin hQ
    rw [hR] at hQQ
    have hX' : ∀ {l : List (Abs.Id × Option O)} (id o), X id = some o → (id.2 < n ∧ id.1 ≠ 39003 → apartL id l) → hpX l X id = some o := fun id o h1 h2 => (hpX_pass (h2 (hX id o h1))).trans h1
    obtain ⟨hwl, hsl, hfs⟩ := Form.fit_eq hfit
    have hsw : ∀ g ∈ f.subs, (enc g).Wf := fun g hg => Wf_mem (Wf_agg (by have h := hw; rw [enc_form] at h; exact h) (FD.sl (f.subs.map enc)) (by simp)) _ (List.mem_map_of_mem hg)
    have hss : ∀ g ∈ f.subs, g.size ≤ s ∧ g.fit = true ∧ wfE g ∧ g.size ≤ 100000 := fun g hg => ⟨by have := Form.size_sub hg; omega, Form.fits_mem hfs hg, wfE_sub hwf g hg, by have := Form.size_sub hg; omega⟩
    obtain ⟨A, hA⟩ : ∃ A : Nat → List Abs.Form, A = fun j => (f.subs.take j).map (changeM (splitBy qM ps)) := ⟨_, rfl⟩
    have hA0 : A 0 = [] := by rw [hA]; rfl
    have hAs : ∀ j (h : j < f.subs.length), A (j + 1) = A j ++ [changeM (splitBy qM ps) f.subs[j]] := fun j h => by rw [hA]; simp only [List.take_succ_eq_append_getElem h, List.map_append, List.map_cons, List.map_nil]
    have hAl : ∀ j, (A j).length ≤ f.subs.length := fun j => by rw [hA]; simp only [List.length_map, List.length_take]; omega
    have hRe : (splitBy qM ps) (.mk f.kind f.name f.words (A f.subs.length)) = R := by rw [← hR, changeM_eq, hA]; simp only [List.take_length]
    have hAf : A f.subs.length = changeMs (splitBy qM ps) f.subs := by rw [hA, changeMs_map]; simp only [List.take_length]
    have hgo : wfE (.mk f.kind f.name f.words (A f.subs.length)) ∧ (Abs.Form.mk f.kind f.name f.words (A f.subs.length)).fit = true := by
      rw [hAf]
      have h5 := wfE_eq.1 hwf
      refine ⟨?_, ?_⟩
      · rw [wfE]
        exact ⟨by rw [changeMs_map, List.length_map]; exact h5.1, by rw [changeMs_map, List.length_map]; exact h5.2.1, h5.2.2.1, changeMs_wfE (fun f h => splitBy_wfE h) f.subs h5.2.2.2⟩
      · rw [Form.fit, changeMs_fit (fun f h => splitBy_fit h) f.subs hfs, changeMs_map, List.length_map, decide_eq_true hwl, decide_eq_true hsl]; rfl
    have kX := Kp.mk @hX'
    have kQ := Kp.mk hQQ
    have kI := Kp.mk ih
    have kS := Kp.mk hsw
    have kZ := Kp.mk hss
    have kx := Kp.mk hX
    have kA := Kp.mk hAs
    have kL := Kp.mk hAl
    have kG := Kp.mk hgo
    have kR := Kp.mk hRe
    clear hX' hQQ ih hsw hss hX hfs hw hfit hA hAs hAl hR hgo hRe hAf
    refine Wcall_K (N := 29) hm hV38 101000 (lsw [23] [1000006]) ok101 Tryd.func101 rfl rfl (by simp) (by kernel_rfl) ?_
    repeat' (first | refine ReqK.i (by omega) fun _ => ?_ | refine ReqK.i (by unfold maxL; omega) fun _ => ?_ | refine ReqK.i (fits_of2 (by first | omega | (simp only [List.length_map, List.length_take, List.length_append, List.length_cons, List.length_nil]; omega)) (by decide)) fun _ => ?_ | simp only [go_sem, reduceIte, reduceCtorEq, Nat.reduceEqDiff, Nat.reduceAdd, Nat.reduceSub, Nat.reduceMul, Nat.reduceDiv, Nat.reduceMod, Nat.reduceLT, Nat.reduceLeDiff, Nat.reduceBEq, Nat.reducePow, Int.reduceLE, Int.reduceLT, Int.reduceEq, Int.reduceNeg, Int.reduceAdd, Int.reduceToNat, HP, Tryd.f101, V38, V37, V36, V35, V34, V33, V32, V31, V30, V29, R28, R27, R22, R21, R20, R19, R18, R17, R16, R15, R14, R13, R12, R11, R10, R9, R8, R7, R6, R5, R4, R3, R2, R1, Q20, Q19, Q18, Q17, Q16, Q15, Q14, Q13, Q12, Q11, Q10, Q9, Q8, Q7, Q6, Q5, Q4, Q3, Q2, Q1, Tbl0])
    refine WK_loop hm hV38 101000 (lsw [23] [1000006]) (ι := LoopX f.subs.length (n + 4) n)
      ⟨fun q => ⟨frL [(1, .fn 106 [.ptr (39003, ga) 0]), (4, .ptr (101004, n + 1) 0), (5, .ptr (101005, n + 1 + 1) 0), (11, .fz (.sl (f.subs.map enc))), (12, .fz (.i .i64 f.subs.length)), (13, .fz (.i .i64 q.i))],
        hpX ([((101004, n + 1), some ⟨[.fz (.i .i64 0), .fz (.s []), .full [], .full []], true, false⟩), ((101005, n + 1 + 1), some ⟨[.fz (.i .i64 f.kind), .fz (.s f.name.l), .fz (.sl (f.words.map enc)), .ow (101023, q.g) 4 ((A q.i).map enc)], true, false⟩), ((101023, q.g), some tok)] ++ HP ps ga) X, q.m⟩, fun q => f.subs.length - q.i⟩
      ⟨0, n + 1 + 1 + 1, n + 1 + 1 + 1 + 1, by omega, by omega, by omega, by omega⟩ (by kernel_rfl) ?_ ?_
    · refine Weak_then (Weak_newvX 101023) (Weak_then (Weak_cellX (id := (101005, n + 1 + 1)) (id2 := (101023, n + 1 + 1 + 1)) (es := 4) (k := 3) (xs := []) (b := true) (by simp only [go_sem, reduceIte, reduceCtorEq, Nat.reduceEqDiff, Nat.reduceAdd, Nat.reduceSub, Nat.reduceMul, Nat.reduceDiv, Nat.reduceMod, Nat.reduceLT, Nat.reduceLeDiff, Nat.reduceBEq, Nat.reducePow, Int.reduceLE, Int.reduceLT, Int.reduceEq, Int.reduceNeg, Int.reduceAdd, Int.reduceToNat]; rfl) (by simp) (by rfl) (by simp only; omega)) ?_)
      refine Weak_toX ?_ ?_ (fun id o ho => ?_) ?_
      · simp only [go_sem, reduceIte, reduceCtorEq, Nat.reduceEqDiff, Nat.reduceAdd, Nat.reduceSub, Nat.reduceMul, Nat.reduceDiv, Nat.reduceMod, Nat.reduceLT, Nat.reduceLeDiff, Nat.reduceBEq, Nat.reducePow, Int.reduceLE, Int.reduceLT, Int.reduceEq, Int.reduceNeg, Int.reduceAdd, Int.reduceToNat]
      · simp only [go_sem, reduceIte, reduceCtorEq, Nat.reduceEqDiff, Nat.reduceAdd, Nat.reduceSub, Nat.reduceMul, Nat.reduceDiv, Nat.reduceMod, Nat.reduceLT, Nat.reduceLeDiff, Nat.reduceBEq, Nat.reducePow, Int.reduceLE, Int.reduceLT, Int.reduceEq, Int.reduceNeg, Int.reduceAdd, Int.reduceToNat, HP, hA0]
      · refine kX.out id o ho fun h1 => ?_
        ((repeat' (first | exact trivial | apply And.intro)) <;> (rintro rfl; simp only at h1; omega))
      · simp only [go_sem, reduceIte, reduceCtorEq, Nat.reduceEqDiff, Nat.reduceAdd, Nat.reduceSub, Nat.reduceMul, Nat.reduceDiv, Nat.reduceMod, Nat.reduceLT, Nat.reduceLeDiff, Nat.reduceBEq, Nat.reducePow, Int.reduceLE, Int.reduceLT, Int.reduceEq, Int.reduceNeg, Int.reduceAdd, Int.reduceToNat]
    rintro ⟨j, g2, m2, hj, hg2, hm2, hgl2⟩
    try simp only at hj hg2 hm2 hgl2
    rcases Nat.lt_or_ge j f.subs.length with h2 | h2
    · have hmem := List.getElem_mem h2
      obtain ⟨x, hx⟩ : ∃ x, f.subs[j] = x := ⟨_, rfl⟩
      have hz := kZ.out _ hmem
      have hwx := kS.out _ hmem
      have hAj := kA.out j h2
      have hAlj := kL.out j
      rw [hx] at hz hwx hAj
      obtain ⟨y, hy⟩ : ∃ y, changeM (splitBy qM ps) x = y := ⟨_, rfl⟩
      rw [hy] at hAj
      have ih2 : ∀ (m3 : Nat), m2 ≤ m3 → _ := fun m3 hm3 => kI.out x m3 (hpX [((101004, n + 1), some ⟨[.fz (.i .i64 0), .fz (.s []), .full [], .full []], true, false⟩), ((101005, n + 1 + 1), some ⟨[.fz (.i .i64 f.kind), .fz (.s f.name.l), .fz (.sl (f.words.map enc)), .ow (101023, g2) 4 ((A j).map enc)], true, false⟩), ((101023, g2), some tok)] X) hz.1 hwx hz.2.1 hz.2.2.1 hz.2.2.2 (by omega) (by
        intro id o ho
        simp only [hpX] at ho
        split at ho
        · rename_i e; subst e; simp only; omega
        split at ho
        · rename_i e; subst e; simp only; omega
        split at ho
        · rename_i e; subst e; simp only; omega
        · have := kx.out id o ho; omega)
      simp only [hy] at ih2
      rw [enc_form (f := x)] at ih2
      obtain ⟨fy, hfy⟩ : ∃ fy, enc y = fy := ⟨_, rfl⟩
      have hcy : fy.cells.length = 4 := by rw [← hfy, enc_form]; rfl
      have hff : (flatFz [fy]).all oneB = true := by rw [← hfy]; have h9 := @flats_forms [y]; exact eq_true h9 ▸ h9
      repeat' (first | refine ReqK.i (by omega) fun _ => ?_ | refine ReqK.i (by unfold maxL; omega) fun _ => ?_ | refine ReqK.i (fits_of2 (by first | omega | (simp only [List.length_map, List.length_take, List.length_append, List.length_cons, List.length_nil]; omega)) (by decide)) fun _ => ?_ | simp only [go_sem, reduceIte, reduceCtorEq, Nat.reduceEqDiff, Nat.reduceAdd, Nat.reduceSub, Nat.reduceMul, Nat.reduceDiv, Nat.reduceMod, Nat.reduceLT, Nat.reduceLeDiff, Nat.reduceBEq, Nat.reducePow, Int.reduceLE, Int.reduceLT, Int.reduceEq, Int.reduceNeg, Int.reduceAdd, Int.reduceToNat, HP, h2, hx, getD_map_lt, Tryd.f101, V38, V37, V36, V35, V34, V33, V32, V31, V30, V29, R28, R27, R22, R21, R20, R19, R18, R17, R16, R15, R14, R13, R12, R11, R10, R9, R8, R7, R6, R5, R4, R3, R2, R1, Q20, Q19, Q18, Q17, Q16, Q15, Q14, Q13, Q12, Q11, Q10, Q9, Q8, Q7, Q6, Q5, Q4, Q3, Q2, Q1, Tbl0])
      refine WK_weak2 (Weak_rpL (id := (101007, m2)) (t := 7) (b := true) (ys := [.i .i64 x.kind, .s x.name.l, .sl (x.words.map enc), .sl (x.subs.map enc)]) (by simp only [go_sem, reduceIte, reduceCtorEq, Nat.reduceEqDiff, Nat.reduceAdd, Nat.reduceSub, Nat.reduceMul, Nat.reduceDiv, Nat.reduceMod, Nat.reduceLT, Nat.reduceLeDiff, Nat.reduceBEq, Nat.reducePow, Int.reduceLE, Int.reduceLT, Int.reduceEq, Int.reduceNeg, Int.reduceAdd, Int.reduceToNat]) (by simp only [go_sem, reduceIte, reduceCtorEq, Nat.reduceEqDiff, Nat.reduceAdd, Nat.reduceSub, Nat.reduceMul, Nat.reduceDiv, Nat.reduceMod, Nat.reduceLT, Nat.reduceLeDiff, Nat.reduceBEq, Nat.reducePow, Int.reduceLE, Int.reduceLT, Int.reduceEq, Int.reduceNeg, Int.reduceAdd, Int.reduceToNat])) ?_
      refine WK_drawV hm hV38 101000 (lsw [23] [1000006]) tree1266S (by kernel_rfl) (by kernel_rfl) ?_
      repeat' (first | refine And.intro ?_ ?_ | exact True.intro | refine ReqK.i (by omega) fun _ => ?_ | refine ReqK.i (by unfold maxL; omega) fun _ => ?_ | refine ReqK.i (fits_of2 (by first | omega | (simp only [List.length_map, List.length_take, List.length_append, List.length_cons, List.length_nil]; omega)) (by decide)) fun _ => ?_ | simp only [go_sem, reduceIte, reduceCtorEq, Nat.reduceEqDiff, Nat.reduceAdd, Nat.reduceSub, Nat.reduceMul, Nat.reduceDiv, Nat.reduceMod, Nat.reduceLT, Nat.reduceLeDiff, Nat.reduceBEq, Nat.reducePow, Int.reduceLE, Int.reduceLT, Int.reduceEq, Int.reduceNeg, Int.reduceAdd, Int.reduceToNat, HP, tree1266S, h2, hx, getD_map_lt, Tryd.f101, V38, V37, V36, V35, V34, V33, V32, V31, V30, V29, R28, R27, R22, R21, R20, R19, R18, R17, R16, R15, R14, R13, R12, R11, R10, R9, R8, R7, R6, R5, R4, R3, R2, R1, Q20, Q19, Q18, Q17, Q16, Q15, Q14, Q13, Q12, Q11, Q10, Q9, Q8, Q7, Q6, Q5, Q4, Q3, Q2, Q1, Tbl0])
      all_goals
        refine WcallK.i (Wcall_toX (by simp only [go_sem, reduceIte, reduceCtorEq, Nat.reduceEqDiff, Nat.reduceAdd, Nat.reduceSub, Nat.reduceMul, Nat.reduceDiv, Nat.reduceMod, Nat.reduceLT, Nat.reduceLeDiff, Nat.reduceBEq, Nat.reducePow, Int.reduceLE, Int.reduceLT, Int.reduceEq, Int.reduceNeg, Int.reduceAdd, Int.reduceToNat, argL]) (by simp only [go_sem, reduceIte, reduceCtorEq, Nat.reduceEqDiff, Nat.reduceAdd, Nat.reduceSub, Nat.reduceMul, Nat.reduceDiv, Nat.reduceMod, Nat.reduceLT, Nat.reduceLeDiff, Nat.reduceBEq, Nat.reducePow, Int.reduceLE, Int.reduceLT, Int.reduceEq, Int.reduceNeg, Int.reduceAdd, Int.reduceToNat, HP]) (fun id o ho => ?_) (Nat.le_refl _) (Wcall_mono (ih2 _ (by omega)) ?_))
        · simp only [hpX] at ho
          split at ho
          · rename_i e; subst e; simp only [go_sem, reduceIte, reduceCtorEq, Nat.reduceEqDiff, Nat.reduceAdd, Nat.reduceSub, Nat.reduceMul, Nat.reduceDiv, Nat.reduceMod, Nat.reduceLT, Nat.reduceLeDiff, Nat.reduceBEq, Nat.reducePow, Int.reduceLE, Int.reduceLT, Int.reduceEq, Int.reduceNeg, Int.reduceAdd, Int.reduceToNat]; exact Option.some.inj ho
          split at ho
          · rename_i e; subst e; simp only [go_sem, reduceIte, reduceCtorEq, Nat.reduceEqDiff, Nat.reduceAdd, Nat.reduceSub, Nat.reduceMul, Nat.reduceDiv, Nat.reduceMod, Nat.reduceLT, Nat.reduceLeDiff, Nat.reduceBEq, Nat.reducePow, Int.reduceLE, Int.reduceLT, Int.reduceEq, Int.reduceNeg, Int.reduceAdd, Int.reduceToNat]; exact Option.some.inj ho
          split at ho
          · rename_i e; subst e; simp only [go_sem, reduceIte, reduceCtorEq, Nat.reduceEqDiff, Nat.reduceAdd, Nat.reduceSub, Nat.reduceMul, Nat.reduceDiv, Nat.reduceMod, Nat.reduceLT, Nat.reduceLeDiff, Nat.reduceBEq, Nat.reducePow, Int.reduceLE, Int.reduceLT, Int.reduceEq, Int.reduceNeg, Int.reduceAdd, Int.reduceToNat]; exact Option.some.inj ho
          · refine kX.out id o ho fun h1 => ?_
            ((repeat' (first | exact trivial | apply And.intro)) <;> (rintro rfl; simp only at h1; omega))
        rintro d' H' n' ⟨rfl, e1, e2, e3⟩
        have c6 := e3 (101004, n + 1) ⟨[.fz (.i .i64 0), .fz (.s []), .full [], .full []], true, false⟩ (by simp only [go_sem, reduceIte, reduceCtorEq, Nat.reduceEqDiff, Nat.reduceAdd, Nat.reduceSub, Nat.reduceMul, Nat.reduceDiv, Nat.reduceMod, Nat.reduceLT, Nat.reduceLeDiff, Nat.reduceBEq, Nat.reducePow, Int.reduceLE, Int.reduceLT, Int.reduceEq, Int.reduceNeg, Int.reduceAdd, Int.reduceToNat])
        have c7 := e3 (101005, n + 1 + 1) ⟨[.fz (.i .i64 f.kind), .fz (.s f.name.l), .fz (.sl (f.words.map enc)), .ow (101023, g2) 4 ((A j).map enc)], true, false⟩ (by simp only [go_sem, reduceIte, reduceCtorEq, Nat.reduceEqDiff, Nat.reduceAdd, Nat.reduceSub, Nat.reduceMul, Nat.reduceDiv, Nat.reduceMod, Nat.reduceLT, Nat.reduceLeDiff, Nat.reduceBEq, Nat.reducePow, Int.reduceLE, Int.reduceLT, Int.reduceEq, Int.reduceNeg, Int.reduceAdd, Int.reduceToNat])
        have c8 := e3 (101023, g2) tok (by simp only [go_sem, reduceIte, reduceCtorEq, Nat.reduceEqDiff, Nat.reduceAdd, Nat.reduceSub, Nat.reduceMul, Nat.reduceDiv, Nat.reduceMod, Nat.reduceLT, Nat.reduceLeDiff, Nat.reduceBEq, Nat.reducePow, Int.reduceLE, Int.reduceLT, Int.reduceEq, Int.reduceNeg, Int.reduceAdd, Int.reduceToNat])
        have hX2 : ∀ id o, X id = some o → H' id = some o := fun id o ho => e3 id o (kX.out id o ho fun h1 => by
          ((repeat' (first | exact trivial | apply And.intro)) <;> (rintro rfl; simp only at h1; omega)))
        clear e3
        simp only [go_sem, reduceIte, reduceCtorEq, Nat.reduceEqDiff, Nat.reduceAdd, Nat.reduceSub, Nat.reduceMul, Nat.reduceDiv, Nat.reduceMod, Nat.reduceLT, Nat.reduceLeDiff, Nat.reduceBEq, Nat.reducePow, Int.reduceLE, Int.reduceLT, Int.reduceEq, Int.reduceNeg, Int.reduceAdd, Int.reduceToNat, HP] at e2
        have c1 := e2
        rw [show H' = hpX [] H' from rfl]
        rw [hfy]
        repeat' (first | refine ReqK.i (by omega) fun _ => ?_ | refine ReqK.i (by unfold maxL; omega) fun _ => ?_ | refine ReqK.i (fits_of2 (by first | omega | (simp only [List.length_map, List.length_take, List.length_append, List.length_cons, List.length_nil]; omega)) (by decide)) fun _ => ?_ | simp only [go_sem, reduceIte, reduceCtorEq, Nat.reduceEqDiff, Nat.reduceAdd, Nat.reduceSub, Nat.reduceMul, Nat.reduceDiv, Nat.reduceMod, Nat.reduceLT, Nat.reduceLeDiff, Nat.reduceBEq, Nat.reducePow, Int.reduceLE, Int.reduceLT, Int.reduceEq, Int.reduceNeg, Int.reduceAdd, Int.reduceToNat, HP, tree1266S, c1, c6, c7, c8, h2, hcy, hff, Tryd.f101, V38, V37, V36, V35, V34, V33, V32, V31, V30, V29, R28, R27, R22, R21, R20, R19, R18, R17, R16, R15, R14, R13, R12, R11, R10, R9, R8, R7, R6, R5, R4, R3, R2, R1, Q20, Q19, Q18, Q17, Q16, Q15, Q14, Q13, Q12, Q11, Q10, Q9, Q8, Q7, Q6, Q5, Q4, Q3, Q2, Q1, Tbl0])
        refine ⟨⟨j + 1, n', n' + 1, by omega, by omega, by omega, by omega⟩, by simp only; omega, ?_⟩
        refine Weak_toX ?_ ?_ (fun id o ho => ?_) ?_
        · simp only [go_sem, reduceIte, reduceCtorEq, Nat.reduceEqDiff, Nat.reduceAdd, Nat.reduceSub, Nat.reduceMul, Nat.reduceDiv, Nat.reduceMod, Nat.reduceLT, Nat.reduceLeDiff, Nat.reduceBEq, Nat.reducePow, Int.reduceLE, Int.reduceLT, Int.reduceEq, Int.reduceNeg, Int.reduceAdd, Int.reduceToNat]
        · simp only [go_sem, reduceIte, reduceCtorEq, Nat.reduceEqDiff, Nat.reduceAdd, Nat.reduceSub, Nat.reduceMul, Nat.reduceDiv, Nat.reduceMod, Nat.reduceLT, Nat.reduceLeDiff, Nat.reduceBEq, Nat.reducePow, Int.reduceLE, Int.reduceLT, Int.reduceEq, Int.reduceNeg, Int.reduceAdd, Int.reduceToNat, HP, c1, c6, c7, c8, hAj, hfy, List.map_append]
        · have h1 := kx.out id o ho
          refine (hpX_pass ?_).trans (hX2 id o ho)
          ((repeat' (first | exact trivial | apply And.intro)) <;> (rintro rfl; simp only at h1; omega))
        · simp only [go_sem, reduceIte, reduceCtorEq, Nat.reduceEqDiff, Nat.reduceAdd, Nat.reduceSub, Nat.reduceMul, Nat.reduceDiv, Nat.reduceMod, Nat.reduceLT, Nat.reduceLeDiff, Nat.reduceBEq, Nat.reducePow, Int.reduceLE, Int.reduceLT, Int.reduceEq, Int.reduceNeg, Int.reduceAdd, Int.reduceToNat]
    · obtain rfl : j = f.subs.length := by omega
      have hE := kG.out
      have hRe := kR.out
      obtain ⟨AA, hAA⟩ : ∃ AA, A f.subs.length = AA := ⟨_, rfl⟩
      rw [hAA] at hE hRe
      repeat' (first | refine ReqK.i (by omega) fun _ => ?_ | refine ReqK.i (by unfold maxL; omega) fun _ => ?_ | refine ReqK.i (fits_of2 (by first | omega | (simp only [List.length_map, List.length_take, List.length_append, List.length_cons, List.length_nil]; omega)) (by decide)) fun _ => ?_ | simp only [go_sem, reduceIte, reduceCtorEq, Nat.reduceEqDiff, Nat.reduceAdd, Nat.reduceSub, Nat.reduceMul, Nat.reduceDiv, Nat.reduceMod, Nat.reduceLT, Nat.reduceLeDiff, Nat.reduceBEq, Nat.reducePow, Int.reduceLE, Int.reduceLT, Int.reduceEq, Int.reduceNeg, Int.reduceAdd, Int.reduceToNat, HP, Nat.lt_irrefl, hAA, str_eta, form_eta, Tryd.f101, V38, V37, V36, V35, V34, V33, V32, V31, V30, V29, R28, R27, R22, R21, R20, R19, R18, R17, R16, R15, R14, R13, R12, R11, R10, R9, R8, R7, R6, R5, R4, R3, R2, R1, Q20, Q19, Q18, Q17, Q16, Q15, Q14, Q13, Q12, Q11, Q10, Q9, Q8, Q7, Q6, Q5, Q4, Q3, Q2, Q1, Tbl0])
      have h127 := f106 (ps := ps) (ga := ga) (.mk f.kind f.name f.words AA) m2 (hpX [((101004, n + 1), some ⟨[.fz (.i .i64 0), .fz (.s []), .full [], .full []], true, false⟩)] X) hE.2 (by omega) (by
        intro id o ho
        simp only [hpX] at ho
        split at ho
        · rename_i e; subst e; simp only; omega
        · have := kx.out id o ho; omega)
      rw [hRe, enc_form (f := .mk f.kind f.name f.words AA)] at h127
      refine WcallK.i (Wcall_hd rfl (Wcall_toX (by simp only [go_sem, reduceIte, reduceCtorEq, Nat.reduceEqDiff, Nat.reduceAdd, Nat.reduceSub, Nat.reduceMul, Nat.reduceDiv, Nat.reduceMod, Nat.reduceLT, Nat.reduceLeDiff, Nat.reduceBEq, Nat.reducePow, Int.reduceLE, Int.reduceLT, Int.reduceEq, Int.reduceNeg, Int.reduceAdd, Int.reduceToNat, argL]) (by simp only [go_sem, reduceIte, reduceCtorEq, Nat.reduceEqDiff, Nat.reduceAdd, Nat.reduceSub, Nat.reduceMul, Nat.reduceDiv, Nat.reduceMod, Nat.reduceLT, Nat.reduceLeDiff, Nat.reduceBEq, Nat.reducePow, Int.reduceLE, Int.reduceLT, Int.reduceEq, Int.reduceNeg, Int.reduceAdd, Int.reduceToNat, HP]) (fun id o ho => ?_) (Nat.le_refl _) (Wcall_mono h127 ?_)))
      · simp only [hpX] at ho
        split at ho
        · rename_i e; subst e; simp only [go_sem, reduceIte, reduceCtorEq, Nat.reduceEqDiff, Nat.reduceAdd, Nat.reduceSub, Nat.reduceMul, Nat.reduceDiv, Nat.reduceMod, Nat.reduceLT, Nat.reduceLeDiff, Nat.reduceBEq, Nat.reducePow, Int.reduceLE, Int.reduceLT, Int.reduceEq, Int.reduceNeg, Int.reduceAdd, Int.reduceToNat]; exact Option.some.inj ho
        · refine kX.out id o ho fun h1 => ?_
          ((repeat' (first | exact trivial | apply And.intro)) <;> (rintro rfl; simp only at h1; omega))
      rintro d' H' n' ⟨rfl, e1, e2, e3⟩
      have c6 := e3 (101004, n + 1) ⟨[.fz (.i .i64 0), .fz (.s []), .full [], .full []], true, false⟩ (by simp only [go_sem, reduceIte, reduceCtorEq, Nat.reduceEqDiff, Nat.reduceAdd, Nat.reduceSub, Nat.reduceMul, Nat.reduceDiv, Nat.reduceMod, Nat.reduceLT, Nat.reduceLeDiff, Nat.reduceBEq, Nat.reducePow, Int.reduceLE, Int.reduceLT, Int.reduceEq, Int.reduceNeg, Int.reduceAdd, Int.reduceToNat])
      have hX2 : ∀ id o, X id = some o → H' id = some o := fun id o ho => e3 id o (kX.out id o ho fun h1 => by
        ((repeat' (first | exact trivial | apply And.intro)) <;> (rintro rfl; simp only at h1; omega)))
      clear e3
      simp only [go_sem, reduceIte, reduceCtorEq, Nat.reduceEqDiff, Nat.reduceAdd, Nat.reduceSub, Nat.reduceMul, Nat.reduceDiv, Nat.reduceMod, Nat.reduceLT, Nat.reduceLeDiff, Nat.reduceBEq, Nat.reducePow, Int.reduceLE, Int.reduceLT, Int.reduceEq, Int.reduceNeg, Int.reduceAdd, Int.reduceToNat, HP] at e2
      have c1 := e2
      rw [show H' = hpX [] H' from rfl]
      repeat' (first | refine ReqK.i (by omega) fun _ => ?_ | refine ReqK.i (by unfold maxL; omega) fun _ => ?_ | refine ReqK.i (fits_of2 (by first | omega | (simp only [List.length_map, List.length_take, List.length_append, List.length_cons, List.length_nil]; omega)) (by decide)) fun _ => ?_ | simp only [go_sem, reduceIte, reduceCtorEq, Nat.reduceEqDiff, Nat.reduceAdd, Nat.reduceSub, Nat.reduceMul, Nat.reduceDiv, Nat.reduceMod, Nat.reduceLT, Nat.reduceLeDiff, Nat.reduceBEq, Nat.reducePow, Int.reduceLE, Int.reduceLT, Int.reduceEq, Int.reduceNeg, Int.reduceAdd, Int.reduceToNat, c1, c6, form_eta, Tryd.f101, V38, V37, V36, V35, V34, V33, V32, V31, V30, V29, R28, R27, R22, R21, R20, R19, R18, R17, R16, R15, R14, R13, R12, R11, R10, R9, R8, R7, R6, R5, R4, R3, R2, R1, Q20, Q19, Q18, Q17, Q16, Q15, Q14, Q13, Q12, Q11, Q10, Q9, Q8, Q7, Q6, Q5, Q4, Q3, Q2, Q1, Tbl0])
      rw [kQ.out]
      refine ⟨?_, by omega, ?_, fun id o ho => ?_⟩
      · simp only [go_sem, reduceIte, reduceCtorEq, Nat.reduceEqDiff, Nat.reduceAdd, Nat.reduceSub, Nat.reduceMul, Nat.reduceDiv, Nat.reduceMod, Nat.reduceLT, Nat.reduceLeDiff, Nat.reduceBEq, Nat.reducePow, Int.reduceLE, Int.reduceLT, Int.reduceEq, Int.reduceNeg, Int.reduceAdd, Int.reduceToNat, form_eta]
      · simp only [go_sem, reduceIte, reduceCtorEq, Nat.reduceEqDiff, Nat.reduceAdd, Nat.reduceSub, Nat.reduceMul, Nat.reduceDiv, Nat.reduceMod, Nat.reduceLT, Nat.reduceLeDiff, Nat.reduceBEq, Nat.reducePow, Int.reduceLE, Int.reduceLT, Int.reduceEq, Int.reduceNeg, Int.reduceAdd, Int.reduceToNat, HP, c1]
      · have h1 := kx.out id o ho
        refine (hpX_pass ?_).trans (hX2 id o ho)
        ((repeat' (first | exact trivial | apply And.intro)) <;> (rintro rfl; simp only at h1; omega))
end Go.Proofs.YtoicheicnbjfeaaDoor

namespace Go.Proofs.YtoicheicnbjfeaaDoor
open Go Go.Abs Go.Proofs

/-! ## event.Merge and event.Split -/
theorem merges_ok {f : Abs.Form} (h : (checkM false f).code = 0) : szPre (changeM mergeBy f) := by
  refine ⟨changeM_fit (fun f h => mergeBy_fit h) f (checkM_fit h), ?_⟩
  have h1 := changeM_size (c := 0) (fun f => mergeBy_size f) f
  have h2 := checkM_size h
  omega
mutual
/-- no predicate has more than three arguments, nor anything more than a thousand words -/
def w3 : Abs.Form → Prop
  | .mk k _ ws s => (k = 2 → ws.length ≤ 3) ∧ w3s s
def w3s : List Abs.Form → Prop
  | [] => True
  | f :: fs => w3 f ∧ w3s fs
end
mutual
theorem chk_w3 {op : Bool} : ∀ (f : Abs.Form) (d : Int) (n : Nat), (chk op f d n).1.code = 0 → w3 f
  | .mk k nm w s, d, n, h => by
    rw [chk] at h
    split at h
    · rename_i h1; exact absurd h h1
    · rename_i h1
      have h2 := (nodeC_words (Decidable.not_not.1 h1)).2.2.2.1
      rw [w3]
      refine ⟨fun e => ?_, chks_w3 s _ _ h⟩
      subst e
      rw [show wordsOk (.mk 2 nm w s) = decide (w.length ≤ 3) from rfl] at h2
      exact of_decide_eq_true h2
theorem chks_w3 {op : Bool} : ∀ (fs : List Abs.Form) (d : Int) (n : Nat), (chks op fs d n).1.code = 0 → w3s fs
  | [], d, n, _ => by rw [w3s]; trivial
  | f :: fs, d, n, h => by
    rw [chks] at h
    split at h
    · rename_i h1; exact absurd h h1
    · rename_i h1
      rw [w3s]
      exact ⟨chk_w3 f d n (Decidable.not_not.1 h1), chks_w3 fs d _ h⟩
end
theorem checkM_w3 {op : Bool} {f : Abs.Form} (h : (checkM op f).code = 0) : w3 f := chk_w3 f 1 0 h
theorem w3_sub {f : Abs.Form} (h : w3 f) : (f.kind = 2 → f.words.length ≤ 3) ∧ ∀ g ∈ f.subs, w3 g := by
  have hm : ∀ l : List Abs.Form, w3s l → ∀ g ∈ l, w3 g := by
    intro l
    induction l with
    | nil => intro _ g hg; simp at hg
    | cons a l ih =>
      intro hl g hg
      rw [w3s] at hl
      rcases List.mem_cons.1 hg with rfl | hg
      · exact hl.1
      · exact ih hl.2 g hg
  cases f with
  | mk k nm ws s => rw [w3] at h; exact ⟨h.1, hm s h.2⟩
mutual
theorem split_sz {v : Str} {ps : List Str} : ∀ f : Abs.Form, w3 f → (changeM (splitBy v ps) f).size ≤ f.size * 10
  | .mk k nm ws s, h => by
    rw [w3] at h
    have h2 := split_szs (v := v) (ps := ps) s h.2
    rw [changeM, splitBy_mk, Form.size]
    split
    · rename_i hc
      have := (splitF_size v nm ws).1
      have := h.1 hc.1
      omega
    · rw [Form.size]; omega
theorem split_szs {v : Str} {ps : List Str} : ∀ fs : List Abs.Form, w3s fs → Form.sizes (changeMs (splitBy v ps) fs) ≤ Form.sizes fs * 10
  | [], _ => by rw [changeMs, Form.sizes]; omega
  | f :: fs, h => by
    rw [w3s] at h
    rw [changeMs, Form.sizes, Form.sizes]
    have h1 := split_sz (v := v) (ps := ps) f h.1
    have h2 := split_szs (v := v) (ps := ps) fs h.2
    omega
end
theorem splits_ok {v : Str} {ps : List Str} {f : Abs.Form} (h : (checkM false f).code = 0) : szPre (changeM (splitBy v ps) f) := by
  refine ⟨changeM_fit (fun f h => splitBy_fit h) f (checkM_fit h), ?_⟩
  have h1 := split_sz (v := v) (ps := ps) f (checkM_w3 h)
  have h2 := checkM_size h
  omega
def mergeP (f : Abs.Form) : Abs.Form × Fault := if (checkM false f).code ≠ 0 then (zeroF, checkM false f) else (doneF (changeM mergeBy f), doneE (changeM mergeBy f))
def V39 : Tbl := V38.add 37 (sp1p mergeP fun _ => True)
set_option maxRecDepth 100000 in
set_option maxHeartbeats 1000000 in
theorem hV39 : TblOk Tryd.prog GA V39 := by
  refine sp1p_ok ok37 hV38 fun f _ hw => ?_
  by_cases hc1 : ¬ (checkM false f).code = 0
  · have e1 : mergeP f = (zeroF, checkM false f) := by unfold mergeP; rw [if_pos hc1]
    simp only [e1, zeroF]
    refine Wcall_K (N := 17) hm hV38 37000 (lst [1000003]) ok37 Tryd.func37 rfl rfl (by simp) (by kernel_rfl) ?_
    repeat' (first | refine WK_drawV hm hV38 37000 (lst [1000003]) tree503 (by kernel_rfl) (by kernel_rfl) ?_ | refine And.intro ?_ ?_ | exact True.intro | refine ReqK.i (by omega) fun _ => ?_ | refine ReqK.i (by unfold maxL; omega) fun _ => ?_ | simp only [go_sem, reduceIte, reduceCtorEq, Nat.reduceEqDiff, Nat.reduceAdd, Nat.reduceSub, Nat.reduceMul, Nat.reduceDiv, Nat.reduceMod, Nat.reduceLT, Nat.reduceLeDiff, Nat.reduceBEq, Nat.reducePow, Int.reduceLE, Int.reduceLT, Int.reduceEq, Int.reduceNeg, Int.reduceAdd, Int.reduceToNat, hc1, form_eta, tree503, Tryd.f37, V38, V37, V36, V35, V34, V33, V32, V31, V30, V29, R28, R27, R22, R21, R20, R19, R18, R17, R16, R15, R14, R13, R12, R11, R10, R9, R8, R7, R6, R5, R4, R3, R2, R1, Q20, Q19, Q18, Q17, Q16, Q15, Q14, Q13, Q12, Q11, Q10, Q9, Q8, Q7, Q6, Q5, Q4, Q3, Q2, Q1, Tbl0])
  · have hc1 := Decidable.not_not.1 hc1
    have hck := checkM_code hc1
    have e1 : mergeP f = (doneF (changeM mergeBy f), doneE (changeM mergeBy f)) := by unfold mergeP; rw [if_neg (by simp [hc1])]
    have hs := merges_ok hc1
    have h126 := f101M f.size f 4 (hpL [((37002, 1), some ⟨[.fz (.i .i64 0), .fz (.s []), .full [], .full []], true, false⟩), ((37003, 2), some ⟨[.fz (.i .i64 0), .fz (.i .i64 0)], true, false⟩)]) (Nat.le_refl _) hw (checkM_fit hc1) (checkM_wfE hc1) (by have := checkM_size hc1; omega) (fun id o ho => by
      simp only [hpL] at ho
      split at ho
      · rename_i e; subst e; simp only; omega
      split at ho
      · rename_i e; subst e; simp only; omega
      · cases ho)
    rw [enc_form (f := f)] at h126
    obtain ⟨g, hg⟩ : ∃ g, changeM mergeBy f = g := ⟨_, rfl⟩
    rw [hg] at e1 hs h126
    obtain ⟨c, hc⟩ : ∃ c, doneF g = c := ⟨_, rfl⟩
    simp only [e1, hc]
    refine Wcall_K (N := 17) hm hV38 37000 (lst [1000003]) ok37 Tryd.func37 rfl rfl (by simp) (by kernel_rfl) ?_
    repeat' (first | refine ReqK.i (by omega) fun _ => ?_ | refine ReqK.i (by unfold maxL; omega) fun _ => ?_ | simp only [go_sem, reduceIte, reduceCtorEq, Nat.reduceEqDiff, Nat.reduceAdd, Nat.reduceSub, Nat.reduceMul, Nat.reduceDiv, Nat.reduceMod, Nat.reduceLT, Nat.reduceLeDiff, Nat.reduceBEq, Nat.reducePow, Int.reduceLE, Int.reduceLT, Int.reduceEq, Int.reduceNeg, Int.reduceAdd, Int.reduceToNat, hc1, hck, form_eta, Tryd.f37, V38, V37, V36, V35, V34, V33, V32, V31, V30, V29, R28, R27, R22, R21, R20, R19, R18, R17, R16, R15, R14, R13, R12, R11, R10, R9, R8, R7, R6, R5, R4, R3, R2, R1, Q20, Q19, Q18, Q17, Q16, Q15, Q14, Q13, Q12, Q11, Q10, Q9, Q8, Q7, Q6, Q5, Q4, Q3, Q2, Q1, Tbl0])
    refine WcallK.i (Wcall_hd rfl (Wcall_toX (hl := []) (by simp only [go_sem, reduceIte, reduceCtorEq, Nat.reduceEqDiff, Nat.reduceAdd, Nat.reduceSub, Nat.reduceMul, Nat.reduceDiv, Nat.reduceMod, Nat.reduceLT, Nat.reduceLeDiff, Nat.reduceBEq, Nat.reducePow, Int.reduceLE, Int.reduceLT, Int.reduceEq, Int.reduceNeg, Int.reduceAdd, Int.reduceToNat, argL]) trivial (fun id o ho => ?_) (Nat.le_refl _) (Wcall_mono h126 ?_)))
    · simp only [hpL] at ho
      split at ho
      · rename_i e; subst e; simp only [go_sem, reduceIte, reduceCtorEq, Nat.reduceEqDiff, Nat.reduceAdd, Nat.reduceSub, Nat.reduceMul, Nat.reduceDiv, Nat.reduceMod, Nat.reduceLT, Nat.reduceLeDiff, Nat.reduceBEq, Nat.reducePow, Int.reduceLE, Int.reduceLT, Int.reduceEq, Int.reduceNeg, Int.reduceAdd, Int.reduceToNat]; exact Option.some.inj ho
      split at ho
      · rename_i e; subst e; simp only [go_sem, reduceIte, reduceCtorEq, Nat.reduceEqDiff, Nat.reduceAdd, Nat.reduceSub, Nat.reduceMul, Nat.reduceDiv, Nat.reduceMod, Nat.reduceLT, Nat.reduceLeDiff, Nat.reduceBEq, Nat.reducePow, Int.reduceLE, Int.reduceLT, Int.reduceEq, Int.reduceNeg, Int.reduceAdd, Int.reduceToNat]; exact Option.some.inj ho
      · cases ho
    rintro d' H' n1 ⟨rfl, e1, e3⟩
    have b2 := e3 (37002, 1) ⟨[.fz (.i .i64 0), .fz (.s []), .full [], .full []], true, false⟩ (by simp only [go_sem, reduceIte, reduceCtorEq, Nat.reduceEqDiff, Nat.reduceAdd, Nat.reduceSub, Nat.reduceMul, Nat.reduceDiv, Nat.reduceMod, Nat.reduceLT, Nat.reduceLeDiff, Nat.reduceBEq, Nat.reducePow, Int.reduceLE, Int.reduceLT, Int.reduceEq, Int.reduceNeg, Int.reduceAdd, Int.reduceToNat])
    have b3 := e3 (37003, 2) ⟨[.fz (.i .i64 0), .fz (.i .i64 0)], true, false⟩ (by simp only [go_sem, reduceIte, reduceCtorEq, Nat.reduceEqDiff, Nat.reduceAdd, Nat.reduceSub, Nat.reduceMul, Nat.reduceDiv, Nat.reduceMod, Nat.reduceLT, Nat.reduceLeDiff, Nat.reduceBEq, Nat.reducePow, Int.reduceLE, Int.reduceLT, Int.reduceEq, Int.reduceNeg, Int.reduceAdd, Int.reduceToNat])
    clear e3
    rw [show H' = hpX [] H' from rfl, enc_form (f := g)]
    repeat' (first | refine ReqK.i hs fun _ => ?_ | refine ReqK.i (by omega) fun _ => ?_ | refine ReqK.i (by unfold maxL; omega) fun _ => ?_ | simp only [go_sem, reduceIte, reduceCtorEq, Nat.reduceEqDiff, Nat.reduceAdd, Nat.reduceSub, Nat.reduceMul, Nat.reduceDiv, Nat.reduceMod, Nat.reduceLT, Nat.reduceLeDiff, Nat.reduceBEq, Nat.reducePow, Int.reduceLE, Int.reduceLT, Int.reduceEq, Int.reduceNeg, Int.reduceAdd, Int.reduceToNat, b2, b3, hc, form_eta, Tryd.f37, V38, V37, V36, V35, V34, V33, V32, V31, V30, V29, R28, R27, R22, R21, R20, R19, R18, R17, R16, R15, R14, R13, R12, R11, R10, R9, R8, R7, R6, R5, R4, R3, R2, R1, Q20, Q19, Q18, Q17, Q16, Q15, Q14, Q13, Q12, Q11, Q10, Q9, Q8, Q7, Q6, Q5, Q4, Q3, Q2, Q1, Tbl0])

def splitP (f : Abs.Form) (ps : List Str) : Abs.Form × Fault := if (checkM false f).code ≠ 0 then (zeroF, checkM false f) else if 300 < ps.length then (zeroF, ⟨2, -2⟩) else if ps.all isName = false then (zeroF, ⟨10, -2⟩) else (doneF (changeM (splitBy qM ps) f), doneE (changeM (splitBy qM ps) f))
theorem all_take {ps : List Str} {i : Nat} (h : i < ps.length) : (ps.take (i + 1)).all isName = ((ps.take i).all isName && isName ps[i]) := by
  rw [List.take_succ_eq_append_getElem h, List.all_append]; simp
theorem all_bad_at {ps : List Str} {i : Nat} (h : i < ps.length) (hb : isName ps[i] = false) : ps.all isName = false := by
  cases ha : ps.all isName with
  | false => rfl
  | true => rw [List.all_eq_true.1 ha _ (List.getElem_mem h)] at hb; cases hb
def V40 : Tbl := V39.add 39 (sp2p splitP fun _ _ => True)
set_option maxRecDepth 100000 in
set_option maxHeartbeats 1000000 in
set_option maxHeartbeats 8000000 in
theorem hV40 : TblOk Tryd.prog GA V40 := by
  refine sp2p_ok ok39 hV39 fun f ps _ hw hwp => ?_
  have la := Wf_sl hwp
  simp only [List.length_map, maxL] at la
  by_cases hc1 : ¬ (checkM false f).code = 0
  · have e1 : splitP f ps = (zeroF, checkM false f) := by unfold splitP; rw [if_pos hc1]
    simp only [e1, zeroF]
    refine Wcall_K (N := 39) hm hV39 39000 (lst [1000003]) ok39 Tryd.func39 rfl rfl (by simp) (by kernel_rfl) ?_
    repeat' (first | refine WK_drawV hm hV39 39000 (lst [1000003]) tree503 (by kernel_rfl) (by kernel_rfl) ?_ | refine And.intro ?_ ?_ | exact True.intro | refine ReqK.i (by omega) fun _ => ?_ | refine ReqK.i (by unfold maxL; omega) fun _ => ?_ | simp only [go_sem, reduceIte, reduceCtorEq, Nat.reduceEqDiff, Nat.reduceAdd, Nat.reduceSub, Nat.reduceMul, Nat.reduceDiv, Nat.reduceMod, Nat.reduceLT, Nat.reduceLeDiff, Nat.reduceBEq, Nat.reducePow, Int.reduceLE, Int.reduceLT, Int.reduceEq, Int.reduceNeg, Int.reduceAdd, Int.reduceToNat, hc1, form_eta, tree503, Tryd.f39, V39, V38, V37, V36, V35, V34, V33, V32, V31, V30, V29, R28, R27, R22, R21, R20, R19, R18, R17, R16, R15, R14, R13, R12, R11, R10, R9, R8, R7, R6, R5, R4, R3, R2, R1, Q20, Q19, Q18, Q17, Q16, Q15, Q14, Q13, Q12, Q11, Q10, Q9, Q8, Q7, Q6, Q5, Q4, Q3, Q2, Q1, Tbl0])
  have hc1 := Decidable.not_not.1 hc1
  have hck := checkM_code hc1
  by_cases hc2 : 300 < ps.length
  · have e1 : splitP f ps = (zeroF, ⟨2, -2⟩) := by unfold splitP; rw [if_neg (by simp [hc1]), if_pos hc2]
    have hc2' : (300 < (ps.length : Int)) = True := eq_true (by omega)
    simp only [e1, zeroF]
    refine Wcall_K (N := 39) hm hV39 39000 (lst [1000003]) ok39 Tryd.func39 rfl rfl (by simp) (by kernel_rfl) ?_
    repeat' (first | refine ReqK.i (by omega) fun _ => ?_ | refine ReqK.i (by unfold maxL; omega) fun _ => ?_ | simp only [go_sem, reduceIte, reduceCtorEq, Nat.reduceEqDiff, Nat.reduceAdd, Nat.reduceSub, Nat.reduceMul, Nat.reduceDiv, Nat.reduceMod, Nat.reduceLT, Nat.reduceLeDiff, Nat.reduceBEq, Nat.reducePow, Int.reduceLE, Int.reduceLT, Int.reduceEq, Int.reduceNeg, Int.reduceAdd, Int.reduceToNat, hc1, hck, hc2', form_eta, Tryd.f39, V39, V38, V37, V36, V35, V34, V33, V32, V31, V30, V29, R28, R27, R22, R21, R20, R19, R18, R17, R16, R15, R14, R13, R12, R11, R10, R9, R8, R7, R6, R5, R4, R3, R2, R1, Q20, Q19, Q18, Q17, Q16, Q15, Q14, Q13, Q12, Q11, Q10, Q9, Q8, Q7, Q6, Q5, Q4, Q3, Q2, Q1, Tbl0])
  have hc2' : (300 < (ps.length : Int)) = False := eq_false (by omega)
  have e0 : splitP f ps = if ps.all isName = false then (zeroF, ⟨10, -2⟩) else (doneF (changeM (splitBy qM ps) f), doneE (changeM (splitBy qM ps) f)) := by unfold splitP; rw [if_neg (by simp [hc1]), if_neg hc2]
  have hs := splits_ok (v := qM) (ps := ps) hc1
  have h126 := f101S (ps := ps) (ga := 1) f.size f 5 (hpL [((39004, 2), some ⟨[.fz (.i .i64 0), .fz (.s []), .full [], .full []], true, false⟩), ((39005, 3), some ⟨[.fz (.i .i64 0), .fz (.i .i64 0)], true, false⟩)]) (Nat.le_refl _) hw (checkM_fit hc1) (checkM_wfE hc1) (by have := checkM_size hc1; omega) (by omega) (fun id o ho => by
    simp only [hpL] at ho
    split at ho
    · rename_i e; subst e; simp only; omega
    split at ho
    · rename_i e; subst e; simp only; omega
    · cases ho)
  rw [enc_form (f := f)] at h126
  obtain ⟨g, hg⟩ : ∃ g, changeM (splitBy qM ps) f = g := ⟨_, rfl⟩
  rw [hg] at e0 hs h126
  obtain ⟨c, hc⟩ : ∃ c, doneF g = c := ⟨_, rfl⟩
  rw [hc] at e0
  refine Wcall_K (N := 39) hm hV39 39000 (lst [1000003]) ok39 Tryd.func39 rfl rfl (by simp) (by kernel_rfl) ?_
  repeat' (first | refine ReqK.i (by omega) fun _ => ?_ | refine ReqK.i (by unfold maxL; omega) fun _ => ?_ | simp only [go_sem, reduceIte, reduceCtorEq, Nat.reduceEqDiff, Nat.reduceAdd, Nat.reduceSub, Nat.reduceMul, Nat.reduceDiv, Nat.reduceMod, Nat.reduceLT, Nat.reduceLeDiff, Nat.reduceBEq, Nat.reducePow, Int.reduceLE, Int.reduceLT, Int.reduceEq, Int.reduceNeg, Int.reduceAdd, Int.reduceToNat, hc1, hck, hc2', form_eta, Tryd.f39, V39, V38, V37, V36, V35, V34, V33, V32, V31, V30, V29, R28, R27, R22, R21, R20, R19, R18, R17, R16, R15, R14, R13, R12, R11, R10, R9, R8, R7, R6, R5, R4, R3, R2, R1, Q20, Q19, Q18, Q17, Q16, Q15, Q14, Q13, Q12, Q11, Q10, Q9, Q8, Q7, Q6, Q5, Q4, Q3, Q2, Q1, Tbl0])
  refine WK_loop hm hV39 39000 (lst [1000003]) (ι := LoopI ps.length fun i => (ps.take i).all isName = true)
    ⟨fun q => ⟨frL [(2, .ptr (39002, 0) 0), (3, .ptr (39003, 1) 0), (4, .ptr (39004, 2) 0), (5, .ptr (39005, 3) 0), (21, .fz (.sl (ps.map enc))), (22, .fz (.i .i64 ps.length)), (23, .fz (.i .i64 q.i))],
      hpL [((39002, 0), some ⟨[.fz (.i .i64 f.kind), .fz (.s f.name.l), .fz (.sl (f.words.map enc)), .fz (.sl (f.subs.map enc))], true, false⟩), ((39003, 1), some ⟨[.fz (.sl (ps.map enc))], true, false⟩), ((39004, 2), some ⟨[.fz (.i .i64 0), .fz (.s []), .full [], .full []], true, false⟩), ((39005, 3), some ⟨[.fz (.i .i64 0), .fz (.i .i64 0)], true, false⟩)], 5⟩, fun q => ps.length - q.i⟩
    ⟨0, by omega, rfl⟩ (by kernel_rfl) ?_ ?_
  · refine Weak_to ?_ ?_ ?_ <;> simp only [go_sem, reduceIte, reduceCtorEq, Nat.reduceEqDiff, Nat.reduceAdd, Nat.reduceSub, Nat.reduceMul, Nat.reduceDiv, Nat.reduceMod, Nat.reduceLT, Nat.reduceLeDiff, Nat.reduceBEq, Nat.reducePow, Int.reduceLE, Int.reduceLT, Int.reduceEq, Int.reduceNeg, Int.reduceAdd, Int.reduceToNat]
  rintro ⟨i, hi, hal⟩
  try simp only at hi hal
  rcases Nat.lt_or_ge i ps.length with h1 | h1
  · have hat := all_take h1
    have hbd := all_bad_at h1
    obtain ⟨w, hwi⟩ : ∃ w, ps[i] = w := ⟨_, rfl⟩
    rw [hwi] at hat hbd
    cases hn : isName w with
    | true =>
      repeat' (first | refine ReqK.i (by omega) fun _ => ?_ | refine ReqK.i (by unfold maxL; omega) fun _ => ?_ | simp only [go_sem, reduceIte, reduceCtorEq, Nat.reduceEqDiff, Nat.reduceAdd, Nat.reduceSub, Nat.reduceMul, Nat.reduceDiv, Nat.reduceMod, Nat.reduceLT, Nat.reduceLeDiff, Nat.reduceBEq, Nat.reducePow, Int.reduceLE, Int.reduceLT, Int.reduceEq, Int.reduceNeg, Int.reduceAdd, Int.reduceToNat, h1, hwi, hn, str_eta, getD_map_lt, Tryd.f39, V39, V38, V37, V36, V35, V34, V33, V32, V31, V30, V29, R28, R27, R22, R21, R20, R19, R18, R17, R16, R15, R14, R13, R12, R11, R10, R9, R8, R7, R6, R5, R4, R3, R2, R1, Q20, Q19, Q18, Q17, Q16, Q15, Q14, Q13, Q12, Q11, Q10, Q9, Q8, Q7, Q6, Q5, Q4, Q3, Q2, Q1, Tbl0])
      refine ⟨⟨i + 1, by omega, by rw [hat, hal, hn]; rfl⟩, by simp only; omega, ?_⟩
      refine Weak_to ?_ ?_ ?_ <;> simp only [go_sem, reduceIte, reduceCtorEq, Nat.reduceEqDiff, Nat.reduceAdd, Nat.reduceSub, Nat.reduceMul, Nat.reduceDiv, Nat.reduceMod, Nat.reduceLT, Nat.reduceLeDiff, Nat.reduceBEq, Nat.reducePow, Int.reduceLE, Int.reduceLT, Int.reduceEq, Int.reduceNeg, Int.reduceAdd, Int.reduceToNat]
    | false =>
      rw [if_pos (hbd hn)] at e0
      repeat' (first | refine ReqK.i (by omega) fun _ => ?_ | refine ReqK.i (by unfold maxL; omega) fun _ => ?_ | simp only [go_sem, reduceIte, reduceCtorEq, Nat.reduceEqDiff, Nat.reduceAdd, Nat.reduceSub, Nat.reduceMul, Nat.reduceDiv, Nat.reduceMod, Nat.reduceLT, Nat.reduceLeDiff, Nat.reduceBEq, Nat.reducePow, Int.reduceLE, Int.reduceLT, Int.reduceEq, Int.reduceNeg, Int.reduceAdd, Int.reduceToNat, h1, hwi, hn, e0, zeroF, str_eta, getD_map_lt, Tryd.f39, V39, V38, V37, V36, V35, V34, V33, V32, V31, V30, V29, R28, R27, R22, R21, R20, R19, R18, R17, R16, R15, R14, R13, R12, R11, R10, R9, R8, R7, R6, R5, R4, R3, R2, R1, Q20, Q19, Q18, Q17, Q16, Q15, Q14, Q13, Q12, Q11, Q10, Q9, Q8, Q7, Q6, Q5, Q4, Q3, Q2, Q1, Tbl0])
  obtain rfl : i = ps.length := by omega
  rw [List.take_length] at hal
  rw [if_neg (by simp [hal])] at e0
  repeat' (first | refine ReqK.i (by omega) fun _ => ?_ | refine ReqK.i (by unfold maxL; omega) fun _ => ?_ | simp only [go_sem, reduceIte, reduceCtorEq, Nat.reduceEqDiff, Nat.reduceAdd, Nat.reduceSub, Nat.reduceMul, Nat.reduceDiv, Nat.reduceMod, Nat.reduceLT, Nat.reduceLeDiff, Nat.reduceBEq, Nat.reducePow, Int.reduceLE, Int.reduceLT, Int.reduceEq, Int.reduceNeg, Int.reduceAdd, Int.reduceToNat, Nat.lt_irrefl, form_eta, Tryd.f39, V39, V38, V37, V36, V35, V34, V33, V32, V31, V30, V29, R28, R27, R22, R21, R20, R19, R18, R17, R16, R15, R14, R13, R12, R11, R10, R9, R8, R7, R6, R5, R4, R3, R2, R1, Q20, Q19, Q18, Q17, Q16, Q15, Q14, Q13, Q12, Q11, Q10, Q9, Q8, Q7, Q6, Q5, Q4, Q3, Q2, Q1, Tbl0])
  refine WcallK.i (Wcall_hd rfl (Wcall_toX (by simp only [go_sem, reduceIte, reduceCtorEq, Nat.reduceEqDiff, Nat.reduceAdd, Nat.reduceSub, Nat.reduceMul, Nat.reduceDiv, Nat.reduceMod, Nat.reduceLT, Nat.reduceLeDiff, Nat.reduceBEq, Nat.reducePow, Int.reduceLE, Int.reduceLT, Int.reduceEq, Int.reduceNeg, Int.reduceAdd, Int.reduceToNat, argL]) (by simp only [go_sem, reduceIte, reduceCtorEq, Nat.reduceEqDiff, Nat.reduceAdd, Nat.reduceSub, Nat.reduceMul, Nat.reduceDiv, Nat.reduceMod, Nat.reduceLT, Nat.reduceLeDiff, Nat.reduceBEq, Nat.reducePow, Int.reduceLE, Int.reduceLT, Int.reduceEq, Int.reduceNeg, Int.reduceAdd, Int.reduceToNat, HP]) (fun id o ho => ?_) (Nat.le_refl _) (Wcall_mono h126 ?_)))
  · simp only [hpL] at ho
    split at ho
    · rename_i e; subst e; simp only [go_sem, reduceIte, reduceCtorEq, Nat.reduceEqDiff, Nat.reduceAdd, Nat.reduceSub, Nat.reduceMul, Nat.reduceDiv, Nat.reduceMod, Nat.reduceLT, Nat.reduceLeDiff, Nat.reduceBEq, Nat.reducePow, Int.reduceLE, Int.reduceLT, Int.reduceEq, Int.reduceNeg, Int.reduceAdd, Int.reduceToNat]; exact Option.some.inj ho
    split at ho
    · rename_i e; subst e; simp only [go_sem, reduceIte, reduceCtorEq, Nat.reduceEqDiff, Nat.reduceAdd, Nat.reduceSub, Nat.reduceMul, Nat.reduceDiv, Nat.reduceMod, Nat.reduceLT, Nat.reduceLeDiff, Nat.reduceBEq, Nat.reducePow, Int.reduceLE, Int.reduceLT, Int.reduceEq, Int.reduceNeg, Int.reduceAdd, Int.reduceToNat]; exact Option.some.inj ho
    · cases ho
  rintro d' H' n1 ⟨rfl, e1, e2, e3⟩
  have b2 := e3 (39004, 2) ⟨[.fz (.i .i64 0), .fz (.s []), .full [], .full []], true, false⟩ (by simp only [go_sem, reduceIte, reduceCtorEq, Nat.reduceEqDiff, Nat.reduceAdd, Nat.reduceSub, Nat.reduceMul, Nat.reduceDiv, Nat.reduceMod, Nat.reduceLT, Nat.reduceLeDiff, Nat.reduceBEq, Nat.reducePow, Int.reduceLE, Int.reduceLT, Int.reduceEq, Int.reduceNeg, Int.reduceAdd, Int.reduceToNat])
  have b3 := e3 (39005, 3) ⟨[.fz (.i .i64 0), .fz (.i .i64 0)], true, false⟩ (by simp only [go_sem, reduceIte, reduceCtorEq, Nat.reduceEqDiff, Nat.reduceAdd, Nat.reduceSub, Nat.reduceMul, Nat.reduceDiv, Nat.reduceMod, Nat.reduceLT, Nat.reduceLeDiff, Nat.reduceBEq, Nat.reducePow, Int.reduceLE, Int.reduceLT, Int.reduceEq, Int.reduceNeg, Int.reduceAdd, Int.reduceToNat])
  clear e3 e2
  rw [show H' = hpX [] H' from rfl, enc_form (f := g)]
  repeat' (first | refine ReqK.i hs fun _ => ?_ | refine ReqK.i (by omega) fun _ => ?_ | refine ReqK.i (by unfold maxL; omega) fun _ => ?_ | simp only [go_sem, reduceIte, reduceCtorEq, Nat.reduceEqDiff, Nat.reduceAdd, Nat.reduceSub, Nat.reduceMul, Nat.reduceDiv, Nat.reduceMod, Nat.reduceLT, Nat.reduceLeDiff, Nat.reduceBEq, Nat.reducePow, Int.reduceLE, Int.reduceLT, Int.reduceEq, Int.reduceNeg, Int.reduceAdd, Int.reduceToNat, b2, b3, hc, e0, form_eta, Tryd.f39, V39, V38, V37, V36, V35, V34, V33, V32, V31, V30, V29, R28, R27, R22, R21, R20, R19, R18, R17, R16, R15, R14, R13, R12, R11, R10, R9, R8, R7, R6, R5, R4, R3, R2, R1, Q20, Q19, Q18, Q17, Q16, Q15, Q14, Q13, Q12, Q11, Q10, Q9, Q8, Q7, Q6, Q5, Q4, Q3, Q2, Q1, Tbl0])
end Go.Proofs.YtoicheicnbjfeaaDoor
