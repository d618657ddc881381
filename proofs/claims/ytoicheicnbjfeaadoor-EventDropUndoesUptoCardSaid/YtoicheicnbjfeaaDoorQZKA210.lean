/- several texts of this proof in one; no conditions -/
import Derived.Test.YtoicheicnbjfeaaDoorQZKA211
import Derived.Test.YtoicheicnbjfeaaDoorMU
import Derived.Test.YtoicheicnbjfeaaDoorAbs47
set_option linter.unusedSimpArgs false
namespace Go.Proofs.YtoicheicnbjfeaaDoor
open Go Go.Abs Go.Proofs

/-! ## small functions -/
def M38 : Tbl := V37.add 138 (sp2 (fun a b : List Str => decide (a = b)) fun _ _ => True)
set_option maxRecDepth 100000 in
set_option maxHeartbeats 1000000 in
theorem hM38 : TblOk Tryd.prog GA M38 := by
  refine sp2_ok ok138 hV37 fun a b _ hwa hwb => ?_
  obtain ⟨Q, hQ⟩ : ∃ Q : D → Heap → Nat → Prop, Q = (fun d _ _ => D.val d = some (.fz (enc (decide (a = b))))) := ⟨_, rfl⟩
  rw [← hQ]
  have hf : a ≠ b → ∀ {H' n'}, Q (.fz (.b false)) H' n' := fun h H' n' => by rw [hQ]; show _ = some (D.fz (.b (decide (a = b)))); rw [decide_eq_false h]; rfl
  have ht : a = b → ∀ {H' n'}, Q (.fz (.b true)) H' n' := fun h H' n' => by rw [hQ]; show _ = some (D.fz (.b (decide (a = b)))); rw [decide_eq_true h]; rfl
  have hsl : a.length ≤ maxL := by
    have := Wf_sl hwa
    simpa using this
  unfold maxL at hsl
  have kf := Kp.mk @hf
  have kt := Kp.mk @ht
  clear hf ht hQ hwa hwb
  refine Wcall_K (N := 26) hm hV37 138000 (lst []) ok138 Tryd.func138 rfl rfl (by simp) (by kernel_rfl) ?_
  repeat' (first | refine CondK.d (fun _ => ?_) (fun _ => ?_) | refine ReqK.i (by omega) fun _ => ?_ | simp only [go_sem, reduceIte, reduceCtorEq, Nat.reduceEqDiff, Nat.reduceAdd, Nat.reduceSub, Nat.reduceMul, Nat.reduceDiv, Nat.reduceMod, Nat.reduceLT, Nat.reduceLeDiff, Nat.reduceBEq, Nat.reducePow, Int.reduceLE, Int.reduceLT, Int.reduceEq, Int.reduceNeg, Int.reduceAdd, Int.reduceToNat, Tryd.f138])
  all_goals try (refine kf.out (fun e => ?_); subst e; omega)
  rename_i e1
  have hlen : a.length = b.length := by omega
  refine WK_loop hm hV37 138000 (lst []) (ι := LoopI a.length fun i => a.take i = b.take i)
    ⟨fun q => ⟨frL [(0, .fz (.sl (a.map enc))), (1, .fz (.sl (b.map enc))), (12, .fz (.i .i64 a.length)), (13, .fz (.i .i64 q.i))], hpL [], 0⟩, fun q => a.length - q.i⟩
    ⟨0, by omega, rfl⟩ (by kernel_rfl) ?_ ?_
  · refine Weak_to ?_ ?_ ?_ <;> simp only [go_sem, reduceIte, reduceCtorEq, Nat.reduceEqDiff, Nat.reduceAdd, Nat.reduceSub, Nat.reduceMul, Nat.reduceDiv, Nat.reduceMod, Nat.reduceLT, Nat.reduceLeDiff, Nat.reduceBEq, Nat.reducePow, Int.reduceLE, Int.reduceLT, Int.reduceEq, Int.reduceNeg, Int.reduceAdd, Int.reduceToNat]
  rintro ⟨i, hi, hpi⟩
  rcases Nat.lt_or_ge i a.length with h1 | h1
  · have h2 : i < b.length := by omega
    obtain ⟨x, hx⟩ : ∃ x, a[i] = x := ⟨_, rfl⟩
    obtain ⟨y, hy⟩ : ∃ y, b[i] = y := ⟨_, rfl⟩
    by_cases hxy : x = y
    · repeat' (first | refine ReqK.i (by omega) fun _ => ?_ | simp only [go_sem, reduceIte, reduceCtorEq, Nat.reduceEqDiff, Nat.reduceAdd, Nat.reduceSub, Nat.reduceMul, Nat.reduceDiv, Nat.reduceMod, Nat.reduceLT, Nat.reduceLeDiff, Nat.reduceBEq, Nat.reducePow, Int.reduceLE, Int.reduceLT, Int.reduceEq, Int.reduceNeg, Int.reduceAdd, Int.reduceToNat, h1, h2, hx, hy, eq_true hxy, getD_map_lt, Tryd.f138])
      refine ⟨⟨i + 1, by omega, ?_⟩, by simp only; omega, ?_⟩
      · rw [List.take_succ_eq_append_getElem h1, List.take_succ_eq_append_getElem h2, hpi, hx, hy, hxy]
      · refine Weak_to ?_ ?_ ?_ <;> simp only [go_sem, reduceIte, reduceCtorEq, Nat.reduceEqDiff, Nat.reduceAdd, Nat.reduceSub, Nat.reduceMul, Nat.reduceDiv, Nat.reduceMod, Nat.reduceLT, Nat.reduceLeDiff, Nat.reduceBEq, Nat.reducePow, Int.reduceLE, Int.reduceLT, Int.reduceEq, Int.reduceNeg, Int.reduceAdd, Int.reduceToNat]
    · repeat' (first | refine ReqK.i (by omega) fun _ => ?_ | simp only [go_sem, reduceIte, reduceCtorEq, Nat.reduceEqDiff, Nat.reduceAdd, Nat.reduceSub, Nat.reduceMul, Nat.reduceDiv, Nat.reduceMod, Nat.reduceLT, Nat.reduceLeDiff, Nat.reduceBEq, Nat.reducePow, Int.reduceLE, Int.reduceLT, Int.reduceEq, Int.reduceNeg, Int.reduceAdd, Int.reduceToNat, h1, h2, hx, hy, eq_false hxy, getD_map_lt, Tryd.f138])
      exact kf.out fun e => hxy (by subst e; rw [← hx, ← hy])
  · have h1' : ¬ i < a.length := by omega
    obtain rfl : i = a.length := by omega
    repeat' (first | refine ReqK.i (by omega) fun _ => ?_ | simp only [go_sem, reduceIte, reduceCtorEq, Nat.reduceEqDiff, Nat.reduceAdd, Nat.reduceSub, Nat.reduceMul, Nat.reduceDiv, Nat.reduceMod, Nat.reduceLT, Nat.reduceLeDiff, Nat.reduceBEq, Nat.reducePow, Int.reduceLE, Int.reduceLT, Int.reduceEq, Int.reduceNeg, Int.reduceAdd, Int.reduceToNat, Nat.lt_irrefl, h1', Tryd.f138])
    exact kt.out (eq_of_take hlen hpi)

def M39 : Tbl := M38.add 116 (sp2 (fun a b : Abs.Form => decide (a = b)) fun _ _ => True)
set_option maxRecDepth 100000 in
set_option maxHeartbeats 1000000 in
theorem hM39 : TblOk Tryd.prog GA M39 := by
  refine sp2_rec Form.size ok116 hM38 fun n hT a b hn hwa hwb => ?_
  obtain ⟨Q, hQ⟩ : ∃ Q : D → Heap → Nat → Prop, Q = (fun d _ _ => D.val d = some (.fz (enc (decide (a = b))))) := ⟨_, rfl⟩
  rw [← hQ]
  have hf : a ≠ b → ∀ {H' n'}, Q (.fz (.b false)) H' n' := fun h H' n' => by rw [hQ]; show _ = some (D.fz (.b (decide (a = b)))); rw [decide_eq_false h]; rfl
  have ht : a = b → ∀ {H' n'}, Q (.fz (.b true)) H' n' := fun h H' n' => by rw [hQ]; show _ = some (D.fz (.b (decide (a = b)))); rw [decide_eq_true h]; rfl
  have hsl : a.subs.length ≤ maxL := by
    have h := Wf_agg (by have h := hwa; rw [enc_form] at h; exact h) (FD.sl (a.subs.map enc)) (by simp)
    have := Wf_sl h
    simpa using this
  unfold maxL at hsl
  have hsz : ∀ g ∈ a.subs, g.size < n := fun g hg => by have := Form.size_sub hg; omega
  have kf := Kp.mk @hf
  have kt := Kp.mk @ht
  have kz := Kp.mk hsz
  have kT := Kp.mk hT
  clear hf ht hQ hwa hwb hsz hT
  refine Wcall_K (N := 54) hm kT.out 116000 (lst []) ok116 Tryd.func116 rfl rfl (by simp) (by kernel_rfl) ?_
  repeat' (first | refine CondK.d (fun _ => ?_) (fun _ => ?_) | refine CondK.i (fun _ => ?_) (fun _ => ?_) | refine ReqK.i (by omega) fun _ => ?_ | simp only [go_sem, reduceIte, reduceCtorEq, Nat.reduceEqDiff, Nat.reduceAdd, Nat.reduceSub, Nat.reduceMul, Nat.reduceDiv, Nat.reduceMod, Nat.reduceLT, Nat.reduceLeDiff, Nat.reduceBEq, Nat.reducePow, Int.reduceLE, Int.reduceLT, Int.reduceEq, Int.reduceNeg, Int.reduceAdd, Int.reduceToNat, Tryd.f116, M38, V37, V36, V35, V34, V33, V32, V31, V30, V29, R28, R27, R22, R21, R20, R19, R18, R17, R16, R15, R14, R13, R12, R11, R10, R9, R8, R7, R6, R5, R4, R3, R2, R1, Q20, Q19, Q18, Q17, Q16, Q15, Q14, Q13, Q12, Q11, Q10, Q9, Q8, Q7, Q6, Q5, Q4, Q3, Q2, Q1, Tbl0, *])
  all_goals try (refine kf.out (fun e => ?_); subst e; contradiction)
  rename_i e1 e2 e3 e4
  have hlen : a.subs.length = b.subs.length := by omega
  refine WK_loop hm kT.out 116000 (lst []) (ι := LoopI a.subs.length fun i => a.subs.take i = b.subs.take i)
    ⟨fun q => ⟨frL [(2, .ptr (116002, 0) 0), (3, .ptr (116003, 1) 0), (37, .fz (.i .i64 a.subs.length)), (38, .fz (.i .i64 q.i))],
      hpL [((116002, 0), some ⟨[.fz (.i .i64 a.kind), .fz (.s a.name.l), .fz (.sl (a.words.map enc)), .fz (.sl (a.subs.map enc))], true, false⟩), ((116003, 1), some ⟨[.fz (.i .i64 b.kind), .fz (.s b.name.l), .fz (.sl (b.words.map enc)), .fz (.sl (b.subs.map enc))], true, false⟩)], 2⟩, fun q => a.subs.length - q.i⟩
    ⟨0, by omega, rfl⟩ (by kernel_rfl) ?_ ?_
  · refine Weak_to ?_ ?_ ?_ <;> simp only [go_sem, reduceIte, reduceCtorEq, Nat.reduceEqDiff, Nat.reduceAdd, Nat.reduceSub, Nat.reduceMul, Nat.reduceDiv, Nat.reduceMod, Nat.reduceLT, Nat.reduceLeDiff, Nat.reduceBEq, Nat.reducePow, Int.reduceLE, Int.reduceLT, Int.reduceEq, Int.reduceNeg, Int.reduceAdd, Int.reduceToNat, *]
  rintro ⟨i, hi, hpi⟩
  rcases Nat.lt_or_ge i a.subs.length with h1 | h1
  · have h2 : i < b.subs.length := by omega
    obtain ⟨x, hx⟩ : ∃ x, a.subs[i] = x := ⟨_, rfl⟩
    obtain ⟨y, hy⟩ : ∃ y, b.subs[i] = y := ⟨_, rfl⟩
    have hxs : x.size < n := kz.out x (by rw [← hx]; exact List.getElem_mem h1)
    by_cases hxy : x = y
    · repeat' (first | refine ReqK.i (by omega) fun _ => ?_ | simp only [go_sem, reduceIte, reduceCtorEq, Nat.reduceEqDiff, Nat.reduceAdd, Nat.reduceSub, Nat.reduceMul, Nat.reduceDiv, Nat.reduceMod, Nat.reduceLT, Nat.reduceLeDiff, Nat.reduceBEq, Nat.reducePow, Int.reduceLE, Int.reduceLT, Int.reduceEq, Int.reduceNeg, Int.reduceAdd, Int.reduceToNat, h1, h2, hx, hy, hxs, eq_true hxy, getD_map_lt, Tryd.f116, M38, V37, V36, V35, V34, V33, V32, V31, V30, V29, R28, R27, R22, R21, R20, R19, R18, R17, R16, R15, R14, R13, R12, R11, R10, R9, R8, R7, R6, R5, R4, R3, R2, R1, Q20, Q19, Q18, Q17, Q16, Q15, Q14, Q13, Q12, Q11, Q10, Q9, Q8, Q7, Q6, Q5, Q4, Q3, Q2, Q1, Tbl0])
      refine ⟨⟨i + 1, by omega, ?_⟩, by simp only; omega, ?_⟩
      · rw [List.take_succ_eq_append_getElem h1, List.take_succ_eq_append_getElem h2, hpi, hx, hy, hxy]
      · refine Weak_to ?_ ?_ ?_ <;> simp only [go_sem, reduceIte, reduceCtorEq, Nat.reduceEqDiff, Nat.reduceAdd, Nat.reduceSub, Nat.reduceMul, Nat.reduceDiv, Nat.reduceMod, Nat.reduceLT, Nat.reduceLeDiff, Nat.reduceBEq, Nat.reducePow, Int.reduceLE, Int.reduceLT, Int.reduceEq, Int.reduceNeg, Int.reduceAdd, Int.reduceToNat]
    · repeat' (first | refine ReqK.i (by omega) fun _ => ?_ | simp only [go_sem, reduceIte, reduceCtorEq, Nat.reduceEqDiff, Nat.reduceAdd, Nat.reduceSub, Nat.reduceMul, Nat.reduceDiv, Nat.reduceMod, Nat.reduceLT, Nat.reduceLeDiff, Nat.reduceBEq, Nat.reducePow, Int.reduceLE, Int.reduceLT, Int.reduceEq, Int.reduceNeg, Int.reduceAdd, Int.reduceToNat, h1, h2, hx, hy, hxs, eq_false hxy, getD_map_lt, Tryd.f116, M38, V37, V36, V35, V34, V33, V32, V31, V30, V29, R28, R27, R22, R21, R20, R19, R18, R17, R16, R15, R14, R13, R12, R11, R10, R9, R8, R7, R6, R5, R4, R3, R2, R1, Q20, Q19, Q18, Q17, Q16, Q15, Q14, Q13, Q12, Q11, Q10, Q9, Q8, Q7, Q6, Q5, Q4, Q3, Q2, Q1, Tbl0])
      exact kf.out fun e => hxy (by subst e; rw [← hx, ← hy])
  · have h1' : ¬ i < a.subs.length := by omega
    obtain rfl : i = a.subs.length := by omega
    repeat' (first | refine ReqK.i (by omega) fun _ => ?_ | simp only [go_sem, reduceIte, reduceCtorEq, Nat.reduceEqDiff, Nat.reduceAdd, Nat.reduceSub, Nat.reduceMul, Nat.reduceDiv, Nat.reduceMod, Nat.reduceLT, Nat.reduceLeDiff, Nat.reduceBEq, Nat.reducePow, Int.reduceLE, Int.reduceLT, Int.reduceEq, Int.reduceNeg, Int.reduceAdd, Int.reduceToNat, Nat.lt_irrefl, h1', Tryd.f116])
    exact kt.out (form_ext e1 e2 e3 (eq_of_take hlen hpi))


def checkE (f : Abs.Form) (name mod : Str) : Fault := if (checkM false f).code ≠ 0 then checkM false f else if isName name = false then ⟨10, -2⟩ else if isName mod = false then ⟨10, -3⟩ else ⟨0, 0⟩
def M40 : Tbl := M39.add 113 (sp3 checkE fun _ _ _ => True)
set_option maxRecDepth 100000 in
set_option maxHeartbeats 1000000 in
theorem hM40 : TblOk Tryd.prog GA M40 := by
  refine sp3_ok ok113 hM39 fun f name mod _ _ _ _ => ?_
  by_cases h1 : ¬ (checkM false f).code = 0
  · have e : checkE f name mod = checkM false f := by unfold checkE; rw [if_pos h1]
    refine Wcall_K (N := 23) hm hM39 113000 (lst []) ok113 Tryd.func113 rfl rfl (by simp) (by kernel_rfl) ?_
    repeat' (first | refine ReqK.i (by omega) fun _ => ?_ | refine ReqK.i (by unfold maxL; omega) fun _ => ?_ | refine ReqK.i (fits_of2 (by first | omega | (simp only [List.length_map, List.length_take, List.length_append, List.length_cons, List.length_nil]; omega)) (by decide)) fun _ => ?_ | simp only [go_sem, reduceIte, reduceCtorEq, Nat.reduceEqDiff, Nat.reduceAdd, Nat.reduceSub, Nat.reduceMul, Nat.reduceDiv, Nat.reduceMod, Nat.reduceLT, Nat.reduceLeDiff, Nat.reduceBEq, Nat.reducePow, Int.reduceLE, Int.reduceLT, Int.reduceEq, Int.reduceNeg, Int.reduceAdd, Int.reduceToNat, h1, e, form_eta, str_eta, Tryd.f113, M39, M38, V37, V36, V35, V34, V33, V32, V31, V30, V29, R28, R27, R22, R21, R20, R19, R18, R17, R16, R15, R14, R13, R12, R11, R10, R9, R8, R7, R6, R5, R4, R3, R2, R1, Q20, Q19, Q18, Q17, Q16, Q15, Q14, Q13, Q12, Q11, Q10, Q9, Q8, Q7, Q6, Q5, Q4, Q3, Q2, Q1, Tbl0])
  have h1 := Decidable.not_not.1 h1
  cases h2 : isName name with
  | false =>
    have e : checkE f name mod = ⟨10, -2⟩ := by unfold checkE; rw [if_neg (by simp [h1]), if_pos h2]
    refine Wcall_K (N := 23) hm hM39 113000 (lst []) ok113 Tryd.func113 rfl rfl (by simp) (by kernel_rfl) ?_
    repeat' (first | refine ReqK.i (by omega) fun _ => ?_ | refine ReqK.i (by unfold maxL; omega) fun _ => ?_ | refine ReqK.i (fits_of2 (by first | omega | (simp only [List.length_map, List.length_take, List.length_append, List.length_cons, List.length_nil]; omega)) (by decide)) fun _ => ?_ | simp only [go_sem, reduceIte, reduceCtorEq, Nat.reduceEqDiff, Nat.reduceAdd, Nat.reduceSub, Nat.reduceMul, Nat.reduceDiv, Nat.reduceMod, Nat.reduceLT, Nat.reduceLeDiff, Nat.reduceBEq, Nat.reducePow, Int.reduceLE, Int.reduceLT, Int.reduceEq, Int.reduceNeg, Int.reduceAdd, Int.reduceToNat, h1, h2, e, form_eta, str_eta, Tryd.f113, M39, M38, V37, V36, V35, V34, V33, V32, V31, V30, V29, R28, R27, R22, R21, R20, R19, R18, R17, R16, R15, R14, R13, R12, R11, R10, R9, R8, R7, R6, R5, R4, R3, R2, R1, Q20, Q19, Q18, Q17, Q16, Q15, Q14, Q13, Q12, Q11, Q10, Q9, Q8, Q7, Q6, Q5, Q4, Q3, Q2, Q1, Tbl0])
  | true =>
    cases h3 : isName mod with
    | false =>
      have e : checkE f name mod = ⟨10, -3⟩ := by unfold checkE; rw [if_neg (by simp [h1]), if_neg (by simp [h2]), if_pos h3]
      refine Wcall_K (N := 23) hm hM39 113000 (lst []) ok113 Tryd.func113 rfl rfl (by simp) (by kernel_rfl) ?_
      repeat' (first | refine ReqK.i (by omega) fun _ => ?_ | refine ReqK.i (by unfold maxL; omega) fun _ => ?_ | refine ReqK.i (fits_of2 (by first | omega | (simp only [List.length_map, List.length_take, List.length_append, List.length_cons, List.length_nil]; omega)) (by decide)) fun _ => ?_ | simp only [go_sem, reduceIte, reduceCtorEq, Nat.reduceEqDiff, Nat.reduceAdd, Nat.reduceSub, Nat.reduceMul, Nat.reduceDiv, Nat.reduceMod, Nat.reduceLT, Nat.reduceLeDiff, Nat.reduceBEq, Nat.reducePow, Int.reduceLE, Int.reduceLT, Int.reduceEq, Int.reduceNeg, Int.reduceAdd, Int.reduceToNat, h1, h2, h3, e, form_eta, str_eta, Tryd.f113, M39, M38, V37, V36, V35, V34, V33, V32, V31, V30, V29, R28, R27, R22, R21, R20, R19, R18, R17, R16, R15, R14, R13, R12, R11, R10, R9, R8, R7, R6, R5, R4, R3, R2, R1, Q20, Q19, Q18, Q17, Q16, Q15, Q14, Q13, Q12, Q11, Q10, Q9, Q8, Q7, Q6, Q5, Q4, Q3, Q2, Q1, Tbl0])
    | true =>
      have e : checkE f name mod = ⟨0, 0⟩ := by unfold checkE; rw [if_neg (by simp [h1]), if_neg (by simp [h2]), if_neg (by simp [h3])]
      refine Wcall_K (N := 23) hm hM39 113000 (lst []) ok113 Tryd.func113 rfl rfl (by simp) (by kernel_rfl) ?_
      repeat' (first | refine ReqK.i (by omega) fun _ => ?_ | refine ReqK.i (by unfold maxL; omega) fun _ => ?_ | refine ReqK.i (fits_of2 (by first | omega | (simp only [List.length_map, List.length_take, List.length_append, List.length_cons, List.length_nil]; omega)) (by decide)) fun _ => ?_ | simp only [go_sem, reduceIte, reduceCtorEq, Nat.reduceEqDiff, Nat.reduceAdd, Nat.reduceSub, Nat.reduceMul, Nat.reduceDiv, Nat.reduceMod, Nat.reduceLT, Nat.reduceLeDiff, Nat.reduceBEq, Nat.reducePow, Int.reduceLE, Int.reduceLT, Int.reduceEq, Int.reduceNeg, Int.reduceAdd, Int.reduceToNat, h1, h2, h3, e, form_eta, str_eta, Tryd.f113, M39, M38, V37, V36, V35, V34, V33, V32, V31, V30, V29, R28, R27, R22, R21, R20, R19, R18, R17, R16, R15, R14, R13, R12, R11, R10, R9, R8, R7, R6, R5, R4, R3, R2, R1, Q20, Q19, Q18, Q17, Q16, Q15, Q14, Q13, Q12, Q11, Q10, Q9, Q8, Q7, Q6, Q5, Q4, Q3, Q2, Q1, Tbl0])

def M41 : Tbl := M40.add 117 (sp1 (joinM 5) fun l : List Abs.Form => l ≠ [] ∧ l.length ≤ 1000000)
set_option maxRecDepth 100000 in
set_option maxHeartbeats 1000000 in
theorem hM41 : TblOk Tryd.prog GA M41 := by
  refine sp1_ok ok117 hM40 fun l hpre _ => ?_
  obtain ⟨hne, hll⟩ := hpre
  obtain ⟨f0, tl, rfl⟩ : ∃ f0 tl, l = f0 :: tl := by
    cases l with
    | nil => exact absurd rfl hne
    | cons a t => exact ⟨a, t, rfl⟩
  obtain ⟨J, hJ⟩ : ∃ J : Nat → Abs.Form, J = fun i => joinM 5 ((f0 :: tl).take (i + 1)) := ⟨_, rfl⟩
  have hJ0 : J 0 = f0 := by rw [hJ]; rfl
  have hJs : ∀ i (h : i < tl.length), J (i + 1) = andF (J i) tl[i] := fun i h => by rw [hJ]; exact joinM_cast 5 (l := f0 :: tl) (by simpa using h)
  have hJe : joinM 5 (f0 :: tl) = J tl.length := by rw [hJ]; simp only [← List.length_cons (a := f0), List.take_length]
  have hcut : ∀ y, cutFD (y :: tl.map enc) (1 : Int) ((tl.length : Int) + 1) = tl.map enc := fun y => by
    unfold cutFD
    rw [show ((tl.length : Int) + 1).toNat = tl.length + 1 by omega, List.take_succ_cons, List.take_of_length_le (by rw [List.length_map]; exact Nat.le_refl _)]
    rfl
  have hq1 : (1 : Int) = (tl.length : Int) + 1 ∨ ((tl.map enc).getD 0 FD.nilf).cells.length = 4 := by
    cases tl with
    | nil => exact .inl rfl
    | cons x t => exact .inr (by show (enc x).cells.length = 4; rw [enc_form]; rfl)
  simp only [List.length_cons] at hll
  have kJ := Kp.mk hJs
  rw [hJe]
  clear hJ hJs hJe hne
  refine Wcall_K (N := 21) hm hM40 117000 (lst []) ok117 Tryd.func117 rfl rfl (by simp) (by kernel_rfl) ?_
  repeat' (first | refine ReqK.i ⟨by omega, by omega, hq1⟩ fun _ => ?_ | refine ReqK.i (by omega) fun _ => ?_ | refine ReqK.i (by unfold maxL; omega) fun _ => ?_ | refine ReqK.i (fits_of2 (by first | omega | (simp only [List.length_map, List.length_take, List.length_append, List.length_cons, List.length_nil]; omega)) (by decide)) fun _ => ?_ | simp only [go_sem, reduceIte, reduceCtorEq, Nat.reduceEqDiff, Nat.reduceAdd, Nat.reduceSub, Nat.reduceMul, Nat.reduceDiv, Nat.reduceMod, Nat.reduceLT, Nat.reduceLeDiff, Nat.reduceBEq, Nat.reducePow, Int.reduceLE, Int.reduceLT, Int.reduceEq, Int.reduceNeg, Int.reduceAdd, Int.reduceToNat, hcut, List.length_cons, Tryd.f117, M40, M39, M38, V37, V36, V35, V34, V33, V32, V31, V30, V29, R28, R27, R22, R21, R20, R19, R18, R17, R16, R15, R14, R13, R12, R11, R10, R9, R8, R7, R6, R5, R4, R3, R2, R1, Q20, Q19, Q18, Q17, Q16, Q15, Q14, Q13, Q12, Q11, Q10, Q9, Q8, Q7, Q6, Q5, Q4, Q3, Q2, Q1, Tbl0])
  refine WK_loop hm hM40 117000 (lst []) (ι := LoopM tl.length 2 fun _ => True)
    ⟨fun q => ⟨frL [(2, .ptr (117002, 0) 0), (3, .ptr (117003, 1) 0), (10, .fz (.sl (tl.map enc))), (11, .fz (.i .i64 tl.length)), (12, .fz (.i .i64 q.i))],
      hpL [((117002, 0), some ⟨[.fz (.i .i64 0), .fz (.s []), .full [], .full []], true, false⟩), ((117003, 1), some ⟨[.fz (.i .i64 (J q.i).kind), .fz (.s (J q.i).name.l), .fz (.sl ((J q.i).words.map enc)), .fz (.sl ((J q.i).subs.map enc))], true, false⟩)], q.m⟩, fun q => tl.length - q.i⟩
    ⟨0, 2, by omega, by omega, trivial⟩ (by kernel_rfl) ?_ ?_
  · refine Weak_to ?_ ?_ ?_ <;> simp only [go_sem, reduceIte, reduceCtorEq, Nat.reduceEqDiff, Nat.reduceAdd, Nat.reduceSub, Nat.reduceMul, Nat.reduceDiv, Nat.reduceMod, Nat.reduceLT, Nat.reduceLeDiff, Nat.reduceBEq, Nat.reducePow, Int.reduceLE, Int.reduceLT, Int.reduceEq, Int.reduceNeg, Int.reduceAdd, Int.reduceToNat, hJ0, enc_form, hcut]
    all_goals first | done | rfl | trace_state
  rintro ⟨i, m, hi, hm1, _⟩
  try simp only at hi hm1
  rcases Nat.lt_or_ge i tl.length with h2 | h2
  · have hs := kJ.out i h2
    obtain ⟨x, hx⟩ : ∃ x, tl[i] = x := ⟨_, rfl⟩
    rw [hx] at hs
    obtain ⟨y, hy⟩ : ∃ y, J i = y := ⟨_, rfl⟩
    rw [hy] at hs
    repeat' (first | refine ReqK.i (by omega) fun _ => ?_ | refine ReqK.i (by unfold maxL; omega) fun _ => ?_ | refine ReqK.i (fits_of2 (by first | omega | (simp only [List.length_map, List.length_take, List.length_append, List.length_cons, List.length_nil]; omega)) (by decide)) fun _ => ?_ | simp only [go_sem, reduceIte, reduceCtorEq, Nat.reduceEqDiff, Nat.reduceAdd, Nat.reduceSub, Nat.reduceMul, Nat.reduceDiv, Nat.reduceMod, Nat.reduceLT, Nat.reduceLeDiff, Nat.reduceBEq, Nat.reducePow, Int.reduceLE, Int.reduceLT, Int.reduceEq, Int.reduceNeg, Int.reduceAdd, Int.reduceToNat, h2, hx, hy, form_eta, getD_map_lt, Tryd.f117, M40, M39, M38, V37, V36, V35, V34, V33, V32, V31, V30, V29, R28, R27, R22, R21, R20, R19, R18, R17, R16, R15, R14, R13, R12, R11, R10, R9, R8, R7, R6, R5, R4, R3, R2, R1, Q20, Q19, Q18, Q17, Q16, Q15, Q14, Q13, Q12, Q11, Q10, Q9, Q8, Q7, Q6, Q5, Q4, Q3, Q2, Q1, Tbl0])
    refine ⟨⟨i + 1, m + 3, by omega, by omega, trivial⟩, by simp only; omega, ?_⟩
    refine Weak_g [] [] [] ?_ ?_ ?_ ?_ ?_ <;> (try simp only [go_sem, reduceIte, reduceCtorEq, Nat.reduceEqDiff, Nat.reduceAdd, Nat.reduceSub, Nat.reduceMul, Nat.reduceDiv, Nat.reduceMod, Nat.reduceLT, Nat.reduceLeDiff, Nat.reduceBEq, Nat.reducePow, Int.reduceLE, Int.reduceLT, Int.reduceEq, Int.reduceNeg, Int.reduceAdd, Int.reduceToNat, hs])
    all_goals first | done | omega | rfl | trace_state
  · obtain rfl : i = tl.length := by omega
    repeat' (first | refine ReqK.i (by omega) fun _ => ?_ | refine ReqK.i (by unfold maxL; omega) fun _ => ?_ | refine ReqK.i (fits_of2 (by first | omega | (simp only [List.length_map, List.length_take, List.length_append, List.length_cons, List.length_nil]; omega)) (by decide)) fun _ => ?_ | simp only [go_sem, reduceIte, reduceCtorEq, Nat.reduceEqDiff, Nat.reduceAdd, Nat.reduceSub, Nat.reduceMul, Nat.reduceDiv, Nat.reduceMod, Nat.reduceLT, Nat.reduceLeDiff, Nat.reduceBEq, Nat.reducePow, Int.reduceLE, Int.reduceLT, Int.reduceEq, Int.reduceNeg, Int.reduceAdd, Int.reduceToNat, Nat.lt_irrefl, form_eta, Tryd.f117, M40, M39, M38, V37, V36, V35, V34, V33, V32, V31, V30, V29, R28, R27, R22, R21, R20, R19, R18, R17, R16, R15, R14, R13, R12, R11, R10, R9, R8, R7, R6, R5, R4, R3, R2, R1, Q20, Q19, Q18, Q17, Q16, Q15, Q14, Q13, Q12, Q11, Q10, Q9, Q8, Q7, Q6, Q5, Q4, Q3, Q2, Q1, Tbl0])

/-! ## Modify$1 and Drop$1 -/

set_option maxRecDepth 100000 in
set_option maxHeartbeats 1000000 in
set_option maxHeartbeats 8000000 in
theorem f114 {nm mod : Str} (c : Abs.Form) (hpre : evPre c) : Wcall Tryd.prog GA 114 [.fz (enc c), .rp [.s nm.l], .rp [.s mod.l]] (hpL []) 0 (fun d _ _ => D.val d = some (.fz (enc (modBy nm mod c)))) := by
  have hp2 := hpre.2
  by_cases hk : c.kind = 9
  rotate_left
  · have e1 : evM c = ([], false) := by unfold evM; rw [if_neg hk]
    have e : modBy nm mod c = c := by unfold modBy; rw [isE_other hk]; rfl
    rw [e]
    refine Wcall_K (N := 37) hm hM41 114000 (lst []) ok114 Tryd.func114 rfl rfl (by simp) (by kernel_rfl) ?_
    repeat' (first | refine ReqK.i hpre fun _ => ?_ | refine ReqK.i (by omega) fun _ => ?_ | refine ReqK.i (by unfold maxL; omega) fun _ => ?_ | refine ReqK.i (fits_of2 (by first | omega | (simp only [List.length_map, List.length_take, List.length_append, List.length_cons, List.length_nil]; omega)) (by decide)) fun _ => ?_ | simp only [go_sem, reduceIte, reduceCtorEq, Nat.reduceEqDiff, Nat.reduceAdd, Nat.reduceSub, Nat.reduceMul, Nat.reduceDiv, Nat.reduceMod, Nat.reduceLT, Nat.reduceLeDiff, Nat.reduceBEq, Nat.reducePow, Int.reduceLE, Int.reduceLT, Int.reduceEq, Int.reduceNeg, Int.reduceAdd, Int.reduceToNat, e1, form_eta, Tryd.f114, M41, M40, M39, M38, V37, V36, V35, V34, V33, V32, V31, V30, V29, R28, R27, R22, R21, R20, R19, R18, R17, R16, R15, R14, R13, R12, R11, R10, R9, R8, R7, R6, R5, R4, R3, R2, R1, Q20, Q19, Q18, Q17, Q16, Q15, Q14, Q13, Q12, Q11, Q10, Q9, Q8, Q7, Q6, Q5, Q4, Q3, Q2, Q1, Tbl0])
  have e1 : evM c = (partsE c, okE c) := by unfold evM; rw [if_pos hk]
  cases hok : okE c with
  | false =>
    have e : modBy nm mod c = c := by unfold modBy isE; rw [hok]; rfl
    rw [e]
    refine Wcall_K (N := 37) hm hM41 114000 (lst []) ok114 Tryd.func114 rfl rfl (by simp) (by kernel_rfl) ?_
    repeat' (first | refine ReqK.i hpre fun _ => ?_ | refine ReqK.i (by omega) fun _ => ?_ | refine ReqK.i (by unfold maxL; omega) fun _ => ?_ | refine ReqK.i (fits_of2 (by first | omega | (simp only [List.length_map, List.length_take, List.length_append, List.length_cons, List.length_nil]; omega)) (by decide)) fun _ => ?_ | simp only [go_sem, reduceIte, reduceCtorEq, Nat.reduceEqDiff, Nat.reduceAdd, Nat.reduceSub, Nat.reduceMul, Nat.reduceDiv, Nat.reduceMod, Nat.reduceLT, Nat.reduceLeDiff, Nat.reduceBEq, Nat.reducePow, Int.reduceLE, Int.reduceLT, Int.reduceEq, Int.reduceNeg, Int.reduceAdd, Int.reduceToNat, e1, hok, form_eta, Tryd.f114, M41, M40, M39, M38, V37, V36, V35, V34, V33, V32, V31, V30, V29, R28, R27, R22, R21, R20, R19, R18, R17, R16, R15, R14, R13, R12, R11, R10, R9, R8, R7, R6, R5, R4, R3, R2, R1, Q20, Q19, Q18, Q17, Q16, Q15, Q14, Q13, Q12, Q11, Q10, Q9, Q8, Q7, Q6, Q5, Q4, Q3, Q2, Q1, Tbl0])
  | true =>
    obtain ⟨a, ha⟩ := one_of ((wfE_eq.1 hpre.1).2.1 hk)
    obtain ⟨x0, tl, hx⟩ : ∃ x tl, partsE c = x :: tl := ⟨_, _, parts_cons c⟩
    have hh : headE c = x0 := by unfold headE; rw [hx]; rfl
    have hlen := (partsE_len hpre.1 hk).2
    rw [hx, List.length_cons] at hlen
    rw [hx] at e1
    by_cases hn : x0.name = nm
    rotate_left
    · have e : modBy nm mod c = c := by unfold modBy isE; rw [hok, hh, decide_eq_false hn]; rfl
      have hn' : (x0.name = nm) = False := eq_false hn
      rw [e]
      refine Wcall_K (N := 37) hm hM41 114000 (lst []) ok114 Tryd.func114 rfl rfl (by simp) (by kernel_rfl) ?_
      repeat' (first | refine ReqK.i hpre fun _ => ?_ | refine ReqK.i (by omega) fun _ => ?_ | refine ReqK.i (by unfold maxL; omega) fun _ => ?_ | refine ReqK.i (fits_of2 (by first | omega | (simp only [List.length_map, List.length_take, List.length_append, List.length_cons, List.length_nil]; omega)) (by decide)) fun _ => ?_ | simp only [go_sem, reduceIte, reduceCtorEq, Nat.reduceEqDiff, Nat.reduceAdd, Nat.reduceSub, Nat.reduceMul, Nat.reduceDiv, Nat.reduceMod, Nat.reduceLT, Nat.reduceLeDiff, Nat.reduceBEq, Nat.reducePow, Int.reduceLE, Int.reduceLT, Int.reduceEq, Int.reduceNeg, Int.reduceAdd, Int.reduceToNat, e1, hok, hn', str_eta, form_eta, Tryd.f114, M41, M40, M39, M38, V37, V36, V35, V34, V33, V32, V31, V30, V29, R28, R27, R22, R21, R20, R19, R18, R17, R16, R15, R14, R13, R12, R11, R10, R9, R8, R7, R6, R5, R4, R3, R2, R1, Q20, Q19, Q18, Q17, Q16, Q15, Q14, Q13, Q12, Q11, Q10, Q9, Q8, Q7, Q6, Q5, Q4, Q3, Q2, Q1, Tbl0])
    subst hn
    have hpre2 : evPre (.mk c.kind c.name c.words [a]) := by rw [← ha, form_eta]; exact hpre
    have e2 : evM (.mk c.kind c.name c.words [a]) = (x0 :: tl, okE c) := by rw [← ha, form_eta]; exact e1
    obtain ⟨y, hy⟩ : ∃ y, predM mod [c.name] = y := ⟨_, rfl⟩
    have e : modBy x0.name mod c = .mk 9 c.name [] [andF a y] := by
      unfold modBy isE
      rw [hok, hh, decide_eq_true rfl, ha, ← hy]; rfl
    rw [e]
    refine Wcall_K (N := 37) hm hM41 114000 (lst []) ok114 Tryd.func114 rfl rfl (by simp) (by kernel_rfl) ?_
    repeat' (first | refine ReqK.i hpre2 fun _ => ?_ | refine ReqK.i hpre fun _ => ?_ | refine ReqK.i (by omega) fun _ => ?_ | refine ReqK.i (by unfold maxL; omega) fun _ => ?_ | refine ReqK.i (fits_of2 (by first | omega | (simp only [List.length_map, List.length_take, List.length_append, List.length_cons, List.length_nil]; omega)) (by decide)) fun _ => ?_ | simp only [go_sem, reduceIte, reduceCtorEq, Nat.reduceEqDiff, Nat.reduceAdd, Nat.reduceSub, Nat.reduceMul, Nat.reduceDiv, Nat.reduceMod, Nat.reduceLT, Nat.reduceLeDiff, Nat.reduceBEq, Nat.reducePow, Int.reduceLE, Int.reduceLT, Int.reduceEq, Int.reduceNeg, Int.reduceAdd, Int.reduceToNat, e2, hok, ha, hy, str_eta, form_eta, Tryd.f114, M41, M40, M39, M38, V37, V36, V35, V34, V33, V32, V31, V30, V29, R28, R27, R22, R21, R20, R19, R18, R17, R16, R15, R14, R13, R12, R11, R10, R9, R8, R7, R6, R5, R4, R3, R2, R1, Q20, Q19, Q18, Q17, Q16, Q15, Q14, Q13, Q12, Q11, Q10, Q9, Q8, Q7, Q6, Q5, Q4, Q3, Q2, Q1, Tbl0])

set_option maxRecDepth 100000 in
set_option maxHeartbeats 1000000 in
set_option maxHeartbeats 8000000 in
theorem f115 {nm mod : Str} (c : Abs.Form) (hpre : evPre c) : Wcall Tryd.prog GA 115 [.fz (enc c), .rp [.s nm.l], .rp [.s mod.l]] (hpL []) 0 (fun d _ _ => D.val d = some (.fz (enc (dropBy nm mod c)))) := by
  have hp2 := hpre.2
  by_cases hk : c.kind = 9
  rotate_left
  · have e1 : evM c = ([], false) := by unfold evM; rw [if_neg hk]
    have e : dropBy nm mod c = c := by unfold dropBy; rw [isE_other hk]; rfl
    rw [e]
    refine Wcall_K (N := 54) hm hM41 115000 (lsw [46] []) ok115 Tryd.func115 rfl rfl (by simp) (by kernel_rfl) ?_
    repeat' (first | refine ReqK.i hpre fun _ => ?_ | refine ReqK.i (by omega) fun _ => ?_ | refine ReqK.i (by unfold maxL; omega) fun _ => ?_ | refine ReqK.i (fits_of2 (by first | omega | (simp only [List.length_map, List.length_take, List.length_append, List.length_cons, List.length_nil]; omega)) (by decide)) fun _ => ?_ | simp only [go_sem, reduceIte, reduceCtorEq, Nat.reduceEqDiff, Nat.reduceAdd, Nat.reduceSub, Nat.reduceMul, Nat.reduceDiv, Nat.reduceMod, Nat.reduceLT, Nat.reduceLeDiff, Nat.reduceBEq, Nat.reducePow, Int.reduceLE, Int.reduceLT, Int.reduceEq, Int.reduceNeg, Int.reduceAdd, Int.reduceToNat, e1, form_eta, Tryd.f115, M41, M40, M39, M38, V37, V36, V35, V34, V33, V32, V31, V30, V29, R28, R27, R22, R21, R20, R19, R18, R17, R16, R15, R14, R13, R12, R11, R10, R9, R8, R7, R6, R5, R4, R3, R2, R1, Q20, Q19, Q18, Q17, Q16, Q15, Q14, Q13, Q12, Q11, Q10, Q9, Q8, Q7, Q6, Q5, Q4, Q3, Q2, Q1, Tbl0])
  have e1 : evM c = (partsE c, okE c) := by unfold evM; rw [if_pos hk]
  cases hok : okE c with
  | false =>
    have e : dropBy nm mod c = c := by unfold dropBy isE; rw [hok]; rfl
    rw [e]
    refine Wcall_K (N := 54) hm hM41 115000 (lsw [46] []) ok115 Tryd.func115 rfl rfl (by simp) (by kernel_rfl) ?_
    repeat' (first | refine ReqK.i hpre fun _ => ?_ | refine ReqK.i (by omega) fun _ => ?_ | refine ReqK.i (by unfold maxL; omega) fun _ => ?_ | refine ReqK.i (fits_of2 (by first | omega | (simp only [List.length_map, List.length_take, List.length_append, List.length_cons, List.length_nil]; omega)) (by decide)) fun _ => ?_ | simp only [go_sem, reduceIte, reduceCtorEq, Nat.reduceEqDiff, Nat.reduceAdd, Nat.reduceSub, Nat.reduceMul, Nat.reduceDiv, Nat.reduceMod, Nat.reduceLT, Nat.reduceLeDiff, Nat.reduceBEq, Nat.reducePow, Int.reduceLE, Int.reduceLT, Int.reduceEq, Int.reduceNeg, Int.reduceAdd, Int.reduceToNat, e1, hok, form_eta, Tryd.f115, M41, M40, M39, M38, V37, V36, V35, V34, V33, V32, V31, V30, V29, R28, R27, R22, R21, R20, R19, R18, R17, R16, R15, R14, R13, R12, R11, R10, R9, R8, R7, R6, R5, R4, R3, R2, R1, Q20, Q19, Q18, Q17, Q16, Q15, Q14, Q13, Q12, Q11, Q10, Q9, Q8, Q7, Q6, Q5, Q4, Q3, Q2, Q1, Tbl0])
  | true =>
    obtain ⟨a, ha⟩ := one_of ((wfE_eq.1 hpre.1).2.1 hk)
    obtain ⟨x0, tl, hx⟩ : ∃ x tl, partsE c = x :: tl := ⟨_, _, parts_cons c⟩
    have hh : headE c = x0 := by unfold headE; rw [hx]; rfl
    have hlen := (partsE_len hpre.1 hk).2
    rw [hx, List.length_cons] at hlen
    rw [hx] at e1
    by_cases hn : x0.name = nm
    rotate_left
    · have e : dropBy nm mod c = c := by unfold dropBy isE; rw [hok, hh, decide_eq_false hn]; rfl
      have hn' : (x0.name = nm) = False := eq_false hn
      rw [e]
      refine Wcall_K (N := 54) hm hM41 115000 (lsw [46] []) ok115 Tryd.func115 rfl rfl (by simp) (by kernel_rfl) ?_
      repeat' (first | refine ReqK.i hpre fun _ => ?_ | refine ReqK.i (by omega) fun _ => ?_ | refine ReqK.i (by unfold maxL; omega) fun _ => ?_ | refine ReqK.i (fits_of2 (by first | omega | (simp only [List.length_map, List.length_take, List.length_append, List.length_cons, List.length_nil]; omega)) (by decide)) fun _ => ?_ | simp only [go_sem, reduceIte, reduceCtorEq, Nat.reduceEqDiff, Nat.reduceAdd, Nat.reduceSub, Nat.reduceMul, Nat.reduceDiv, Nat.reduceMod, Nat.reduceLT, Nat.reduceLeDiff, Nat.reduceBEq, Nat.reducePow, Int.reduceLE, Int.reduceLT, Int.reduceEq, Int.reduceNeg, Int.reduceAdd, Int.reduceToNat, e1, hok, hn', str_eta, form_eta, Tryd.f115, M41, M40, M39, M38, V37, V36, V35, V34, V33, V32, V31, V30, V29, R28, R27, R22, R21, R20, R19, R18, R17, R16, R15, R14, R13, R12, R11, R10, R9, R8, R7, R6, R5, R4, R3, R2, R1, Q20, Q19, Q18, Q17, Q16, Q15, Q14, Q13, Q12, Q11, Q10, Q9, Q8, Q7, Q6, Q5, Q4, Q3, Q2, Q1, Tbl0])
    subst hn
    obtain ⟨y, hy⟩ : ∃ y, predM mod [c.name] = y := ⟨_, rfl⟩
    obtain ⟨K, hK⟩ : ∃ K : Nat → List Abs.Form, K = fun i => x0 :: (tl.take i).filter fun x => !decide (x = y) := ⟨_, rfl⟩
    have hK0 : K 0 = [x0] := by rw [hK]; rfl
    have hKs : ∀ i (h : i < tl.length), K (i + 1) = if tl[i] = y then K i else K i ++ [tl[i]] := fun i h => by
      rw [hK]
      simp only [List.take_succ_eq_append_getElem h, List.filter_append, List.filter_cons, List.filter_nil]
      by_cases h2 : tl[i] = y <;> simp [h2]
    have hKl : ∀ i, (K i).length ≤ tl.length + 1 := fun i => by
      rw [hK]
      have := List.length_filter_le (fun x => !decide (x = y)) (tl.take i)
      rw [List.length_take] at this
      simp only [List.length_cons]; omega
    have hKn : K tl.length ≠ [] := by rw [hK]; simp
    obtain ⟨J, hJ⟩ : ∃ J, joinM 5 (K tl.length) = J := ⟨_, rfl⟩
    have e : dropBy x0.name mod c = .mk 9 c.name [] [J] := by
      have h3 : keepE mod c = K tl.length := by
        unfold keepE
        rw [hh, hx, hK]
        simp only [List.take_length, List.drop_succ_cons, List.drop_zero]
        rw [← hy]; rfl
      unfold dropBy isE
      rw [hok, hh, decide_eq_true rfl, h3, hJ]; rfl
    rw [e]
    have hcut : ∀ y : FD, cutFD (y :: tl.map enc) (1 : Int) ((tl.length : Int) + 1) = tl.map enc := fun y => by
      unfold cutFD
      rw [show ((tl.length : Int) + 1).toNat = tl.length + 1 by omega, List.take_succ_cons, List.take_of_length_le (by rw [List.length_map]; exact Nat.le_refl _)]
      rfl
    have hcut1 : ∀ y : FD, cutFD (y :: tl.map enc) (0 : Int) (1 : Int) = [y] := fun y => rfl
    have hq1 : (1 : Int) = (tl.length : Int) + 1 ∨ ((tl.map enc).getD 0 FD.nilf).cells.length = 4 := by
      cases tl with
      | nil => exact .inl rfl
      | cons x t => exact .inr (by show (enc x).cells.length = 4; rw [enc_form]; rfl)
    have hq2 : (enc x0).cells.length = 4 := by rw [enc_form]; rfl
    have hjp : K tl.length ≠ [] ∧ (K tl.length).length ≤ 1000000 := ⟨hKn, by have := hKl tl.length; omega⟩
    have kK := Kp.mk hKs
    have kL := Kp.mk hKl
    clear hK hKs hKl hKn e
    refine Wcall_K (N := 54) hm hM41 115000 (lsw [46] []) ok115 Tryd.func115 rfl rfl (by simp) (by kernel_rfl) ?_
    repeat' (first | refine ReqK.i hpre fun _ => ?_ | refine ReqK.i ⟨by omega, by omega, hq1⟩ fun _ => ?_ | refine ReqK.i ⟨by omega, by omega, .inr hq2⟩ fun _ => ?_ | refine ReqK.i (by omega) fun _ => ?_ | refine ReqK.i (by unfold maxL; omega) fun _ => ?_ | refine ReqK.i (fits_of2 (by first | omega | (simp only [List.length_map, List.length_take, List.length_append, List.length_cons, List.length_nil]; omega)) (by decide)) fun _ => ?_ | simp only [go_sem, reduceIte, reduceCtorEq, Nat.reduceEqDiff, Nat.reduceAdd, Nat.reduceSub, Nat.reduceMul, Nat.reduceDiv, Nat.reduceMod, Nat.reduceLT, Nat.reduceLeDiff, Nat.reduceBEq, Nat.reducePow, Int.reduceLE, Int.reduceLT, Int.reduceEq, Int.reduceNeg, Int.reduceAdd, Int.reduceToNat, e1, hok, hcut, hcut1, List.length_cons, str_eta, form_eta, Tryd.f115, M41, M40, M39, M38, V37, V36, V35, V34, V33, V32, V31, V30, V29, R28, R27, R22, R21, R20, R19, R18, R17, R16, R15, R14, R13, R12, R11, R10, R9, R8, R7, R6, R5, R4, R3, R2, R1, Q20, Q19, Q18, Q17, Q16, Q15, Q14, Q13, Q12, Q11, Q10, Q9, Q8, Q7, Q6, Q5, Q4, Q3, Q2, Q1, Tbl0])
    refine WK_loop hm hM41 115000 (lsw [46] []) (ι := LoopG tl.length 3 fun _ => True)
      ⟨fun q => ⟨frL [(2, .rp [.s mod.l]), (3, .ptr (115003, 0) 0), (4, .ptr (115004, 1) 0), (7, .ow (115046, q.g) 4 ((K q.i).map enc)), (29, .fz (.sl (tl.map enc))), (30, .fz (.i .i64 tl.length)), (31, .fz (.i .i64 q.i))],
        hpL [((115003, 0), some ⟨[.fz (.i .i64 c.kind), .fz (.s c.name.l), .fz (.sl (c.words.map enc)), .fz (.sl (c.subs.map enc))], true, false⟩), ((115004, 1), some ⟨[.fz (.i .i64 0), .fz (.s []), .full [], .full []], true, false⟩), ((115046, q.g), some tok)], q.m⟩, fun q => tl.length - q.i⟩
      ⟨0, 2, 3, by omega, by omega, by omega, trivial⟩ (by kernel_rfl) ?_ ?_
    · refine Weak_g [] [(115046, 2)] [] ?_ ?_ ?_ ?_ ?_ <;> simp only [go_sem, reduceIte, reduceCtorEq, Nat.reduceEqDiff, Nat.reduceAdd, Nat.reduceSub, Nat.reduceMul, Nat.reduceDiv, Nat.reduceMod, Nat.reduceLT, Nat.reduceLeDiff, Nat.reduceBEq, Nat.reducePow, Int.reduceLE, Int.reduceLT, Int.reduceEq, Int.reduceNeg, Int.reduceAdd, Int.reduceToNat, hK0, hcut, hcut1]
      all_goals first | done | rfl | omega | trace_state
    rintro ⟨i, g, m, hi, hg, hm1, _⟩
    try simp only at hi hg hm1
    rcases Nat.lt_or_ge i tl.length with h1 | h1
    · have hs := kK.out i h1
      have hl := kL.out i
      obtain ⟨x, hxi⟩ : ∃ x, tl[i] = x := ⟨_, rfl⟩
      rw [hxi] at hs
      by_cases hxy : x = y
      · rw [if_pos hxy] at hs
        have hxy' : (x = y) = True := eq_true hxy
        repeat' (first | refine ReqK.i (by omega) fun _ => ?_ | refine ReqK.i (by unfold maxL; omega) fun _ => ?_ | refine ReqK.i (fits_of2 (by first | omega | (simp only [List.length_map, List.length_take, List.length_append, List.length_cons, List.length_nil]; omega)) (by decide)) fun _ => ?_ | simp only [go_sem, reduceIte, reduceCtorEq, Nat.reduceEqDiff, Nat.reduceAdd, Nat.reduceSub, Nat.reduceMul, Nat.reduceDiv, Nat.reduceMod, Nat.reduceLT, Nat.reduceLeDiff, Nat.reduceBEq, Nat.reducePow, Int.reduceLE, Int.reduceLT, Int.reduceEq, Int.reduceNeg, Int.reduceAdd, Int.reduceToNat, h1, hxi, hy, hxy', str_eta, form_eta, getD_map_lt, Tryd.f115, M41, M40, M39, M38, V37, V36, V35, V34, V33, V32, V31, V30, V29, R28, R27, R22, R21, R20, R19, R18, R17, R16, R15, R14, R13, R12, R11, R10, R9, R8, R7, R6, R5, R4, R3, R2, R1, Q20, Q19, Q18, Q17, Q16, Q15, Q14, Q13, Q12, Q11, Q10, Q9, Q8, Q7, Q6, Q5, Q4, Q3, Q2, Q1, Tbl0])
        refine ⟨⟨i + 1, g, m + 3, by omega, by omega, by omega, trivial⟩, by simp only; omega, ?_⟩
        refine Weak_to ?_ ?_ ?_ <;> (try simp only [go_sem, reduceIte, reduceCtorEq, Nat.reduceEqDiff, Nat.reduceAdd, Nat.reduceSub, Nat.reduceMul, Nat.reduceDiv, Nat.reduceMod, Nat.reduceLT, Nat.reduceLeDiff, Nat.reduceBEq, Nat.reducePow, Int.reduceLE, Int.reduceLT, Int.reduceEq, Int.reduceNeg, Int.reduceAdd, Int.reduceToNat, hs])
        all_goals first | done | omega | rfl | trace_state
      · rw [if_neg hxy] at hs
        have hxy' : (x = y) = False := eq_false hxy
        repeat' (first | refine ReqK.i (by omega) fun _ => ?_ | refine ReqK.i (by unfold maxL; omega) fun _ => ?_ | refine ReqK.i (fits_of2 (by first | omega | (simp only [List.length_map, List.length_take, List.length_append, List.length_cons, List.length_nil]; omega)) (by decide)) fun _ => ?_ | simp only [go_sem, reduceIte, reduceCtorEq, Nat.reduceEqDiff, Nat.reduceAdd, Nat.reduceSub, Nat.reduceMul, Nat.reduceDiv, Nat.reduceMod, Nat.reduceLT, Nat.reduceLeDiff, Nat.reduceBEq, Nat.reducePow, Int.reduceLE, Int.reduceLT, Int.reduceEq, Int.reduceNeg, Int.reduceAdd, Int.reduceToNat, h1, hxi, hy, hxy', str_eta, form_eta, getD_map_lt, Tryd.f115, M41, M40, M39, M38, V37, V36, V35, V34, V33, V32, V31, V30, V29, R28, R27, R22, R21, R20, R19, R18, R17, R16, R15, R14, R13, R12, R11, R10, R9, R8, R7, R6, R5, R4, R3, R2, R1, Q20, Q19, Q18, Q17, Q16, Q15, Q14, Q13, Q12, Q11, Q10, Q9, Q8, Q7, Q6, Q5, Q4, Q3, Q2, Q1, Tbl0])
        refine ⟨⟨i + 1, m + 1, m + 5, by omega, by omega, by omega, trivial⟩, by simp only; omega, ?_⟩
        refine Weak_to ?_ ?_ ?_ <;> (try simp only [go_sem, reduceIte, reduceCtorEq, Nat.reduceEqDiff, Nat.reduceAdd, Nat.reduceSub, Nat.reduceMul, Nat.reduceDiv, Nat.reduceMod, Nat.reduceLT, Nat.reduceLeDiff, Nat.reduceBEq, Nat.reducePow, Int.reduceLE, Int.reduceLT, Int.reduceEq, Int.reduceNeg, Int.reduceAdd, Int.reduceToNat, hs, List.map_append])
        all_goals first | done | omega | rfl | trace_state
    · obtain rfl : i = tl.length := by omega
      repeat' (first | refine ReqK.i hjp fun _ => ?_ | refine ReqK.i (by omega) fun _ => ?_ | refine ReqK.i (by unfold maxL; omega) fun _ => ?_ | refine ReqK.i (fits_of2 (by first | omega | (simp only [List.length_map, List.length_take, List.length_append, List.length_cons, List.length_nil]; omega)) (by decide)) fun _ => ?_ | simp only [go_sem, reduceIte, reduceCtorEq, Nat.reduceEqDiff, Nat.reduceAdd, Nat.reduceSub, Nat.reduceMul, Nat.reduceDiv, Nat.reduceMod, Nat.reduceLT, Nat.reduceLeDiff, Nat.reduceBEq, Nat.reducePow, Int.reduceLE, Int.reduceLT, Int.reduceEq, Int.reduceNeg, Int.reduceAdd, Int.reduceToNat, Nat.lt_irrefl, hJ, str_eta, form_eta, Tryd.f115, M41, M40, M39, M38, V37, V36, V35, V34, V33, V32, V31, V30, V29, R28, R27, R22, R21, R20, R19, R18, R17, R16, R15, R14, R13, R12, R11, R10, R9, R8, R7, R6, R5, R4, R3, R2, R1, Q20, Q19, Q18, Q17, Q16, Q15, Q14, Q13, Q12, Q11, Q10, Q9, Q8, Q7, Q6, Q5, Q4, Q3, Q2, Q1, Tbl0])
end Go.Proofs.YtoicheicnbjfeaaDoor

namespace Go.Proofs.YtoicheicnbjfeaaDoor
open Go Go.Abs Go.Proofs

/-! ## event.change with Modify$1 and with Drop$1 -/
def tree1266P : Tv := (.q 0 (.q 2 (.q 3 (.br [(1, (.br [(4, (.q 5 (.br [(6, (.q 7 (.br [(8, .leaf)])))])))])), (4, (.q 1 (.q 5 (.br [(6, (.q 7 (.br [(8, .leaf)])))]))))]))))

set_option maxRecDepth 100000 in
set_option maxHeartbeats 1000000 in
set_option maxHeartbeats 8000000 in
theorem f101Md {nm mod : Str} (hmod : mod.l ≠ []) : ∀ (s : Nat) (f : Abs.Form), f.size ≤ s → f.fit = true → wfE f → f.size ≤ 100000 →
    Wcall Tryd.prog GA 101 [.fz (enc f), .fn 114 [.rp [.s nm.l], .rp [.s mod.l]]] (hpL []) 0 (fun d _ _ => D.val d = some (.fz (enc (changeM (modBy nm mod) f)))) := by
  intro s
  induction s with
  | zero => intro f hs; have := f.size_pos; omega
  | succ s ih =>
    intro f hs hfit hwf hsz
    obtain ⟨R, hR⟩ : ∃ R, changeM (modBy nm mod) f = R := ⟨_, rfl⟩
    obtain ⟨hwl, hsl, hfs⟩ := Form.fit_eq hfit
    have hss : ∀ g ∈ f.subs, g.size ≤ s ∧ g.fit = true ∧ wfE g ∧ g.size ≤ 100000 := fun g hg => ⟨by have := Form.size_sub hg; omega, Form.fits_mem hfs hg, wfE_sub hwf g hg, by have := Form.size_sub hg; omega⟩
    obtain ⟨A, hA⟩ : ∃ A : Nat → List Abs.Form, A = fun j => (f.subs.take j).map (changeM (modBy nm mod)) := ⟨_, rfl⟩
    have hA0 : A 0 = [] := by rw [hA]; rfl
    have hAs : ∀ j (h : j < f.subs.length), A (j + 1) = A j ++ [changeM (modBy nm mod) f.subs[j]] := fun j h => by rw [hA]; simp only [List.take_succ_eq_append_getElem h, List.map_append, List.map_cons, List.map_nil]
    have hAl : ∀ j, (A j).length ≤ f.subs.length := fun j => by rw [hA]; simp only [List.length_map, List.length_take]; omega
    have hRe : (modBy nm mod) (.mk f.kind f.name f.words (A f.subs.length)) = R := by rw [← hR, changeM_eq, hA]; simp only [List.take_length]
    have hAf : A f.subs.length = changeMs (modBy nm mod) f.subs := by rw [hA, changeMs_map]; simp only [List.take_length]
    have hgo : evPre (.mk f.kind f.name f.words (A f.subs.length)) := by
      rw [hAf]
      have h5 := wfE_eq.1 hwf
      refine ⟨?_, ?_⟩
      · rw [wfE]
        exact ⟨by rw [changeMs_map, List.length_map]; exact h5.1, by rw [changeMs_map, List.length_map]; exact h5.2.1, h5.2.2.1, changeMs_wfE (fun f h => modBy_wfE hmod h) f.subs h5.2.2.2⟩
      · have h6 := changeMs_size (c := 2) (by' := (modBy nm mod)) (fun f => modBy_size nm mod f) f.subs
        have h7 : f.size = Form.sizes f.subs + 1 := by cases f; rw [Form.size]; rfl
        rw [Form.size]; omega
    rw [hR]
    have kI := Kp.mk ih
    have kZ := Kp.mk hss
    have kA := Kp.mk hAs
    have kL := Kp.mk hAl
    have kG := Kp.mk hgo
    have kR := Kp.mk hRe
    clear ih hss hfs hfit hA hAs hAl hR hgo hRe hAf
    refine Wcall_K (N := 29) hm hM41 101000 (lsw [23] [1000006]) ok101 Tryd.func101 rfl rfl (by simp) (by kernel_rfl) ?_
    repeat' (first | refine ReqK.i (by omega) fun _ => ?_ | refine ReqK.i (by unfold maxL; omega) fun _ => ?_ | refine ReqK.i (fits_of2 (by first | omega | (simp only [List.length_map, List.length_take, List.length_append, List.length_cons, List.length_nil]; omega)) (by decide)) fun _ => ?_ | simp only [go_sem, reduceIte, reduceCtorEq, Nat.reduceEqDiff, Nat.reduceAdd, Nat.reduceSub, Nat.reduceMul, Nat.reduceDiv, Nat.reduceMod, Nat.reduceLT, Nat.reduceLeDiff, Nat.reduceBEq, Nat.reducePow, Int.reduceLE, Int.reduceLT, Int.reduceEq, Int.reduceNeg, Int.reduceAdd, Int.reduceToNat, Tryd.f101, M41, M40, M39, M38, V37, V36, V35, V34, V33, V32, V31, V30, V29, R28, R27, R22, R21, R20, R19, R18, R17, R16, R15, R14, R13, R12, R11, R10, R9, R8, R7, R6, R5, R4, R3, R2, R1, Q20, Q19, Q18, Q17, Q16, Q15, Q14, Q13, Q12, Q11, Q10, Q9, Q8, Q7, Q6, Q5, Q4, Q3, Q2, Q1, Tbl0])
    refine WK_loop hm hM41 101000 (lsw [23] [1000006]) (ι := LoopG f.subs.length 4 fun _ => True)
      ⟨fun q => ⟨frL [(1, .fn 114 [.rp [.s nm.l], .rp [.s mod.l]]), (4, .ptr (101004, 1) 0), (5, .ptr (101005, 2) 0), (11, .fz (.sl (f.subs.map enc))), (12, .fz (.i .i64 f.subs.length)), (13, .fz (.i .i64 q.i))],
        hpL [((101004, 1), some ⟨[.fz (.i .i64 0), .fz (.s []), .full [], .full []], true, false⟩), ((101005, 2), some ⟨[.fz (.i .i64 f.kind), .fz (.s f.name.l), .fz (.sl (f.words.map enc)), .ow (101023, q.g) 4 ((A q.i).map enc)], true, false⟩), ((101023, q.g), some tok)], q.m⟩, fun q => f.subs.length - q.i⟩
      ⟨0, 3, 4, by omega, by omega, by omega, trivial⟩ (by kernel_rfl) ?_ ?_
    · refine Weak_g [] [(101023, 3)] [] ?_ ?_ ?_ ?_ ?_ <;> simp only [go_sem, reduceIte, reduceCtorEq, Nat.reduceEqDiff, Nat.reduceAdd, Nat.reduceSub, Nat.reduceMul, Nat.reduceDiv, Nat.reduceMod, Nat.reduceLT, Nat.reduceLeDiff, Nat.reduceBEq, Nat.reducePow, Int.reduceLE, Int.reduceLT, Int.reduceEq, Int.reduceNeg, Int.reduceAdd, Int.reduceToNat, hA0]
      all_goals first | done | rfl | omega | trace_state
    rintro ⟨j, g2, m2, hj, hg2, hm2, _⟩
    try simp only at hj hg2 hm2
    rcases Nat.lt_or_ge j f.subs.length with h2 | h2
    · have hmem := List.getElem_mem h2
      obtain ⟨x, hx⟩ : ∃ x, f.subs[j] = x := ⟨_, rfl⟩
      have hz := kZ.out _ hmem
      have hAj := kA.out j h2
      have hAlj := kL.out j
      rw [hx] at hz hAj
      have ih2 := kI.out x hz.1 hz.2.1 hz.2.2.1 hz.2.2.2
      obtain ⟨y, hy⟩ : ∃ y, changeM (modBy nm mod) x = y := ⟨_, rfl⟩
      rw [hy] at hAj ih2
      rw [enc_form (f := x)] at ih2
      have kih := Kp.mk ih2
      clear ih2
      repeat' (first | refine ReqK.i (by omega) fun _ => ?_ | refine ReqK.i (by unfold maxL; omega) fun _ => ?_ | refine ReqK.i (fits_of2 (by first | omega | (simp only [List.length_map, List.length_take, List.length_append, List.length_cons, List.length_nil]; omega)) (by decide)) fun _ => ?_ | simp only [go_sem, reduceIte, reduceCtorEq, Nat.reduceEqDiff, Nat.reduceAdd, Nat.reduceSub, Nat.reduceMul, Nat.reduceDiv, Nat.reduceMod, Nat.reduceLT, Nat.reduceLeDiff, Nat.reduceBEq, Nat.reducePow, Int.reduceLE, Int.reduceLT, Int.reduceEq, Int.reduceNeg, Int.reduceAdd, Int.reduceToNat, h2, hx, getD_map_lt, Tryd.f101, M41, M40, M39, M38, V37, V36, V35, V34, V33, V32, V31, V30, V29, R28, R27, R22, R21, R20, R19, R18, R17, R16, R15, R14, R13, R12, R11, R10, R9, R8, R7, R6, R5, R4, R3, R2, R1, Q20, Q19, Q18, Q17, Q16, Q15, Q14, Q13, Q12, Q11, Q10, Q9, Q8, Q7, Q6, Q5, Q4, Q3, Q2, Q1, Tbl0])
      refine WK_weak2 (Weak_rpL (id := (101007, m2)) (t := 7) (b := true) (ys := [.i .i64 x.kind, .s x.name.l, .sl (x.words.map enc), .sl (x.subs.map enc)]) (by simp only [go_sem, reduceIte, reduceCtorEq, Nat.reduceEqDiff, Nat.reduceAdd, Nat.reduceSub, Nat.reduceMul, Nat.reduceDiv, Nat.reduceMod, Nat.reduceLT, Nat.reduceLeDiff, Nat.reduceBEq, Nat.reducePow, Int.reduceLE, Int.reduceLT, Int.reduceEq, Int.reduceNeg, Int.reduceAdd, Int.reduceToNat]) (by simp only [go_sem, reduceIte, reduceCtorEq, Nat.reduceEqDiff, Nat.reduceAdd, Nat.reduceSub, Nat.reduceMul, Nat.reduceDiv, Nat.reduceMod, Nat.reduceLT, Nat.reduceLeDiff, Nat.reduceBEq, Nat.reducePow, Int.reduceLE, Int.reduceLT, Int.reduceEq, Int.reduceNeg, Int.reduceAdd, Int.reduceToNat])) ?_
      refine WK_drawV hm hM41 101000 (lsw [23] [1000006]) tree1266P (by kernel_rfl) (by kernel_rfl) ?_
      repeat' (first | refine And.intro ?_ ?_ | exact True.intro | refine WcallK.i (Wcall_pu rfl kih.out ?_) | refine ReqK.i (by omega) fun _ => ?_ | refine ReqK.i (by unfold maxL; omega) fun _ => ?_ | refine ReqK.i (fits_of2 (by first | omega | (simp only [List.length_map, List.length_take, List.length_append, List.length_cons, List.length_nil]; omega)) (by decide)) fun _ => ?_ | simp only [go_sem, reduceIte, reduceCtorEq, Nat.reduceEqDiff, Nat.reduceAdd, Nat.reduceSub, Nat.reduceMul, Nat.reduceDiv, Nat.reduceMod, Nat.reduceLT, Nat.reduceLeDiff, Nat.reduceBEq, Nat.reducePow, Int.reduceLE, Int.reduceLT, Int.reduceEq, Int.reduceNeg, Int.reduceAdd, Int.reduceToNat, tree1266P, h2, hx, getD_map_lt, Tryd.f101, M41, M40, M39, M38, V37, V36, V35, V34, V33, V32, V31, V30, V29, R28, R27, R22, R21, R20, R19, R18, R17, R16, R15, R14, R13, R12, R11, R10, R9, R8, R7, R6, R5, R4, R3, R2, R1, Q20, Q19, Q18, Q17, Q16, Q15, Q14, Q13, Q12, Q11, Q10, Q9, Q8, Q7, Q6, Q5, Q4, Q3, Q2, Q1, Tbl0])
      all_goals
        refine ⟨⟨j + 1, m2 + 1, m2 + 5, by omega, by omega, by omega, trivial⟩, by simp only; omega, ?_⟩
        refine Weak_to ?_ ?_ ?_ <;> (try simp only [go_sem, reduceIte, reduceCtorEq, Nat.reduceEqDiff, Nat.reduceAdd, Nat.reduceSub, Nat.reduceMul, Nat.reduceDiv, Nat.reduceMod, Nat.reduceLT, Nat.reduceLeDiff, Nat.reduceBEq, Nat.reducePow, Int.reduceLE, Int.reduceLT, Int.reduceEq, Int.reduceNeg, Int.reduceAdd, Int.reduceToNat, hAj, List.map_append])
        all_goals first | done | omega | rfl | trace_state
    · obtain rfl : j = f.subs.length := by omega
      have hE := kG.out
      have hRe := kR.out
      obtain ⟨AA, hAA⟩ : ∃ AA, A f.subs.length = AA := ⟨_, rfl⟩
      rw [hAA] at hE hRe
      have hc := f114 (nm := nm) (mod := mod) _ hE
      rw [hRe, enc_form (f := .mk f.kind f.name f.words AA)] at hc
      simp only [form_kind, form_name, form_words, form_subs] at hc
      have kc := Kp.mk hc
      clear hc
      repeat' (first | refine WcallK.i (Wcall_pu rfl kc.out ?_) | refine ReqK.i (by omega) fun _ => ?_ | refine ReqK.i (by unfold maxL; omega) fun _ => ?_ | refine ReqK.i (fits_of2 (by first | omega | (simp only [List.length_map, List.length_take, List.length_append, List.length_cons, List.length_nil]; omega)) (by decide)) fun _ => ?_ | simp only [go_sem, reduceIte, reduceCtorEq, Nat.reduceEqDiff, Nat.reduceAdd, Nat.reduceSub, Nat.reduceMul, Nat.reduceDiv, Nat.reduceMod, Nat.reduceLT, Nat.reduceLeDiff, Nat.reduceBEq, Nat.reducePow, Int.reduceLE, Int.reduceLT, Int.reduceEq, Int.reduceNeg, Int.reduceAdd, Int.reduceToNat, Nat.lt_irrefl, hAA, str_eta, form_eta, Tryd.f101, M41, M40, M39, M38, V37, V36, V35, V34, V33, V32, V31, V30, V29, R28, R27, R22, R21, R20, R19, R18, R17, R16, R15, R14, R13, R12, R11, R10, R9, R8, R7, R6, R5, R4, R3, R2, R1, Q20, Q19, Q18, Q17, Q16, Q15, Q14, Q13, Q12, Q11, Q10, Q9, Q8, Q7, Q6, Q5, Q4, Q3, Q2, Q1, Tbl0])

set_option maxRecDepth 100000 in
set_option maxHeartbeats 1000000 in
set_option maxHeartbeats 8000000 in
theorem f101Dr {nm mod : Str} : ∀ (s : Nat) (f : Abs.Form), f.size ≤ s → f.fit = true → wfE f → f.size ≤ 100000 →
    Wcall Tryd.prog GA 101 [.fz (enc f), .fn 115 [.rp [.s nm.l], .rp [.s mod.l]]] (hpL []) 0 (fun d _ _ => D.val d = some (.fz (enc (changeM (dropBy nm mod) f)))) := by
  intro s
  induction s with
  | zero => intro f hs; have := f.size_pos; omega
  | succ s ih =>
    intro f hs hfit hwf hsz
    obtain ⟨R, hR⟩ : ∃ R, changeM (dropBy nm mod) f = R := ⟨_, rfl⟩
    obtain ⟨hwl, hsl, hfs⟩ := Form.fit_eq hfit
    have hss : ∀ g ∈ f.subs, g.size ≤ s ∧ g.fit = true ∧ wfE g ∧ g.size ≤ 100000 := fun g hg => ⟨by have := Form.size_sub hg; omega, Form.fits_mem hfs hg, wfE_sub hwf g hg, by have := Form.size_sub hg; omega⟩
    obtain ⟨A, hA⟩ : ∃ A : Nat → List Abs.Form, A = fun j => (f.subs.take j).map (changeM (dropBy nm mod)) := ⟨_, rfl⟩
    have hA0 : A 0 = [] := by rw [hA]; rfl
    have hAs : ∀ j (h : j < f.subs.length), A (j + 1) = A j ++ [changeM (dropBy nm mod) f.subs[j]] := fun j h => by rw [hA]; simp only [List.take_succ_eq_append_getElem h, List.map_append, List.map_cons, List.map_nil]
    have hAl : ∀ j, (A j).length ≤ f.subs.length := fun j => by rw [hA]; simp only [List.length_map, List.length_take]; omega
    have hRe : (dropBy nm mod) (.mk f.kind f.name f.words (A f.subs.length)) = R := by rw [← hR, changeM_eq, hA]; simp only [List.take_length]
    have hAf : A f.subs.length = changeMs (dropBy nm mod) f.subs := by rw [hA, changeMs_map]; simp only [List.take_length]
    have hgo : evPre (.mk f.kind f.name f.words (A f.subs.length)) := by
      rw [hAf]
      have h5 := wfE_eq.1 hwf
      refine ⟨?_, ?_⟩
      · rw [wfE]
        exact ⟨by rw [changeMs_map, List.length_map]; exact h5.1, by rw [changeMs_map, List.length_map]; exact h5.2.1, h5.2.2.1, changeMs_wfE (fun f h => dropBy_wfE h) f.subs h5.2.2.2⟩
      · have h6 := changeMs_size (c := 0) (by' := (dropBy nm mod)) (fun f => dropBy_size nm mod f) f.subs
        have h7 : f.size = Form.sizes f.subs + 1 := by cases f; rw [Form.size]; rfl
        rw [Form.size]; omega
    rw [hR]
    have kI := Kp.mk ih
    have kZ := Kp.mk hss
    have kA := Kp.mk hAs
    have kL := Kp.mk hAl
    have kG := Kp.mk hgo
    have kR := Kp.mk hRe
    clear ih hss hfs hfit hA hAs hAl hR hgo hRe hAf
    refine Wcall_K (N := 29) hm hM41 101000 (lsw [23] [1000006]) ok101 Tryd.func101 rfl rfl (by simp) (by kernel_rfl) ?_
    repeat' (first | refine ReqK.i (by omega) fun _ => ?_ | refine ReqK.i (by unfold maxL; omega) fun _ => ?_ | refine ReqK.i (fits_of2 (by first | omega | (simp only [List.length_map, List.length_take, List.length_append, List.length_cons, List.length_nil]; omega)) (by decide)) fun _ => ?_ | simp only [go_sem, reduceIte, reduceCtorEq, Nat.reduceEqDiff, Nat.reduceAdd, Nat.reduceSub, Nat.reduceMul, Nat.reduceDiv, Nat.reduceMod, Nat.reduceLT, Nat.reduceLeDiff, Nat.reduceBEq, Nat.reducePow, Int.reduceLE, Int.reduceLT, Int.reduceEq, Int.reduceNeg, Int.reduceAdd, Int.reduceToNat, Tryd.f101, M41, M40, M39, M38, V37, V36, V35, V34, V33, V32, V31, V30, V29, R28, R27, R22, R21, R20, R19, R18, R17, R16, R15, R14, R13, R12, R11, R10, R9, R8, R7, R6, R5, R4, R3, R2, R1, Q20, Q19, Q18, Q17, Q16, Q15, Q14, Q13, Q12, Q11, Q10, Q9, Q8, Q7, Q6, Q5, Q4, Q3, Q2, Q1, Tbl0])
    refine WK_loop hm hM41 101000 (lsw [23] [1000006]) (ι := LoopG f.subs.length 4 fun _ => True)
      ⟨fun q => ⟨frL [(1, .fn 115 [.rp [.s nm.l], .rp [.s mod.l]]), (4, .ptr (101004, 1) 0), (5, .ptr (101005, 2) 0), (11, .fz (.sl (f.subs.map enc))), (12, .fz (.i .i64 f.subs.length)), (13, .fz (.i .i64 q.i))],
        hpL [((101004, 1), some ⟨[.fz (.i .i64 0), .fz (.s []), .full [], .full []], true, false⟩), ((101005, 2), some ⟨[.fz (.i .i64 f.kind), .fz (.s f.name.l), .fz (.sl (f.words.map enc)), .ow (101023, q.g) 4 ((A q.i).map enc)], true, false⟩), ((101023, q.g), some tok)], q.m⟩, fun q => f.subs.length - q.i⟩
      ⟨0, 3, 4, by omega, by omega, by omega, trivial⟩ (by kernel_rfl) ?_ ?_
    · refine Weak_g [] [(101023, 3)] [] ?_ ?_ ?_ ?_ ?_ <;> simp only [go_sem, reduceIte, reduceCtorEq, Nat.reduceEqDiff, Nat.reduceAdd, Nat.reduceSub, Nat.reduceMul, Nat.reduceDiv, Nat.reduceMod, Nat.reduceLT, Nat.reduceLeDiff, Nat.reduceBEq, Nat.reducePow, Int.reduceLE, Int.reduceLT, Int.reduceEq, Int.reduceNeg, Int.reduceAdd, Int.reduceToNat, hA0]
      all_goals first | done | rfl | omega | trace_state
    rintro ⟨j, g2, m2, hj, hg2, hm2, _⟩
    try simp only at hj hg2 hm2
    rcases Nat.lt_or_ge j f.subs.length with h2 | h2
    · have hmem := List.getElem_mem h2
      obtain ⟨x, hx⟩ : ∃ x, f.subs[j] = x := ⟨_, rfl⟩
      have hz := kZ.out _ hmem
      have hAj := kA.out j h2
      have hAlj := kL.out j
      rw [hx] at hz hAj
      have ih2 := kI.out x hz.1 hz.2.1 hz.2.2.1 hz.2.2.2
      obtain ⟨y, hy⟩ : ∃ y, changeM (dropBy nm mod) x = y := ⟨_, rfl⟩
      rw [hy] at hAj ih2
      rw [enc_form (f := x)] at ih2
      have kih := Kp.mk ih2
      clear ih2
      repeat' (first | refine ReqK.i (by omega) fun _ => ?_ | refine ReqK.i (by unfold maxL; omega) fun _ => ?_ | refine ReqK.i (fits_of2 (by first | omega | (simp only [List.length_map, List.length_take, List.length_append, List.length_cons, List.length_nil]; omega)) (by decide)) fun _ => ?_ | simp only [go_sem, reduceIte, reduceCtorEq, Nat.reduceEqDiff, Nat.reduceAdd, Nat.reduceSub, Nat.reduceMul, Nat.reduceDiv, Nat.reduceMod, Nat.reduceLT, Nat.reduceLeDiff, Nat.reduceBEq, Nat.reducePow, Int.reduceLE, Int.reduceLT, Int.reduceEq, Int.reduceNeg, Int.reduceAdd, Int.reduceToNat, h2, hx, getD_map_lt, Tryd.f101, M41, M40, M39, M38, V37, V36, V35, V34, V33, V32, V31, V30, V29, R28, R27, R22, R21, R20, R19, R18, R17, R16, R15, R14, R13, R12, R11, R10, R9, R8, R7, R6, R5, R4, R3, R2, R1, Q20, Q19, Q18, Q17, Q16, Q15, Q14, Q13, Q12, Q11, Q10, Q9, Q8, Q7, Q6, Q5, Q4, Q3, Q2, Q1, Tbl0])
      refine WK_weak2 (Weak_rpL (id := (101007, m2)) (t := 7) (b := true) (ys := [.i .i64 x.kind, .s x.name.l, .sl (x.words.map enc), .sl (x.subs.map enc)]) (by simp only [go_sem, reduceIte, reduceCtorEq, Nat.reduceEqDiff, Nat.reduceAdd, Nat.reduceSub, Nat.reduceMul, Nat.reduceDiv, Nat.reduceMod, Nat.reduceLT, Nat.reduceLeDiff, Nat.reduceBEq, Nat.reducePow, Int.reduceLE, Int.reduceLT, Int.reduceEq, Int.reduceNeg, Int.reduceAdd, Int.reduceToNat]) (by simp only [go_sem, reduceIte, reduceCtorEq, Nat.reduceEqDiff, Nat.reduceAdd, Nat.reduceSub, Nat.reduceMul, Nat.reduceDiv, Nat.reduceMod, Nat.reduceLT, Nat.reduceLeDiff, Nat.reduceBEq, Nat.reducePow, Int.reduceLE, Int.reduceLT, Int.reduceEq, Int.reduceNeg, Int.reduceAdd, Int.reduceToNat])) ?_
      refine WK_drawV hm hM41 101000 (lsw [23] [1000006]) tree1266P (by kernel_rfl) (by kernel_rfl) ?_
      repeat' (first | refine And.intro ?_ ?_ | exact True.intro | refine WcallK.i (Wcall_pu rfl kih.out ?_) | refine ReqK.i (by omega) fun _ => ?_ | refine ReqK.i (by unfold maxL; omega) fun _ => ?_ | refine ReqK.i (fits_of2 (by first | omega | (simp only [List.length_map, List.length_take, List.length_append, List.length_cons, List.length_nil]; omega)) (by decide)) fun _ => ?_ | simp only [go_sem, reduceIte, reduceCtorEq, Nat.reduceEqDiff, Nat.reduceAdd, Nat.reduceSub, Nat.reduceMul, Nat.reduceDiv, Nat.reduceMod, Nat.reduceLT, Nat.reduceLeDiff, Nat.reduceBEq, Nat.reducePow, Int.reduceLE, Int.reduceLT, Int.reduceEq, Int.reduceNeg, Int.reduceAdd, Int.reduceToNat, tree1266P, h2, hx, getD_map_lt, Tryd.f101, M41, M40, M39, M38, V37, V36, V35, V34, V33, V32, V31, V30, V29, R28, R27, R22, R21, R20, R19, R18, R17, R16, R15, R14, R13, R12, R11, R10, R9, R8, R7, R6, R5, R4, R3, R2, R1, Q20, Q19, Q18, Q17, Q16, Q15, Q14, Q13, Q12, Q11, Q10, Q9, Q8, Q7, Q6, Q5, Q4, Q3, Q2, Q1, Tbl0])
      all_goals
        refine ⟨⟨j + 1, m2 + 1, m2 + 5, by omega, by omega, by omega, trivial⟩, by simp only; omega, ?_⟩
        refine Weak_to ?_ ?_ ?_ <;> (try simp only [go_sem, reduceIte, reduceCtorEq, Nat.reduceEqDiff, Nat.reduceAdd, Nat.reduceSub, Nat.reduceMul, Nat.reduceDiv, Nat.reduceMod, Nat.reduceLT, Nat.reduceLeDiff, Nat.reduceBEq, Nat.reducePow, Int.reduceLE, Int.reduceLT, Int.reduceEq, Int.reduceNeg, Int.reduceAdd, Int.reduceToNat, hAj, List.map_append])
        all_goals first | done | omega | rfl | trace_state
    · obtain rfl : j = f.subs.length := by omega
      have hE := kG.out
      have hRe := kR.out
      obtain ⟨AA, hAA⟩ : ∃ AA, A f.subs.length = AA := ⟨_, rfl⟩
      rw [hAA] at hE hRe
      have hc := f115 (nm := nm) (mod := mod) _ hE
      rw [hRe, enc_form (f := .mk f.kind f.name f.words AA)] at hc
      simp only [form_kind, form_name, form_words, form_subs] at hc
      have kc := Kp.mk hc
      clear hc
      repeat' (first | refine WcallK.i (Wcall_pu rfl kc.out ?_) | refine ReqK.i (by omega) fun _ => ?_ | refine ReqK.i (by unfold maxL; omega) fun _ => ?_ | refine ReqK.i (fits_of2 (by first | omega | (simp only [List.length_map, List.length_take, List.length_append, List.length_cons, List.length_nil]; omega)) (by decide)) fun _ => ?_ | simp only [go_sem, reduceIte, reduceCtorEq, Nat.reduceEqDiff, Nat.reduceAdd, Nat.reduceSub, Nat.reduceMul, Nat.reduceDiv, Nat.reduceMod, Nat.reduceLT, Nat.reduceLeDiff, Nat.reduceBEq, Nat.reducePow, Int.reduceLE, Int.reduceLT, Int.reduceEq, Int.reduceNeg, Int.reduceAdd, Int.reduceToNat, Nat.lt_irrefl, hAA, str_eta, form_eta, Tryd.f101, M41, M40, M39, M38, V37, V36, V35, V34, V33, V32, V31, V30, V29, R28, R27, R22, R21, R20, R19, R18, R17, R16, R15, R14, R13, R12, R11, R10, R9, R8, R7, R6, R5, R4, R3, R2, R1, Q20, Q19, Q18, Q17, Q16, Q15, Q14, Q13, Q12, Q11, Q10, Q9, Q8, Q7, Q6, Q5, Q4, Q3, Q2, Q1, Tbl0])

/-! ## Modify and Drop -/
def treeMd : Tv := (.q 0 (.br [(1, (.br [(2, (.br [(3, .leaf)]))])), (2, (.q 1 (.br [(3, .leaf)])))]))
theorem mods_ok {nm mod : Str} {f : Abs.Form} (h : (checkM false f).code = 0) : szPre (changeM (modBy nm mod) f) := by
  refine ⟨changeM_fit (fun f h => modBy_fit h) f (checkM_fit h), ?_⟩
  have h1 := changeM_size (c := 2) (fun f => modBy_size nm mod f) f
  have h2 := checkM_size h
  omega
theorem drops_ok {nm mod : Str} {f : Abs.Form} (h : (checkM false f).code = 0) : szPre (changeM (dropBy nm mod) f) := by
  refine ⟨changeM_fit (fun f h => dropBy_fit h) f (checkM_fit h), ?_⟩
  have h1 := changeM_size (c := 0) (fun f => dropBy_size nm mod f) f
  have h2 := checkM_size h
  omega
theorem checkE_ok {f : Abs.Form} {nm mod : Str} (h : (checkE f nm mod).code = 0) : (checkM false f).code = 0 ∧ isName nm = true ∧ isName mod = true ∧ checkE f nm mod = ⟨0, 0⟩ := by
  unfold checkE at h ⊢
  split at h
  · rename_i h1; exact absurd h h1
  · rename_i h1
    split at h
    · exact absurd h (by decide)
    · rename_i h2
      split at h
      · exact absurd h (by decide)
      · rename_i h3
        refine ⟨Decidable.not_not.1 h1, by simpa using h2, by simpa using h3, ?_⟩
        rw [if_neg h1, if_neg h2, if_neg h3]

def modifyP (f : Abs.Form) (nm mod : Str) : Abs.Form × Fault := if (checkE f nm mod).code ≠ 0 then (zeroF, checkE f nm mod) else (doneF (changeM (modBy nm mod) f), doneE (changeM (modBy nm mod) f))
def M42 : Tbl := M41.add 46 (sp3p modifyP fun _ _ _ => True)
set_option maxRecDepth 100000 in
set_option maxHeartbeats 1000000 in
theorem hM42 : TblOk Tryd.prog GA M42 := by
  refine sp3p_ok ok46 hM41 fun f nm mod _ hw _ _ => ?_
  by_cases hc1 : ¬ (checkE f nm mod).code = 0
  · have e1 : modifyP f nm mod = (zeroF, checkE f nm mod) := by unfold modifyP; rw [if_pos hc1]
    obtain ⟨c, hc⟩ : ∃ c, checkE f nm mod = c := ⟨_, rfl⟩
    rw [hc] at hc1 e1
    simp only [e1, zeroF]
    refine Wcall_K (N := 24) hm hM41 46000 (lst [1000003]) ok46 Tryd.func46 rfl rfl (by simp) (by kernel_rfl) ?_
    repeat' (first | refine WK_drawV hm hM41 46000 (lst [1000003]) treeMd (by kernel_rfl) (by kernel_rfl) ?_ | refine And.intro ?_ ?_ | exact True.intro | refine ReqK.i (by omega) fun _ => ?_ | refine ReqK.i (by unfold maxL; omega) fun _ => ?_ | refine ReqK.i (fits_of2 (by first | omega | (simp only [List.length_map, List.length_take, List.length_append, List.length_cons, List.length_nil]; omega)) (by decide)) fun _ => ?_ | simp only [go_sem, reduceIte, reduceCtorEq, Nat.reduceEqDiff, Nat.reduceAdd, Nat.reduceSub, Nat.reduceMul, Nat.reduceDiv, Nat.reduceMod, Nat.reduceLT, Nat.reduceLeDiff, Nat.reduceBEq, Nat.reducePow, Int.reduceLE, Int.reduceLT, Int.reduceEq, Int.reduceNeg, Int.reduceAdd, Int.reduceToNat, hc1, hc, form_eta, str_eta, treeMd, Tryd.f46, M41, M40, M39, M38, V37, V36, V35, V34, V33, V32, V31, V30, V29, R28, R27, R22, R21, R20, R19, R18, R17, R16, R15, R14, R13, R12, R11, R10, R9, R8, R7, R6, R5, R4, R3, R2, R1, Q20, Q19, Q18, Q17, Q16, Q15, Q14, Q13, Q12, Q11, Q10, Q9, Q8, Q7, Q6, Q5, Q4, Q3, Q2, Q1, Tbl0])
  · have hc1 := Decidable.not_not.1 hc1
    obtain ⟨g1, g2, g3, hck⟩ := checkE_ok hc1
    have e1 : modifyP f nm mod = (doneF (changeM (modBy nm mod) f), doneE (changeM (modBy nm mod) f)) := by unfold modifyP; rw [if_neg (by simp [hc1])]
    have hs := mods_ok (nm := nm) (mod := mod) g1
    have h126 := f101Md (nm := nm) (mod := mod) (name_ne g3) f.size f (Nat.le_refl _) (checkM_fit g1) (checkM_wfE g1) (by have := checkM_size g1; omega)
    obtain ⟨g, hg⟩ : ∃ g, changeM (modBy nm mod) f = g := ⟨_, rfl⟩
    rw [hg] at e1 hs h126
    rw [enc_form (f := f)] at h126
    obtain ⟨c, hc⟩ : ∃ c, doneF g = c := ⟨_, rfl⟩
    simp only [e1, hc]
    refine Wcall_K (N := 24) hm hM41 46000 (lst [1000003]) ok46 Tryd.func46 rfl rfl (by simp) (by kernel_rfl) ?_
    repeat' (first | refine ReqK.i (by omega) fun _ => ?_ | refine ReqK.i (by unfold maxL; omega) fun _ => ?_ | refine ReqK.i (fits_of2 (by first | omega | (simp only [List.length_map, List.length_take, List.length_append, List.length_cons, List.length_nil]; omega)) (by decide)) fun _ => ?_ | simp only [go_sem, reduceIte, reduceCtorEq, Nat.reduceEqDiff, Nat.reduceAdd, Nat.reduceSub, Nat.reduceMul, Nat.reduceDiv, Nat.reduceMod, Nat.reduceLT, Nat.reduceLeDiff, Nat.reduceBEq, Nat.reducePow, Int.reduceLE, Int.reduceLT, Int.reduceEq, Int.reduceNeg, Int.reduceAdd, Int.reduceToNat, hck, form_eta, str_eta, Tryd.f46, M41, M40, M39, M38, V37, V36, V35, V34, V33, V32, V31, V30, V29, R28, R27, R22, R21, R20, R19, R18, R17, R16, R15, R14, R13, R12, R11, R10, R9, R8, R7, R6, R5, R4, R3, R2, R1, Q20, Q19, Q18, Q17, Q16, Q15, Q14, Q13, Q12, Q11, Q10, Q9, Q8, Q7, Q6, Q5, Q4, Q3, Q2, Q1, Tbl0])
    refine WcallK.i (Wcall_rp (46004, 1) [.s nm.l] (b := true) (by simp only [go_sem, reduceIte, reduceCtorEq, Nat.reduceEqDiff, Nat.reduceAdd, Nat.reduceSub, Nat.reduceMul, Nat.reduceDiv, Nat.reduceMod, Nat.reduceLT, Nat.reduceLeDiff, Nat.reduceBEq, Nat.reducePow, Int.reduceLE, Int.reduceLT, Int.reduceEq, Int.reduceNeg, Int.reduceAdd, Int.reduceToNat]) rfl (Wcall_rp (46005, 2) [.s mod.l] (b := true) (by simp only [go_sem, reduceIte, reduceCtorEq, Nat.reduceEqDiff, Nat.reduceAdd, Nat.reduceSub, Nat.reduceMul, Nat.reduceDiv, Nat.reduceMod, Nat.reduceLT, Nat.reduceLeDiff, Nat.reduceBEq, Nat.reducePow, Int.reduceLE, Int.reduceLT, Int.reduceEq, Int.reduceNeg, Int.reduceAdd, Int.reduceToNat]) rfl (Wcall_pu rfl h126 ?_)))
    repeat' (first | refine ReqK.i hs fun _ => ?_ | refine ReqK.i (by omega) fun _ => ?_ | refine ReqK.i (by unfold maxL; omega) fun _ => ?_ | refine ReqK.i (fits_of2 (by first | omega | (simp only [List.length_map, List.length_take, List.length_append, List.length_cons, List.length_nil]; omega)) (by decide)) fun _ => ?_ | simp only [go_sem, reduceIte, reduceCtorEq, Nat.reduceEqDiff, Nat.reduceAdd, Nat.reduceSub, Nat.reduceMul, Nat.reduceDiv, Nat.reduceMod, Nat.reduceLT, Nat.reduceLeDiff, Nat.reduceBEq, Nat.reducePow, Int.reduceLE, Int.reduceLT, Int.reduceEq, Int.reduceNeg, Int.reduceAdd, Int.reduceToNat, hc, form_eta, Tryd.f46, M41, M40, M39, M38, V37, V36, V35, V34, V33, V32, V31, V30, V29, R28, R27, R22, R21, R20, R19, R18, R17, R16, R15, R14, R13, R12, R11, R10, R9, R8, R7, R6, R5, R4, R3, R2, R1, Q20, Q19, Q18, Q17, Q16, Q15, Q14, Q13, Q12, Q11, Q10, Q9, Q8, Q7, Q6, Q5, Q4, Q3, Q2, Q1, Tbl0])

def dropP (f : Abs.Form) (nm mod : Str) : Abs.Form × Fault := if (checkE f nm mod).code ≠ 0 then (zeroF, checkE f nm mod) else (doneF (changeM (dropBy nm mod) f), doneE (changeM (dropBy nm mod) f))
def M43 : Tbl := M42.add 47 (sp3p dropP fun _ _ _ => True)
set_option maxRecDepth 100000 in
set_option maxHeartbeats 1000000 in
theorem hM43 : TblOk Tryd.prog GA M43 := by
  refine sp3p_ok ok47 hM42 fun f nm mod _ hw _ _ => ?_
  by_cases hc1 : ¬ (checkE f nm mod).code = 0
  · have e1 : dropP f nm mod = (zeroF, checkE f nm mod) := by unfold dropP; rw [if_pos hc1]
    obtain ⟨c, hc⟩ : ∃ c, checkE f nm mod = c := ⟨_, rfl⟩
    rw [hc] at hc1 e1
    simp only [e1, zeroF]
    refine Wcall_K (N := 24) hm hM42 47000 (lst [1000003]) ok47 Tryd.func47 rfl rfl (by simp) (by kernel_rfl) ?_
    repeat' (first | refine WK_drawV hm hM42 47000 (lst [1000003]) treeMd (by kernel_rfl) (by kernel_rfl) ?_ | refine And.intro ?_ ?_ | exact True.intro | refine ReqK.i (by omega) fun _ => ?_ | refine ReqK.i (by unfold maxL; omega) fun _ => ?_ | refine ReqK.i (fits_of2 (by first | omega | (simp only [List.length_map, List.length_take, List.length_append, List.length_cons, List.length_nil]; omega)) (by decide)) fun _ => ?_ | simp only [go_sem, reduceIte, reduceCtorEq, Nat.reduceEqDiff, Nat.reduceAdd, Nat.reduceSub, Nat.reduceMul, Nat.reduceDiv, Nat.reduceMod, Nat.reduceLT, Nat.reduceLeDiff, Nat.reduceBEq, Nat.reducePow, Int.reduceLE, Int.reduceLT, Int.reduceEq, Int.reduceNeg, Int.reduceAdd, Int.reduceToNat, hc1, hc, form_eta, str_eta, treeMd, Tryd.f47, M42, M41, M40, M39, M38, V37, V36, V35, V34, V33, V32, V31, V30, V29, R28, R27, R22, R21, R20, R19, R18, R17, R16, R15, R14, R13, R12, R11, R10, R9, R8, R7, R6, R5, R4, R3, R2, R1, Q20, Q19, Q18, Q17, Q16, Q15, Q14, Q13, Q12, Q11, Q10, Q9, Q8, Q7, Q6, Q5, Q4, Q3, Q2, Q1, Tbl0])
  · have hc1 := Decidable.not_not.1 hc1
    obtain ⟨g1, g2, g3, hck⟩ := checkE_ok hc1
    have e1 : dropP f nm mod = (doneF (changeM (dropBy nm mod) f), doneE (changeM (dropBy nm mod) f)) := by unfold dropP; rw [if_neg (by simp [hc1])]
    have hs := drops_ok (nm := nm) (mod := mod) g1
    have h126 := f101Dr (nm := nm) (mod := mod) f.size f (Nat.le_refl _) (checkM_fit g1) (checkM_wfE g1) (by have := checkM_size g1; omega)
    obtain ⟨g, hg⟩ : ∃ g, changeM (dropBy nm mod) f = g := ⟨_, rfl⟩
    rw [hg] at e1 hs h126
    rw [enc_form (f := f)] at h126
    obtain ⟨c, hc⟩ : ∃ c, doneF g = c := ⟨_, rfl⟩
    simp only [e1, hc]
    refine Wcall_K (N := 24) hm hM42 47000 (lst [1000003]) ok47 Tryd.func47 rfl rfl (by simp) (by kernel_rfl) ?_
    repeat' (first | refine ReqK.i (by omega) fun _ => ?_ | refine ReqK.i (by unfold maxL; omega) fun _ => ?_ | refine ReqK.i (fits_of2 (by first | omega | (simp only [List.length_map, List.length_take, List.length_append, List.length_cons, List.length_nil]; omega)) (by decide)) fun _ => ?_ | simp only [go_sem, reduceIte, reduceCtorEq, Nat.reduceEqDiff, Nat.reduceAdd, Nat.reduceSub, Nat.reduceMul, Nat.reduceDiv, Nat.reduceMod, Nat.reduceLT, Nat.reduceLeDiff, Nat.reduceBEq, Nat.reducePow, Int.reduceLE, Int.reduceLT, Int.reduceEq, Int.reduceNeg, Int.reduceAdd, Int.reduceToNat, hck, form_eta, str_eta, Tryd.f47, M42, M41, M40, M39, M38, V37, V36, V35, V34, V33, V32, V31, V30, V29, R28, R27, R22, R21, R20, R19, R18, R17, R16, R15, R14, R13, R12, R11, R10, R9, R8, R7, R6, R5, R4, R3, R2, R1, Q20, Q19, Q18, Q17, Q16, Q15, Q14, Q13, Q12, Q11, Q10, Q9, Q8, Q7, Q6, Q5, Q4, Q3, Q2, Q1, Tbl0])
    refine WcallK.i (Wcall_rp (47004, 1) [.s nm.l] (b := true) (by simp only [go_sem, reduceIte, reduceCtorEq, Nat.reduceEqDiff, Nat.reduceAdd, Nat.reduceSub, Nat.reduceMul, Nat.reduceDiv, Nat.reduceMod, Nat.reduceLT, Nat.reduceLeDiff, Nat.reduceBEq, Nat.reducePow, Int.reduceLE, Int.reduceLT, Int.reduceEq, Int.reduceNeg, Int.reduceAdd, Int.reduceToNat]) rfl (Wcall_rp (47005, 2) [.s mod.l] (b := true) (by simp only [go_sem, reduceIte, reduceCtorEq, Nat.reduceEqDiff, Nat.reduceAdd, Nat.reduceSub, Nat.reduceMul, Nat.reduceDiv, Nat.reduceMod, Nat.reduceLT, Nat.reduceLeDiff, Nat.reduceBEq, Nat.reducePow, Int.reduceLE, Int.reduceLT, Int.reduceEq, Int.reduceNeg, Int.reduceAdd, Int.reduceToNat]) rfl (Wcall_pu rfl h126 ?_)))
    repeat' (first | refine ReqK.i hs fun _ => ?_ | refine ReqK.i (by omega) fun _ => ?_ | refine ReqK.i (by unfold maxL; omega) fun _ => ?_ | refine ReqK.i (fits_of2 (by first | omega | (simp only [List.length_map, List.length_take, List.length_append, List.length_cons, List.length_nil]; omega)) (by decide)) fun _ => ?_ | simp only [go_sem, reduceIte, reduceCtorEq, Nat.reduceEqDiff, Nat.reduceAdd, Nat.reduceSub, Nat.reduceMul, Nat.reduceDiv, Nat.reduceMod, Nat.reduceLT, Nat.reduceLeDiff, Nat.reduceBEq, Nat.reducePow, Int.reduceLE, Int.reduceLT, Int.reduceEq, Int.reduceNeg, Int.reduceAdd, Int.reduceToNat, hc, form_eta, Tryd.f47, M42, M41, M40, M39, M38, V37, V36, V35, V34, V33, V32, V31, V30, V29, R28, R27, R22, R21, R20, R19, R18, R17, R16, R15, R14, R13, R12, R11, R10, R9, R8, R7, R6, R5, R4, R3, R2, R1, Q20, Q19, Q18, Q17, Q16, Q15, Q14, Q13, Q12, Q11, Q10, Q9, Q8, Q7, Q6, Q5, Q4, Q3, Q2, Q1, Tbl0])
end Go.Proofs.YtoicheicnbjfeaaDoor

namespace Go.Abs
open Go
theorem keepD_eq {d : Bool} {mod : Str} {f a : Form} {s : List Form} (hs : f.subs = a :: s) : keepD d mod f = (listM a).getD 0 defF :: ((listM a).drop 1).filter fun x => !gone d mod f x := by
  unfold keepD headE partsE; rw [hs]; rfl
theorem docBy_size (d : Bool) (nm mod : Str) (f : Form) : (docBy d nm mod f).size ≤ f.size + 2 := by
  unfold docBy
  split
  · rename_i h
    obtain ⟨a, s, hs⟩ := ok_sub (isE_ok h).1
    have h1 := keep_size (fun x => !gone d mod f x) a
    have h2 : a.size + 1 ≤ f.size := by have := Form.size_sub (f := f) (g := a) (by rw [hs]; simp); omega
    rw [← keepD_eq (d := d) (mod := mod) hs] at h1
    cases d with
    | true => simp only [if_true, List.append_nil]; rw [Form.size, Form.sizes, Form.sizes]; omega
    | false =>
      simp only [Bool.false_eq_true, if_false]
      rw [joinM_snoc 5 (by unfold keepD; simp)]
      unfold modP
      simp only [Form.size, Form.sizes]; omega
  · omega
theorem keepD_mem {d : Bool} {mod : Str} {f x : Form} (h : x ∈ keepD d mod f) : x ∈ partsE f := by
  rw [parts_cons f]
  unfold keepD at h
  rcases List.mem_cons.1 h with rfl | h
  · simp
  · exact List.mem_cons_of_mem _ (List.mem_filter.1 h).1
theorem docL_mem {d : Bool} {mod : Str} {f x : Form} (h : x ∈ keepD d mod f ++ if d then [] else [modP mod f]) : x ∈ partsE f ∨ x = modP mod f := by
  rcases List.mem_append.1 h with h | h
  · exact .inl (keepD_mem h)
  · cases d with
    | true => simp at h
    | false => simp only [Bool.false_eq_true, if_false, List.mem_singleton] at h; exact .inr h
theorem docBy_fit {d : Bool} {nm mod : Str} {f : Form} (h : f.fit = true) : (docBy d nm mod f).fit = true := by
  unfold docBy
  split
  · have h2 := (Form.fit_eq h).1
    rw [Form.fit, Form.fits, Form.fits, joinM_fit 5 ((fits_mem _).2 fun x hx => ?_), decide_eq_true h2]
    · rfl
    · rcases docL_mem hx with hx | rfl
      · exact (fits_mem _).1 (parts_fit h) x hx
      · rfl
  · exact h
theorem docBy_wfE {d : Bool} {nm mod : Str} {f : Form} (hm : mod.l ≠ []) (h : wfE f) : wfE (docBy d nm mod f) := by
  unfold docBy
  split
  · rename_i hi
    have hk := (okE_kind (isE_ok hi).1).1
    have hp := partsE_wfE h hk
    have hw : ∀ x ∈ keepD d mod f ++ (if d then [] else [modP mod f]), wfE x := fun x hx => by
      rcases docL_mem hx with hx | rfl
      · exact hp x hx
      · unfold modP
        rw [wfE, wfEs]
        exact ⟨fun e => absurd e (by decide), fun e => absurd e (by decide), fun _ => hm, trivial⟩
    rw [wfE, wfEs, wfEs]
    refine ⟨fun e => by omega, fun _ => rfl, fun e => by omega, ?_, trivial⟩
    unfold keepD at hw ⊢
    rw [List.cons_append] at hw ⊢
    exact join_wfE _ _ ((wfEs_mem _).2 fun x hx => hw x (List.mem_cons_of_mem _ hx)) (hw _ (List.mem_cons_self ..))
  · exact h
section
variable {P : Program} {G : Nat → List FD} {T : Tbl}
/-- a recursive function of four arguments, the first of which gets smaller -/
theorem sp4_rec {α β γ δ ρ : Type} [Enc α] [Enc β] [Enc γ] [Enc δ] [Enc ρ] {f : FuncId} {g : α → β → γ → δ → ρ} {pre : α → β → γ → δ → Prop} (m : α → Nat) (hc : CallOk P f) (hT : TblOk P G T)
    (h : ∀ n, TblOk P G (T.add f (sp4 g fun a b c d => m a < n ∧ pre a b c d)) → ∀ a b c d, m a = n → pre a b c d → (enc a).Wf → (enc b).Wf → (enc c).Wf → (enc d).Wf → Wcall P G f [.fz (enc a), .fz (enc b), .fz (enc c), .fz (enc d)] (hpL []) 0 (fun r _ _ => D.val r = some (.fz (enc (g a b c d))))) : TblOk P G (T.add f (sp4 g pre)) := by
  have key : ∀ n, TblOk P G (T.add f (sp4 g fun a b c d => m a < n ∧ pre a b c d)) := by
    intro n
    induction n with
    | zero => exact sp4_ok hc hT fun a b c d ha => by omega
    | succ n ih =>
      refine sp4_ok hc hT fun a b c d ha hw hw2 hw3 hw4 => ?_
      rcases Nat.lt_or_ge (m a) n with h1 | h1
      · have h2 := ih f (sp4 g fun a b c d => m a < n ∧ pre a b c d) [enc a, enc b, enc c, enc d] _ _ (by simp [Tbl.add]) (k_sp4) ⟨by rw [dec_enc], by rw [dec_enc], by rw [dec_enc], by rw [dec_enc], by rw [dec_enc, dec_enc, dec_enc, dec_enc]; exact ⟨h1, ha.2⟩⟩
        rw [dec_enc, dec_enc, dec_enc, dec_enc, H0_eq] at h2
        exact h2
      · exact h n ih a b c d (by omega) ha.2 hw hw2 hw3 hw4
  exact sp4_ok hc hT fun a b c d ha hw hw2 hw3 hw4 => h (m a) (key _) a b c d rfl ha hw hw2 hw3 hw4
end
end Go.Abs
namespace Go.Proofs.YtoicheicnbjfeaaDoor
open Go Go.Abs Go.Proofs

/-! ## S.Modifies -/
theorem nameE_is {f : Abs.Form} {nm : Str} (hn : nm.l ≠ []) : nameE f = nm ↔ isE nm f = true := by
  unfold nameE isE
  cases okE f with
  | true => simp
  | false => simp only [Bool.false_eq_true, if_false, Bool.false_and, iff_false]; intro e; rw [← e] at hn; exact hn rfl
def mdPre (f : Abs.Form) (nm mod : Str) (_ : Bool) : Prop := f.fit = true ∧ wfE f ∧ f.size ≤ 200 ∧ nm.l ≠ [] ∧ mod.l ≠ []
def tree505 : Tv := (.q 0 (.q 1 (.q 2 (.q 3 (.q 4 (.q 5 (.q 6 (.q 7 (.q 8 (.q 9 (.q 10 (.q 11 (.br [(12, (.q 13 (.br [(14, .leaf)])))])))))))))))))
def M44 : Tbl := M43.add 50 (sp4 (fun (f : Abs.Form) nm mod d => changeM (docBy d nm mod) f) mdPre)
set_option maxRecDepth 100000 in
set_option maxHeartbeats 1000000 in
set_option maxHeartbeats 8000000 in
theorem hM44 : TblOk Tryd.prog GA M44 := by
  refine sp4_rec Form.size ok50 hM43 fun n hT f nm mod d hn hpre _ _ _ _ => ?_
  obtain ⟨hfit, hwf, hsz, hnm, hmod⟩ := hpre
  obtain ⟨hwl, hsl, hfs⟩ := Form.fit_eq hfit
  have hsb : ∀ g ∈ f.subs, g.size < n ∧ mdPre g nm mod d := fun g hg => ⟨by have := Form.size_sub hg; omega, Form.fits_mem hfs hg, wfE_sub hwf g hg, by have := Form.size_sub hg; omega, hnm, hmod⟩
  obtain ⟨R, hR⟩ : ∃ R, changeM (docBy d nm mod) f = R := ⟨_, rfl⟩
  obtain ⟨A, hA⟩ : ∃ A : Nat → List Abs.Form, A = fun j => (f.subs.take j).map (changeM (docBy d nm mod)) := ⟨_, rfl⟩
  have hA0 : A 0 = [] := by rw [hA]; rfl
  have hAs : ∀ j (h : j < f.subs.length), A (j + 1) = A j ++ [changeM (docBy d nm mod) f.subs[j]] := fun j h => by rw [hA]; simp only [List.take_succ_eq_append_getElem h, List.map_append, List.map_cons, List.map_nil]
  have hAl : ∀ j, (A j).length ≤ f.subs.length := fun j => by rw [hA]; simp only [List.length_map, List.length_take]; omega
  have hRe : docBy d nm mod (.mk f.kind f.name f.words (A f.subs.length)) = R := by rw [← hR, changeM_eq, hA]; simp only [List.take_length]
  have hAf : A f.subs.length = changeMs (docBy d nm mod) f.subs := by rw [hA, changeMs_map]; simp only [List.take_length]
  have hgo : evPre (.mk f.kind f.name f.words (A f.subs.length)) ∧ (Abs.Form.mk f.kind f.name f.words (A f.subs.length)).size ≤ 900 := by
    rw [hAf]
    have h5 := wfE_eq.1 hwf
    have h8 : (Abs.Form.mk f.kind f.name f.words (changeMs (docBy d nm mod) f.subs)).size ≤ 900 := by
      have h6 := changeMs_size (c := 2) (by' := docBy d nm mod) (fun f => docBy_size d nm mod f) f.subs
      have h7 : f.size = Form.sizes f.subs + 1 := by cases f; rw [Form.size]; rfl
      rw [Form.size]; omega
    refine ⟨⟨?_, by omega⟩, h8⟩
    rw [wfE]
    exact ⟨by rw [changeMs_map, List.length_map]; exact h5.1, by rw [changeMs_map, List.length_map]; exact h5.2.1, h5.2.2.1, changeMs_wfE (fun f h => docBy_wfE hmod h) f.subs h5.2.2.2⟩
  rw [hR]
  have kT := Kp.mk hT
  have kz := Kp.mk hsb
  have kA := Kp.mk hAs
  have kL := Kp.mk hAl
  have kG := Kp.mk hgo
  have kR := Kp.mk hRe
  clear hT hsb hA hAs hAl hR hfit hfs hn hgo hRe hAf
  refine Wcall_K (N := 113) hm kT.out 50000 (lsw [40, 97, 107] [1000005]) ok50 Tryd.func50 rfl rfl (by simp) (by kernel_rfl) ?_
  repeat' (first | refine ReqK.i (by omega) fun _ => ?_ | refine ReqK.i (by unfold maxL; omega) fun _ => ?_ | refine ReqK.i (fits_of2 (by first | omega | (simp only [List.length_map, List.length_take, List.length_append, List.length_cons, List.length_nil]; omega)) (by decide)) fun _ => ?_ | simp only [go_sem, reduceIte, reduceCtorEq, Nat.reduceEqDiff, Nat.reduceAdd, Nat.reduceSub, Nat.reduceMul, Nat.reduceDiv, Nat.reduceMod, Nat.reduceLT, Nat.reduceLeDiff, Nat.reduceBEq, Nat.reducePow, Int.reduceLE, Int.reduceLT, Int.reduceEq, Int.reduceNeg, Int.reduceAdd, Int.reduceToNat, str_eta, form_eta, Tryd.f50, M43, M42, M41, M40, M39, M38, V37, V36, V35, V34, V33, V32, V31, V30, V29, R28, R27, R22, R21, R20, R19, R18, R17, R16, R15, R14, R13, R12, R11, R10, R9, R8, R7, R6, R5, R4, R3, R2, R1, Q20, Q19, Q18, Q17, Q16, Q15, Q14, Q13, Q12, Q11, Q10, Q9, Q8, Q7, Q6, Q5, Q4, Q3, Q2, Q1, Tbl0])
  refine WK_weak2 (Weak_rpL (id := (50004, 0)) (t := 4) (b := true) (ys := [.i .i64 f.kind, .s f.name.l, .sl (f.words.map enc), .sl (f.subs.map enc)]) (by simp only [go_sem, reduceIte, reduceCtorEq, Nat.reduceEqDiff, Nat.reduceAdd, Nat.reduceSub, Nat.reduceMul, Nat.reduceDiv, Nat.reduceMod, Nat.reduceLT, Nat.reduceLeDiff, Nat.reduceBEq, Nat.reducePow, Int.reduceLE, Int.reduceLT, Int.reduceEq, Int.reduceNeg, Int.reduceAdd, Int.reduceToNat]) (by simp only [go_sem, reduceIte, reduceCtorEq, Nat.reduceEqDiff, Nat.reduceAdd, Nat.reduceSub, Nat.reduceMul, Nat.reduceDiv, Nat.reduceMod, Nat.reduceLT, Nat.reduceLeDiff, Nat.reduceBEq, Nat.reducePow, Int.reduceLE, Int.reduceLT, Int.reduceEq, Int.reduceNeg, Int.reduceAdd, Int.reduceToNat])) ?_
  refine WK_loop hm kT.out 50000 (lsw [40, 97, 107] [1000005]) (ι := LoopG f.subs.length 4 fun _ => True)
    ⟨fun q => ⟨frL [(1, .fz (.s nm.l)), (2, .fz (.s mod.l)), (3, .fz (.b d)), (4, .rp [.i .i64 f.kind, .s f.name.l, .sl (f.words.map enc), .sl (f.subs.map enc)]), (8, .ptr (50008, 1) 0), (9, .ptr (50009, 2) 0), (24, .fz (.i .i64 f.subs.length)), (25, .fz (.i .i64 q.i))],
      hpL [((50008, 1), some ⟨[.fz (.i .i64 0), .fz (.s []), .full [], .full []], true, false⟩), ((50009, 2), some ⟨[.fz (.i .i64 f.kind), .fz (.s f.name.l), .fz (.sl (f.words.map enc)), .ow (50040, q.g) 4 ((A q.i).map enc)], true, false⟩), ((50040, q.g), some tok)], q.m⟩, fun q => f.subs.length - q.i⟩
    ⟨0, 3, 4, by omega, by omega, by omega, trivial⟩ (by kernel_rfl) ?_ ?_
  · refine Weak_g [] [(50040, 3)] [] ?_ ?_ ?_ ?_ ?_ <;> simp only [go_sem, reduceIte, reduceCtorEq, Nat.reduceEqDiff, Nat.reduceAdd, Nat.reduceSub, Nat.reduceMul, Nat.reduceDiv, Nat.reduceMod, Nat.reduceLT, Nat.reduceLeDiff, Nat.reduceBEq, Nat.reducePow, Int.reduceLE, Int.reduceLT, Int.reduceEq, Int.reduceNeg, Int.reduceAdd, Int.reduceToNat, hA0]
    all_goals first | done | rfl | omega | trace_state
  rintro ⟨j, g, m, hj, hg, hm1, _⟩
  try simp only at hj hg hm1
  rcases Nat.lt_or_ge j f.subs.length with h1 | h1
  · have hs := kA.out j h1
    have hl := kL.out j
    have hz := kz.out _ (List.getElem_mem h1)
    obtain ⟨x, hx⟩ : ∃ x, f.subs[j] = x := ⟨_, rfl⟩
    rw [hx] at hs hz
    obtain ⟨y, hy⟩ : ∃ y, changeM (docBy d nm mod) x = y := ⟨_, rfl⟩
    rw [hy] at hs
    repeat' (first | refine ReqK.i (by omega) fun _ => ?_ | refine ReqK.i (by unfold maxL; omega) fun _ => ?_ | refine ReqK.i (fits_of2 (by first | omega | (simp only [List.length_map, List.length_take, List.length_append, List.length_cons, List.length_nil]; omega)) (by decide)) fun _ => ?_ | simp only [go_sem, reduceIte, reduceCtorEq, Nat.reduceEqDiff, Nat.reduceAdd, Nat.reduceSub, Nat.reduceMul, Nat.reduceDiv, Nat.reduceMod, Nat.reduceLT, Nat.reduceLeDiff, Nat.reduceBEq, Nat.reducePow, Int.reduceLE, Int.reduceLT, Int.reduceEq, Int.reduceNeg, Int.reduceAdd, Int.reduceToNat, h1, hx, getD_map_lt, Tryd.f50, M43, M42, M41, M40, M39, M38, V37, V36, V35, V34, V33, V32, V31, V30, V29, R28, R27, R22, R21, R20, R19, R18, R17, R16, R15, R14, R13, R12, R11, R10, R9, R8, R7, R6, R5, R4, R3, R2, R1, Q20, Q19, Q18, Q17, Q16, Q15, Q14, Q13, Q12, Q11, Q10, Q9, Q8, Q7, Q6, Q5, Q4, Q3, Q2, Q1, Tbl0])
    refine WK_drawV hm kT.out 50000 (lsw [40, 97, 107] [1000005]) tree505 (by kernel_rfl) (by kernel_rfl) ?_
    repeat' (first | refine And.intro ?_ ?_ | exact True.intro | refine ReqK.i hz fun _ => ?_ | refine ReqK.i (by omega) fun _ => ?_ | refine ReqK.i (by unfold maxL; omega) fun _ => ?_ | refine ReqK.i (fits_of2 (by first | omega | (simp only [List.length_map, List.length_take, List.length_append, List.length_cons, List.length_nil]; omega)) (by decide)) fun _ => ?_ | simp only [go_sem, reduceIte, reduceCtorEq, Nat.reduceEqDiff, Nat.reduceAdd, Nat.reduceSub, Nat.reduceMul, Nat.reduceDiv, Nat.reduceMod, Nat.reduceLT, Nat.reduceLeDiff, Nat.reduceBEq, Nat.reducePow, Int.reduceLE, Int.reduceLT, Int.reduceEq, Int.reduceNeg, Int.reduceAdd, Int.reduceToNat, tree505, h1, hx, hy, str_eta, form_eta, getD_map_lt, Tryd.f50, M43, M42, M41, M40, M39, M38, V37, V36, V35, V34, V33, V32, V31, V30, V29, R28, R27, R22, R21, R20, R19, R18, R17, R16, R15, R14, R13, R12, R11, R10, R9, R8, R7, R6, R5, R4, R3, R2, R1, Q20, Q19, Q18, Q17, Q16, Q15, Q14, Q13, Q12, Q11, Q10, Q9, Q8, Q7, Q6, Q5, Q4, Q3, Q2, Q1, Tbl0])
    all_goals
      refine ⟨⟨j + 1, m, m + 5, by omega, by omega, by omega, trivial⟩, by simp only; omega, ?_⟩
      refine Weak_to ?_ ?_ ?_ <;> (try simp only [go_sem, reduceIte, reduceCtorEq, Nat.reduceEqDiff, Nat.reduceAdd, Nat.reduceSub, Nat.reduceMul, Nat.reduceDiv, Nat.reduceMod, Nat.reduceLT, Nat.reduceLeDiff, Nat.reduceBEq, Nat.reducePow, Int.reduceLE, Int.reduceLT, Int.reduceEq, Int.reduceNeg, Int.reduceAdd, Int.reduceToNat, hs, List.map_append])
      all_goals first | done | omega | rfl | trace_state
  obtain rfl : j = f.subs.length := by omega
  obtain ⟨hE, hEs⟩ := kG.out
  have hRe := kR.out
  obtain ⟨AA, hAA⟩ : ∃ AA, A f.subs.length = AA := ⟨_, rfl⟩
  rw [hAA] at hE hEs hRe
  obtain ⟨c, hc⟩ : ∃ c, Abs.Form.mk f.kind f.name f.words AA = c := ⟨_, rfl⟩
  have cn : c.name = f.name := by rw [← hc]; rfl
  have ck : c.kind = f.kind := by rw [← hc]; rfl
  have cw : c.words = f.words := by rw [← hc]; rfl
  have cs : c.subs = AA := by rw [← hc]; rfl
  have cE : evPre c := by rw [← hc]; exact hE
  have cz : c.size ≤ 900 := by rw [← hc]; exact hEs
  obtain ⟨N, hN⟩ : ∃ N, nameE c = N := ⟨_, rfl⟩
  by_cases hi : isE nm c = true
  rotate_left
  · have hNn : (N = nm) = False := eq_false fun e => hi ((nameE_is hnm).1 (hN.trans e))
    have e : R = c := by rw [← hRe, hc]; unfold docBy; rw [if_neg hi]
    rw [e, ← hc]
    have hN2 : nameE (.mk f.kind f.name f.words AA) = N := by rw [hc]; exact hN
    repeat' (first | refine ReqK.i hE fun _ => ?_ | refine ReqK.i cE fun _ => ?_ | refine ReqK.i (by omega) fun _ => ?_ | refine ReqK.i (by unfold maxL; omega) fun _ => ?_ | refine ReqK.i (fits_of2 (by first | omega | (simp only [List.length_map, List.length_take, List.length_append, List.length_cons, List.length_nil]; omega)) (by decide)) fun _ => ?_ | simp only [go_sem, reduceIte, reduceCtorEq, Nat.reduceEqDiff, Nat.reduceAdd, Nat.reduceSub, Nat.reduceMul, Nat.reduceDiv, Nat.reduceMod, Nat.reduceLT, Nat.reduceLeDiff, Nat.reduceBEq, Nat.reducePow, Int.reduceLE, Int.reduceLT, Int.reduceEq, Int.reduceNeg, Int.reduceAdd, Int.reduceToNat, Nat.lt_irrefl, hAA, hN2, hNn, str_eta, form_eta, Tryd.f50, M43, M42, M41, M40, M39, M38, V37, V36, V35, V34, V33, V32, V31, V30, V29, R28, R27, R22, R21, R20, R19, R18, R17, R16, R15, R14, R13, R12, R11, R10, R9, R8, R7, R6, R5, R4, R3, R2, R1, Q20, Q19, Q18, Q17, Q16, Q15, Q14, Q13, Q12, Q11, Q10, Q9, Q8, Q7, Q6, Q5, Q4, Q3, Q2, Q1, Tbl0])
  have hNn : N = nm := hN.symm.trans ((nameE_is hnm).2 hi)
  have hok := (isE_ok hi).1
  have hk9 : c.kind = 9 := (okE_kind hok).1
  obtain ⟨a, ha⟩ := one_of ((wfE_eq.1 cE.1).2.1 hk9)
  have hAa : AA = [a] := by rw [← cs, ha]
  have hpa : evPre a := ⟨wfE_sub cE.1 a (by rw [ha]; simp), by have := Form.size_sub (f := c) (g := a) (by rw [ha]; simp); omega⟩
  obtain ⟨x0, tl, hx⟩ : ∃ x tl, partsE c = x :: tl := ⟨_, _, parts_cons c⟩
  have hla : listM a = x0 :: tl := by rw [← hx]; unfold partsE; rw [ha]; rfl
  have hh : headE c = x0 := by unfold headE; rw [hx]; rfl
  have hlen := (partsE_len cE.1 hk9).2
  rw [hx, List.length_cons] at hlen
  obtain ⟨K, hK⟩ : ∃ K : Nat → List Abs.Form, K = fun i => x0 :: (tl.take i).filter fun x => !gone d mod c x := ⟨_, rfl⟩
  have hK0 : K 0 = [x0] := by rw [hK]; rfl
  have hKs : ∀ i (h : i < tl.length), K (i + 1) = if gone d mod c tl[i] = true then K i else K i ++ [tl[i]] := fun i h => by
    rw [hK]
    simp only [List.take_succ_eq_append_getElem h, List.filter_append, List.filter_cons, List.filter_nil]
    cases h2 : gone d mod c tl[i] <;> simp
  have hKl : ∀ i, (K i).length ≤ tl.length + 1 := fun i => by
    rw [hK]
    have := List.length_filter_le (fun x => !gone d mod c x) (tl.take i)
    rw [List.length_take] at this
    simp only [List.length_cons]; omega
  have hKn : K tl.length ≠ [] := by rw [hK]; simp
  have hKe : keepD d mod c = K tl.length := by
    unfold keepD
    rw [hh, hx, hK]
    simp only [List.take_length, List.drop_succ_cons, List.drop_zero]
  have eR : R = .mk f.kind f.name f.words [joinM 5 (K tl.length ++ if d then [] else [modP mod c])] := by
    rw [← hRe, hc]; unfold docBy; rw [if_pos hi, hKe, ck, cn, cw]
  have hgd : ∀ x, gone d mod c x = (d && decide (x.kind = 2) && decide (x.name = mod) && decide (x.words.length = 1) && decide (x.words.getD 0 ⟨[]⟩ = f.name)) := fun x => by unfold gone; rw [cn]
  rw [hAa] at hc hE
  have hN2 : nameE (.mk f.kind f.name f.words [a]) = N := by rw [hc]; exact hN
  obtain ⟨J, hJ⟩ : ∃ J, joinM 5 (K tl.length ++ if d then [] else [modP mod c]) = J := ⟨_, rfl⟩
  rw [eR, hJ]
  have kK := Kp.mk hKs
  have kKl := Kp.mk hKl
  have kg := Kp.mk hgd
  have kJ := Kp.mk hJ
  clear hK hKs hKl hKe hRe hgd hJ eR hi hok hx hh
  repeat' (first | refine ReqK.i hE fun _ => ?_ | refine ReqK.i cE fun _ => ?_ | refine ReqK.i hpa fun _ => ?_ | refine ReqK.i (by omega) fun _ => ?_ | refine ReqK.i (by unfold maxL; omega) fun _ => ?_ | refine ReqK.i (fits_of2 (by first | omega | (simp only [List.length_map, List.length_take, List.length_append, List.length_cons, List.length_nil]; omega)) (by decide)) fun _ => ?_ | simp only [go_sem, reduceIte, reduceCtorEq, Nat.reduceEqDiff, Nat.reduceAdd, Nat.reduceSub, Nat.reduceMul, Nat.reduceDiv, Nat.reduceMod, Nat.reduceLT, Nat.reduceLeDiff, Nat.reduceBEq, Nat.reducePow, Int.reduceLE, Int.reduceLT, Int.reduceEq, Int.reduceNeg, Int.reduceAdd, Int.reduceToNat, Nat.lt_irrefl, hAA, hAa, hN2, hNn, hla, str_eta, form_eta, Tryd.f50, M43, M42, M41, M40, M39, M38, V37, V36, V35, V34, V33, V32, V31, V30, V29, R28, R27, R22, R21, R20, R19, R18, R17, R16, R15, R14, R13, R12, R11, R10, R9, R8, R7, R6, R5, R4, R3, R2, R1, Q20, Q19, Q18, Q17, Q16, Q15, Q14, Q13, Q12, Q11, Q10, Q9, Q8, Q7, Q6, Q5, Q4, Q3, Q2, Q1, Tbl0])
  refine WK_loop hm kT.out 50000 (lsw [40, 97, 107] [1000005]) (ι := LoopG tl.length (m + 1) fun _ => True)
    ⟨fun q => ⟨frL [(1, .fz (.s nm.l)), (2, .fz (.s mod.l)), (3, .fz (.b d)), (8, .ptr (50008, 1) 0), (9, .ptr (50009, 2) 0), (11, .fz (.sl (enc x0 :: tl.map enc))), (12, .ow (50097, q.g) 4 ((K q.i).map enc)), (13, .fz (.i .i64 ((q.i : Int) + 1)))],
      hpL [((50008, 1), some ⟨[.fz (.i .i64 0), .fz (.s []), .full [], .full []], true, false⟩), ((50009, 2), some ⟨[.fz (.i .i64 f.kind), .fz (.s f.name.l), .fz (.sl (f.words.map enc)), .ow (50040, g) 4 ([enc a])], true, false⟩), ((50040, g), some tok), ((50097, q.g), some tok)], q.m⟩, fun q => tl.length - q.i⟩
    ⟨0, m + 0, m + 1, by omega, by omega, by omega, trivial⟩ (by kernel_rfl) ?_ ?_
  · refine Weak_g [] [(50097, m + 0)] [] ?_ ?_ ?_ ?_ ?_ <;> simp only [go_sem, reduceIte, reduceCtorEq, Nat.reduceEqDiff, Nat.reduceAdd, Nat.reduceSub, Nat.reduceMul, Nat.reduceDiv, Nat.reduceMod, Nat.reduceLT, Nat.reduceLeDiff, Nat.reduceBEq, Nat.reducePow, Int.reduceLE, Int.reduceLT, Int.reduceEq, Int.reduceNeg, Int.reduceAdd, Int.reduceToNat, hK0]
    all_goals first | done | rfl | omega | trace_state
  rintro ⟨i, g3, m3, hi3, hg3, hm3, _⟩
  try simp only at hi3 hg3 hm3
  rcases Nat.lt_or_ge i tl.length with h2 | h2
  · have hs := kK.out i h2
    have hl := kKl.out i
    have hgx := kg.out tl[i]
    obtain ⟨x, hxi⟩ : ∃ x, tl[i] = x := ⟨_, rfl⟩
    rw [hxi] at hs hgx
    have hlt : (i : Int) + 1 < (tl.length : Int) + 1 := by omega
    have hnat : ((i : Int) + 1).toNat = i + 1 := by omega
    cases d with
    | false =>
      rw [if_neg (by rw [hgx]; simp [])] at hs
      repeat' (first | refine ReqK.i (by omega) fun _ => ?_ | refine ReqK.i (by unfold maxL; omega) fun _ => ?_ | refine ReqK.i (fits_of2 (by first | omega | (simp only [List.length_map, List.length_take, List.length_append, List.length_cons, List.length_nil]; omega)) (by decide)) fun _ => ?_ | simp only [go_sem, reduceIte, reduceCtorEq, Nat.reduceEqDiff, Nat.reduceAdd, Nat.reduceSub, Nat.reduceMul, Nat.reduceDiv, Nat.reduceMod, Nat.reduceLT, Nat.reduceLeDiff, Nat.reduceBEq, Nat.reducePow, Int.reduceLE, Int.reduceLT, Int.reduceEq, Int.reduceNeg, Int.reduceAdd, Int.reduceToNat, h2, hxi, hlt, hnat, List.length_cons, List.getD_cons_succ, str_eta, form_eta, getD_map_lt, Tryd.f50, M43, M42, M41, M40, M39, M38, V37, V36, V35, V34, V33, V32, V31, V30, V29, R28, R27, R22, R21, R20, R19, R18, R17, R16, R15, R14, R13, R12, R11, R10, R9, R8, R7, R6, R5, R4, R3, R2, R1, Q20, Q19, Q18, Q17, Q16, Q15, Q14, Q13, Q12, Q11, Q10, Q9, Q8, Q7, Q6, Q5, Q4, Q3, Q2, Q1, Tbl0])
      refine ⟨⟨i + 1, m3 + 1, m3 + 9, by omega, by omega, by omega, trivial⟩, by simp only; omega, ?_⟩
      refine Weak_to ?_ ?_ ?_ <;> (try simp only [go_sem, reduceIte, reduceCtorEq, Nat.reduceEqDiff, Nat.reduceAdd, Nat.reduceSub, Nat.reduceMul, Nat.reduceDiv, Nat.reduceMod, Nat.reduceLT, Nat.reduceLeDiff, Nat.reduceBEq, Nat.reducePow, Int.reduceLE, Int.reduceLT, Int.reduceEq, Int.reduceNeg, Int.reduceAdd, Int.reduceToNat, hs, List.map_append])
      all_goals first | done | omega | rfl | trace_state
    | true =>
      by_cases c1 : x.kind = 2
      rotate_left
      · have c1' : (x.kind = 2) = False := eq_false c1
        rw [if_neg (by rw [hgx]; simp [c1])] at hs
        repeat' (first | refine ReqK.i (by omega) fun _ => ?_ | refine ReqK.i (by unfold maxL; omega) fun _ => ?_ | refine ReqK.i (fits_of2 (by first | omega | (simp only [List.length_map, List.length_take, List.length_append, List.length_cons, List.length_nil]; omega)) (by decide)) fun _ => ?_ | simp only [go_sem, reduceIte, reduceCtorEq, Nat.reduceEqDiff, Nat.reduceAdd, Nat.reduceSub, Nat.reduceMul, Nat.reduceDiv, Nat.reduceMod, Nat.reduceLT, Nat.reduceLeDiff, Nat.reduceBEq, Nat.reducePow, Int.reduceLE, Int.reduceLT, Int.reduceEq, Int.reduceNeg, Int.reduceAdd, Int.reduceToNat, c1', h2, hxi, hlt, hnat, List.length_cons, List.getD_cons_succ, str_eta, form_eta, getD_map_lt, Tryd.f50, M43, M42, M41, M40, M39, M38, V37, V36, V35, V34, V33, V32, V31, V30, V29, R28, R27, R22, R21, R20, R19, R18, R17, R16, R15, R14, R13, R12, R11, R10, R9, R8, R7, R6, R5, R4, R3, R2, R1, Q20, Q19, Q18, Q17, Q16, Q15, Q14, Q13, Q12, Q11, Q10, Q9, Q8, Q7, Q6, Q5, Q4, Q3, Q2, Q1, Tbl0])
        refine ⟨⟨i + 1, m3 + 1, m3 + 9, by omega, by omega, by omega, trivial⟩, by simp only; omega, ?_⟩
        refine Weak_to ?_ ?_ ?_ <;> (try simp only [go_sem, reduceIte, reduceCtorEq, Nat.reduceEqDiff, Nat.reduceAdd, Nat.reduceSub, Nat.reduceMul, Nat.reduceDiv, Nat.reduceMod, Nat.reduceLT, Nat.reduceLeDiff, Nat.reduceBEq, Nat.reducePow, Int.reduceLE, Int.reduceLT, Int.reduceEq, Int.reduceNeg, Int.reduceAdd, Int.reduceToNat, hs, List.map_append])
        all_goals first | done | omega | rfl | trace_state
      by_cases c2 : x.name = mod
      rotate_left
      · have c2' : (x.name = mod) = False := eq_false c2
        rw [if_neg (by rw [hgx]; simp [c2])] at hs
        repeat' (first | refine ReqK.i (by omega) fun _ => ?_ | refine ReqK.i (by unfold maxL; omega) fun _ => ?_ | refine ReqK.i (fits_of2 (by first | omega | (simp only [List.length_map, List.length_take, List.length_append, List.length_cons, List.length_nil]; omega)) (by decide)) fun _ => ?_ | simp only [go_sem, reduceIte, reduceCtorEq, Nat.reduceEqDiff, Nat.reduceAdd, Nat.reduceSub, Nat.reduceMul, Nat.reduceDiv, Nat.reduceMod, Nat.reduceLT, Nat.reduceLeDiff, Nat.reduceBEq, Nat.reducePow, Int.reduceLE, Int.reduceLT, Int.reduceEq, Int.reduceNeg, Int.reduceAdd, Int.reduceToNat, c1, c2', h2, hxi, hlt, hnat, List.length_cons, List.getD_cons_succ, str_eta, form_eta, getD_map_lt, Tryd.f50, M43, M42, M41, M40, M39, M38, V37, V36, V35, V34, V33, V32, V31, V30, V29, R28, R27, R22, R21, R20, R19, R18, R17, R16, R15, R14, R13, R12, R11, R10, R9, R8, R7, R6, R5, R4, R3, R2, R1, Q20, Q19, Q18, Q17, Q16, Q15, Q14, Q13, Q12, Q11, Q10, Q9, Q8, Q7, Q6, Q5, Q4, Q3, Q2, Q1, Tbl0])
        refine ⟨⟨i + 1, m3 + 1, m3 + 9, by omega, by omega, by omega, trivial⟩, by simp only; omega, ?_⟩
        refine Weak_to ?_ ?_ ?_ <;> (try simp only [go_sem, reduceIte, reduceCtorEq, Nat.reduceEqDiff, Nat.reduceAdd, Nat.reduceSub, Nat.reduceMul, Nat.reduceDiv, Nat.reduceMod, Nat.reduceLT, Nat.reduceLeDiff, Nat.reduceBEq, Nat.reducePow, Int.reduceLE, Int.reduceLT, Int.reduceEq, Int.reduceNeg, Int.reduceAdd, Int.reduceToNat, hs, c1, List.map_append])
        all_goals first | done | omega | rfl | trace_state
      by_cases c3 : x.words.length = 1
      rotate_left
      · have c3' : ((x.words.length : Int) = 1) = False := eq_false (by omega)
        rw [if_neg (by rw [hgx]; simp [c3])] at hs
        repeat' (first | refine ReqK.i (by omega) fun _ => ?_ | refine ReqK.i (by unfold maxL; omega) fun _ => ?_ | refine ReqK.i (fits_of2 (by first | omega | (simp only [List.length_map, List.length_take, List.length_append, List.length_cons, List.length_nil]; omega)) (by decide)) fun _ => ?_ | simp only [go_sem, reduceIte, reduceCtorEq, Nat.reduceEqDiff, Nat.reduceAdd, Nat.reduceSub, Nat.reduceMul, Nat.reduceDiv, Nat.reduceMod, Nat.reduceLT, Nat.reduceLeDiff, Nat.reduceBEq, Nat.reducePow, Int.reduceLE, Int.reduceLT, Int.reduceEq, Int.reduceNeg, Int.reduceAdd, Int.reduceToNat, c1, c2, c3', h2, hxi, hlt, hnat, List.length_cons, List.getD_cons_succ, str_eta, form_eta, getD_map_lt, Tryd.f50, M43, M42, M41, M40, M39, M38, V37, V36, V35, V34, V33, V32, V31, V30, V29, R28, R27, R22, R21, R20, R19, R18, R17, R16, R15, R14, R13, R12, R11, R10, R9, R8, R7, R6, R5, R4, R3, R2, R1, Q20, Q19, Q18, Q17, Q16, Q15, Q14, Q13, Q12, Q11, Q10, Q9, Q8, Q7, Q6, Q5, Q4, Q3, Q2, Q1, Tbl0])
        refine ⟨⟨i + 1, m3 + 1, m3 + 9, by omega, by omega, by omega, trivial⟩, by simp only; omega, ?_⟩
        refine Weak_to ?_ ?_ ?_ <;> (try simp only [go_sem, reduceIte, reduceCtorEq, Nat.reduceEqDiff, Nat.reduceAdd, Nat.reduceSub, Nat.reduceMul, Nat.reduceDiv, Nat.reduceMod, Nat.reduceLT, Nat.reduceLeDiff, Nat.reduceBEq, Nat.reducePow, Int.reduceLE, Int.reduceLT, Int.reduceEq, Int.reduceNeg, Int.reduceAdd, Int.reduceToNat, hs, c1, c2, List.map_append])
        all_goals first | done | omega | rfl | trace_state
      obtain ⟨w, hw⟩ : ∃ w, x.words = [w] := by
        match h : x.words, c3 with
        | [w], _ => exact ⟨w, rfl⟩
      by_cases c4 : w = f.name
      rotate_left
      · have c4' : (w = f.name) = False := eq_false c4
        rw [if_neg (by rw [hgx]; simp [hw, c4])] at hs
        repeat' (first | refine ReqK.i (by omega) fun _ => ?_ | refine ReqK.i (by unfold maxL; omega) fun _ => ?_ | refine ReqK.i (fits_of2 (by first | omega | (simp only [List.length_map, List.length_take, List.length_append, List.length_cons, List.length_nil]; omega)) (by decide)) fun _ => ?_ | simp only [go_sem, reduceIte, reduceCtorEq, Nat.reduceEqDiff, Nat.reduceAdd, Nat.reduceSub, Nat.reduceMul, Nat.reduceDiv, Nat.reduceMod, Nat.reduceLT, Nat.reduceLeDiff, Nat.reduceBEq, Nat.reducePow, Int.reduceLE, Int.reduceLT, Int.reduceEq, Int.reduceNeg, Int.reduceAdd, Int.reduceToNat, c1, c2, hw, c4', h2, hxi, hlt, hnat, List.length_cons, List.getD_cons_succ, str_eta, form_eta, getD_map_lt, Tryd.f50, M43, M42, M41, M40, M39, M38, V37, V36, V35, V34, V33, V32, V31, V30, V29, R28, R27, R22, R21, R20, R19, R18, R17, R16, R15, R14, R13, R12, R11, R10, R9, R8, R7, R6, R5, R4, R3, R2, R1, Q20, Q19, Q18, Q17, Q16, Q15, Q14, Q13, Q12, Q11, Q10, Q9, Q8, Q7, Q6, Q5, Q4, Q3, Q2, Q1, Tbl0])
        refine ⟨⟨i + 1, m3 + 1, m3 + 9, by omega, by omega, by omega, trivial⟩, by simp only; omega, ?_⟩
        refine Weak_to ?_ ?_ ?_ <;> (try simp only [go_sem, reduceIte, reduceCtorEq, Nat.reduceEqDiff, Nat.reduceAdd, Nat.reduceSub, Nat.reduceMul, Nat.reduceDiv, Nat.reduceMod, Nat.reduceLT, Nat.reduceLeDiff, Nat.reduceBEq, Nat.reducePow, Int.reduceLE, Int.reduceLT, Int.reduceEq, Int.reduceNeg, Int.reduceAdd, Int.reduceToNat, hs, c1, c2, hw, List.map_append])
        all_goals first | done | omega | rfl | trace_state
      rw [if_pos (by rw [hgx]; simp [c1, c2, hw, c4])] at hs
      repeat' (first | refine ReqK.i (by omega) fun _ => ?_ | refine ReqK.i (by unfold maxL; omega) fun _ => ?_ | refine ReqK.i (fits_of2 (by first | omega | (simp only [List.length_map, List.length_take, List.length_append, List.length_cons, List.length_nil]; omega)) (by decide)) fun _ => ?_ | simp only [go_sem, reduceIte, reduceCtorEq, Nat.reduceEqDiff, Nat.reduceAdd, Nat.reduceSub, Nat.reduceMul, Nat.reduceDiv, Nat.reduceMod, Nat.reduceLT, Nat.reduceLeDiff, Nat.reduceBEq, Nat.reducePow, Int.reduceLE, Int.reduceLT, Int.reduceEq, Int.reduceNeg, Int.reduceAdd, Int.reduceToNat, c1, c2, hw, c4, h2, hxi, hlt, hnat, List.length_cons, List.getD_cons_succ, str_eta, form_eta, getD_map_lt, Tryd.f50, M43, M42, M41, M40, M39, M38, V37, V36, V35, V34, V33, V32, V31, V30, V29, R28, R27, R22, R21, R20, R19, R18, R17, R16, R15, R14, R13, R12, R11, R10, R9, R8, R7, R6, R5, R4, R3, R2, R1, Q20, Q19, Q18, Q17, Q16, Q15, Q14, Q13, Q12, Q11, Q10, Q9, Q8, Q7, Q6, Q5, Q4, Q3, Q2, Q1, Tbl0])
      refine ⟨⟨i + 1, g3, m3 + 9, by omega, by omega, by omega, trivial⟩, by simp only; omega, ?_⟩
      refine Weak_to ?_ ?_ ?_ <;> (try simp only [go_sem, reduceIte, reduceCtorEq, Nat.reduceEqDiff, Nat.reduceAdd, Nat.reduceSub, Nat.reduceMul, Nat.reduceDiv, Nat.reduceMod, Nat.reduceLT, Nat.reduceLeDiff, Nat.reduceBEq, Nat.reducePow, Int.reduceLE, Int.reduceLT, Int.reduceEq, Int.reduceNeg, Int.reduceAdd, Int.reduceToNat, hs])
      all_goals first | done | omega | rfl | trace_state
  obtain rfl : i = tl.length := by omega
  have hlt : ¬ (tl.length : Int) + 1 < (tl.length : Int) + 1 := by omega
  have hJ := kJ.out
  have hl := kKl.out tl.length
  cases d with
  | true =>
    simp only [if_true, List.append_nil] at hJ
    have hjp : joinPre 5 (K tl.length) := ⟨hKn, by omega⟩
    repeat' (first | refine ReqK.i hjp fun _ => ?_ | refine ReqK.i (by omega) fun _ => ?_ | refine ReqK.i (by unfold maxL; omega) fun _ => ?_ | refine ReqK.i (fits_of2 (by first | omega | (simp only [List.length_map, List.length_take, List.length_append, List.length_cons, List.length_nil]; omega)) (by decide)) fun _ => ?_ | simp only [go_sem, reduceIte, reduceCtorEq, Nat.reduceEqDiff, Nat.reduceAdd, Nat.reduceSub, Nat.reduceMul, Nat.reduceDiv, Nat.reduceMod, Nat.reduceLT, Nat.reduceLeDiff, Nat.reduceBEq, Nat.reducePow, Int.reduceLE, Int.reduceLT, Int.reduceEq, Int.reduceNeg, Int.reduceAdd, Int.reduceToNat, hlt, hJ, List.length_cons, str_eta, form_eta, Tryd.f50, M43, M42, M41, M40, M39, M38, V37, V36, V35, V34, V33, V32, V31, V30, V29, R28, R27, R22, R21, R20, R19, R18, R17, R16, R15, R14, R13, R12, R11, R10, R9, R8, R7, R6, R5, R4, R3, R2, R1, Q20, Q19, Q18, Q17, Q16, Q15, Q14, Q13, Q12, Q11, Q10, Q9, Q8, Q7, Q6, Q5, Q4, Q3, Q2, Q1, Tbl0])
  | false =>
    simp only [Bool.false_eq_true, if_false] at hJ
    have hmp : modP mod c = predM mod [f.name] := by unfold modP; rw [cn]; rfl
    rw [hmp] at hJ
    have hJ2 : joinM 5 (K tl.length ++ [.mk 2 mod [f.name] []]) = J := hJ
    have hjp : joinPre 5 (K tl.length ++ [predM mod [f.name]]) := ⟨by simp, by rw [List.length_append, List.length_singleton]; omega⟩
    have hpe : enc (predM mod [f.name]) = .agg [.i .i64 2, .s mod.l, .sl [.s f.name.l], .sl []] := rfl
    repeat' (first | refine ReqK.i hjp fun _ => ?_ | refine ReqK.i (by omega) fun _ => ?_ | refine ReqK.i (by unfold maxL; omega) fun _ => ?_ | refine ReqK.i (fits_of2 (by first | omega | (simp only [List.length_map, List.length_take, List.length_append, List.length_cons, List.length_nil]; omega)) (by decide)) fun _ => ?_ | simp only [go_sem, reduceIte, reduceCtorEq, Nat.reduceEqDiff, Nat.reduceAdd, Nat.reduceSub, Nat.reduceMul, Nat.reduceDiv, Nat.reduceMod, Nat.reduceLT, Nat.reduceLeDiff, Nat.reduceBEq, Nat.reducePow, Int.reduceLE, Int.reduceLT, Int.reduceEq, Int.reduceNeg, Int.reduceAdd, Int.reduceToNat, hlt, hJ, hJ2, List.length_cons, str_eta, form_eta, Tryd.f50, M43, M42, M41, M40, M39, M38, V37, V36, V35, V34, V33, V32, V31, V30, V29, R28, R27, R22, R21, R20, R19, R18, R17, R16, R15, R14, R13, R12, R11, R10, R9, R8, R7, R6, R5, R4, R3, R2, R1, Q20, Q19, Q18, Q17, Q16, Q15, Q14, Q13, Q12, Q11, Q10, Q9, Q8, Q7, Q6, Q5, Q4, Q3, Q2, Q1, Tbl0])
end Go.Proofs.YtoicheicnbjfeaaDoor

namespace Go.Proofs.YtoicheicnbjfeaaDoor
open Go Go.Abs Go.Proofs

/-! ## the laws on modifiers -/
def boundD (k : Int) (x : Str) (f : Abs.Form) : Abs.Form := .mk k x [] [f]
def M45 : Tbl := M44.add 35 (sp3 boundD fun _ _ _ => True)
set_option maxRecDepth 100000 in
set_option maxHeartbeats 1000000 in
theorem hM45 : TblOk Tryd.prog GA M45 := by
  refine sp3_ok ok35 hM44 fun k x f _ _ _ _ => ?_
  simp only [boundD]
  refine Wcall_K (N := 12) hm hM44 35000 (lst []) ok35 Tryd.func35 rfl rfl (by simp) (by kernel_rfl) ?_
  repeat' (first | refine ReqK.i (by omega) fun _ => ?_ | refine ReqK.i (by unfold maxL; omega) fun _ => ?_ | simp only [go_sem, reduceIte, reduceCtorEq, Nat.reduceEqDiff, Nat.reduceAdd, Nat.reduceSub, Nat.reduceMul, Nat.reduceDiv, Nat.reduceMod, Nat.reduceLT, Nat.reduceLeDiff, Nat.reduceBEq, Nat.reducePow, Int.reduceLE, Int.reduceLT, Int.reduceEq, Int.reduceNeg, Int.reduceAdd, Int.reduceToNat, form_eta, Tryd.f35, M44, M43, M42, M41, M40, M39, M38, V37, V36, V35, V34, V33, V32, V31, V30, V29, R28, R27, R22, R21, R20, R19, R18, R17, R16, R15, R14, R13, R12, R11, R10, R9, R8, R7, R6, R5, R4, R3, R2, R1, Q20, Q19, Q18, Q17, Q16, Q15, Q14, Q13, Q12, Q11, Q10, Q9, Q8, Q7, Q6, Q5, Q4, Q3, Q2, Q1, Tbl0])
def sDE : Str := ⟨[101]⟩
def sDV : Str := ⟨[118, 48]⟩
def sDF : Str := ⟨[102, 97, 115, 116]⟩
def wD1 : Abs.Form := .mk 9 sDE [] [.mk 2 sWalk [sDE] []]
def wD2 : Abs.Form := .mk 9 sDE [] [.mk 5 ⟨[]⟩ [] [.mk 2 sWalk [sDE] [], .mk 2 sDF [sDE] []]]
def hD2 : Abs.Form := .mk 5 ⟨[]⟩ [] [.mk 2 sWalk [sDE] [], .mk 2 sDF [sDE] []]
def gD1 : Abs.Form := .mk 9 sDV [] [.mk 2 sWalk [sDV] []]
def gD2 : Abs.Form := .mk 9 sDV [] [.mk 5 ⟨[]⟩ [] [.mk 2 sWalk [sDV] [], .mk 2 sDF [sDV] []]]
def hD3 : Abs.Form := .mk 5 ⟨[]⟩ [] [.mk 2 sWalk [sDV] [], .mk 2 sDF [sDV] []]
theorem vD_eq : vnum 0 = sDV := by unfold vnum sDV; rw [digits_small (by decide)]; rfl
theorem vD_gen {f : Abs.Form} (hc : cst f [] = []) : vg (replM [] (usedM f)) 0 = (sDV, 1) := by
  have h0 : vnum 0 ∉ replM [] (usedM f) := by
    show vnum 0 ∉ usedM f
    rw [mem_usedM, hc]; simp
  unfold vg
  rw [nextM_out h0, vD_eq]
theorem canD1 : canonM wD1 [] = gD1 := by
  have hg := vD_gen (f := wD1) (by kernel_rfl)
  unfold canonM
  generalize vg (replM [] (usedM wD1)) = g at hg
  unfold wD1
  rw [ren, if_pos (show isQ 9 from .inr rfl), hg, rens, rens, ren, if_neg (by decide), rens]
  rfl
theorem canD2 : canonM wD2 [] = gD2 := by
  have hg := vD_gen (f := wD2) (by kernel_rfl)
  unfold canonM
  generalize vg (replM [] (usedM wD2)) = g at hg
  unfold wD2
  rw [ren, if_pos (show isQ 9 from .inr rfl), hg, rens, rens, ren, if_neg (by decide), rens, rens, rens, ren, if_neg (by decide), rens, ren, if_neg (by decide), rens]
  rfl
theorem modify_x : modifyP wD1 sWalk sDF = (gD2, ⟨0, 0⟩) := by
  have h1 : (checkE wD1 sWalk sDF).code = 0 := by kernel_rfl
  have h2 : changeM (modBy sWalk sDF) wD1 = wD2 := by kernel_rfl
  have h3 : fitsM wD2 = true := by kernel_rfl
  unfold modifyP
  rw [if_neg (by simp [h1]), h2]
  unfold doneF doneE
  rw [h3, if_pos rfl, if_pos rfl, canD2]
theorem drop_x : dropP wD2 sWalk sDF = (gD1, ⟨0, 0⟩) := by
  have h1 : (checkE wD2 sWalk sDF).code = 0 := by kernel_rfl
  have h2 : changeM (dropBy sWalk sDF) wD2 = wD1 := by kernel_rfl
  have h3 : fitsM wD1 = true := by kernel_rfl
  unfold dropP
  rw [if_neg (by simp [h1]), h2]
  unfold doneF doneE
  rw [h3, if_pos rfl, if_pos rfl, canD1]
theorem bnD1 : boundD 9 sDE (predM sWalk [sDE]) = wD1 := rfl
theorem twD2 : twoM 5 (predM sWalk [sDE]) (predM sDF [sDE]) = hD2 := rfl
theorem bnD2 : boundD 9 sDE hD2 = wD2 := rfl
theorem twD3 : twoM 5 (predM sWalk [sDV]) (predM sDF [sDV]) = hD3 := rfl
theorem bnD3 : boundD 9 sDV hD3 = gD2 := rfl
theorem bnD4 : boundD 9 sDV (predM sWalk [sDV]) = gD1 := rfl
theorem docD_ok {d : Bool} {nm mod : Str} {f : Abs.Form} (h : (checkM false f).code = 0) (hn : isName nm = true) (hm : isName mod = true) : mdPre f nm mod d :=
  ⟨checkM_fit h, checkM_wfE h, checkM_size h, name_ne hn, name_ne hm⟩
theorem docR_mod {nm mod : Str} {f : Abs.Form} (h : (checkM false f).code = 0) (hm : isName mod = true) : changeM (docBy false nm mod) f = changeM (modBy nm mod) f ∧ doneR (changeM (modBy nm mod) f) = doneF (changeM (modBy nm mod) f) :=
  ⟨docs_mod hm (checkM_shp h), doneR_eq (allW_clean (fun _ hw => name_bang hw) _ (changeM_allW (fun _ hw h => modBy_allW hw h) (fun _ h => modBy_wfE (name_ne hm) h) f (checkM_wfE h) (checkM_allW h)))⟩
theorem docR_drop {nm mod : Str} {f : Abs.Form} (h : (checkM false f).code = 0) : changeM (docBy true nm mod) f = changeM (dropBy nm mod) f ∧ doneR (changeM (dropBy nm mod) f) = doneF (changeM (dropBy nm mod) f) :=
  ⟨docs_drop (checkM_shp h), doneR_eq (allW_clean (fun _ hw => name_bang hw) _ (changeM_allW (fun _ hw h => dropBy_allW hw h) (fun _ h => dropBy_wfE h) f (checkM_wfE h) (checkM_allW h)))⟩
set_option maxRecDepth 100000 in
set_option maxHeartbeats 1000000 in
set_option maxHeartbeats 8000000 in
theorem lawMod (hT : TblOk Tryd.prog GA M45) (f : Abs.Form) (nm mod : Str) (_ : (enc f).Wf) (_ : (enc nm).Wf) (_ : (enc mod).Wf) : Wcall Tryd.prog GA 10 [.fz (enc f), .fz (enc nm), .fz (enc mod)] (hpL []) 0 (fun d _ _ => d = .fz (.b true)) := by
  have dW : Str.mk [119, 97, 108, 107] = sWalk := rfl
  have dE : Str.mk [101] = sDE := rfl
  have dV : Str.mk [118, 48] = sDV := rfl
  have dF : Str.mk [102, 97, 115, 116] = sDF := rfl
  have zm := zero_mk
  have zk : zeroF.kind = 0 := rfl
  have hsm : True := trivial
  refine Wcall_K (N := 130) hm hT 10000 (lst []) ok10 Tryd.func10 rfl rfl (by simp) (by kernel_rfl) ?_
  by_cases hc1 : ¬ (checkM false f).code = 0
  · have hce : checkE f nm mod = checkM false f := by unfold checkE; rw [if_pos hc1]
    have e1 : modifyP f nm mod = (zeroF, checkM false f) := by unfold modifyP; rw [hce, if_pos hc1]
    have e2 : dropP f nm mod = (zeroF, checkM false f) := by unfold dropP; rw [hce, if_pos hc1]
    repeat' (first | refine ReqK.i hsm fun _ => ?_ | refine ReqK.i (by omega) fun _ => ?_ | refine ReqK.i (by unfold maxL; omega) fun _ => ?_ | refine ReqK.i ⟨rfl, rfl⟩ fun _ => ?_ | refine ReqK.i rfl fun _ => ?_ | refine ReqK.i ⟨rfl, rfl, rfl⟩ fun _ => ?_ | refine ReqK.i ⟨rfl, rfl, rfl, trivial⟩ fun _ => ?_ | refine ReqK.i ⟨rfl, rfl, rfl, rfl, trivial⟩ fun _ => ?_ | simp only [go_sem, reduceIte, reduceCtorEq, Nat.reduceEqDiff, Nat.reduceAdd, Nat.reduceSub, Nat.reduceMul, Nat.reduceDiv, Nat.reduceMod, Nat.reduceLT, Nat.reduceLeDiff, Nat.reduceBEq, Nat.reducePow, Int.reduceLE, Int.reduceLT, Int.reduceEq, Int.reduceNeg, Int.reduceAdd, Int.reduceToNat, dW, dE, dV, dF, bnD1, twD2, bnD2, twD3, bnD3, bnD4, modify_x, drop_x, zm, zk, str_eta, form_eta, e1, e2, hc1, GA, Tryd.f10, M45, M44, M43, M42, M41, M40, M39, M38, V37, V36, V35, V34, V33, V32, V31, V30, V29, R28, R27, R22, R21, R20, R19, R18, R17, R16, R15, R14, R13, R12, R11, R10, R9, R8, R7, R6, R5, R4, R3, R2, R1, Q20, Q19, Q18, Q17, Q16, Q15, Q14, Q13, Q12, Q11, Q10, Q9, Q8, Q7, Q6, Q5, Q4, Q3, Q2, Q1, Tbl0])
  have hc1 := Decidable.not_not.1 hc1
  have hck := checkM_code hc1
  cases hn : isName nm with
  | false =>
    have hce : checkE f nm mod = ⟨10, -2⟩ := by unfold checkE; rw [if_neg (by simp [hc1]), if_pos hn]
    have e1 : modifyP f nm mod = (zeroF, ⟨10, -2⟩) := by unfold modifyP; rw [hce, if_pos (by decide)]
    have e2 : dropP f nm mod = (zeroF, ⟨10, -2⟩) := by unfold dropP; rw [hce, if_pos (by decide)]
    repeat' (first | refine ReqK.i hsm fun _ => ?_ | refine ReqK.i (by omega) fun _ => ?_ | refine ReqK.i (by unfold maxL; omega) fun _ => ?_ | refine ReqK.i ⟨rfl, rfl⟩ fun _ => ?_ | refine ReqK.i rfl fun _ => ?_ | refine ReqK.i ⟨rfl, rfl, rfl⟩ fun _ => ?_ | refine ReqK.i ⟨rfl, rfl, rfl, trivial⟩ fun _ => ?_ | refine ReqK.i ⟨rfl, rfl, rfl, rfl, trivial⟩ fun _ => ?_ | simp only [go_sem, reduceIte, reduceCtorEq, Nat.reduceEqDiff, Nat.reduceAdd, Nat.reduceSub, Nat.reduceMul, Nat.reduceDiv, Nat.reduceMod, Nat.reduceLT, Nat.reduceLeDiff, Nat.reduceBEq, Nat.reducePow, Int.reduceLE, Int.reduceLT, Int.reduceEq, Int.reduceNeg, Int.reduceAdd, Int.reduceToNat, dW, dE, dV, dF, bnD1, twD2, bnD2, twD3, bnD3, bnD4, modify_x, drop_x, zm, zk, str_eta, form_eta, e1, e2, hc1, hck, hn, GA, Tryd.f10, M45, M44, M43, M42, M41, M40, M39, M38, V37, V36, V35, V34, V33, V32, V31, V30, V29, R28, R27, R22, R21, R20, R19, R18, R17, R16, R15, R14, R13, R12, R11, R10, R9, R8, R7, R6, R5, R4, R3, R2, R1, Q20, Q19, Q18, Q17, Q16, Q15, Q14, Q13, Q12, Q11, Q10, Q9, Q8, Q7, Q6, Q5, Q4, Q3, Q2, Q1, Tbl0])
  | true =>
    cases hd : isName mod with
    | false =>
      have hce : checkE f nm mod = ⟨10, -3⟩ := by unfold checkE; rw [if_neg (by simp [hc1]), if_neg (by simp [hn]), if_pos hd]
      have e1 : modifyP f nm mod = (zeroF, ⟨10, -3⟩) := by unfold modifyP; rw [hce, if_pos (by decide)]
      have e2 : dropP f nm mod = (zeroF, ⟨10, -3⟩) := by unfold dropP; rw [hce, if_pos (by decide)]
      repeat' (first | refine ReqK.i hsm fun _ => ?_ | refine ReqK.i (by omega) fun _ => ?_ | refine ReqK.i (by unfold maxL; omega) fun _ => ?_ | refine ReqK.i ⟨rfl, rfl⟩ fun _ => ?_ | refine ReqK.i rfl fun _ => ?_ | refine ReqK.i ⟨rfl, rfl, rfl⟩ fun _ => ?_ | refine ReqK.i ⟨rfl, rfl, rfl, trivial⟩ fun _ => ?_ | refine ReqK.i ⟨rfl, rfl, rfl, rfl, trivial⟩ fun _ => ?_ | simp only [go_sem, reduceIte, reduceCtorEq, Nat.reduceEqDiff, Nat.reduceAdd, Nat.reduceSub, Nat.reduceMul, Nat.reduceDiv, Nat.reduceMod, Nat.reduceLT, Nat.reduceLeDiff, Nat.reduceBEq, Nat.reducePow, Int.reduceLE, Int.reduceLT, Int.reduceEq, Int.reduceNeg, Int.reduceAdd, Int.reduceToNat, dW, dE, dV, dF, bnD1, twD2, bnD2, twD3, bnD3, bnD4, modify_x, drop_x, zm, zk, str_eta, form_eta, e1, e2, hc1, hck, hn, hd, GA, Tryd.f10, M45, M44, M43, M42, M41, M40, M39, M38, V37, V36, V35, V34, V33, V32, V31, V30, V29, R28, R27, R22, R21, R20, R19, R18, R17, R16, R15, R14, R13, R12, R11, R10, R9, R8, R7, R6, R5, R4, R3, R2, R1, Q20, Q19, Q18, Q17, Q16, Q15, Q14, Q13, Q12, Q11, Q10, Q9, Q8, Q7, Q6, Q5, Q4, Q3, Q2, Q1, Tbl0])
    | true =>
      have hce : checkE f nm mod = ⟨0, 0⟩ := by unfold checkE; rw [if_neg (by simp [hc1]), if_neg (by simp [hn]), if_neg (by simp [hd])]
      have e1 : modifyP f nm mod = (doneF (changeM (modBy nm mod) f), doneE (changeM (modBy nm mod) f)) := by unfold modifyP; rw [hce, if_neg (by decide)]
      have e2 : dropP f nm mod = (doneF (changeM (dropBy nm mod) f), doneE (changeM (dropBy nm mod) f)) := by unfold dropP; rw [hce, if_neg (by decide)]
      have hp : ∀ d, mdPre f nm mod d := fun d => docD_ok hc1 hn hd
      obtain ⟨r1, r2⟩ := docR_mod (nm := nm) hc1 hd
      obtain ⟨r3, r4⟩ := docR_drop (nm := nm) (mod := mod) hc1
      have s1 := mods_ok (nm := nm) (mod := mod) hc1
      have s2 := drops_ok (nm := nm) (mod := mod) hc1
      rw [← r2] at e1
      rw [← r4] at e2
      obtain ⟨X, hX⟩ : ∃ X, changeM (modBy nm mod) f = X := ⟨_, rfl⟩
      obtain ⟨Y, hY⟩ : ∃ Y, changeM (dropBy nm mod) f = Y := ⟨_, rfl⟩
      rw [hX] at r1 s1 e1
      rw [hY] at r3 s2 e2
      obtain ⟨x, hx⟩ : ∃ x, doneR X = x := ⟨_, rfl⟩
      obtain ⟨y, hy⟩ : ∃ y, doneR Y = y := ⟨_, rfl⟩
      obtain ⟨ex, hex⟩ : ∃ ex, doneE X = ex := ⟨_, rfl⟩
      obtain ⟨ey, hey⟩ : ∃ ey, doneE Y = ey := ⟨_, rfl⟩
      rw [hx, hex] at e1
      rw [hy, hey] at e2
      clear r2 r4 hX hY
      repeat' (first | refine ReqK.i (hp _) fun _ => ?_ | refine ReqK.i s1 fun _ => ?_ | refine ReqK.i s2 fun _ => ?_ | refine ReqK.i hsm fun _ => ?_ | refine ReqK.i (by omega) fun _ => ?_ | refine ReqK.i (by unfold maxL; omega) fun _ => ?_ | refine ReqK.i ⟨rfl, rfl⟩ fun _ => ?_ | refine ReqK.i rfl fun _ => ?_ | refine ReqK.i ⟨rfl, rfl, rfl⟩ fun _ => ?_ | refine ReqK.i ⟨rfl, rfl, rfl, trivial⟩ fun _ => ?_ | refine ReqK.i ⟨rfl, rfl, rfl, rfl, trivial⟩ fun _ => ?_ | simp only [go_sem, reduceIte, reduceCtorEq, Nat.reduceEqDiff, Nat.reduceAdd, Nat.reduceSub, Nat.reduceMul, Nat.reduceDiv, Nat.reduceMod, Nat.reduceLT, Nat.reduceLeDiff, Nat.reduceBEq, Nat.reducePow, Int.reduceLE, Int.reduceLT, Int.reduceEq, Int.reduceNeg, Int.reduceAdd, Int.reduceToNat, dW, dE, dV, dF, bnD1, twD2, bnD2, twD3, bnD3, bnD4, modify_x, drop_x, zm, zk, str_eta, form_eta, e1, e2, hc1, hck, hn, hd, r1, r3, hx, hy, hex, hey, GA, Tryd.f10, M45, M44, M43, M42, M41, M40, M39, M38, V37, V36, V35, V34, V33, V32, V31, V30, V29, R28, R27, R22, R21, R20, R19, R18, R17, R16, R15, R14, R13, R12, R11, R10, R9, R8, R7, R6, R5, R4, R3, R2, R1, Q20, Q19, Q18, Q17, Q16, Q15, Q14, Q13, Q12, Q11, Q10, Q9, Q8, Q7, Q6, Q5, Q4, Q3, Q2, Q1, Tbl0])
theorem dropP_ok {f g : Abs.Form} {nm mod : Str} {e : Fault} (h : dropP f nm mod = (g, e)) (he : e.code = 0) : (checkM false f).code = 0 ∧ isName nm = true ∧ isName mod = true ∧ g = canonM (changeM (dropBy nm mod) f) [] ∧ e = ⟨0, 0⟩ := by
  unfold dropP at h
  split at h
  · rename_i h1
    obtain ⟨rfl, rfl⟩ := Prod.mk.inj h
    exact absurd he h1
  · rename_i h1
    obtain ⟨g1, g2, g3, _⟩ := checkE_ok (Decidable.not_not.1 h1)
    obtain ⟨rfl, rfl⟩ := Prod.mk.inj h
    have hf := (drop_valid (e := nm) (mod := mod) g1).1
    refine ⟨g1, g2, g3, ?_, ?_⟩
    · unfold doneF; rw [if_pos hf]
    · unfold doneE; rw [if_pos hf]
theorem modP_ok {f g : Abs.Form} {nm mod : Str} {e : Fault} (h : modifyP f nm mod = (g, e)) (he : e.code = 0) : fitsM (changeM (modBy nm mod) f) = true ∧ g = canonM (changeM (modBy nm mod) f) [] ∧ e = ⟨0, 0⟩ := by
  unfold modifyP at h
  split at h
  · rename_i h1
    obtain ⟨rfl, rfl⟩ := Prod.mk.inj h
    exact absurd he h1
  · obtain ⟨rfl, rfl⟩ := Prod.mk.inj h
    unfold doneE at he
    split at he
    · rename_i h2
      refine ⟨h2, ?_, ?_⟩
      · unfold doneF; rw [if_pos h2]
      · unfold doneE; rw [if_pos h2]
    · exact absurd he (by decide)
set_option maxRecDepth 100000 in
set_option maxHeartbeats 1000000 in
set_option maxHeartbeats 8000000 in
theorem lawUndo (hT : TblOk Tryd.prog GA M45) (f : Abs.Form) (nm mod : Str) (_ : (enc f).Wf) (_ : (enc nm).Wf) (_ : (enc mod).Wf) : Wcall Tryd.prog GA 11 [.fz (enc f), .fz (enc nm), .fz (enc mod)] (hpL []) 0 (fun d _ _ => d = .fz (.b true)) := by
  have dW : Str.mk [119, 97, 108, 107] = sWalk := rfl
  have dE : Str.mk [101] = sDE := rfl
  have dV : Str.mk [118, 48] = sDV := rfl
  have dF : Str.mk [102, 97, 115, 116] = sDF := rfl
  have zm := zero_mk
  have zk : zeroF.kind = 0 := rfl
  have hsm : True := trivial
  obtain ⟨d, e, hde⟩ : ∃ d e, dropP f nm mod = (d, e) := ⟨_, _, rfl⟩
  obtain ⟨m, e2, hme⟩ : ∃ m e2, modifyP d nm mod = (m, e2) := ⟨_, _, rfl⟩
  obtain ⟨b, e3, hbe⟩ : ∃ b e3, dropP m nm mod = (b, e3) := ⟨_, _, rfl⟩
  refine Wcall_K (N := 75) hm hT 11000 (lst []) ok11 Tryd.func11 rfl rfl (by simp) (by kernel_rfl) ?_
  by_cases he : e.code = 0
  rotate_left
  · have he' : (e.code = 0) = False := eq_false he
    repeat' (first | refine ReqK.i hsm fun _ => ?_ | refine ReqK.i (by omega) fun _ => ?_ | refine ReqK.i (by unfold maxL; omega) fun _ => ?_ | refine ReqK.i ⟨rfl, rfl⟩ fun _ => ?_ | refine ReqK.i rfl fun _ => ?_ | refine ReqK.i ⟨rfl, rfl, rfl⟩ fun _ => ?_ | refine ReqK.i ⟨rfl, rfl, rfl, trivial⟩ fun _ => ?_ | refine ReqK.i ⟨rfl, rfl, rfl, rfl, trivial⟩ fun _ => ?_ | simp only [go_sem, reduceIte, reduceCtorEq, Nat.reduceEqDiff, Nat.reduceAdd, Nat.reduceSub, Nat.reduceMul, Nat.reduceDiv, Nat.reduceMod, Nat.reduceLT, Nat.reduceLeDiff, Nat.reduceBEq, Nat.reducePow, Int.reduceLE, Int.reduceLT, Int.reduceEq, Int.reduceNeg, Int.reduceAdd, Int.reduceToNat, dW, dE, dV, dF, bnD1, twD2, bnD2, twD3, bnD3, bnD4, modify_x, drop_x, zm, zk, str_eta, form_eta, hde, hme, he', GA, Tryd.f11, M45, M44, M43, M42, M41, M40, M39, M38, V37, V36, V35, V34, V33, V32, V31, V30, V29, R28, R27, R22, R21, R20, R19, R18, R17, R16, R15, R14, R13, R12, R11, R10, R9, R8, R7, R6, R5, R4, R3, R2, R1, Q20, Q19, Q18, Q17, Q16, Q15, Q14, Q13, Q12, Q11, Q10, Q9, Q8, Q7, Q6, Q5, Q4, Q3, Q2, Q1, Tbl0])
  obtain ⟨h1, h2, h3, hd, rfl⟩ := dropP_ok hde he
  by_cases he2 : e2.code = 0
  rotate_left
  · have he' : (e2.code = 0) = False := eq_false he2
    repeat' (first | refine ReqK.i hsm fun _ => ?_ | refine ReqK.i (by omega) fun _ => ?_ | refine ReqK.i (by unfold maxL; omega) fun _ => ?_ | refine ReqK.i ⟨rfl, rfl⟩ fun _ => ?_ | refine ReqK.i rfl fun _ => ?_ | refine ReqK.i ⟨rfl, rfl, rfl⟩ fun _ => ?_ | refine ReqK.i ⟨rfl, rfl, rfl, trivial⟩ fun _ => ?_ | refine ReqK.i ⟨rfl, rfl, rfl, rfl, trivial⟩ fun _ => ?_ | simp only [go_sem, reduceIte, reduceCtorEq, Nat.reduceEqDiff, Nat.reduceAdd, Nat.reduceSub, Nat.reduceMul, Nat.reduceDiv, Nat.reduceMod, Nat.reduceLT, Nat.reduceLeDiff, Nat.reduceBEq, Nat.reducePow, Int.reduceLE, Int.reduceLT, Int.reduceEq, Int.reduceNeg, Int.reduceAdd, Int.reduceToNat, dW, dE, dV, dF, bnD1, twD2, bnD2, twD3, bnD3, bnD4, modify_x, drop_x, zm, zk, str_eta, form_eta, hde, hme, he', GA, Tryd.f11, M45, M44, M43, M42, M41, M40, M39, M38, V37, V36, V35, V34, V33, V32, V31, V30, V29, R28, R27, R22, R21, R20, R19, R18, R17, R16, R15, R14, R13, R12, R11, R10, R9, R8, R7, R6, R5, R4, R3, R2, R1, Q20, Q19, Q18, Q17, Q16, Q15, Q14, Q13, Q12, Q11, Q10, Q9, Q8, Q7, Q6, Q5, Q4, Q3, Q2, Q1, Tbl0])
  obtain ⟨h4, hm2, rfl⟩ := modP_ok hme he2
  rw [hd] at h4
  obtain ⟨u1, u2, u3⟩ := drop_undoes (e := nm) h3 h1 h4
  rw [← hd] at u1 u2 u3
  rw [← hm2] at u1 u2 u3
  have e9 : dropP m nm mod = (d, ⟨0, 0⟩) := by
    have hcE : checkE m nm mod = ⟨0, 0⟩ := by unfold checkE; rw [u1, if_neg (by decide), if_neg (by simp [h2]), if_neg (by simp [h3])]
    unfold dropP
    rw [hcE, if_neg (by decide)]
    unfold doneF doneE
    rw [if_pos u2, if_pos u2, u3]
  clear u1 u2 u3 hd hm2 h4
  repeat' (first | refine ReqK.i hsm fun _ => ?_ | refine ReqK.i (by omega) fun _ => ?_ | refine ReqK.i (by unfold maxL; omega) fun _ => ?_ | refine ReqK.i ⟨rfl, rfl⟩ fun _ => ?_ | refine ReqK.i rfl fun _ => ?_ | refine ReqK.i ⟨rfl, rfl, rfl⟩ fun _ => ?_ | refine ReqK.i ⟨rfl, rfl, rfl, trivial⟩ fun _ => ?_ | refine ReqK.i ⟨rfl, rfl, rfl, rfl, trivial⟩ fun _ => ?_ | simp only [go_sem, reduceIte, reduceCtorEq, Nat.reduceEqDiff, Nat.reduceAdd, Nat.reduceSub, Nat.reduceMul, Nat.reduceDiv, Nat.reduceMod, Nat.reduceLT, Nat.reduceLeDiff, Nat.reduceBEq, Nat.reducePow, Int.reduceLE, Int.reduceLT, Int.reduceEq, Int.reduceNeg, Int.reduceAdd, Int.reduceToNat, dW, dE, dV, dF, bnD1, twD2, bnD2, twD3, bnD3, bnD4, modify_x, drop_x, zm, zk, str_eta, form_eta, hde, hme, e9, GA, Tryd.f11, M45, M44, M43, M42, M41, M40, M39, M38, V37, V36, V35, V34, V33, V32, V31, V30, V29, R28, R27, R22, R21, R20, R19, R18, R17, R16, R15, R14, R13, R12, R11, R10, R9, R8, R7, R6, R5, R4, R3, R2, R1, Q20, Q19, Q18, Q17, Q16, Q15, Q14, Q13, Q12, Q11, Q10, Q9, Q8, Q7, Q6, Q5, Q4, Q3, Q2, Q1, Tbl0])
end Go.Proofs.YtoicheicnbjfeaaDoor
