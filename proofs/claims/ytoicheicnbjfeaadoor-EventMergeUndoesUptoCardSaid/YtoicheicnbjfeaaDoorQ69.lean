import Derived.Test.YtoicheicnbjfeaaDoorZQ53Q574
import Derived.Test.YtoicheicnbjfeaaDoorAE
set_option linter.unusedSimpArgs false
namespace Go.Proofs.YtoicheicnbjfeaaDoor
open Go Go.Abs Go.Proofs

/-! ## the law EventMergeUndoes -/
def boundU (k : Int) (x : Str) (f : Abs.Form) : Abs.Form := .mk k x [] [f]
def U41 : Tbl := V40.add 35 (sp3 boundU fun _ _ _ => True)
set_option maxRecDepth 100000 in
set_option maxHeartbeats 1000000 in
theorem hU41 : TblOk Tryd.prog GA U41 := by
  refine sp3_ok ok35 hV40 fun k x f _ _ _ _ => ?_
  simp only [boundU]
  refine Wcall_K (N := 12) hm hV40 35000 (lst []) ok35 Tryd.func35 rfl rfl (by simp) (by kernel_rfl) ?_
  repeat' (first | refine ReqK.i (by omega) fun _ => ?_ | refine ReqK.i (by unfold maxL; omega) fun _ => ?_ | simp only [go_sem, reduceIte, reduceCtorEq, Nat.reduceEqDiff, Nat.reduceAdd, Nat.reduceSub, Nat.reduceMul, Nat.reduceDiv, Nat.reduceMod, Nat.reduceLT, Nat.reduceLeDiff, Nat.reduceBEq, Nat.reducePow, Int.reduceLE, Int.reduceLT, Int.reduceEq, Int.reduceNeg, Int.reduceAdd, Int.reduceToNat, form_eta, Tryd.f35, V40, V39, V38, V37, V36, V35, V34, V33, V32, V31, V30, V29, R28, R27, R22, R21, R20, R19, R18, R17, R16, R15, R14, R13, R12, R11, R10, R9, R8, R7, R6, R5, R4, R3, R2, R1, Q20, Q19, Q18, Q17, Q16, Q15, Q14, Q13, Q12, Q11, Q10, Q9, Q8, Q7, Q6, Q5, Q4, Q3, Q2, Q1, Tbl0])
def canonP (f : Abs.Form) : Abs.Form × Fault := if (checkM false f).code ≠ 0 then (zeroF, checkM false f) else (canonM f [], ⟨0, 0⟩)
def U42 : Tbl := U41.add 41 (sp1p canonP fun _ => True)
set_option maxRecDepth 100000 in
set_option maxHeartbeats 1000000 in
theorem hU42 : TblOk Tryd.prog GA U42 := by
  refine sp1p_ok ok41 hU41 fun f _ hw => ?_
  by_cases hc1 : ¬ (checkM false f).code = 0
  · have e1 : canonP f = (zeroF, checkM false f) := by unfold canonP; rw [if_pos hc1]
    simp only [e1, zeroF]
    refine Wcall_K (N := 15) hm hU41 41000 (lst [1000003]) ok41 Tryd.func41 rfl rfl (by simp) (by kernel_rfl) ?_
    repeat' (first | refine WK_drawV hm hU41 41000 (lst [1000003]) tree503 (by kernel_rfl) (by kernel_rfl) ?_ | refine And.intro ?_ ?_ | exact True.intro | refine ReqK.i (by omega) fun _ => ?_ | refine ReqK.i (by unfold maxL; omega) fun _ => ?_ | simp only [go_sem, reduceIte, reduceCtorEq, Nat.reduceEqDiff, Nat.reduceAdd, Nat.reduceSub, Nat.reduceMul, Nat.reduceDiv, Nat.reduceMod, Nat.reduceLT, Nat.reduceLeDiff, Nat.reduceBEq, Nat.reducePow, Int.reduceLE, Int.reduceLT, Int.reduceEq, Int.reduceNeg, Int.reduceAdd, Int.reduceToNat, hc1, form_eta, tree503, Tryd.f41, U41, V40, V39, V38, V37, V36, V35, V34, V33, V32, V31, V30, V29, R28, R27, R22, R21, R20, R19, R18, R17, R16, R15, R14, R13, R12, R11, R10, R9, R8, R7, R6, R5, R4, R3, R2, R1, Q20, Q19, Q18, Q17, Q16, Q15, Q14, Q13, Q12, Q11, Q10, Q9, Q8, Q7, Q6, Q5, Q4, Q3, Q2, Q1, Tbl0])
  · have hc1 := Decidable.not_not.1 hc1
    have hck := checkM_code hc1
    have e1 : canonP f = (canonM f [], ⟨0, 0⟩) := by unfold canonP; rw [if_neg (by simp [hc1])]
    have hpr : f.fit = true ∧ f.size ≤ 1000 := ⟨checkM_fit hc1, by have := checkM_size hc1; omega⟩
    obtain ⟨c, hc⟩ : ∃ c, canonM f [] = c := ⟨_, rfl⟩
    simp only [e1, hc]
    refine Wcall_K (N := 15) hm hU41 41000 (lst [1000003]) ok41 Tryd.func41 rfl rfl (by simp) (by kernel_rfl) ?_
    repeat' (first | refine ReqK.i hpr fun _ => ?_ | refine ReqK.i (by omega) fun _ => ?_ | refine ReqK.i (by unfold maxL; omega) fun _ => ?_ | simp only [go_sem, reduceIte, reduceCtorEq, Nat.reduceEqDiff, Nat.reduceAdd, Nat.reduceSub, Nat.reduceMul, Nat.reduceDiv, Nat.reduceMod, Nat.reduceLT, Nat.reduceLeDiff, Nat.reduceBEq, Nat.reducePow, Int.reduceLE, Int.reduceLT, Int.reduceEq, Int.reduceNeg, Int.reduceAdd, Int.reduceToNat, hc1, hck, hc, form_eta, Tryd.f41, U41, V40, V39, V38, V37, V36, V35, V34, V33, V32, V31, V30, V29, R28, R27, R22, R21, R20, R19, R18, R17, R16, R15, R14, R13, R12, R11, R10, R9, R8, R7, R6, R5, R4, R3, R2, R1, Q20, Q19, Q18, Q17, Q16, Q15, Q14, Q13, Q12, Q11, Q10, Q9, Q8, Q7, Q6, Q5, Q4, Q3, Q2, Q1, Tbl0])
theorem mergedMs_at : ∀ {l : List Abs.Form} {i : Nat} (h : i < l.length), mergedM l[i] = true → mergedMs l = true
  | f :: l, 0, _, h => by rw [mergedMs]; simp only [List.getElem_cons_zero] at h; rw [h]; rfl
  | f :: l, i + 1, hi, h => by rw [mergedMs, mergedMs_at (i := i) (by simpa using hi) (by simpa using h)]; simp
theorem mergedMs_none : ∀ {l : List Abs.Form}, (∀ i (h : i < l.length), mergedM l[i] = false) → mergedMs l = false
  | [], _ => by rw [mergedMs]
  | f :: l, h => by
    have h0 := h 0 (by simp)
    simp only [List.getElem_cons_zero] at h0
    rw [mergedMs, h0, mergedMs_none (l := l) fun i hi => by have := h (i + 1) (by simpa using hi); simpa using this]
    rfl
theorem mergedM_eq {f : Abs.Form} : mergedM f = (okE f || mergedMs f.subs) := by cases f; rw [mergedM]; rfl
theorem nameU_ne {f : Abs.Form} (h : wfE f) (ho : okE f = true) : nameE f ≠ ⟨[]⟩ := by
  unfold nameE; rw [if_pos ho]
  intro e; exact headE_name h ho (by rw [e])
def mgP (f : Abs.Form) : Prop := evPre f ∧ f.fit = true
def U43 : Tbl := U42.add 40 (sp1 mergedM mgP)
set_option maxRecDepth 100000 in
set_option maxHeartbeats 1000000 in
theorem hU43 : TblOk Tryd.prog GA U43 := by
  refine sp1_rec Form.size ok40 hU42 fun n hT f hn hpre _ => ?_
  obtain ⟨hE, hfit⟩ := hpre
  obtain ⟨_, hsl, hfs⟩ := Form.fit_eq hfit
  have hsb : ∀ g ∈ f.subs, g.size < n ∧ mgP g := fun g hg => ⟨by have := Form.size_sub hg; omega, ⟨wfE_sub hE.1 g hg, by have := Form.size_sub hg; have := hE.2; omega⟩, Form.fits_mem hfs hg⟩
  have hR := mergedM_eq (f := f)
  cases hok : okE f with
  | true =>
    have e1 : mergedM f = true := by rw [hR, hok]; rfl
    have hnn := nameU_ne hE.1 hok
    obtain ⟨nm, hnm⟩ : ∃ nm, nameE f = nm := ⟨_, rfl⟩
    rw [hnm] at hnn
    have hnn' : (nm.l = []) = False := eq_false fun e => hnn (by cases nm; simp only at e; rw [e])
    rw [e1]
    have kT := Kp.mk hT
    clear hT hsb
    refine Wcall_K (N := 20) hm kT.out 40000 (lst []) ok40 Tryd.func40 rfl rfl (by simp) (by kernel_rfl) ?_
    repeat' (first | refine ReqK.i hE fun _ => ?_ | refine ReqK.i (by omega) fun _ => ?_ | refine ReqK.i (by unfold maxL; omega) fun _ => ?_ | simp only [go_sem, reduceIte, reduceCtorEq, Nat.reduceEqDiff, Nat.reduceAdd, Nat.reduceSub, Nat.reduceMul, Nat.reduceDiv, Nat.reduceMod, Nat.reduceLT, Nat.reduceLeDiff, Nat.reduceBEq, Nat.reducePow, Int.reduceLE, Int.reduceLT, Int.reduceEq, Int.reduceNeg, Int.reduceAdd, Int.reduceToNat, hnm, hnn', form_eta, Tryd.f40, U42, U41, V40, V39, V38, V37, V36, V35, V34, V33, V32, V31, V30, V29, R28, R27, R22, R21, R20, R19, R18, R17, R16, R15, R14, R13, R12, R11, R10, R9, R8, R7, R6, R5, R4, R3, R2, R1, Q20, Q19, Q18, Q17, Q16, Q15, Q14, Q13, Q12, Q11, Q10, Q9, Q8, Q7, Q6, Q5, Q4, Q3, Q2, Q1, Tbl0])
  | false =>
    rw [hok, Bool.false_or] at hR
    have en : nameE f = ⟨[]⟩ := by unfold nameE; rw [hok]; rfl
    have enl : (nameE f).l = [] := by rw [en]
    obtain ⟨Q, hQ⟩ : ∃ Q : D → Heap → Nat → Prop, Q = (fun d _ _ => D.val d = some (.fz (enc (mergedM f)))) := ⟨_, rfl⟩
    rw [← hQ]
    have ht : mergedM f = true → ∀ {H' n'}, Q (.fz (.b true)) H' n' := fun h H' n' => by rw [hQ]; show _ = some (D.fz (.b (mergedM f))); rw [h]; rfl
    have hf : mergedM f = false → ∀ {H' n'}, Q (.fz (.b false)) H' n' := fun h H' n' => by rw [hQ]; show _ = some (D.fz (.b (mergedM f))); rw [h]; rfl
    have kT := Kp.mk hT
    have kz := Kp.mk hsb
    have kt := Kp.mk @ht
    have kf := Kp.mk @hf
    have kE := Kp.mk hR
    clear hT hsb ht hf hQ hR hn hfs hfit hok
    refine Wcall_K (N := 20) hm kT.out 40000 (lst []) ok40 Tryd.func40 rfl rfl (by simp) (by kernel_rfl) ?_
    repeat' (first | refine ReqK.i hE fun _ => ?_ | refine ReqK.i (by omega) fun _ => ?_ | refine ReqK.i (by unfold maxL; omega) fun _ => ?_ | simp only [go_sem, reduceIte, reduceCtorEq, Nat.reduceEqDiff, Nat.reduceAdd, Nat.reduceSub, Nat.reduceMul, Nat.reduceDiv, Nat.reduceMod, Nat.reduceLT, Nat.reduceLeDiff, Nat.reduceBEq, Nat.reducePow, Int.reduceLE, Int.reduceLT, Int.reduceEq, Int.reduceNeg, Int.reduceAdd, Int.reduceToNat, en, enl, form_eta, Tryd.f40, U42, U41, V40, V39, V38, V37, V36, V35, V34, V33, V32, V31, V30, V29, R28, R27, R22, R21, R20, R19, R18, R17, R16, R15, R14, R13, R12, R11, R10, R9, R8, R7, R6, R5, R4, R3, R2, R1, Q20, Q19, Q18, Q17, Q16, Q15, Q14, Q13, Q12, Q11, Q10, Q9, Q8, Q7, Q6, Q5, Q4, Q3, Q2, Q1, Tbl0])
    refine WK_loop hm kT.out 40000 (lst []) (ι := LoopI f.subs.length fun i => ∀ j (h : j < f.subs.length), j < i → mergedM f.subs[j] = false)
      ⟨fun q => ⟨frL [(1, .ptr (40001, 0) 0), (9, .fz (.i .i64 f.subs.length)), (10, .fz (.i .i64 q.i))],
        hpL [((40001, 0), some ⟨[.fz (.i .i64 f.kind), .fz (.s f.name.l), .fz (.sl (f.words.map enc)), .fz (.sl (f.subs.map enc))], true, false⟩)], 1⟩, fun q => f.subs.length - q.i⟩
      ⟨0, by omega, fun j h h2 => by omega⟩ (by kernel_rfl) ?_ ?_
    · refine Weak_to ?_ ?_ ?_ <;> simp only [go_sem, reduceIte, reduceCtorEq, Nat.reduceEqDiff, Nat.reduceAdd, Nat.reduceSub, Nat.reduceMul, Nat.reduceDiv, Nat.reduceMod, Nat.reduceLT, Nat.reduceLeDiff, Nat.reduceBEq, Nat.reducePow, Int.reduceLE, Int.reduceLT, Int.reduceEq, Int.reduceNeg, Int.reduceAdd, Int.reduceToNat]
    rintro ⟨i, hi, hpi⟩
    try simp only at hi
    rcases Nat.lt_or_ge i f.subs.length with h1 | h1
    · have hz := kz.out _ (List.getElem_mem h1)
      have hq : mergedM f.subs[i] = true → mergedM f = true := fun h2 => by rw [kE.out]; exact mergedMs_at h1 h2
      have kq := Kp.mk hq
      clear hq
      have hp2 := fun (h2 : mergedM f.subs[i] = false) => (fun j (h : j < f.subs.length) (h3 : j < i + 1) => by
        rcases Nat.lt_or_ge j i with h4 | h4
        · exact hpi j h h4
        · obtain rfl : j = i := by omega
          exact h2 : ∀ j (h : j < f.subs.length), j < i + 1 → mergedM f.subs[j] = false)
      have kp := Kp.mk hp2
      clear hp2
      obtain ⟨x, hx⟩ : ∃ x, f.subs[i] = x := ⟨_, rfl⟩
      rw [hx] at hz kq kp
      have hcc : mergedM x = true ∨ mergedM x = false := by cases mergedM x <;> simp
      rcases hcc with hmx | hmx
      · repeat' (first | refine ReqK.i hz fun _ => ?_ | refine ReqK.i (by omega) fun _ => ?_ | refine ReqK.i (by unfold maxL; omega) fun _ => ?_ | simp only [go_sem, reduceIte, reduceCtorEq, Nat.reduceEqDiff, Nat.reduceAdd, Nat.reduceSub, Nat.reduceMul, Nat.reduceDiv, Nat.reduceMod, Nat.reduceLT, Nat.reduceLeDiff, Nat.reduceBEq, Nat.reducePow, Int.reduceLE, Int.reduceLT, Int.reduceEq, Int.reduceNeg, Int.reduceAdd, Int.reduceToNat, h1, hx, hmx, form_eta, getD_map_lt, Tryd.f40, U42, U41, V40, V39, V38, V37, V36, V35, V34, V33, V32, V31, V30, V29, R28, R27, R22, R21, R20, R19, R18, R17, R16, R15, R14, R13, R12, R11, R10, R9, R8, R7, R6, R5, R4, R3, R2, R1, Q20, Q19, Q18, Q17, Q16, Q15, Q14, Q13, Q12, Q11, Q10, Q9, Q8, Q7, Q6, Q5, Q4, Q3, Q2, Q1, Tbl0])
        exact kt.out (kq.out hmx)
      · repeat' (first | refine ReqK.i hz fun _ => ?_ | refine ReqK.i (by omega) fun _ => ?_ | refine ReqK.i (by unfold maxL; omega) fun _ => ?_ | simp only [go_sem, reduceIte, reduceCtorEq, Nat.reduceEqDiff, Nat.reduceAdd, Nat.reduceSub, Nat.reduceMul, Nat.reduceDiv, Nat.reduceMod, Nat.reduceLT, Nat.reduceLeDiff, Nat.reduceBEq, Nat.reducePow, Int.reduceLE, Int.reduceLT, Int.reduceEq, Int.reduceNeg, Int.reduceAdd, Int.reduceToNat, h1, hx, hmx, form_eta, getD_map_lt, Tryd.f40, U42, U41, V40, V39, V38, V37, V36, V35, V34, V33, V32, V31, V30, V29, R28, R27, R22, R21, R20, R19, R18, R17, R16, R15, R14, R13, R12, R11, R10, R9, R8, R7, R6, R5, R4, R3, R2, R1, Q20, Q19, Q18, Q17, Q16, Q15, Q14, Q13, Q12, Q11, Q10, Q9, Q8, Q7, Q6, Q5, Q4, Q3, Q2, Q1, Tbl0])
        refine ⟨⟨i + 1, by omega, kp.out hmx⟩, by simp only; omega, ?_⟩
        refine Weak_to ?_ ?_ ?_ <;> simp only [go_sem, reduceIte, reduceCtorEq, Nat.reduceEqDiff, Nat.reduceAdd, Nat.reduceSub, Nat.reduceMul, Nat.reduceDiv, Nat.reduceMod, Nat.reduceLT, Nat.reduceLeDiff, Nat.reduceBEq, Nat.reducePow, Int.reduceLE, Int.reduceLT, Int.reduceEq, Int.reduceNeg, Int.reduceAdd, Int.reduceToNat]
    · obtain rfl : i = f.subs.length := by omega
      have hq : mergedM f = false := by rw [kE.out]; exact mergedMs_none fun j h => hpi j h h
      repeat' (first | refine ReqK.i (by omega) fun _ => ?_ | simp only [go_sem, reduceIte, reduceCtorEq, Nat.reduceEqDiff, Nat.reduceAdd, Nat.reduceSub, Nat.reduceMul, Nat.reduceDiv, Nat.reduceMod, Nat.reduceLT, Nat.reduceLeDiff, Nat.reduceBEq, Nat.reducePow, Int.reduceLE, Int.reduceLT, Int.reduceEq, Int.reduceNeg, Int.reduceAdd, Int.reduceToNat, Nat.lt_irrefl, Tryd.f40])
      exact kf.out hq

def sE : Str := ⟨[101]⟩
def sArg1 : Str := ⟨[97, 114, 103, 49]⟩
def fKimU : Abs.Form := predM sWalk [sKim]
def hKimU : Abs.Form := .mk 5 ⟨[]⟩ [] [.mk 2 sWalk [sE] [], .mk 2 sArg1 [sE, sKim] []]
def wKimU : Abs.Form := .mk 9 sE [] [hKimU]
theorem two_u : twoM 5 (predM sWalk [sE]) (predM sArg1 [sE, sKim]) = hKimU := rfl
theorem bnd_u : boundU 9 sE hKimU = wKimU := rfl
theorem wKim_eq : splitF sE sWalk [sKim] = wKimU := by
  have h1 : splitF sE sWalk [sKim] = .mk 9 sE [] [.mk 5 ⟨[]⟩ [] [.mk 2 sWalk [sE] [], .mk 2 (argS 0) [sE, sKim] []]] := rfl
  have h2 : argS 0 = sArg1 := by unfold argS sArg1; rw [digits_small (by decide)]; rfl
  rw [h1, h2]; rfl
theorem merge_x : mergeP wKimU = (fKimU, ⟨0, 0⟩) := by
  have h1 : (checkM false wKimU).code = 0 := by kernel_rfl
  have h2 : changeM mergeBy wKimU = fKimU := by
    rw [← wKim_eq]
    exact merge_split (by decide) (by decide) (by decide)
  have h3 : fitsM fKimU = true := by kernel_rfl
  have h4 : canonM fKimU [] = fKimU := by
    unfold canonM fKimU predM
    rw [ren, if_neg (by decide), rens]
    rfl
  unfold mergeP
  rw [if_neg (by simp [h1]), h2]
  unfold doneF doneE
  rw [h3, if_pos rfl, if_pos rfl, h4]
theorem splitP_ok {f g : Abs.Form} {ps : List Str} {e : Fault} (h : splitP f ps = (g, e)) (he : e.code = 0) : (checkM false f).code = 0 ∧ fitsM (changeM (splitBy qM ps) f) = true ∧ g = canonM (changeM (splitBy qM ps) f) [] ∧ e = ⟨0, 0⟩ := by
  unfold splitP at h
  split at h
  · rename_i h1
    obtain ⟨rfl, rfl⟩ := Prod.mk.inj h
    exact absurd he h1
  · rename_i h1
    split at h
    · obtain ⟨rfl, rfl⟩ := Prod.mk.inj h
      exact absurd he (by decide)
    · split at h
      · obtain ⟨rfl, rfl⟩ := Prod.mk.inj h
        exact absurd he (by decide)
      · obtain ⟨rfl, rfl⟩ := Prod.mk.inj h
        unfold doneE at he
        split at he
        · rename_i h2
          refine ⟨Decidable.not_not.1 h1, h2, ?_, ?_⟩
          · unfold doneF; rw [if_pos h2]
          · unfold doneE; rw [if_pos h2]
        · exact absurd he (by decide)
set_option maxRecDepth 100000 in
set_option maxHeartbeats 1000000 in
set_option maxHeartbeats 8000000 in
theorem lawF13 (hT : TblOk Tryd.prog GA U43) (f : Abs.Form) (ps : List Str) (_ : (enc f).Wf) (hwp : (enc ps).Wf) : Wcall Tryd.prog GA 8 [.fz (enc f), .fz (enc ps)] (hpL []) 0 (fun d _ _ => d = .fz (.b true)) := by
  have dW : Str.mk [119, 97, 108, 107] = sWalk := rfl
  have dK : Str.mk [107, 105, 109] = sKim := rfl
  have dE : Str.mk [101] = sE := rfl
  have dA : Str.mk [97, 114, 103, 49] = sArg1 := rfl
  have dF : predM sWalk [sKim] = fKimU := rfl
  have zm := zero_mk
  have hsm : True := trivial
  obtain ⟨g, e, hge⟩ : ∃ g e, splitP f ps = (g, e) := ⟨_, _, rfl⟩
  refine Wcall_K (N := 71) hm hT 8000 (lst []) ok8 Tryd.func8 rfl rfl (by simp) (by kernel_rfl) ?_
  by_cases he : e.code = 0
  rotate_left
  · have he' : (e.code = 0) = False := eq_false he
    repeat' (first | refine ReqK.i hsm fun _ => ?_ | refine ReqK.i (by omega) fun _ => ?_ | refine ReqK.i (by unfold maxL; omega) fun _ => ?_ | refine ReqK.i ⟨rfl, rfl⟩ fun _ => ?_ | refine ReqK.i rfl fun _ => ?_ | refine ReqK.i ⟨rfl, rfl, rfl⟩ fun _ => ?_ | refine ReqK.i ⟨rfl, rfl, rfl, trivial⟩ fun _ => ?_ | simp only [go_sem, reduceIte, reduceCtorEq, Nat.reduceEqDiff, Nat.reduceAdd, Nat.reduceSub, Nat.reduceMul, Nat.reduceDiv, Nat.reduceMod, Nat.reduceLT, Nat.reduceLeDiff, Nat.reduceBEq, Nat.reducePow, Int.reduceLE, Int.reduceLT, Int.reduceEq, Int.reduceNeg, Int.reduceAdd, Int.reduceToNat, hge, he', dW, dK, dE, dA, dF, two_u, bnd_u, merge_x, zm, str_eta, form_eta, GA, Tryd.f8, U43, U42, U41, V40, V39, V38, V37, V36, V35, V34, V33, V32, V31, V30, V29, R28, R27, R22, R21, R20, R19, R18, R17, R16, R15, R14, R13, R12, R11, R10, R9, R8, R7, R6, R5, R4, R3, R2, R1, Q20, Q19, Q18, Q17, Q16, Q15, Q14, Q13, Q12, Q11, Q10, Q9, Q8, Q7, Q6, Q5, Q4, Q3, Q2, Q1, Tbl0])
  obtain ⟨h1, h2, h3, rfl⟩ := splitP_ok hge he
  have hpm : mgP f := ⟨⟨checkM_wfE h1, by have := checkM_size h1; omega⟩, checkM_fit h1⟩
  cases hmg : mergedM f with
  | true =>
    have hsm := hpm
    repeat' (first | refine ReqK.i hsm fun _ => ?_ | refine ReqK.i (by omega) fun _ => ?_ | refine ReqK.i (by unfold maxL; omega) fun _ => ?_ | refine ReqK.i ⟨rfl, rfl⟩ fun _ => ?_ | refine ReqK.i rfl fun _ => ?_ | refine ReqK.i ⟨rfl, rfl, rfl⟩ fun _ => ?_ | refine ReqK.i ⟨rfl, rfl, rfl, trivial⟩ fun _ => ?_ | simp only [go_sem, reduceIte, reduceCtorEq, Nat.reduceEqDiff, Nat.reduceAdd, Nat.reduceSub, Nat.reduceMul, Nat.reduceDiv, Nat.reduceMod, Nat.reduceLT, Nat.reduceLeDiff, Nat.reduceBEq, Nat.reducePow, Int.reduceLE, Int.reduceLT, Int.reduceEq, Int.reduceNeg, Int.reduceAdd, Int.reduceToNat, hge, hmg, dW, dK, dE, dA, dF, two_u, bnd_u, merge_x, zm, str_eta, form_eta, GA, Tryd.f8, U43, U42, U41, V40, V39, V38, V37, V36, V35, V34, V33, V32, V31, V30, V29, R28, R27, R22, R21, R20, R19, R18, R17, R16, R15, R14, R13, R12, R11, R10, R9, R8, R7, R6, R5, R4, R3, R2, R1, Q20, Q19, Q18, Q17, Q16, Q15, Q14, Q13, Q12, Q11, Q10, Q9, Q8, Q7, Q6, Q5, Q4, Q3, Q2, Q1, Tbl0])
  | false =>
    obtain ⟨u1, u2, u3⟩ := undoes h1 h2 hmg
    rw [← h3] at u1 u2 u3
    obtain ⟨c, hcc⟩ : ∃ c, canonM f [] = c := ⟨_, rfl⟩
    have e1 : mergeP g = (c, ⟨0, 0⟩) := by
      unfold mergeP
      rw [u1, if_neg (by decide)]
      unfold doneF doneE
      rw [if_pos u2, if_pos u2, u3, hcc]
    have e2 : canonP f = (c, ⟨0, 0⟩) := by unfold canonP; rw [if_neg (by simp [h1]), hcc]
    clear u1 u2 u3 h3
    have hsm := hpm
    repeat' (first | refine ReqK.i hsm fun _ => ?_ | refine ReqK.i (by omega) fun _ => ?_ | refine ReqK.i (by unfold maxL; omega) fun _ => ?_ | refine ReqK.i ⟨rfl, rfl⟩ fun _ => ?_ | refine ReqK.i rfl fun _ => ?_ | refine ReqK.i ⟨rfl, rfl, rfl⟩ fun _ => ?_ | refine ReqK.i ⟨rfl, rfl, rfl, trivial⟩ fun _ => ?_ | simp only [go_sem, reduceIte, reduceCtorEq, Nat.reduceEqDiff, Nat.reduceAdd, Nat.reduceSub, Nat.reduceMul, Nat.reduceDiv, Nat.reduceMod, Nat.reduceLT, Nat.reduceLeDiff, Nat.reduceBEq, Nat.reducePow, Int.reduceLE, Int.reduceLT, Int.reduceEq, Int.reduceNeg, Int.reduceAdd, Int.reduceToNat, hge, hmg, e1, e2, dW, dK, dE, dA, dF, two_u, bnd_u, merge_x, zm, str_eta, form_eta, GA, Tryd.f8, U43, U42, U41, V40, V39, V38, V37, V36, V35, V34, V33, V32, V31, V30, V29, R28, R27, R22, R21, R20, R19, R18, R17, R16, R15, R14, R13, R12, R11, R10, R9, R8, R7, R6, R5, R4, R3, R2, R1, Q20, Q19, Q18, Q17, Q16, Q15, Q14, Q13, Q12, Q11, Q10, Q9, Q8, Q7, Q6, Q5, Q4, Q3, Q2, Q1, Tbl0])
end Go.Proofs.YtoicheicnbjfeaaDoor
