import Derived.Test.YtomhobohcejocaaDoorQ36
set_option linter.unusedSimpArgs false
namespace Go.Proofs.YtomhobohcejocaaDoor
open Go Go.Abs Go.Proofs

/-! ## plural.Each and the document's -/
def eachP (f : Abs.Form) (name : Str) (group : List Str) : Abs.Form × Fault :=
  if (checkM false f).code ≠ 0 then (zeroF, checkM false f) else if isName name = false then (zeroF, ⟨10, -2⟩) else if (chkG group (-3)).code ≠ 0 then (zeroF, chkG group (-3)) else (doneF (eachM f name group), doneE (eachM f name group))
def tree503 : Tv := (.q 0 (.br [(1, (.br [(2, (.br [(3, .leaf)]))])), (2, (.q 1 (.br [(3, .leaf)])))]))
theorem list_ne {α : Type} {l : List α} (h : 1 ≤ l.length) : l ≠ [] := fun e => by rw [e] at h; simp at h
theorem each_fit {f : Abs.Form} {name : Str} {group : List Str} (h : (checkM false f).code = 0) (hg : group.length ≤ 5) : szPre (eachM f name group) := by
  refine ⟨joinM_fit 5 ((fits_mem _).2 fun g hgm => ?_), ?_⟩
  · obtain ⟨x, _, rfl⟩ := List.mem_map.1 hgm
    rw [canonM_fit]; exact checkM_fit h
  · have h1 := joinM_size 5 (group.map fun g => canonM f [⟨name, g⟩])
    have h2 := sizes_mul (c := 200) (group.map fun g => canonM f [⟨name, g⟩]) fun g hgm => by
      obtain ⟨x, _, rfl⟩ := List.mem_map.1 hgm
      rw [canonM_size]; exact checkM_size h
    unfold eachM
    rw [List.length_map] at h1 h2
    omega
def R23 : Tbl := R22.add 50 (sp3p eachP fun _ _ _ => True)
set_option maxRecDepth 100000 in
set_option maxHeartbeats 1000000 in
theorem hR23 : TblOk Tryd.prog GA R23 := by
  refine sp3p_ok ok50 hR22 fun f name group _ hwf _ hwg => ?_
  have la := Wf_sl hwg
  simp only [List.length_map, maxL] at la
  by_cases hc1 : ¬ (checkM false f).code = 0
  · have e1 : eachP f name group = (zeroF, checkM false f) := by unfold eachP; rw [if_pos hc1]
    simp only [e1, zeroF]
    refine Wcall_K (N := 51) hm hR22 50000 (lsw [44] [1000003, 1000008]) ok50 Tryd.func50 rfl rfl (by simp) (by kernel_rfl) ?_
    repeat' (first | refine WK_drawV hm hR22 50000 (lsw [44] [1000003, 1000008]) tree503 (by kernel_rfl) (by kernel_rfl) ?_ | refine And.intro ?_ ?_ | exact True.intro | refine ReqK.i (by omega) fun _ => ?_ | refine ReqK.i (by unfold maxL; omega) fun _ => ?_ | refine ReqK.i (fits_of2 (by first | omega | (simp only [List.length_map, List.length_take, List.length_append, List.length_cons, List.length_nil]; omega)) (by decide)) fun _ => ?_ | simp only [go_sem, reduceIte, reduceCtorEq, Nat.reduceEqDiff, Nat.reduceAdd, Nat.reduceSub, Nat.reduceMul, Nat.reduceDiv, Nat.reduceMod, Nat.reduceLT, Nat.reduceLeDiff, Nat.reduceBEq, Nat.reducePow, Int.reduceLE, Int.reduceLT, Int.reduceEq, Int.reduceNeg, Int.reduceAdd, Int.reduceToNat, hc1, form_eta, tree503, Tryd.f50, R22, R21, R20, R19, R18, R17, R16, R15, R14, R13, R12, R11, R10, R9, R8, R7, R6, R5, R4, R3, R2, R1, Q20, Q19, Q18, Q17, Q16, Q15, Q14, Q13, Q12, Q11, Q10, Q9, Q8, Q7, Q6, Q5, Q4, Q3, Q2, Q1, Tbl0])
  have hc1 := Decidable.not_not.1 hc1
  have hck := checkM_code hc1
  by_cases hc2 : isName name = false
  · have e1 : eachP f name group = (zeroF, ⟨10, -2⟩) := by unfold eachP; rw [if_neg (by simp [hc1]), if_pos hc2]
    simp only [e1, zeroF]
    refine Wcall_K (N := 51) hm hR22 50000 (lsw [44] [1000003, 1000008]) ok50 Tryd.func50 rfl rfl (by simp) (by kernel_rfl) ?_
    repeat' (first | refine WK_drawV hm hR22 50000 (lsw [44] [1000003, 1000008]) tree503 (by kernel_rfl) (by kernel_rfl) ?_ | refine And.intro ?_ ?_ | exact True.intro | refine ReqK.i (by omega) fun _ => ?_ | refine ReqK.i (by unfold maxL; omega) fun _ => ?_ | refine ReqK.i (fits_of2 (by first | omega | (simp only [List.length_map, List.length_take, List.length_append, List.length_cons, List.length_nil]; omega)) (by decide)) fun _ => ?_ | simp only [go_sem, reduceIte, reduceCtorEq, Nat.reduceEqDiff, Nat.reduceAdd, Nat.reduceSub, Nat.reduceMul, Nat.reduceDiv, Nat.reduceMod, Nat.reduceLT, Nat.reduceLeDiff, Nat.reduceBEq, Nat.reducePow, Int.reduceLE, Int.reduceLT, Int.reduceEq, Int.reduceNeg, Int.reduceAdd, Int.reduceToNat, hc1, hck, hc2, form_eta, str_eta, tree503, Tryd.f50, R22, R21, R20, R19, R18, R17, R16, R15, R14, R13, R12, R11, R10, R9, R8, R7, R6, R5, R4, R3, R2, R1, Q20, Q19, Q18, Q17, Q16, Q15, Q14, Q13, Q12, Q11, Q10, Q9, Q8, Q7, Q6, Q5, Q4, Q3, Q2, Q1, Tbl0])
  have hc2 : isName name = true := by simpa using hc2
  by_cases hc3 : ¬ (chkG group (-3)).code = 0
  · have e1 : eachP f name group = (zeroF, chkG group (-3)) := by unfold eachP; rw [if_neg (by simp [hc1]), if_neg (by simp [hc2]), if_pos hc3]
    simp only [e1, zeroF]
    refine Wcall_K (N := 51) hm hR22 50000 (lsw [44] [1000003, 1000008]) ok50 Tryd.func50 rfl rfl (by simp) (by kernel_rfl) ?_
    repeat' (first | refine WK_drawV hm hR22 50000 (lsw [44] [1000003, 1000008]) tree503 (by kernel_rfl) (by kernel_rfl) ?_ | refine And.intro ?_ ?_ | exact True.intro | refine ReqK.i (by omega) fun _ => ?_ | refine ReqK.i (by unfold maxL; omega) fun _ => ?_ | refine ReqK.i (fits_of2 (by first | omega | (simp only [List.length_map, List.length_take, List.length_append, List.length_cons, List.length_nil]; omega)) (by decide)) fun _ => ?_ | simp only [go_sem, reduceIte, reduceCtorEq, Nat.reduceEqDiff, Nat.reduceAdd, Nat.reduceSub, Nat.reduceMul, Nat.reduceDiv, Nat.reduceMod, Nat.reduceLT, Nat.reduceLeDiff, Nat.reduceBEq, Nat.reducePow, Int.reduceLE, Int.reduceLT, Int.reduceEq, Int.reduceNeg, Int.reduceAdd, Int.reduceToNat, hc1, hck, hc2, hc3, form_eta, str_eta, tree503, Tryd.f50, R22, R21, R20, R19, R18, R17, R16, R15, R14, R13, R12, R11, R10, R9, R8, R7, R6, R5, R4, R3, R2, R1, Q20, Q19, Q18, Q17, Q16, Q15, Q14, Q13, Q12, Q11, Q10, Q9, Q8, Q7, Q6, Q5, Q4, Q3, Q2, Q1, Tbl0])
  have hc3 := Decidable.not_not.1 hc3
  obtain ⟨hc3e, hg1, hg5, hgn⟩ := chkG_zero hc3
  have e1 : eachP f name group = (doneF (eachM f name group), doneE (eachM f name group)) := by unfold eachP; rw [if_neg (by simp [hc1]), if_neg (by simp [hc2]), if_neg (by simp [hc3])]
  have hfit := checkM_fit hc1
  have hsz := checkM_size hc1
  have hput : f.fit = true ∧ f.size ≤ 1000 := ⟨hfit, by omega⟩
  have hdone := each_fit (name := name) hc1 hg5
  obtain ⟨L, hL⟩ : ∃ L : Nat → List Abs.Form, L = fun i => (group.take i).map fun g => canonM f [⟨name, g⟩] := ⟨_, rfl⟩
  have hL0 : L 0 = [] := by rw [hL]; rfl
  have hLs : ∀ i (h : i < group.length), L (i + 1) = L i ++ [canonM f [⟨name, group[i]⟩]] := fun i h => by rw [hL]; simp only [List.take_succ_eq_append_getElem h, List.map_append, List.map_cons, List.map_nil]
  have hLl : ∀ i, (L i).length ≤ group.length := fun i => by rw [hL]; simp only [List.length_map, List.length_take]; omega
  have hLe : joinM 5 (L group.length) = eachM f name group := by rw [hL]; simp only [List.take_length]; rfl
  have hjp : joinPre 5 (L group.length) := by
    refine ⟨list_ne ?_, ?_⟩
    · rw [hL]; simp only [List.length_map, List.take_length]; exact hg1
    · have := hLl group.length; omega
  obtain ⟨E, hE⟩ : ∃ E, eachM f name group = E := ⟨_, rfl⟩
  rw [hE] at hLe hdone
  obtain ⟨c, hcE⟩ : ∃ c, doneF E = c := ⟨_, rfl⟩
  simp only [e1, hE, hcE]
  have kL := Kp.mk hLs
  clear hL hLs
  refine Wcall_K (N := 51) hm hR22 50000 (lsw [44] [1000003, 1000008]) ok50 Tryd.func50 rfl rfl (by simp) (by kernel_rfl) ?_
  repeat' (first | refine ReqK.i (by omega) fun _ => ?_ | refine ReqK.i (by unfold maxL; omega) fun _ => ?_ | refine ReqK.i (fits_of2 (by first | omega | (simp only [List.length_map, List.length_take, List.length_append, List.length_cons, List.length_nil]; omega)) (by decide)) fun _ => ?_ | simp only [go_sem, reduceIte, reduceCtorEq, Nat.reduceEqDiff, Nat.reduceAdd, Nat.reduceSub, Nat.reduceMul, Nat.reduceDiv, Nat.reduceMod, Nat.reduceLT, Nat.reduceLeDiff, Nat.reduceBEq, Nat.reducePow, Int.reduceLE, Int.reduceLT, Int.reduceEq, Int.reduceNeg, Int.reduceAdd, Int.reduceToNat, hc1, hck, hc2, hc3, hc3e, form_eta, str_eta, Tryd.f50, R22, R21, R20, R19, R18, R17, R16, R15, R14, R13, R12, R11, R10, R9, R8, R7, R6, R5, R4, R3, R2, R1, Q20, Q19, Q18, Q17, Q16, Q15, Q14, Q13, Q12, Q11, Q10, Q9, Q8, Q7, Q6, Q5, Q4, Q3, Q2, Q1, Tbl0])
  refine WK_loop hm hR22 50000 (lsw [44] [1000003, 1000008]) (ι := LoopG group.length 6 fun _ => True)
    ⟨fun q => ⟨frL [(1, .fz (.s name.l)), (3, .ptr (50003, 0) 0), (6, .ptr (50006, 1) 0), (7, .ptr (50007, 2) 0), (10, .ow (50044, q.g) 4 ((L q.i).map enc)), (32, .fz (.sl (group.map enc))), (33, .fz (.i .i64 group.length)), (34, .fz (.i .i64 q.i))],
      hpL [((50003, 0), some ⟨[.fz (.i .i64 f.kind), .fz (.s f.name.l), .fz (.sl (f.words.map enc)), .fz (.sl (f.subs.map enc))], true, false⟩), ((50006, 1), some ⟨[.fz (.i .i64 0), .fz (.s []), .full [], .full []], true, false⟩), ((50007, 2), some ⟨[.fz (.i .i64 0), .fz (.i .i64 0)], true, false⟩), ((50044, q.g), some tok)], q.m⟩, fun q => group.length - q.i⟩
    ⟨0, 5, 6, by omega, by omega, by omega, trivial⟩ (by kernel_rfl) ?_ ?_
  · refine Weak_g [] [(50044, 5)] [] ?_ ?_ ?_ ?_ ?_ <;> simp only [go_sem, reduceIte, reduceCtorEq, Nat.reduceEqDiff, Nat.reduceAdd, Nat.reduceSub, Nat.reduceMul, Nat.reduceDiv, Nat.reduceMod, Nat.reduceLT, Nat.reduceLeDiff, Nat.reduceBEq, Nat.reducePow, Int.reduceLE, Int.reduceLT, Int.reduceEq, Int.reduceNeg, Int.reduceAdd, Int.reduceToNat, hL0]
    all_goals first | done | rfl | omega | trace_state
  rintro ⟨i, g, m, hi, hg, hm1, _⟩
  try simp only at hi hg hm1
  rcases Nat.lt_or_ge i group.length with h1 | h1
  · have hls := kL.out i h1
    have hll := hLl i
    obtain ⟨x, hx⟩ : ∃ x, group[i] = x := ⟨_, rfl⟩
    rw [hx] at hls
    obtain ⟨y, hy⟩ : ∃ y, canonM f [⟨name, x⟩] = y := ⟨_, rfl⟩
    rw [hy] at hls
    repeat' (first | refine ReqK.i hput fun _ => ?_ | refine ReqK.i (by omega) fun _ => ?_ | refine ReqK.i (by unfold maxL; omega) fun _ => ?_ | refine ReqK.i (fits_of2 (by first | omega | (simp only [List.length_map, List.length_take, List.length_append, List.length_cons, List.length_nil]; omega)) (by decide)) fun _ => ?_ | simp only [go_sem, reduceIte, reduceCtorEq, Nat.reduceEqDiff, Nat.reduceAdd, Nat.reduceSub, Nat.reduceMul, Nat.reduceDiv, Nat.reduceMod, Nat.reduceLT, Nat.reduceLeDiff, Nat.reduceBEq, Nat.reducePow, Int.reduceLE, Int.reduceLT, Int.reduceEq, Int.reduceNeg, Int.reduceAdd, Int.reduceToNat, h1, hx, hy, form_eta, str_eta, getD_map_lt, Tryd.f50, R22, R21, R20, R19, R18, R17, R16, R15, R14, R13, R12, R11, R10, R9, R8, R7, R6, R5, R4, R3, R2, R1, Q20, Q19, Q18, Q17, Q16, Q15, Q14, Q13, Q12, Q11, Q10, Q9, Q8, Q7, Q6, Q5, Q4, Q3, Q2, Q1, Tbl0])
    refine ⟨⟨i + 1, m, m + 1, by omega, by omega, by omega, trivial⟩, by simp only; omega, ?_⟩
    refine Weak_to ?_ ?_ ?_ <;> (try simp only [go_sem, reduceIte, reduceCtorEq, Nat.reduceEqDiff, Nat.reduceAdd, Nat.reduceSub, Nat.reduceMul, Nat.reduceDiv, Nat.reduceMod, Nat.reduceLT, Nat.reduceLeDiff, Nat.reduceBEq, Nat.reducePow, Int.reduceLE, Int.reduceLT, Int.reduceEq, Int.reduceNeg, Int.reduceAdd, Int.reduceToNat, hls, List.map_append])
    all_goals first | done | omega | rfl | trace_state
  · obtain rfl : i = group.length := by omega
    repeat' (first | refine ReqK.i hjp fun _ => ?_ | refine ReqK.i hdone fun _ => ?_ | refine ReqK.i (by omega) fun _ => ?_ | refine ReqK.i (by unfold maxL; omega) fun _ => ?_ | refine ReqK.i (fits_of2 (by first | omega | (simp only [List.length_map, List.length_take, List.length_append, List.length_cons, List.length_nil]; omega)) (by decide)) fun _ => ?_ | simp only [go_sem, reduceIte, reduceCtorEq, Nat.reduceEqDiff, Nat.reduceAdd, Nat.reduceSub, Nat.reduceMul, Nat.reduceDiv, Nat.reduceMod, Nat.reduceLT, Nat.reduceLeDiff, Nat.reduceBEq, Nat.reducePow, Int.reduceLE, Int.reduceLT, Int.reduceEq, Int.reduceNeg, Int.reduceAdd, Int.reduceToNat, Nat.lt_irrefl, hLe, hcE, form_eta, Tryd.f50, R22, R21, R20, R19, R18, R17, R16, R15, R14, R13, R12, R11, R10, R9, R8, R7, R6, R5, R4, R3, R2, R1, Q20, Q19, Q18, Q17, Q16, Q15, Q14, Q13, Q12, Q11, Q10, Q9, Q8, Q7, Q6, Q5, Q4, Q3, Q2, Q1, Tbl0])
def eachR (f : Abs.Form) (name : Str) (group : List Str) : Abs.Form := joinM 5 (group.map fun g => wthM f [⟨name, g⟩])
def eachPre (f : Abs.Form) (_ : Str) (group : List Str) : Prop := f.fit = true ∧ f.size ≤ 200 ∧ 1 ≤ group.length ∧ group.length ≤ 5
def R24 : Tbl := R23.add 52 (sp3 eachR eachPre)
set_option maxRecDepth 100000 in
set_option maxHeartbeats 1000000 in
theorem hR24 : TblOk Tryd.prog GA R24 := by
  refine sp3_ok ok52 hR23 fun f name group hpre hwf _ hwg => ?_
  obtain ⟨hfit, hsz, hg1, hg5⟩ := hpre
  have hput : ∀ x : Str, wthPre f [name] [x] := fun x => ⟨hfit, by omega, rfl, by simp⟩
  have hz : ∀ x : Str, List.zipWith Abs.Bind.mk [name] [x] = [⟨name, x⟩] := fun x => rfl
  obtain ⟨L, hL⟩ : ∃ L : Nat → List Abs.Form, L = fun i => (group.take i).map fun g => wthM f [⟨name, g⟩] := ⟨_, rfl⟩
  have hL0 : L 0 = [] := by rw [hL]; rfl
  have hLs : ∀ i (h : i < group.length), L (i + 1) = L i ++ [wthM f [⟨name, group[i]⟩]] := fun i h => by rw [hL]; simp only [List.take_succ_eq_append_getElem h, List.map_append, List.map_cons, List.map_nil]
  have hLl : ∀ i, (L i).length ≤ group.length := fun i => by rw [hL]; simp only [List.length_map, List.length_take]; omega
  have hLe : joinM 5 (L group.length) = eachR f name group := by rw [hL]; simp only [List.take_length]; rfl
  have hjp : joinPre 5 (L group.length) := by
    refine ⟨list_ne ?_, ?_⟩
    · rw [hL]; simp only [List.length_map, List.take_length]; exact hg1
    · have := hLl group.length; omega
  obtain ⟨E, hE⟩ : ∃ E, eachR f name group = E := ⟨_, rfl⟩
  rw [hE] at hLe ⊢
  have kL := Kp.mk hLs
  clear hL hLs
  refine Wcall_K (N := 28) hm hR23 52000 (lsw [24] []) ok52 Tryd.func52 rfl rfl (by simp) (by kernel_rfl) ?_
  repeat' (first | refine ReqK.i (by omega) fun _ => ?_ | refine ReqK.i (by unfold maxL; omega) fun _ => ?_ | refine ReqK.i (fits_of2 (by first | omega | (simp only [List.length_map, List.length_take, List.length_append, List.length_cons, List.length_nil]; omega)) (by decide)) fun _ => ?_ | simp only [go_sem, reduceIte, reduceCtorEq, Nat.reduceEqDiff, Nat.reduceAdd, Nat.reduceSub, Nat.reduceMul, Nat.reduceDiv, Nat.reduceMod, Nat.reduceLT, Nat.reduceLeDiff, Nat.reduceBEq, Nat.reducePow, Int.reduceLE, Int.reduceLT, Int.reduceEq, Int.reduceNeg, Int.reduceAdd, Int.reduceToNat, form_eta, str_eta, Tryd.f52, R23, R22, R21, R20, R19, R18, R17, R16, R15, R14, R13, R12, R11, R10, R9, R8, R7, R6, R5, R4, R3, R2, R1, Q20, Q19, Q18, Q17, Q16, Q15, Q14, Q13, Q12, Q11, Q10, Q9, Q8, Q7, Q6, Q5, Q4, Q3, Q2, Q1, Tbl0])
  refine WK_loop hm hR23 52000 (lsw [24] []) (ι := LoopG group.length 3 fun _ => True)
    ⟨fun q => ⟨frL [(1, .fz (.s name.l)), (3, .ptr (52003, 0) 0), (6, .ptr (52006, 1) 0), (7, .ow (52024, q.g) 4 ((L q.i).map enc)), (10, .fz (.sl (group.map enc))), (11, .fz (.i .i64 group.length)), (12, .fz (.i .i64 q.i))],
      hpL [((52003, 0), some ⟨[.fz (.i .i64 f.kind), .fz (.s f.name.l), .fz (.sl (f.words.map enc)), .fz (.sl (f.subs.map enc))], true, false⟩), ((52006, 1), some ⟨[.fz (.i .i64 0), .fz (.s []), .full [], .full []], true, false⟩), ((52024, q.g), some tok)], q.m⟩, fun q => group.length - q.i⟩
    ⟨0, 2, 3, by omega, by omega, by omega, trivial⟩ (by kernel_rfl) ?_ ?_
  · refine Weak_g [] [(52024, 2)] [] ?_ ?_ ?_ ?_ ?_ <;> simp only [go_sem, reduceIte, reduceCtorEq, Nat.reduceEqDiff, Nat.reduceAdd, Nat.reduceSub, Nat.reduceMul, Nat.reduceDiv, Nat.reduceMod, Nat.reduceLT, Nat.reduceLeDiff, Nat.reduceBEq, Nat.reducePow, Int.reduceLE, Int.reduceLT, Int.reduceEq, Int.reduceNeg, Int.reduceAdd, Int.reduceToNat, hL0]
    all_goals first | done | rfl | omega | trace_state
  rintro ⟨i, g, m, hi, hg, hm1, _⟩
  try simp only at hi hg hm1
  rcases Nat.lt_or_ge i group.length with h1 | h1
  · have hls := kL.out i h1
    have hll := hLl i
    obtain ⟨x, hx⟩ : ∃ x, group[i] = x := ⟨_, rfl⟩
    rw [hx] at hls
    obtain ⟨y, hy⟩ : ∃ y, wthM f [⟨name, x⟩] = y := ⟨_, rfl⟩
    rw [hy] at hls
    have hpx := hput x
    repeat' (first | refine ReqK.i hpx fun _ => ?_ | refine ReqK.i (by omega) fun _ => ?_ | refine ReqK.i (by unfold maxL; omega) fun _ => ?_ | refine ReqK.i (fits_of2 (by first | omega | (simp only [List.length_map, List.length_take, List.length_append, List.length_cons, List.length_nil]; omega)) (by decide)) fun _ => ?_ | simp only [go_sem, reduceIte, reduceCtorEq, Nat.reduceEqDiff, Nat.reduceAdd, Nat.reduceSub, Nat.reduceMul, Nat.reduceDiv, Nat.reduceMod, Nat.reduceLT, Nat.reduceLeDiff, Nat.reduceBEq, Nat.reducePow, Int.reduceLE, Int.reduceLT, Int.reduceEq, Int.reduceNeg, Int.reduceAdd, Int.reduceToNat, h1, hx, hz, hy, form_eta, str_eta, getD_map_lt, Tryd.f52, R23, R22, R21, R20, R19, R18, R17, R16, R15, R14, R13, R12, R11, R10, R9, R8, R7, R6, R5, R4, R3, R2, R1, Q20, Q19, Q18, Q17, Q16, Q15, Q14, Q13, Q12, Q11, Q10, Q9, Q8, Q7, Q6, Q5, Q4, Q3, Q2, Q1, Tbl0])
    refine ⟨⟨i + 1, m, m + 10, by omega, by omega, by omega, trivial⟩, by simp only; omega, ?_⟩
    refine Weak_to ?_ ?_ ?_ <;> (try simp only [go_sem, reduceIte, reduceCtorEq, Nat.reduceEqDiff, Nat.reduceAdd, Nat.reduceSub, Nat.reduceMul, Nat.reduceDiv, Nat.reduceMod, Nat.reduceLT, Nat.reduceLeDiff, Nat.reduceBEq, Nat.reducePow, Int.reduceLE, Int.reduceLT, Int.reduceEq, Int.reduceNeg, Int.reduceAdd, Int.reduceToNat, hls, List.map_append])
    all_goals first | done | omega | rfl | trace_state
  · obtain rfl : i = group.length := by omega
    repeat' (first | refine ReqK.i hjp fun _ => ?_ | refine ReqK.i (by omega) fun _ => ?_ | refine ReqK.i (by unfold maxL; omega) fun _ => ?_ | refine ReqK.i (fits_of2 (by first | omega | (simp only [List.length_map, List.length_take, List.length_append, List.length_cons, List.length_nil]; omega)) (by decide)) fun _ => ?_ | simp only [go_sem, reduceIte, reduceCtorEq, Nat.reduceEqDiff, Nat.reduceAdd, Nat.reduceSub, Nat.reduceMul, Nat.reduceDiv, Nat.reduceMod, Nat.reduceLT, Nat.reduceLeDiff, Nat.reduceBEq, Nat.reducePow, Int.reduceLE, Int.reduceLT, Int.reduceEq, Int.reduceNeg, Int.reduceAdd, Int.reduceToNat, Nat.lt_irrefl, hLe, form_eta, Tryd.f52, R23, R22, R21, R20, R19, R18, R17, R16, R15, R14, R13, R12, R11, R10, R9, R8, R7, R6, R5, R4, R3, R2, R1, Q20, Q19, Q18, Q17, Q16, Q15, Q14, Q13, Q12, Q11, Q10, Q9, Q8, Q7, Q6, Q5, Q4, Q3, Q2, Q1, Tbl0])
end Go.Proofs.YtomhobohcejocaaDoor
