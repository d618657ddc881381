/- several texts of this proof in one; no conditions -/
import Derived.Test.YtoicheicnbjfeaaDoorZQ64Q651
import Derived.Test.YtoicheicnbjfeaaDoorSD
set_option linter.unusedSimpArgs false
namespace Go.Proofs.YtoicheicnbjfeaaDoor
open Go Go.Abs Go.Proofs

/-! ## scope.From -/
def numI (i : Nat) : Str := ⟨digits i⟩
def fromP (f : Abs.Form) : Abs.Scoped × Fault :=
  if (checkM false f).code ≠ 0 then (zeroS, checkM false f)
  else if (scopeM (cutF numI (canonM f []))).code ≠ 0 then (zeroS, ⟨(scopeM (cutF numI (canonM f []))).code, -1⟩) else (cutF numI (canonM f []), ⟨0, 0⟩)
def treeS11 : Tv := (.q 0 (.q 1 (.q 2 (.q 3 (.q 4 (.q 5 (.q 6 (.q 7 (.q 8 (.q 9 (.q 10 (.br [(11, (.br [(12, .leaf)]))]))))))))))))
def treeS20 : Tv := (.q 0 (.q 1 (.q 2 (.q 3 (.q 4 (.q 5 (.q 6 (.q 7 (.br [(8, (.q 9 (.br [(10, .leaf)])))])))))))))
def treeS25 : Tv := (.q 0 (.q 1 (.br [(2, (.q 3 (.br [(4, (.br [(5, .leaf)]))]))), (4, (.q 2 (.q 3 (.br [(5, .leaf)]))))])))
/-- the formula that is left, the pieces and variables so far, the objects of the rows -/
structure CI where
  c : Abs.Form
  P : List Piece
  W : List Str
  g1 : Nat
  g2 : Nat
  m : Nat
structure CIok (num : Nat → Str) (c0 : Abs.Form) (n0 : Nat) (q : CI) : Prop where
  hi : q.P.length ≤ 5
  h1 : q.g1 < q.m
  h2 : q.g2 < q.m
  hm : n0 ≤ q.m
  hW : q.W.length = q.P.length
  hs : shF q.c
  hc : (q.P ++ (cutL num (5 - q.P.length) q.P.length q.c).1, q.W ++ (cutL num (5 - q.P.length) q.P.length q.c).2.1, (cutL num (5 - q.P.length) q.P.length q.c).2.2) = cutL num 5 0 c0
theorem numI_eq (k : Nat) : itoaS (k : Int) = numI k := by show _ = (⟨digits k⟩ : Str); rw [← itoaS_nat]
theorem numI_len {k : Nat} (h : k ≤ 5) : (numI k).l.length = 1 := by show (digits k).length = 1; rw [digits_small (by omega)]; rfl
theorem lN_l {num : Nat → Str} {i : Nat} : (lN num i).l = 108 :: (num i).l := rfl
theorem hN_l {num : Nat → Str} {i : Nat} : (hN num i).l = 104 :: (num i).l := rfl
theorem dec_snoc {α : Type} [Enc α] {l : List α} {x : FD} : dec (α := List α) (.sl (l.map enc ++ [x])) = l ++ [dec x] := by
  show (l.map enc ++ [x]).map dec = _
  rw [List.map_append, map_dec_enc]; rfl
def X35 : Tbl := X34.add 42 (sp1p fromP fun _ => True)
set_option maxRecDepth 100000 in
set_option maxHeartbeats 1000000 in
set_option maxHeartbeats 8000000 in
theorem hX35 : TblOk Tryd.prog GA X35 := by
  refine sp1p_ok ok42 hX34 fun f _ hw => ?_
  by_cases hc1 : ¬ (checkM false f).code = 0
  · have e1 : fromP f = (zeroS, checkM false f) := by unfold fromP; rw [if_pos hc1]
    simp only [e1, zeroS]
    refine Wcall_K (N := 139) hm hX34 42000 (lsw [86, 93, 117, 126] [1000003, 1000011, 1000020, 1000025]) ok42 Tryd.func42 rfl rfl (by simp) (by kernel_rfl) ?_
    repeat' (first | refine WK_drawV hm hX34 42000 (lsw [86, 93, 117, 126] [1000003, 1000011, 1000020, 1000025]) tree503 (by kernel_rfl) (by kernel_rfl) ?_ | refine And.intro ?_ ?_ | exact True.intro | refine ReqK.i (by omega) fun _ => ?_ | refine ReqK.i (fits_of2 (by first | omega | (simp only [List.length_map, List.length_append, List.length_cons, List.length_nil, List.length_range]; omega)) (by decide)) fun _ => ?_ | refine ReqK.i (by unfold maxL; omega) fun _ => ?_ | simp only [go_sem, reduceIte, reduceCtorEq, Nat.reduceEqDiff, Nat.reduceAdd, Nat.reduceSub, Nat.reduceMul, Nat.reduceDiv, Nat.reduceMod, Nat.reduceLT, Nat.reduceLeDiff, Nat.reduceBEq, Nat.reducePow, Int.reduceLE, Int.reduceLT, Int.reduceEq, Int.reduceNeg, Int.reduceAdd, Int.reduceToNat, hc1, tree503, str_eta, form_eta, Tryd.f42, X34, X33, X32, X31, X30, X29, R28, R27, R22, R21, R20, R19, R18, R17, R16, R15, R14, R13, R12, R11, R10, R9, R8, R7, R6, R5, R4, R3, R2, R1, Q20, Q19, Q18, Q17, Q16, Q15, Q14, Q13, Q12, Q11, Q10, Q9, Q8, Q7, Q6, Q5, Q4, Q3, Q2, Q1, Tbl0])
  have hc1 := Decidable.not_not.1 hc1
  have hck := checkM_code hc1
  have hsz := checkM_size hc1
  have hpc : f.fit = true ∧ f.size ≤ 1000 := ⟨checkM_fit hc1, by omega⟩
  have hsh := canonM_shF (env := []) (checkM_shF hc1)
  obtain ⟨c0, hc0⟩ : ∃ c0, canonM f [] = c0 := ⟨_, rfl⟩
  rw [hc0] at hsh
  have e1 : fromP f = if (scopeM (cutF numI c0)).code ≠ 0 then (zeroS, ⟨(scopeM (cutF numI c0)).code, -1⟩) else (cutF numI c0, ⟨0, 0⟩) := by unfold fromP; rw [if_neg (by simp [hc1]), hc0]
  refine Wcall_K (N := 139) hm hX34 42000 (lsw [86, 93, 117, 126] [1000003, 1000011, 1000020, 1000025]) ok42 Tryd.func42 rfl rfl (by simp) (by kernel_rfl) ?_
  repeat' (first | refine ReqK.i hpc fun _ => ?_ | refine And.intro ?_ ?_ | exact True.intro | refine ReqK.i (by omega) fun _ => ?_ | refine ReqK.i (fits_of2 (by first | omega | (simp only [List.length_map, List.length_append, List.length_cons, List.length_nil, List.length_range]; omega)) (by decide)) fun _ => ?_ | refine ReqK.i (by unfold maxL; omega) fun _ => ?_ | simp only [go_sem, reduceIte, reduceCtorEq, Nat.reduceEqDiff, Nat.reduceAdd, Nat.reduceSub, Nat.reduceMul, Nat.reduceDiv, Nat.reduceMod, Nat.reduceLT, Nat.reduceLeDiff, Nat.reduceBEq, Nat.reducePow, Int.reduceLE, Int.reduceLT, Int.reduceEq, Int.reduceNeg, Int.reduceAdd, Int.reduceToNat, hc1, hck, hc0, str_eta, form_eta, Tryd.f42, X34, X33, X32, X31, X30, X29, R28, R27, R22, R21, R20, R19, R18, R17, R16, R15, R14, R13, R12, R11, R10, R9, R8, R7, R6, R5, R4, R3, R2, R1, Q20, Q19, Q18, Q17, Q16, Q15, Q14, Q13, Q12, Q11, Q10, Q9, Q8, Q7, Q6, Q5, Q4, Q3, Q2, Q1, Tbl0])
  clear hc1 hck hsz hpc hc0 hw
  refine WK_loop hm hX34 42000 (lsw [86, 93, 117, 126] [1000003, 1000011, 1000020, 1000025]) (ι := { q : CI // CIok numI c0 8 q })
    ⟨fun q => ⟨frL [(2, .ptr (42002, 1) 0), (3, .ptr (42003, 2) 0), (5, .ptr (42005, 4) 0), (6, .ptr (42006, 5) 0)],
      hpL [((42005, 4), some ⟨[.fz (.i .i64 q.1.c.kind), .fz (.s q.1.c.name.l), .fz (.sl (q.1.c.words.map enc)), .fz (.sl (q.1.c.subs.map enc))], true, false⟩), ((42006, 5), some ⟨[.ow (42086, q.1.g1) 5 (q.1.P.map enc), .full [], .ow (42093, q.1.g2) 1 (q.1.W.map enc)], true, false⟩), ((42086, q.1.g1), some tok), ((42093, q.1.g2), some tok), ((42003, 2), some ⟨[.fz (.i .i64 0), .fz (.i .i64 0)], true, false⟩), ((42002, 1), some ⟨[.full [], .full [], .full []], true, false⟩)], q.1.m⟩, fun q => 5 - q.1.P.length⟩
    ⟨⟨c0, [], [], 6, 7, 8⟩, ⟨by simp, by simp only; omega, by simp only; omega, by simp only; omega, rfl, hsh, by simp⟩⟩ (by kernel_rfl) ?_ ?_
  · refine Weak_g [] [(42086, 6), (42093, 7)] [] ?_ ?_ ?_ ?_ ?_ <;> simp only [go_sem, reduceIte, reduceCtorEq, Nat.reduceEqDiff, Nat.reduceAdd, Nat.reduceSub, Nat.reduceMul, Nat.reduceDiv, Nat.reduceMod, Nat.reduceLT, Nat.reduceLeDiff, Nat.reduceBEq, Nat.reducePow, Int.reduceLE, Int.reduceLT, Int.reduceEq, Int.reduceNeg, Int.reduceAdd, Int.reduceToNat, List.map_nil]
    all_goals first | done | rfl | trace_state
  rintro ⟨⟨c, P, W, g1, g2, m⟩, kp⟩
  obtain ⟨hi, hg1, hg2, hm1, hW, hs, hcl⟩ := kp
  try simp only at hi hg1 hg2 hm1 hW hs hcl
  have hnl := numI_len hi
  have hall := cut_cases numI hs hi hcl
  rcases hall with ⟨h5, g, a, b, hsub, hgs, hk, hg, hsb, epk, hnx⟩ | ⟨h5, g, a, b, hsub, hgs, hk, hg, hsb, epk, hnx⟩ | ⟨hfin, h5, g, hsub, hkA, hg⟩ | ⟨hfin, h5, g, hsub, hkB, hg⟩ | ⟨hfin, h5, hk8, hkC⟩ | ⟨hfin, hD⟩
  · have h5' : (((P.length : Nat) : Int) < 5) = True := eq_true (by omega)
    obtain ⟨p, hp⟩ : ∃ p, pieceK numI P.length c = p := ⟨_, rfl⟩
    rw [hp] at epk hnx
    repeat' (first | refine WK_drawV hm hX34 42000 (lsw [86, 93, 117, 126] [1000003, 1000011, 1000020, 1000025]) treeS11 (by kernel_rfl) (by kernel_rfl) ?_ | refine And.intro ?_ ?_ | exact True.intro | refine ReqK.i (by omega) fun _ => ?_ | refine ReqK.i (fits_of2 (by first | omega | (simp only [List.length_map, List.length_append, List.length_cons, List.length_nil, List.length_range]; omega)) (by decide)) fun _ => ?_ | refine ReqK.i (by unfold maxL; omega) fun _ => ?_ | simp only [go_sem, reduceIte, reduceCtorEq, Nat.reduceEqDiff, Nat.reduceAdd, Nat.reduceSub, Nat.reduceMul, Nat.reduceDiv, Nat.reduceMod, Nat.reduceLT, Nat.reduceLeDiff, Nat.reduceBEq, Nat.reducePow, Int.reduceLE, Int.reduceLT, Int.reduceEq, Int.reduceNeg, Int.reduceAdd, Int.reduceToNat, treeS11, h5', hsub, hgs, hk, hg, numI_eq, str_eta, form_eta, Tryd.f42, X34, X33, X32, X31, X30, X29, R28, R27, R22, R21, R20, R19, R18, R17, R16, R15, R14, R13, R12, R11, R10, R9, R8, R7, R6, R5, R4, R3, R2, R1, Q20, Q19, Q18, Q17, Q16, Q15, Q14, Q13, Q12, Q11, Q10, Q9, Q8, Q7, Q6, Q5, Q4, Q3, Q2, Q1, Tbl0])
    refine ⟨⟨⟨b, P ++ [p], W ++ [c.name], m + 2, m + 3, m + 4⟩, ⟨by simp only [List.length_append, List.length_singleton]; omega, by simp only; omega, by simp only; omega, by simp only; omega, by simp only [List.length_append, List.length_singleton]; omega, hsb, by simp only [List.length_append, List.length_singleton]; exact hnx⟩⟩, by simp only [List.length_append, List.length_singleton]; omega, ?_⟩
    refine Weak_to ?_ ?_ ?_ <;> simp only [go_sem, reduceIte, reduceCtorEq, Nat.reduceEqDiff, Nat.reduceAdd, Nat.reduceSub, Nat.reduceMul, Nat.reduceDiv, Nat.reduceMod, Nat.reduceLT, Nat.reduceLeDiff, Nat.reduceBEq, Nat.reducePow, Int.reduceLE, Int.reduceLT, Int.reduceEq, Int.reduceNeg, Int.reduceAdd, Int.reduceToNat, epk, List.map_append, lN_l, hN_l]
    all_goals first | done | rfl | trace_state
  · have h5' : (((P.length : Nat) : Int) < 5) = True := eq_true (by omega)
    obtain ⟨p, hp⟩ : ∃ p, pieceK numI P.length c = p := ⟨_, rfl⟩
    rw [hp] at epk hnx
    repeat' (first | refine WK_drawV hm hX34 42000 (lsw [86, 93, 117, 126] [1000003, 1000011, 1000020, 1000025]) treeS11 (by kernel_rfl) (by kernel_rfl) ?_ | refine And.intro ?_ ?_ | exact True.intro | refine ReqK.i (by omega) fun _ => ?_ | refine ReqK.i (fits_of2 (by first | omega | (simp only [List.length_map, List.length_append, List.length_cons, List.length_nil, List.length_range]; omega)) (by decide)) fun _ => ?_ | refine ReqK.i (by unfold maxL; omega) fun _ => ?_ | simp only [go_sem, reduceIte, reduceCtorEq, Nat.reduceEqDiff, Nat.reduceAdd, Nat.reduceSub, Nat.reduceMul, Nat.reduceDiv, Nat.reduceMod, Nat.reduceLT, Nat.reduceLeDiff, Nat.reduceBEq, Nat.reducePow, Int.reduceLE, Int.reduceLT, Int.reduceEq, Int.reduceNeg, Int.reduceAdd, Int.reduceToNat, treeS11, h5', hsub, hgs, hk, hg, numI_eq, str_eta, form_eta, Tryd.f42, X34, X33, X32, X31, X30, X29, R28, R27, R22, R21, R20, R19, R18, R17, R16, R15, R14, R13, R12, R11, R10, R9, R8, R7, R6, R5, R4, R3, R2, R1, Q20, Q19, Q18, Q17, Q16, Q15, Q14, Q13, Q12, Q11, Q10, Q9, Q8, Q7, Q6, Q5, Q4, Q3, Q2, Q1, Tbl0])
    refine ⟨⟨⟨b, P ++ [p], W ++ [c.name], m + 2, m + 3, m + 4⟩, ⟨by simp only [List.length_append, List.length_singleton]; omega, by simp only; omega, by simp only; omega, by simp only; omega, by simp only [List.length_append, List.length_singleton]; omega, hsb, by simp only [List.length_append, List.length_singleton]; exact hnx⟩⟩, by simp only [List.length_append, List.length_singleton]; omega, ?_⟩
    refine Weak_to ?_ ?_ ?_ <;> simp only [go_sem, reduceIte, reduceCtorEq, Nat.reduceEqDiff, Nat.reduceAdd, Nat.reduceSub, Nat.reduceMul, Nat.reduceDiv, Nat.reduceMod, Nat.reduceLT, Nat.reduceLeDiff, Nat.reduceBEq, Nat.reducePow, Int.reduceLE, Int.reduceLT, Int.reduceEq, Int.reduceNeg, Int.reduceAdd, Int.reduceToNat, epk, List.map_append, lN_l, hN_l]
    all_goals first | done | rfl | trace_state
  all_goals first
    | (have hg' := eq_false hg
       have hkA := hkA
       have h5' : (((P.length : Nat) : Int) < 5) = True := eq_true (by omega)
       repeat' (first | refine And.intro ?_ ?_ | exact True.intro | refine ReqK.i (by omega) fun _ => ?_ | refine ReqK.i (fits_of2 (by first | omega | (simp only [List.length_map, List.length_append, List.length_cons, List.length_nil, List.length_range]; omega)) (by decide)) fun _ => ?_ | refine ReqK.i (by unfold maxL; omega) fun _ => ?_ | simp only [go_sem, reduceIte, reduceCtorEq, Nat.reduceEqDiff, Nat.reduceAdd, Nat.reduceSub, Nat.reduceMul, Nat.reduceDiv, Nat.reduceMod, Nat.reduceLT, Nat.reduceLeDiff, Nat.reduceBEq, Nat.reducePow, Int.reduceLE, Int.reduceLT, Int.reduceEq, Int.reduceNeg, Int.reduceAdd, Int.reduceToNat, h5', hsub, hkA, hg', numI_eq, str_eta, form_eta, Tryd.f42, X34, X33, X32, X31, X30, X29, R28, R27, R22, R21, R20, R19, R18, R17, R16, R15, R14, R13, R12, R11, R10, R9, R8, R7, R6, R5, R4, R3, R2, R1, Q20, Q19, Q18, Q17, Q16, Q15, Q14, Q13, Q12, Q11, Q10, Q9, Q8, Q7, Q6, Q5, Q4, Q3, Q2, Q1, Tbl0]))
    | (have hg' := eq_false hg
       have hkB := hkB
       have h5' : (((P.length : Nat) : Int) < 5) = True := eq_true (by omega)
       repeat' (first | refine And.intro ?_ ?_ | exact True.intro | refine ReqK.i (by omega) fun _ => ?_ | refine ReqK.i (fits_of2 (by first | omega | (simp only [List.length_map, List.length_append, List.length_cons, List.length_nil, List.length_range]; omega)) (by decide)) fun _ => ?_ | refine ReqK.i (by unfold maxL; omega) fun _ => ?_ | simp only [go_sem, reduceIte, reduceCtorEq, Nat.reduceEqDiff, Nat.reduceAdd, Nat.reduceSub, Nat.reduceMul, Nat.reduceDiv, Nat.reduceMod, Nat.reduceLT, Nat.reduceLeDiff, Nat.reduceBEq, Nat.reducePow, Int.reduceLE, Int.reduceLT, Int.reduceEq, Int.reduceNeg, Int.reduceAdd, Int.reduceToNat, h5', hsub, hkB, hg', numI_eq, str_eta, form_eta, Tryd.f42, X34, X33, X32, X31, X30, X29, R28, R27, R22, R21, R20, R19, R18, R17, R16, R15, R14, R13, R12, R11, R10, R9, R8, R7, R6, R5, R4, R3, R2, R1, Q20, Q19, Q18, Q17, Q16, Q15, Q14, Q13, Q12, Q11, Q10, Q9, Q8, Q7, Q6, Q5, Q4, Q3, Q2, Q1, Tbl0]))
    | (have hk8 := eq_false hk8
       have hkC := eq_false hkC
       have h5' : (((P.length : Nat) : Int) < 5) = True := eq_true (by omega)
       repeat' (first | refine And.intro ?_ ?_ | exact True.intro | refine ReqK.i (by omega) fun _ => ?_ | refine ReqK.i (fits_of2 (by first | omega | (simp only [List.length_map, List.length_append, List.length_cons, List.length_nil, List.length_range]; omega)) (by decide)) fun _ => ?_ | refine ReqK.i (by unfold maxL; omega) fun _ => ?_ | simp only [go_sem, reduceIte, reduceCtorEq, Nat.reduceEqDiff, Nat.reduceAdd, Nat.reduceSub, Nat.reduceMul, Nat.reduceDiv, Nat.reduceMod, Nat.reduceLT, Nat.reduceLeDiff, Nat.reduceBEq, Nat.reducePow, Int.reduceLE, Int.reduceLT, Int.reduceEq, Int.reduceNeg, Int.reduceAdd, Int.reduceToNat, h5', hk8, hkC, numI_eq, str_eta, form_eta, Tryd.f42, X34, X33, X32, X31, X30, X29, R28, R27, R22, R21, R20, R19, R18, R17, R16, R15, R14, R13, R12, R11, R10, R9, R8, R7, R6, R5, R4, R3, R2, R1, Q20, Q19, Q18, Q17, Q16, Q15, Q14, Q13, Q12, Q11, Q10, Q9, Q8, Q7, Q6, Q5, Q4, Q3, Q2, Q1, Tbl0]))
    | (have h5' : (((P.length : Nat) : Int) < 5) = False := eq_false (by have := hD; omega)
       repeat' (first | refine And.intro ?_ ?_ | exact True.intro | refine ReqK.i (by omega) fun _ => ?_ | refine ReqK.i (fits_of2 (by first | omega | (simp only [List.length_map, List.length_append, List.length_cons, List.length_nil, List.length_range]; omega)) (by decide)) fun _ => ?_ | refine ReqK.i (by unfold maxL; omega) fun _ => ?_ | simp only [go_sem, reduceIte, reduceCtorEq, Nat.reduceEqDiff, Nat.reduceAdd, Nat.reduceSub, Nat.reduceMul, Nat.reduceDiv, Nat.reduceMod, Nat.reduceLT, Nat.reduceLeDiff, Nat.reduceBEq, Nat.reducePow, Int.reduceLE, Int.reduceLT, Int.reduceEq, Int.reduceNeg, Int.reduceAdd, Int.reduceToNat, h5', numI_eq, str_eta, form_eta, Tryd.f42, X34, X33, X32, X31, X30, X29, R28, R27, R22, R21, R20, R19, R18, R17, R16, R15, R14, R13, R12, R11, R10, R9, R8, R7, R6, R5, R4, R3, R2, R1, Q20, Q19, Q18, Q17, Q16, Q15, Q14, Q13, Q12, Q11, Q10, Q9, Q8, Q7, Q6, Q5, Q4, Q3, Q2, Q1, Tbl0]))
  all_goals
    refine WK_loop hm hX34 42000 (lsw [86, 93, 117, 126] [1000003, 1000011, 1000020, 1000025]) (ι := LoopG P.length m fun _ => True)
      ⟨fun q => ⟨frL [(2, .ptr (42002, 1) 0), (3, .ptr (42003, 2) 0), (5, .ptr (42005, 4) 0), (6, .ptr (42006, 5) 0), (12, .fz (.s (108 :: (numI P.length).l))), (105, .fz (.i .i64 P.length)), (106, .fz (.i .i64 q.i))],
        hpL [((42005, 4), some ⟨[.fz (.i .i64 c.kind), .fz (.s c.name.l), .fz (.sl (c.words.map enc)), .fz (.sl (c.subs.map enc))], true, false⟩), ((42006, 5), some ⟨[.ow (42086, g1) 5 (P.map enc), .ow (42117, q.g) 2 ((ovL numI P.length q.i).map enc), .ow (42093, g2) 1 (W.map enc)], true, false⟩), ((42086, g1), some tok), ((42093, g2), some tok), ((42117, q.g), some tok), ((42003, 2), some ⟨[.fz (.i .i64 0), .fz (.i .i64 0)], true, false⟩), ((42002, 1), some ⟨[.full [], .full [], .full []], true, false⟩)], q.m⟩, fun q => P.length - q.i⟩
      ⟨0, m, m + 1, by omega, by omega, by omega, trivial⟩ (by kernel_rfl) ?_ ?_
    · refine Weak_g [] [(42117, m)] [] ?_ ?_ ?_ ?_ ?_ <;> first | (simp only [go_sem, reduceIte, reduceCtorEq, Nat.reduceEqDiff, Nat.reduceAdd, Nat.reduceSub, Nat.reduceMul, Nat.reduceDiv, Nat.reduceMod, Nat.reduceLT, Nat.reduceLeDiff, Nat.reduceBEq, Nat.reducePow, Int.reduceLE, Int.reduceLT, Int.reduceEq, Int.reduceNeg, Int.reduceAdd, Int.reduceToNat, hsub, hkA, ovL_zero, List.map_nil]; first | done | rfl | omega) | (simp only [go_sem, reduceIte, reduceCtorEq, Nat.reduceEqDiff, Nat.reduceAdd, Nat.reduceSub, Nat.reduceMul, Nat.reduceDiv, Nat.reduceMod, Nat.reduceLT, Nat.reduceLeDiff, Nat.reduceBEq, Nat.reducePow, Int.reduceLE, Int.reduceLT, Int.reduceEq, Int.reduceNeg, Int.reduceAdd, Int.reduceToNat, hsub, hkB, ovL_zero, List.map_nil]; first | done | rfl | omega) | (simp only [go_sem, reduceIte, reduceCtorEq, Nat.reduceEqDiff, Nat.reduceAdd, Nat.reduceSub, Nat.reduceMul, Nat.reduceDiv, Nat.reduceMod, Nat.reduceLT, Nat.reduceLeDiff, Nat.reduceBEq, Nat.reducePow, Int.reduceLE, Int.reduceLT, Int.reduceEq, Int.reduceNeg, Int.reduceAdd, Int.reduceToNat, ovL_zero, List.map_nil]; first | done | rfl | omega) | rfl
    rintro ⟨j, g3, m2, hj, hg3, hm2, _⟩
    try simp only at hj hg3 hm2
    rcases Nat.lt_or_ge j P.length with h2 | h2
    · have hnj := numI_len (k := j) (by omega)
      repeat' (first | refine WK_drawV hm hX34 42000 (lsw [86, 93, 117, 126] [1000003, 1000011, 1000020, 1000025]) treeS20 (by kernel_rfl) (by kernel_rfl) ?_ | refine And.intro ?_ ?_ | exact True.intro | refine ReqK.i (by omega) fun _ => ?_ | refine ReqK.i (fits_of2 (by first | omega | (simp only [List.length_map, List.length_append, List.length_cons, List.length_nil, List.length_range]; omega)) (by decide)) fun _ => ?_ | refine ReqK.i (by unfold maxL; omega) fun _ => ?_ | simp only [go_sem, reduceIte, reduceCtorEq, Nat.reduceEqDiff, Nat.reduceAdd, Nat.reduceSub, Nat.reduceMul, Nat.reduceDiv, Nat.reduceMod, Nat.reduceLT, Nat.reduceLeDiff, Nat.reduceBEq, Nat.reducePow, Int.reduceLE, Int.reduceLT, Int.reduceEq, Int.reduceNeg, Int.reduceAdd, Int.reduceToNat, h2, numI_eq, ovL_len, treeS20, str_eta, form_eta, Tryd.f42, X34, X33, X32, X31, X30, X29, R28, R27, R22, R21, R20, R19, R18, R17, R16, R15, R14, R13, R12, R11, R10, R9, R8, R7, R6, R5, R4, R3, R2, R1, Q20, Q19, Q18, Q17, Q16, Q15, Q14, Q13, Q12, Q11, Q10, Q9, Q8, Q7, Q6, Q5, Q4, Q3, Q2, Q1, Tbl0])
      refine ⟨⟨j + 1, m2, m2 + 1, by omega, by omega, by omega, trivial⟩, by simp only; omega, ?_⟩
      refine Weak_to ?_ ?_ ?_ <;> simp only [go_sem, reduceIte, reduceCtorEq, Nat.reduceEqDiff, Nat.reduceAdd, Nat.reduceSub, Nat.reduceMul, Nat.reduceDiv, Nat.reduceMod, Nat.reduceLT, Nat.reduceLeDiff, Nat.reduceBEq, Nat.reducePow, Int.reduceLE, Int.reduceLT, Int.reduceEq, Int.reduceNeg, Int.reduceAdd, Int.reduceToNat, ovL_succ, List.map_append, overK, lN_l, hN_l]
      all_goals first | done | rfl | trace_state
    obtain rfl : j = P.length := by omega
    have ecut : cutF numI c0 = ⟨P ++ [⟨lN numI P.length, c⟩], ovL numI P.length P.length, W⟩ := by unfold cutF; rw [← hfin]; rfl
    have hOl := ovL_len numI (n := P.length) (i := P.length)
    obtain ⟨O, hO⟩ : ∃ O, ovL numI P.length P.length = O := ⟨_, rfl⟩
    simp only [hO] at ecut ⊢
    rw [ecut] at e1
    have ecut2 : (⟨P ++ [⟨⟨108 :: (numI P.length).l⟩, c⟩], O, W⟩ : Abs.Scoped) = ⟨P ++ [⟨lN numI P.length, c⟩], O, W⟩ := rfl
    obtain ⟨sc, hsc⟩ : ∃ sc, scopeM ⟨P ++ [⟨lN numI P.length, c⟩], O, W⟩ = sc := ⟨_, rfl⟩
    rw [hsc] at e1
    by_cases hz : sc.code = 0
    · rw [if_neg (by simp [hz])] at e1
      repeat' (first | refine WK_drawV hm hX34 42000 (lsw [86, 93, 117, 126] [1000003, 1000011, 1000020, 1000025]) treeS25 (by kernel_rfl) (by kernel_rfl) ?_ | refine And.intro ?_ ?_ | exact True.intro | refine ReqK.i (by omega) fun _ => ?_ | refine ReqK.i (fits_of2 (by first | omega | (simp only [List.length_map, List.length_append, List.length_cons, List.length_nil, List.length_range]; omega)) (by decide)) fun _ => ?_ | refine ReqK.i (by unfold maxL; omega) fun _ => ?_ | simp only [go_sem, reduceIte, reduceCtorEq, Nat.reduceEqDiff, Nat.reduceAdd, Nat.reduceSub, Nat.reduceMul, Nat.reduceDiv, Nat.reduceMod, Nat.reduceLT, Nat.reduceLeDiff, Nat.reduceBEq, Nat.reducePow, Int.reduceLE, Int.reduceLT, Int.reduceEq, Int.reduceNeg, Int.reduceAdd, Int.reduceToNat, Nat.lt_irrefl, Int.lt_irrefl, dec_snoc, ecut2, lN_l, hsc, hz, treeS25, str_eta, form_eta, Tryd.f42, X34, X33, X32, X31, X30, X29, R28, R27, R22, R21, R20, R19, R18, R17, R16, R15, R14, R13, R12, R11, R10, R9, R8, R7, R6, R5, R4, R3, R2, R1, Q20, Q19, Q18, Q17, Q16, Q15, Q14, Q13, Q12, Q11, Q10, Q9, Q8, Q7, Q6, Q5, Q4, Q3, Q2, Q1, Tbl0])
      rw [e1]
      simp only [go_sem, reduceIte, reduceCtorEq, Nat.reduceEqDiff, Nat.reduceAdd, Nat.reduceSub, Nat.reduceMul, Nat.reduceDiv, Nat.reduceMod, Nat.reduceLT, Nat.reduceLeDiff, Nat.reduceBEq, Nat.reducePow, Int.reduceLE, Int.reduceLT, Int.reduceEq, Int.reduceNeg, Int.reduceAdd, Int.reduceToNat, List.map_append, List.map_cons, List.map_nil, lN_l]
    · have hz' := eq_false hz
      rw [if_pos hz] at e1
      repeat' (first | refine WK_drawV hm hX34 42000 (lsw [86, 93, 117, 126] [1000003, 1000011, 1000020, 1000025]) treeS25 (by kernel_rfl) (by kernel_rfl) ?_ | refine And.intro ?_ ?_ | exact True.intro | refine ReqK.i (by omega) fun _ => ?_ | refine ReqK.i (fits_of2 (by first | omega | (simp only [List.length_map, List.length_append, List.length_cons, List.length_nil, List.length_range]; omega)) (by decide)) fun _ => ?_ | refine ReqK.i (by unfold maxL; omega) fun _ => ?_ | simp only [go_sem, reduceIte, reduceCtorEq, Nat.reduceEqDiff, Nat.reduceAdd, Nat.reduceSub, Nat.reduceMul, Nat.reduceDiv, Nat.reduceMod, Nat.reduceLT, Nat.reduceLeDiff, Nat.reduceBEq, Nat.reducePow, Int.reduceLE, Int.reduceLT, Int.reduceEq, Int.reduceNeg, Int.reduceAdd, Int.reduceToNat, Nat.lt_irrefl, Int.lt_irrefl, dec_snoc, ecut2, lN_l, hsc, hz', e1, zeroS, treeS25, str_eta, form_eta, Tryd.f42, X34, X33, X32, X31, X30, X29, R28, R27, R22, R21, R20, R19, R18, R17, R16, R15, R14, R13, R12, R11, R10, R9, R8, R7, R6, R5, R4, R3, R2, R1, Q20, Q19, Q18, Q17, Q16, Q15, Q14, Q13, Q12, Q11, Q10, Q9, Q8, Q7, Q6, Q5, Q4, Q3, Q2, Q1, Tbl0])
end Go.Proofs.YtoicheicnbjfeaaDoor

namespace Go.Proofs.YtoicheicnbjfeaaDoor
open Go Go.Abs Go.Proofs

/-! ## the document's Cut -/
def cutP (f : Abs.Form) : Abs.Scoped × Fault :=
  if (scopeM (cutF numI (canonM f []))).code ≠ 0 then (zeroS, ⟨(scopeM (cutF numI (canonM f []))).code, -1⟩) else (cutF numI (canonM f []), ⟨0, 0⟩)
theorem numD_eq (k : Nat) : digS (k : Int) = numI k := by unfold digS numI; rw [Int.toNat_natCast]
def treeS8 : Tv := (.q 0 (.q 1 (.q 2 (.q 3 (.q 4 (.q 5 (.q 6 (.q 7 (.q 8 (.q 9 (.q 10 (.q 11 (.q 12 (.q 13 (.q 14 (.q 15 (.br [(16, (.br [(17, .leaf)]))])))))))))))))))))
def treeS9 : Tv := (.q 0 (.q 1 (.q 2 (.q 3 (.q 4 (.q 5 (.q 6 (.q 7 (.q 8 (.q 9 (.q 10 (.q 11 (.q 12 (.q 13 (.br [(14, (.q 15 (.br [(16, .leaf)])))])))))))))))))))
def treeS16 : Tv := (.q 0 (.q 1 (.q 2 (.q 3 (.q 4 (.q 5 (.q 6 (.q 7 (.br [(8, (.q 9 (.br [(10, .leaf)])))])))))))))
def treeS21 : Tv := (.q 0 (.q 1 (.br [(2, (.q 3 (.br [(4, (.br [(5, .leaf)]))]))), (4, (.q 2 (.q 3 (.br [(5, .leaf)]))))])))
def X36 : Tbl := X35.add 45 (sp1p cutP fun f => (checkM false f).code = 0)
set_option maxRecDepth 100000 in
set_option maxHeartbeats 1000000 in
set_option maxHeartbeats 8000000 in
theorem hX36 : TblOk Tryd.prog GA X36 := by
  refine sp1p_ok ok45 hX35 fun f hc1 hw => ?_
  have hck := checkM_code hc1
  have hsz := checkM_size hc1
  have hpc : f.fit = true ∧ f.size ≤ 1000 := ⟨checkM_fit hc1, by omega⟩
  have hsh := canonM_shF (env := []) (checkM_shF hc1)
  have hcw := canon_with (checkM_clean hc1) (env := []) (by simp) (by simp)
  obtain ⟨c0, hc0⟩ : ∃ c0, canonM f [] = c0 := ⟨_, rfl⟩
  rw [hc0] at hsh
  rw [hc0] at hcw
  have hcw := hcw.symm
  have e1 : cutP f = if (scopeM (cutF numI c0)).code ≠ 0 then (zeroS, ⟨(scopeM (cutF numI c0)).code, -1⟩) else (cutF numI c0, ⟨0, 0⟩) := by unfold cutP; rw [hc0]
  refine Wcall_K (N := 133) hm hX35 45000 (lsw [76, 83, 111, 120] [1000008, 1000009, 1000016, 1000021]) ok45 Tryd.func45 rfl rfl (by simp) (by kernel_rfl) ?_
  repeat' (first | refine ReqK.i hpc fun _ => ?_ | refine And.intro ?_ ?_ | exact True.intro | refine ReqK.i (by omega) fun _ => ?_ | refine ReqK.i (fits_of2 (by first | omega | (simp only [List.length_map, List.length_append, List.length_cons, List.length_nil, List.length_range]; omega)) (by decide)) fun _ => ?_ | refine ReqK.i (by unfold maxL; omega) fun _ => ?_ | simp only [go_sem, reduceIte, reduceCtorEq, Nat.reduceEqDiff, Nat.reduceAdd, Nat.reduceSub, Nat.reduceMul, Nat.reduceDiv, Nat.reduceMod, Nat.reduceLT, Nat.reduceLeDiff, Nat.reduceBEq, Nat.reducePow, Int.reduceLE, Int.reduceLT, Int.reduceEq, Int.reduceNeg, Int.reduceAdd, Int.reduceToNat, hc1, hck, hcw, str_eta, form_eta, Tryd.f45, X35, X34, X33, X32, X31, X30, X29, R28, R27, R22, R21, R20, R19, R18, R17, R16, R15, R14, R13, R12, R11, R10, R9, R8, R7, R6, R5, R4, R3, R2, R1, Q20, Q19, Q18, Q17, Q16, Q15, Q14, Q13, Q12, Q11, Q10, Q9, Q8, Q7, Q6, Q5, Q4, Q3, Q2, Q1, Tbl0])
  clear hc1 hck hsz hpc hc0 hcw hw
  refine WK_loop hm hX35 45000 (lsw [76, 83, 111, 120] [1000008, 1000009, 1000016, 1000021]) (ι := { q : CI // CIok numI c0 7 q })
    ⟨fun q => ⟨frL [(2, .ptr (45002, 1) 0), (3, .ptr (45003, 2) 0), (4, .ptr (45004, 3) 0), (5, .ptr (45005, 4) 0), (6, .fz (.i .i64 q.1.P.length))],
      hpL [((45004, 3), some ⟨[.fz (.i .i64 q.1.c.kind), .fz (.s q.1.c.name.l), .fz (.sl (q.1.c.words.map enc)), .fz (.sl (q.1.c.subs.map enc))], true, false⟩), ((45005, 4), some ⟨[.ow (45076, q.1.g1) 5 (q.1.P.map enc), .full [], .ow (45083, q.1.g2) 1 (q.1.W.map enc)], true, false⟩), ((45076, q.1.g1), some tok), ((45083, q.1.g2), some tok), ((45003, 2), some ⟨[.fz (.i .i64 0), .fz (.i .i64 0)], true, false⟩), ((45002, 1), some ⟨[.full [], .full [], .full []], true, false⟩)], q.1.m⟩, fun q => 5 - q.1.P.length⟩
    ⟨⟨c0, [], [], 5, 6, 7⟩, ⟨by simp, by simp only; omega, by simp only; omega, by simp only; omega, rfl, hsh, by simp⟩⟩ (by kernel_rfl) ?_ ?_
  · refine Weak_g [] [(45076, 5), (45083, 6)] [] ?_ ?_ ?_ ?_ ?_ <;> simp only [go_sem, reduceIte, reduceCtorEq, Nat.reduceEqDiff, Nat.reduceAdd, Nat.reduceSub, Nat.reduceMul, Nat.reduceDiv, Nat.reduceMod, Nat.reduceLT, Nat.reduceLeDiff, Nat.reduceBEq, Nat.reducePow, Int.reduceLE, Int.reduceLT, Int.reduceEq, Int.reduceNeg, Int.reduceAdd, Int.reduceToNat, List.map_nil]
    all_goals first | done | rfl | trace_state
  rintro ⟨⟨c, P, W, g1, g2, m⟩, kp⟩
  obtain ⟨hi, hg1, hg2, hm1, hW, hs, hcl⟩ := kp
  try simp only at hi hg1 hg2 hm1 hW hs hcl
  have hnl := numI_len hi
  have hall := cut_cases numI hs hi hcl
  rcases hall with ⟨h5, g, a, b, hsub, hgs, hk, hg, hsb, epk, hnx⟩ | ⟨h5, g, a, b, hsub, hgs, hk, hg, hsb, epk, hnx⟩ | ⟨hfin, h5, g, hsub, hkA, hg⟩ | ⟨hfin, h5, g, hsub, hkB, hg⟩ | ⟨hfin, h5, hk8, hkC⟩ | ⟨hfin, hD⟩
  · have h5' : (((P.length : Nat) : Int) < 5) = True := eq_true (by omega)
    obtain ⟨p, hp⟩ : ∃ p, pieceK numI P.length c = p := ⟨_, rfl⟩
    rw [hp] at epk hnx
    repeat' (first | refine And.intro ?_ ?_ | exact True.intro | refine ReqK.i (by omega) fun _ => ?_ | refine ReqK.i (fits_of2 (by first | omega | (simp only [List.length_map, List.length_append, List.length_cons, List.length_nil, List.length_range]; omega)) (by decide)) fun _ => ?_ | refine ReqK.i (by unfold maxL; omega) fun _ => ?_ | simp only [go_sem, reduceIte, reduceCtorEq, Nat.reduceEqDiff, Nat.reduceAdd, Nat.reduceSub, Nat.reduceMul, Nat.reduceDiv, Nat.reduceMod, Nat.reduceLT, Nat.reduceLeDiff, Nat.reduceBEq, Nat.reducePow, Int.reduceLE, Int.reduceLT, Int.reduceEq, Int.reduceNeg, Int.reduceAdd, Int.reduceToNat, h5', hsub, hgs, hk, hg, numD_eq, str_eta, form_eta, Tryd.f45, X35, X34, X33, X32, X31, X30, X29, R28, R27, R22, R21, R20, R19, R18, R17, R16, R15, R14, R13, R12, R11, R10, R9, R8, R7, R6, R5, R4, R3, R2, R1, Q20, Q19, Q18, Q17, Q16, Q15, Q14, Q13, Q12, Q11, Q10, Q9, Q8, Q7, Q6, Q5, Q4, Q3, Q2, Q1, Tbl0])
    refine WK_drawV hm hX35 45000 (lsw [76, 83, 111, 120] [1000008, 1000009, 1000016, 1000021]) treeS8 (by kernel_rfl) (by kernel_rfl) ?_
    repeat' (first | refine And.intro ?_ ?_ | exact True.intro | refine ReqK.i (by omega) fun _ => ?_ | refine ReqK.i (fits_of2 (by first | omega | (simp only [List.length_map, List.length_append, List.length_cons, List.length_nil, List.length_range]; omega)) (by decide)) fun _ => ?_ | refine ReqK.i (by unfold maxL; omega) fun _ => ?_ | simp only [go_sem, reduceIte, reduceCtorEq, Nat.reduceEqDiff, Nat.reduceAdd, Nat.reduceSub, Nat.reduceMul, Nat.reduceDiv, Nat.reduceMod, Nat.reduceLT, Nat.reduceLeDiff, Nat.reduceBEq, Nat.reducePow, Int.reduceLE, Int.reduceLT, Int.reduceEq, Int.reduceNeg, Int.reduceAdd, Int.reduceToNat, treeS8, h5', hsub, hgs, hk, hg, numD_eq, str_eta, form_eta, Tryd.f45, X35, X34, X33, X32, X31, X30, X29, R28, R27, R22, R21, R20, R19, R18, R17, R16, R15, R14, R13, R12, R11, R10, R9, R8, R7, R6, R5, R4, R3, R2, R1, Q20, Q19, Q18, Q17, Q16, Q15, Q14, Q13, Q12, Q11, Q10, Q9, Q8, Q7, Q6, Q5, Q4, Q3, Q2, Q1, Tbl0])
    refine WK_drawV hm hX35 45000 (lsw [76, 83, 111, 120] [1000008, 1000009, 1000016, 1000021]) treeS9 (by kernel_rfl) (by kernel_rfl) ?_
    repeat' (first | refine And.intro ?_ ?_ | exact True.intro | refine ReqK.i (by omega) fun _ => ?_ | refine ReqK.i (fits_of2 (by first | omega | (simp only [List.length_map, List.length_append, List.length_cons, List.length_nil, List.length_range]; omega)) (by decide)) fun _ => ?_ | refine ReqK.i (by unfold maxL; omega) fun _ => ?_ | simp only [go_sem, reduceIte, reduceCtorEq, Nat.reduceEqDiff, Nat.reduceAdd, Nat.reduceSub, Nat.reduceMul, Nat.reduceDiv, Nat.reduceMod, Nat.reduceLT, Nat.reduceLeDiff, Nat.reduceBEq, Nat.reducePow, Int.reduceLE, Int.reduceLT, Int.reduceEq, Int.reduceNeg, Int.reduceAdd, Int.reduceToNat, treeS9, h5', hsub, hgs, hk, hg, numD_eq, str_eta, form_eta, Tryd.f45, X35, X34, X33, X32, X31, X30, X29, R28, R27, R22, R21, R20, R19, R18, R17, R16, R15, R14, R13, R12, R11, R10, R9, R8, R7, R6, R5, R4, R3, R2, R1, Q20, Q19, Q18, Q17, Q16, Q15, Q14, Q13, Q12, Q11, Q10, Q9, Q8, Q7, Q6, Q5, Q4, Q3, Q2, Q1, Tbl0])
    refine ⟨⟨⟨b, P ++ [p], W ++ [c.name], m + 1, m + 2, m + 3⟩, ⟨by simp only [List.length_append, List.length_singleton]; omega, by simp only; omega, by simp only; omega, by simp only; omega, by simp only [List.length_append, List.length_singleton]; omega, hsb, by simp only [List.length_append, List.length_singleton]; exact hnx⟩⟩, by simp only [List.length_append, List.length_singleton]; omega, ?_⟩
    refine Weak_to ?_ ?_ ?_ <;> simp only [go_sem, reduceIte, reduceCtorEq, Nat.reduceEqDiff, Nat.reduceAdd, Nat.reduceSub, Nat.reduceMul, Nat.reduceDiv, Nat.reduceMod, Nat.reduceLT, Nat.reduceLeDiff, Nat.reduceBEq, Nat.reducePow, Int.reduceLE, Int.reduceLT, Int.reduceEq, Int.reduceNeg, Int.reduceAdd, Int.reduceToNat, epk, List.map_append, lN_l, hN_l]
    all_goals first | done | rfl | trace_state
  · have h5' : (((P.length : Nat) : Int) < 5) = True := eq_true (by omega)
    obtain ⟨p, hp⟩ : ∃ p, pieceK numI P.length c = p := ⟨_, rfl⟩
    rw [hp] at epk hnx
    repeat' (first | refine And.intro ?_ ?_ | exact True.intro | refine ReqK.i (by omega) fun _ => ?_ | refine ReqK.i (fits_of2 (by first | omega | (simp only [List.length_map, List.length_append, List.length_cons, List.length_nil, List.length_range]; omega)) (by decide)) fun _ => ?_ | refine ReqK.i (by unfold maxL; omega) fun _ => ?_ | simp only [go_sem, reduceIte, reduceCtorEq, Nat.reduceEqDiff, Nat.reduceAdd, Nat.reduceSub, Nat.reduceMul, Nat.reduceDiv, Nat.reduceMod, Nat.reduceLT, Nat.reduceLeDiff, Nat.reduceBEq, Nat.reducePow, Int.reduceLE, Int.reduceLT, Int.reduceEq, Int.reduceNeg, Int.reduceAdd, Int.reduceToNat, h5', hsub, hgs, hk, hg, numD_eq, str_eta, form_eta, Tryd.f45, X35, X34, X33, X32, X31, X30, X29, R28, R27, R22, R21, R20, R19, R18, R17, R16, R15, R14, R13, R12, R11, R10, R9, R8, R7, R6, R5, R4, R3, R2, R1, Q20, Q19, Q18, Q17, Q16, Q15, Q14, Q13, Q12, Q11, Q10, Q9, Q8, Q7, Q6, Q5, Q4, Q3, Q2, Q1, Tbl0])
    refine WK_drawV hm hX35 45000 (lsw [76, 83, 111, 120] [1000008, 1000009, 1000016, 1000021]) treeS8 (by kernel_rfl) (by kernel_rfl) ?_
    repeat' (first | refine And.intro ?_ ?_ | exact True.intro | refine ReqK.i (by omega) fun _ => ?_ | refine ReqK.i (fits_of2 (by first | omega | (simp only [List.length_map, List.length_append, List.length_cons, List.length_nil, List.length_range]; omega)) (by decide)) fun _ => ?_ | refine ReqK.i (by unfold maxL; omega) fun _ => ?_ | simp only [go_sem, reduceIte, reduceCtorEq, Nat.reduceEqDiff, Nat.reduceAdd, Nat.reduceSub, Nat.reduceMul, Nat.reduceDiv, Nat.reduceMod, Nat.reduceLT, Nat.reduceLeDiff, Nat.reduceBEq, Nat.reducePow, Int.reduceLE, Int.reduceLT, Int.reduceEq, Int.reduceNeg, Int.reduceAdd, Int.reduceToNat, treeS8, h5', hsub, hgs, hk, hg, numD_eq, str_eta, form_eta, Tryd.f45, X35, X34, X33, X32, X31, X30, X29, R28, R27, R22, R21, R20, R19, R18, R17, R16, R15, R14, R13, R12, R11, R10, R9, R8, R7, R6, R5, R4, R3, R2, R1, Q20, Q19, Q18, Q17, Q16, Q15, Q14, Q13, Q12, Q11, Q10, Q9, Q8, Q7, Q6, Q5, Q4, Q3, Q2, Q1, Tbl0])
    refine WK_drawV hm hX35 45000 (lsw [76, 83, 111, 120] [1000008, 1000009, 1000016, 1000021]) treeS9 (by kernel_rfl) (by kernel_rfl) ?_
    repeat' (first | refine And.intro ?_ ?_ | exact True.intro | refine ReqK.i (by omega) fun _ => ?_ | refine ReqK.i (fits_of2 (by first | omega | (simp only [List.length_map, List.length_append, List.length_cons, List.length_nil, List.length_range]; omega)) (by decide)) fun _ => ?_ | refine ReqK.i (by unfold maxL; omega) fun _ => ?_ | simp only [go_sem, reduceIte, reduceCtorEq, Nat.reduceEqDiff, Nat.reduceAdd, Nat.reduceSub, Nat.reduceMul, Nat.reduceDiv, Nat.reduceMod, Nat.reduceLT, Nat.reduceLeDiff, Nat.reduceBEq, Nat.reducePow, Int.reduceLE, Int.reduceLT, Int.reduceEq, Int.reduceNeg, Int.reduceAdd, Int.reduceToNat, treeS9, h5', hsub, hgs, hk, hg, numD_eq, str_eta, form_eta, Tryd.f45, X35, X34, X33, X32, X31, X30, X29, R28, R27, R22, R21, R20, R19, R18, R17, R16, R15, R14, R13, R12, R11, R10, R9, R8, R7, R6, R5, R4, R3, R2, R1, Q20, Q19, Q18, Q17, Q16, Q15, Q14, Q13, Q12, Q11, Q10, Q9, Q8, Q7, Q6, Q5, Q4, Q3, Q2, Q1, Tbl0])
    refine ⟨⟨⟨b, P ++ [p], W ++ [c.name], m + 1, m + 2, m + 3⟩, ⟨by simp only [List.length_append, List.length_singleton]; omega, by simp only; omega, by simp only; omega, by simp only; omega, by simp only [List.length_append, List.length_singleton]; omega, hsb, by simp only [List.length_append, List.length_singleton]; exact hnx⟩⟩, by simp only [List.length_append, List.length_singleton]; omega, ?_⟩
    refine Weak_to ?_ ?_ ?_ <;> simp only [go_sem, reduceIte, reduceCtorEq, Nat.reduceEqDiff, Nat.reduceAdd, Nat.reduceSub, Nat.reduceMul, Nat.reduceDiv, Nat.reduceMod, Nat.reduceLT, Nat.reduceLeDiff, Nat.reduceBEq, Nat.reducePow, Int.reduceLE, Int.reduceLT, Int.reduceEq, Int.reduceNeg, Int.reduceAdd, Int.reduceToNat, epk, List.map_append, lN_l, hN_l]
    all_goals first | done | rfl | trace_state
  all_goals first
    | (have hg' := eq_false hg
       have hkA := hkA
       have h5' : (((P.length : Nat) : Int) < 5) = True := eq_true (by omega)
       repeat' (first | refine And.intro ?_ ?_ | exact True.intro | refine ReqK.i (by omega) fun _ => ?_ | refine ReqK.i (fits_of2 (by first | omega | (simp only [List.length_map, List.length_append, List.length_cons, List.length_nil, List.length_range]; omega)) (by decide)) fun _ => ?_ | refine ReqK.i (by unfold maxL; omega) fun _ => ?_ | simp only [go_sem, reduceIte, reduceCtorEq, Nat.reduceEqDiff, Nat.reduceAdd, Nat.reduceSub, Nat.reduceMul, Nat.reduceDiv, Nat.reduceMod, Nat.reduceLT, Nat.reduceLeDiff, Nat.reduceBEq, Nat.reducePow, Int.reduceLE, Int.reduceLT, Int.reduceEq, Int.reduceNeg, Int.reduceAdd, Int.reduceToNat, h5', hsub, hkA, hg', numD_eq, str_eta, form_eta, Tryd.f45, X35, X34, X33, X32, X31, X30, X29, R28, R27, R22, R21, R20, R19, R18, R17, R16, R15, R14, R13, R12, R11, R10, R9, R8, R7, R6, R5, R4, R3, R2, R1, Q20, Q19, Q18, Q17, Q16, Q15, Q14, Q13, Q12, Q11, Q10, Q9, Q8, Q7, Q6, Q5, Q4, Q3, Q2, Q1, Tbl0]))
    | (have hg' := eq_false hg
       have hkB := hkB
       have h5' : (((P.length : Nat) : Int) < 5) = True := eq_true (by omega)
       repeat' (first | refine And.intro ?_ ?_ | exact True.intro | refine ReqK.i (by omega) fun _ => ?_ | refine ReqK.i (fits_of2 (by first | omega | (simp only [List.length_map, List.length_append, List.length_cons, List.length_nil, List.length_range]; omega)) (by decide)) fun _ => ?_ | refine ReqK.i (by unfold maxL; omega) fun _ => ?_ | simp only [go_sem, reduceIte, reduceCtorEq, Nat.reduceEqDiff, Nat.reduceAdd, Nat.reduceSub, Nat.reduceMul, Nat.reduceDiv, Nat.reduceMod, Nat.reduceLT, Nat.reduceLeDiff, Nat.reduceBEq, Nat.reducePow, Int.reduceLE, Int.reduceLT, Int.reduceEq, Int.reduceNeg, Int.reduceAdd, Int.reduceToNat, h5', hsub, hkB, hg', numD_eq, str_eta, form_eta, Tryd.f45, X35, X34, X33, X32, X31, X30, X29, R28, R27, R22, R21, R20, R19, R18, R17, R16, R15, R14, R13, R12, R11, R10, R9, R8, R7, R6, R5, R4, R3, R2, R1, Q20, Q19, Q18, Q17, Q16, Q15, Q14, Q13, Q12, Q11, Q10, Q9, Q8, Q7, Q6, Q5, Q4, Q3, Q2, Q1, Tbl0]))
    | (have hk8 := eq_false hk8
       have hkC := eq_false hkC
       have h5' : (((P.length : Nat) : Int) < 5) = True := eq_true (by omega)
       repeat' (first | refine And.intro ?_ ?_ | exact True.intro | refine ReqK.i (by omega) fun _ => ?_ | refine ReqK.i (fits_of2 (by first | omega | (simp only [List.length_map, List.length_append, List.length_cons, List.length_nil, List.length_range]; omega)) (by decide)) fun _ => ?_ | refine ReqK.i (by unfold maxL; omega) fun _ => ?_ | simp only [go_sem, reduceIte, reduceCtorEq, Nat.reduceEqDiff, Nat.reduceAdd, Nat.reduceSub, Nat.reduceMul, Nat.reduceDiv, Nat.reduceMod, Nat.reduceLT, Nat.reduceLeDiff, Nat.reduceBEq, Nat.reducePow, Int.reduceLE, Int.reduceLT, Int.reduceEq, Int.reduceNeg, Int.reduceAdd, Int.reduceToNat, h5', hk8, hkC, numD_eq, str_eta, form_eta, Tryd.f45, X35, X34, X33, X32, X31, X30, X29, R28, R27, R22, R21, R20, R19, R18, R17, R16, R15, R14, R13, R12, R11, R10, R9, R8, R7, R6, R5, R4, R3, R2, R1, Q20, Q19, Q18, Q17, Q16, Q15, Q14, Q13, Q12, Q11, Q10, Q9, Q8, Q7, Q6, Q5, Q4, Q3, Q2, Q1, Tbl0]))
    | (have h5' : (((P.length : Nat) : Int) < 5) = False := eq_false (by have := hD; omega)
       repeat' (first | refine And.intro ?_ ?_ | exact True.intro | refine ReqK.i (by omega) fun _ => ?_ | refine ReqK.i (fits_of2 (by first | omega | (simp only [List.length_map, List.length_append, List.length_cons, List.length_nil, List.length_range]; omega)) (by decide)) fun _ => ?_ | refine ReqK.i (by unfold maxL; omega) fun _ => ?_ | simp only [go_sem, reduceIte, reduceCtorEq, Nat.reduceEqDiff, Nat.reduceAdd, Nat.reduceSub, Nat.reduceMul, Nat.reduceDiv, Nat.reduceMod, Nat.reduceLT, Nat.reduceLeDiff, Nat.reduceBEq, Nat.reducePow, Int.reduceLE, Int.reduceLT, Int.reduceEq, Int.reduceNeg, Int.reduceAdd, Int.reduceToNat, h5', numD_eq, str_eta, form_eta, Tryd.f45, X35, X34, X33, X32, X31, X30, X29, R28, R27, R22, R21, R20, R19, R18, R17, R16, R15, R14, R13, R12, R11, R10, R9, R8, R7, R6, R5, R4, R3, R2, R1, Q20, Q19, Q18, Q17, Q16, Q15, Q14, Q13, Q12, Q11, Q10, Q9, Q8, Q7, Q6, Q5, Q4, Q3, Q2, Q1, Tbl0]))
  all_goals
    refine WK_loop hm hX35 45000 (lsw [76, 83, 111, 120] [1000008, 1000009, 1000016, 1000021]) (ι := LoopG P.length m fun _ => True)
      ⟨fun q => ⟨frL [(2, .ptr (45002, 1) 0), (3, .ptr (45003, 2) 0), (4, .ptr (45004, 3) 0), (5, .ptr (45005, 4) 0), (9, .fz (.s (108 :: (numI P.length).l))), (99, .fz (.i .i64 P.length)), (100, .fz (.i .i64 q.i))],
        hpL [((45004, 3), some ⟨[.fz (.i .i64 c.kind), .fz (.s c.name.l), .fz (.sl (c.words.map enc)), .fz (.sl (c.subs.map enc))], true, false⟩), ((45005, 4), some ⟨[.ow (45076, g1) 5 (P.map enc), .ow (45111, q.g) 2 ((ovL numI P.length q.i).map enc), .ow (45083, g2) 1 (W.map enc)], true, false⟩), ((45076, g1), some tok), ((45083, g2), some tok), ((45111, q.g), some tok), ((45003, 2), some ⟨[.fz (.i .i64 0), .fz (.i .i64 0)], true, false⟩), ((45002, 1), some ⟨[.full [], .full [], .full []], true, false⟩)], q.m⟩, fun q => P.length - q.i⟩
      ⟨0, m, m + 1, by omega, by omega, by omega, trivial⟩ (by kernel_rfl) ?_ ?_
    · refine Weak_g [] [(45111, m)] [] ?_ ?_ ?_ ?_ ?_ <;> first | (simp only [go_sem, reduceIte, reduceCtorEq, Nat.reduceEqDiff, Nat.reduceAdd, Nat.reduceSub, Nat.reduceMul, Nat.reduceDiv, Nat.reduceMod, Nat.reduceLT, Nat.reduceLeDiff, Nat.reduceBEq, Nat.reducePow, Int.reduceLE, Int.reduceLT, Int.reduceEq, Int.reduceNeg, Int.reduceAdd, Int.reduceToNat, hsub, hkA, ovL_zero, List.map_nil]; first | done | rfl | omega) | (simp only [go_sem, reduceIte, reduceCtorEq, Nat.reduceEqDiff, Nat.reduceAdd, Nat.reduceSub, Nat.reduceMul, Nat.reduceDiv, Nat.reduceMod, Nat.reduceLT, Nat.reduceLeDiff, Nat.reduceBEq, Nat.reducePow, Int.reduceLE, Int.reduceLT, Int.reduceEq, Int.reduceNeg, Int.reduceAdd, Int.reduceToNat, hsub, hkB, ovL_zero, List.map_nil]; first | done | rfl | omega) | (simp only [go_sem, reduceIte, reduceCtorEq, Nat.reduceEqDiff, Nat.reduceAdd, Nat.reduceSub, Nat.reduceMul, Nat.reduceDiv, Nat.reduceMod, Nat.reduceLT, Nat.reduceLeDiff, Nat.reduceBEq, Nat.reducePow, Int.reduceLE, Int.reduceLT, Int.reduceEq, Int.reduceNeg, Int.reduceAdd, Int.reduceToNat, ovL_zero, List.map_nil]; first | done | rfl | omega) | rfl
    rintro ⟨j, g3, m2, hj, hg3, hm2, _⟩
    try simp only at hj hg3 hm2
    rcases Nat.lt_or_ge j P.length with h2 | h2
    · have hnj := numI_len (k := j) (by omega)
      repeat' (first | refine WK_drawV hm hX35 45000 (lsw [76, 83, 111, 120] [1000008, 1000009, 1000016, 1000021]) treeS16 (by kernel_rfl) (by kernel_rfl) ?_ | refine And.intro ?_ ?_ | exact True.intro | refine ReqK.i (by omega) fun _ => ?_ | refine ReqK.i (fits_of2 (by first | omega | (simp only [List.length_map, List.length_append, List.length_cons, List.length_nil, List.length_range]; omega)) (by decide)) fun _ => ?_ | refine ReqK.i (by unfold maxL; omega) fun _ => ?_ | simp only [go_sem, reduceIte, reduceCtorEq, Nat.reduceEqDiff, Nat.reduceAdd, Nat.reduceSub, Nat.reduceMul, Nat.reduceDiv, Nat.reduceMod, Nat.reduceLT, Nat.reduceLeDiff, Nat.reduceBEq, Nat.reducePow, Int.reduceLE, Int.reduceLT, Int.reduceEq, Int.reduceNeg, Int.reduceAdd, Int.reduceToNat, h2, numD_eq, ovL_len, treeS16, str_eta, form_eta, Tryd.f45, X35, X34, X33, X32, X31, X30, X29, R28, R27, R22, R21, R20, R19, R18, R17, R16, R15, R14, R13, R12, R11, R10, R9, R8, R7, R6, R5, R4, R3, R2, R1, Q20, Q19, Q18, Q17, Q16, Q15, Q14, Q13, Q12, Q11, Q10, Q9, Q8, Q7, Q6, Q5, Q4, Q3, Q2, Q1, Tbl0])
      refine ⟨⟨j + 1, m2, m2 + 1, by omega, by omega, by omega, trivial⟩, by simp only; omega, ?_⟩
      refine Weak_to ?_ ?_ ?_ <;> simp only [go_sem, reduceIte, reduceCtorEq, Nat.reduceEqDiff, Nat.reduceAdd, Nat.reduceSub, Nat.reduceMul, Nat.reduceDiv, Nat.reduceMod, Nat.reduceLT, Nat.reduceLeDiff, Nat.reduceBEq, Nat.reducePow, Int.reduceLE, Int.reduceLT, Int.reduceEq, Int.reduceNeg, Int.reduceAdd, Int.reduceToNat, ovL_succ, List.map_append, overK, lN_l, hN_l]
      all_goals first | done | rfl | trace_state
    obtain rfl : j = P.length := by omega
    have ecut : cutF numI c0 = ⟨P ++ [⟨lN numI P.length, c⟩], ovL numI P.length P.length, W⟩ := by unfold cutF; rw [← hfin]; rfl
    have hOl := ovL_len numI (n := P.length) (i := P.length)
    obtain ⟨O, hO⟩ : ∃ O, ovL numI P.length P.length = O := ⟨_, rfl⟩
    simp only [hO] at ecut ⊢
    rw [ecut] at e1
    have ecut2 : (⟨P ++ [⟨⟨108 :: (numI P.length).l⟩, c⟩], O, W⟩ : Abs.Scoped) = ⟨P ++ [⟨lN numI P.length, c⟩], O, W⟩ := rfl
    obtain ⟨sc, hsc⟩ : ∃ sc, scopeM ⟨P ++ [⟨lN numI P.length, c⟩], O, W⟩ = sc := ⟨_, rfl⟩
    rw [hsc] at e1
    by_cases hz : sc.code = 0
    · rw [if_neg (by simp [hz])] at e1
      repeat' (first | refine WK_drawV hm hX35 45000 (lsw [76, 83, 111, 120] [1000008, 1000009, 1000016, 1000021]) treeS21 (by kernel_rfl) (by kernel_rfl) ?_ | refine And.intro ?_ ?_ | exact True.intro | refine ReqK.i (by omega) fun _ => ?_ | refine ReqK.i (fits_of2 (by first | omega | (simp only [List.length_map, List.length_append, List.length_cons, List.length_nil, List.length_range]; omega)) (by decide)) fun _ => ?_ | refine ReqK.i (by unfold maxL; omega) fun _ => ?_ | simp only [go_sem, reduceIte, reduceCtorEq, Nat.reduceEqDiff, Nat.reduceAdd, Nat.reduceSub, Nat.reduceMul, Nat.reduceDiv, Nat.reduceMod, Nat.reduceLT, Nat.reduceLeDiff, Nat.reduceBEq, Nat.reducePow, Int.reduceLE, Int.reduceLT, Int.reduceEq, Int.reduceNeg, Int.reduceAdd, Int.reduceToNat, Nat.lt_irrefl, Int.lt_irrefl, dec_snoc, ecut2, lN_l, hsc, hz, treeS21, str_eta, form_eta, Tryd.f45, X35, X34, X33, X32, X31, X30, X29, R28, R27, R22, R21, R20, R19, R18, R17, R16, R15, R14, R13, R12, R11, R10, R9, R8, R7, R6, R5, R4, R3, R2, R1, Q20, Q19, Q18, Q17, Q16, Q15, Q14, Q13, Q12, Q11, Q10, Q9, Q8, Q7, Q6, Q5, Q4, Q3, Q2, Q1, Tbl0])
      rw [e1]
      simp only [go_sem, reduceIte, reduceCtorEq, Nat.reduceEqDiff, Nat.reduceAdd, Nat.reduceSub, Nat.reduceMul, Nat.reduceDiv, Nat.reduceMod, Nat.reduceLT, Nat.reduceLeDiff, Nat.reduceBEq, Nat.reducePow, Int.reduceLE, Int.reduceLT, Int.reduceEq, Int.reduceNeg, Int.reduceAdd, Int.reduceToNat, List.map_append, List.map_cons, List.map_nil, lN_l]
    · have hz' := eq_false hz
      rw [if_pos hz] at e1
      repeat' (first | refine WK_drawV hm hX35 45000 (lsw [76, 83, 111, 120] [1000008, 1000009, 1000016, 1000021]) treeS21 (by kernel_rfl) (by kernel_rfl) ?_ | refine And.intro ?_ ?_ | exact True.intro | refine ReqK.i (by omega) fun _ => ?_ | refine ReqK.i (fits_of2 (by first | omega | (simp only [List.length_map, List.length_append, List.length_cons, List.length_nil, List.length_range]; omega)) (by decide)) fun _ => ?_ | refine ReqK.i (by unfold maxL; omega) fun _ => ?_ | simp only [go_sem, reduceIte, reduceCtorEq, Nat.reduceEqDiff, Nat.reduceAdd, Nat.reduceSub, Nat.reduceMul, Nat.reduceDiv, Nat.reduceMod, Nat.reduceLT, Nat.reduceLeDiff, Nat.reduceBEq, Nat.reducePow, Int.reduceLE, Int.reduceLT, Int.reduceEq, Int.reduceNeg, Int.reduceAdd, Int.reduceToNat, Nat.lt_irrefl, Int.lt_irrefl, dec_snoc, ecut2, lN_l, hsc, hz', e1, zeroS, treeS21, str_eta, form_eta, Tryd.f45, X35, X34, X33, X32, X31, X30, X29, R28, R27, R22, R21, R20, R19, R18, R17, R16, R15, R14, R13, R12, R11, R10, R9, R8, R7, R6, R5, R4, R3, R2, R1, Q20, Q19, Q18, Q17, Q16, Q15, Q14, Q13, Q12, Q11, Q10, Q9, Q8, Q7, Q6, Q5, Q4, Q3, Q2, Q1, Tbl0])
end Go.Proofs.YtoicheicnbjfeaaDoor

namespace Go.Proofs.YtoicheicnbjfeaaDoor
open Go Go.Abs Go.Proofs

/-! ## the law -/
def sL0 : Str := ⟨[108, 48]⟩
def fDog : Abs.Form := predM sDog [sKim]
theorem l0_eq : lN numI 0 = sL0 := by
  unfold lN numI sL0
  rw [digits_small (by decide)]; rfl
theorem dog_x : fromP fDog = (⟨[⟨sL0, fDog⟩], [], []⟩, ⟨0, 0⟩) := by
  have h1 : (checkM false fDog).code = 0 := by kernel_rfl
  have hcan : canonM fDog [] = fDog := by
    unfold canonM
    generalize vg (replM [] (usedM fDog)) = g
    unfold fDog predM
    rw [ren, if_neg (by decide), rens]
    rfl
  have hch : chainM fDog = false := by kernel_rfl
  have hcut : cutF numI fDog = ⟨[⟨sL0, fDog⟩], [], []⟩ := by
    unfold cutF
    rw [cutL_stop numI hch]
    unfold cutS
    rw [show (([], [], fDog) : List Piece × List Str × Abs.Form).1.length = 0 from rfl, l0_eq, ovL_zero]; rfl
  have hsc : scopeM ⟨[⟨sL0, fDog⟩], [], []⟩ = ⟨0, 0⟩ := by kernel_rfl
  unfold fromP
  rw [if_neg (by simp [h1]), hcan, hcut, hsc, if_neg (by simp)]
set_option maxRecDepth 100000 in
set_option maxHeartbeats 1000000 in
set_option maxHeartbeats 8000000 in
theorem lawF14 (hT : TblOk Tryd.prog GA X36) (f : Abs.Form) (_ : (enc f).Wf) : Wcall Tryd.prog GA 9 [.fz (enc f)] (hpL []) 0 (fun d _ _ => d = .fz (.b true)) := by
  have dK : Str.mk [107, 105, 109] = sKim := rfl
  have dD : Str.mk [100, 111, 103] = sDog := rfl
  have dF : predM sDog [sKim] = fDog := rfl
  have dx := dog_x
  have hl : sL0.l = [108, 48] := rfl
  have hz : decide ((⟨[], [], []⟩ : Abs.Scoped) = ⟨[], [], []⟩) = true := by decide
  have zS : zeroS = ⟨[], [], []⟩ := rfl
  refine Wcall_K (N := 64) hm hT 9000 (lst []) ok9 Tryd.func9 rfl rfl (by simp) (by kernel_rfl) ?_
  by_cases hc1 : ¬ (checkM false f).code = 0
  · have e1 : fromP f = (zeroS, checkM false f) := by unfold fromP; rw [if_pos hc1]
    repeat' (first | refine ReqK.i (by omega) fun _ => ?_ | refine ReqK.i (by unfold maxL; omega) fun _ => ?_ | refine ReqK.i ⟨rfl, rfl⟩ fun _ => ?_ | refine ReqK.i rfl fun _ => ?_ | refine ReqK.i ⟨rfl, rfl, rfl⟩ fun _ => ?_ | refine ReqK.i ⟨rfl, rfl, rfl, trivial⟩ fun _ => ?_ | simp only [go_sem, reduceIte, reduceCtorEq, Nat.reduceEqDiff, Nat.reduceAdd, Nat.reduceSub, Nat.reduceMul, Nat.reduceDiv, Nat.reduceMod, Nat.reduceLT, Nat.reduceLeDiff, Nat.reduceBEq, Nat.reducePow, Int.reduceLE, Int.reduceLT, Int.reduceEq, Int.reduceNeg, Int.reduceAdd, Int.reduceToNat, dK, dD, dF, dx, hl, hz, zS, e1, hc1, str_eta, form_eta, GA, Tryd.f9, X36, X35, X34, X33, X32, X31, X30, X29, R28, R27, R22, R21, R20, R19, R18, R17, R16, R15, R14, R13, R12, R11, R10, R9, R8, R7, R6, R5, R4, R3, R2, R1, Q20, Q19, Q18, Q17, Q16, Q15, Q14, Q13, Q12, Q11, Q10, Q9, Q8, Q7, Q6, Q5, Q4, Q3, Q2, Q1, Tbl0])
  have hc1 := Decidable.not_not.1 hc1
  have hce := checkM_code hc1
  have e0 : fromP f = cutP f := by unfold fromP cutP; rw [if_neg (by simp [hc1])]
  obtain ⟨S, e, he⟩ : ∃ S e, cutP f = (S, e) := ⟨_, _, rfl⟩
  rw [he] at e0
  have hS : decide (S = S) = true := decide_eq_true rfl
  repeat' (first | refine ReqK.i hc1 fun _ => ?_ | refine ReqK.i (by omega) fun _ => ?_ | refine ReqK.i (by unfold maxL; omega) fun _ => ?_ | refine ReqK.i ⟨rfl, rfl⟩ fun _ => ?_ | refine ReqK.i rfl fun _ => ?_ | refine ReqK.i ⟨rfl, rfl, rfl⟩ fun _ => ?_ | refine ReqK.i ⟨rfl, rfl, rfl, trivial⟩ fun _ => ?_ | simp only [go_sem, reduceIte, reduceCtorEq, Nat.reduceEqDiff, Nat.reduceAdd, Nat.reduceSub, Nat.reduceMul, Nat.reduceDiv, Nat.reduceMod, Nat.reduceLT, Nat.reduceLeDiff, Nat.reduceBEq, Nat.reducePow, Int.reduceLE, Int.reduceLT, Int.reduceEq, Int.reduceNeg, Int.reduceAdd, Int.reduceToNat, dK, dD, dF, dx, hl, hS, e0, he, hc1, hce, str_eta, form_eta, GA, Tryd.f9, X36, X35, X34, X33, X32, X31, X30, X29, R28, R27, R22, R21, R20, R19, R18, R17, R16, R15, R14, R13, R12, R11, R10, R9, R8, R7, R6, R5, R4, R3, R2, R1, Q20, Q19, Q18, Q17, Q16, Q15, Q14, Q13, Q12, Q11, Q10, Q9, Q8, Q7, Q6, Q5, Q4, Q3, Q2, Q1, Tbl0])
end Go.Proofs.YtoicheicnbjfeaaDoor
