/- several texts of this proof in one; no conditions -/
import Derived.Test.YtoicheicnbjfeaaDoorQ63
set_option linter.unusedSimpArgs false
namespace Go.Proofs.YtoicheicnbjfeaaDoor
open Go Go.Abs Go.Proofs

def X33 : Tbl := X32.add 25 (sp1 scopeM fun _ => True)
set_option maxRecDepth 100000 in
set_option maxHeartbeats 1000000 in
set_option maxHeartbeats 8000000 in
theorem hX33 : TblOk Tryd.prog GA X33 := by
  refine sp1_ok ok25 hX32 fun s _ hw => ?_
  obtain ⟨Q, hQ⟩ : ∃ Q : D → Heap → Nat → Prop, Q = (fun d _ _ => D.val d = some (.fz (enc (scopeM s)))) := ⟨_, rfl⟩
  rw [← hQ]
  have hres : ∀ {c i : Int} {H' : Heap} {n' : Nat}, scopeM s = ⟨c, i⟩ → Q (.agg [.fz (.i .i64 c), .fz (.i .i64 i)]) H' n' := fun e => by
    rw [hQ]; show _ = some (D.fz (enc (scopeM s))); rw [e]; rfl
  have kr := Kp.mk @hres
  have hlo : s.overs.length ≤ maxL := by
    have h := Wf_agg (by have h := hw; rw [enc_scoped] at h; exact h) (FD.sl (s.overs.map enc)) (by simp)
    have := Wf_sl h
    simpa using this
  have hlv : s.vars.length ≤ maxL := by
    have h := Wf_agg (by have h := hw; rw [enc_scoped] at h; exact h) (FD.sl (s.vars.map enc)) (by simp)
    have := Wf_sl h
    simpa using this
  unfold maxL at hlo hlv
  clear hres hQ hw
  by_cases h0 : s.pieces.length = 0
  · refine Wcall_K (N := 145) hm hX32 25000 (lsw [56, 73] []) ok25 Tryd.func25 rfl rfl (by simp) (by kernel_rfl) ?_
    have h0' : (((s.pieces.length : Nat) : Int) = 0) = True := eq_true (by omega)
    have h0'' : (((s.pieces.length : Nat) : Int) < 1) = True := eq_true (by omega)
    repeat' (first | refine ReqK.i (by omega) fun _ => ?_ | simp only [go_sem, reduceIte, reduceCtorEq, Nat.reduceEqDiff, Nat.reduceAdd, Nat.reduceSub, Nat.reduceMul, Nat.reduceDiv, Nat.reduceMod, Nat.reduceLT, Nat.reduceLeDiff, Nat.reduceBEq, Nat.reducePow, Int.reduceLE, Int.reduceLT, Int.reduceEq, Int.reduceNeg, Int.reduceAdd, Int.reduceToNat, h0', h0'', str_eta, form_eta, Tryd.f25, X32, X31, X30, X29, R28, R27, R22, R21, R20, R19, R18, R17, R16, R15, R14, R13, R12, R11, R10, R9, R8, R7, R6, R5, R4, R3, R2, R1, Q20, Q19, Q18, Q17, Q16, Q15, Q14, Q13, Q12, Q11, Q10, Q9, Q8, Q7, Q6, Q5, Q4, Q3, Q2, Q1, Tbl0])
    exact kr.out (by unfold scopeM; rw [if_pos (.inl h0)])
  by_cases h6 : 6 < s.pieces.length
  · refine Wcall_K (N := 145) hm hX32 25000 (lsw [56, 73] []) ok25 Tryd.func25 rfl rfl (by simp) (by kernel_rfl) ?_
    have h0' : (((s.pieces.length : Nat) : Int) = 0) = False := eq_false (by omega)
    have h0'' : (((s.pieces.length : Nat) : Int) < 1) = False := eq_false (by omega)
    have h6' : (6 < ((s.pieces.length : Nat) : Int)) = True := eq_true (by omega)
    repeat' (first | refine ReqK.i (by omega) fun _ => ?_ | simp only [go_sem, reduceIte, reduceCtorEq, Nat.reduceEqDiff, Nat.reduceAdd, Nat.reduceSub, Nat.reduceMul, Nat.reduceDiv, Nat.reduceMod, Nat.reduceLT, Nat.reduceLeDiff, Nat.reduceBEq, Nat.reducePow, Int.reduceLE, Int.reduceLT, Int.reduceEq, Int.reduceNeg, Int.reduceAdd, Int.reduceToNat, h0', h0'', h6', str_eta, form_eta, Tryd.f25, X32, X31, X30, X29, R28, R27, R22, R21, R20, R19, R18, R17, R16, R15, R14, R13, R12, R11, R10, R9, R8, R7, R6, R5, R4, R3, R2, R1, Q20, Q19, Q18, Q17, Q16, Q15, Q14, Q13, Q12, Q11, Q10, Q9, Q8, Q7, Q6, Q5, Q4, Q3, Q2, Q1, Tbl0])
    exact kr.out (by unfold scopeM; rw [if_pos (.inr h6)])
  have h0' : (((s.pieces.length : Nat) : Int) = 0) = False := eq_false (by omega)
  have h0'' : (((s.pieces.length : Nat) : Int) < 1) = False := eq_false (by omega)
  have h6' : (6 < ((s.pieces.length : Nat) : Int)) = False := eq_false (by omega)
  have e1 := scopeM_in h0 h6
  refine Wcall_K (N := 145) hm hX32 25000 (lsw [56, 73] []) ok25 Tryd.func25 rfl rfl (by simp) (by kernel_rfl) ?_
  repeat' (first | refine ReqK.i (by omega) fun _ => ?_ | simp only [go_sem, reduceIte, reduceCtorEq, Nat.reduceEqDiff, Nat.reduceAdd, Nat.reduceSub, Nat.reduceMul, Nat.reduceDiv, Nat.reduceMod, Nat.reduceLT, Nat.reduceLeDiff, Nat.reduceBEq, Nat.reducePow, Int.reduceLE, Int.reduceLT, Int.reduceEq, Int.reduceNeg, Int.reduceAdd, Int.reduceToNat, h0', h0'', h6', str_eta, form_eta, Tryd.f25, X32, X31, X30, X29, R28, R27, R22, R21, R20, R19, R18, R17, R16, R15, R14, R13, R12, R11, R10, R9, R8, R7, R6, R5, R4, R3, R2, R1, Q20, Q19, Q18, Q17, Q16, Q15, Q14, Q13, Q12, Q11, Q10, Q9, Q8, Q7, Q6, Q5, Q4, Q3, Q2, Q1, Tbl0])
  refine WK_loop hm hX32 25000 (lsw [56, 73] []) (ι := VI s)
    ⟨fun q => ⟨frL [(1, .ptr (25001, 0) 0), (2, .ptr (25002, 1) 0), (3, .ow (25056, q.g1) 1 ((labelsM (s.pieces.take q.i)).map enc)), (4, .ow (25073, q.g2) 1 ((allM (s.pieces.take q.i)).map enc)), (5, .fz (.i .i64 (nodesM (s.pieces.take q.i)))), (6, .fz (.i .i64 (deepM (s.pieces.take q.i)))), (28, .fz (.sl (s.pieces.map enc))), (29, .fz (.i .i64 s.pieces.length)), (30, .fz (.i .i64 q.i))],
      hpL [((25001, 0), some ⟨[.fz (.sl (s.pieces.map enc)), .fz (.sl (s.overs.map enc)), .fz (.sl (s.vars.map enc))], true, false⟩), ((25002, 1), some ⟨[.fz (.i .i64 0), .fz (.i .i64 0)], true, false⟩), ((25056, q.g1), some tok), ((25073, q.g2), some tok)], q.m⟩, fun q => s.pieces.length - q.i⟩
    ⟨0, 2, 3, 4, by omega, by omega, by omega, by omega, ⟨by simp [nodesM, Form.sizes], by simp [deepM], by simp [allM]⟩, by simp [labelsM, allM]⟩ (by kernel_rfl) ?_ ?_
  · refine Weak_g [] [(25056, 2), (25073, 3)] [] ?_ ?_ ?_ ?_ ?_ <;> simp only [go_sem, reduceIte, reduceCtorEq, Nat.reduceEqDiff, Nat.reduceAdd, Nat.reduceSub, Nat.reduceMul, Nat.reduceDiv, Nat.reduceMod, Nat.reduceLT, Nat.reduceLeDiff, Nat.reduceBEq, Nat.reducePow, Int.reduceLE, Int.reduceLT, Int.reduceEq, Int.reduceNeg, Int.reduceAdd, Int.reduceToNat, List.take_zero, labelsM, allM, nodesM, deepM, Form.sizes]
    all_goals first | done | rfl | trace_state
  rintro ⟨i, g1, g2, m, hi, hg1, hg2, hm1, ⟨hn1, hn2, hn3⟩, hp⟩
  try simp only at hi hg1 hg2 hm1 hn1 hn2 hn3 hp
  have hll : (labelsM (s.pieces.take i)).length = i := by unfold labelsM; rw [List.length_map, List.length_take]; omega
  rcases Nat.lt_or_ge i s.pieces.length with h1 | h1
  · rw [restP_step h1] at hp
    have el := labelsM_take h1
    have ea := allM_take h1
    have en := nodesM_take h1
    have ed := deepM_take h1
    obtain ⟨p, hpe⟩ : ∃ p, s.pieces[i] = p := ⟨_, rfl⟩
    rw [hpe] at hp el ea en ed
    obtain ⟨L, hL⟩ : ∃ L, labelsM (s.pieces.take i) = L := ⟨_, rfl⟩
    obtain ⟨A, hA⟩ : ∃ A, allM (s.pieces.take i) = A := ⟨_, rfl⟩
    obtain ⟨N, hN⟩ : ∃ N, nodesM (s.pieces.take i) = N := ⟨_, rfl⟩
    obtain ⟨E, hE⟩ : ∃ E, deepM (s.pieces.take i) = E := ⟨_, rfl⟩
    rw [hL, hA] at hp
    rw [hL] at el hll
    rw [hA] at ea hn3
    rw [hN] at en hn1
    rw [hE] at ed hn2
    simp only [hL, hA, hN, hE]
    have bad : ∀ {c : Int}, pieceC L A p = c → c ≠ 0 → scopeM s = ⟨c, i⟩ := fun h h2 => by
      rw [h, if_pos h2] at hp
      rw [e1, ← hp, if_pos h2]
    cases hnm : isName p.label with
    | false =>
      repeat' (first | refine ReqK.i (by omega) fun _ => ?_ | refine ReqK.i hsz fun _ => ?_ | refine ReqK.i hsp fun _ => ?_ | refine ReqK.i (fits_of2 (by first | omega | (simp only [List.length_map, List.length_append, List.length_cons, List.length_nil]; omega)) (by decide)) fun _ => ?_ | refine ReqK.i (by unfold maxL; omega) fun _ => ?_ | simp only [go_sem, reduceIte, reduceCtorEq, Nat.reduceEqDiff, Nat.reduceAdd, Nat.reduceSub, Nat.reduceMul, Nat.reduceDiv, Nat.reduceMod, Nat.reduceLT, Nat.reduceLeDiff, Nat.reduceBEq, Nat.reducePow, Int.reduceLE, Int.reduceLT, Int.reduceEq, Int.reduceNeg, Int.reduceAdd, Int.reduceToNat, h1, hpe, hnm, getD_map_lt, str_eta, form_eta, Tryd.f25, X32, X31, X30, X29, R28, R27, R22, R21, R20, R19, R18, R17, R16, R15, R14, R13, R12, R11, R10, R9, R8, R7, R6, R5, R4, R3, R2, R1, Q20, Q19, Q18, Q17, Q16, Q15, Q14, Q13, Q12, Q11, Q10, Q9, Q8, Q7, Q6, Q5, Q4, Q3, Q2, Q1, Tbl0])
      exact kr.out (bad (by unfold pieceC; rw [if_pos hnm]) (by decide))
    | true =>
    by_cases hlm : p.label ∈ L
    · repeat' (first | refine ReqK.i (by omega) fun _ => ?_ | refine ReqK.i hsz fun _ => ?_ | refine ReqK.i hsp fun _ => ?_ | refine ReqK.i (fits_of2 (by first | omega | (simp only [List.length_map, List.length_append, List.length_cons, List.length_nil]; omega)) (by decide)) fun _ => ?_ | refine ReqK.i (by unfold maxL; omega) fun _ => ?_ | simp only [go_sem, reduceIte, reduceCtorEq, Nat.reduceEqDiff, Nat.reduceAdd, Nat.reduceSub, Nat.reduceMul, Nat.reduceDiv, Nat.reduceMod, Nat.reduceLT, Nat.reduceLeDiff, Nat.reduceBEq, Nat.reducePow, Int.reduceLE, Int.reduceLT, Int.reduceEq, Int.reduceNeg, Int.reduceAdd, Int.reduceToNat, h1, hpe, hnm, hlm, decide_true, getD_map_lt, str_eta, form_eta, Tryd.f25, X32, X31, X30, X29, R28, R27, R22, R21, R20, R19, R18, R17, R16, R15, R14, R13, R12, R11, R10, R9, R8, R7, R6, R5, R4, R3, R2, R1, Q20, Q19, Q18, Q17, Q16, Q15, Q14, Q13, Q12, Q11, Q10, Q9, Q8, Q7, Q6, Q5, Q4, Q3, Q2, Q1, Tbl0])
      exact kr.out (bad (by unfold pieceC; rw [if_neg (by simp [hnm]), if_pos hlm]) (by decide))
    have hlm' := decide_eq_false hlm
    by_cases hck : ¬ (checkM true p.form).code = 0
    · obtain ⟨ck, hcke⟩ : ∃ ck, checkM true p.form = ck := ⟨_, rfl⟩
      rw [hcke] at hck
      repeat' (first | refine ReqK.i (by omega) fun _ => ?_ | refine ReqK.i hsz fun _ => ?_ | refine ReqK.i hsp fun _ => ?_ | refine ReqK.i (fits_of2 (by first | omega | (simp only [List.length_map, List.length_append, List.length_cons, List.length_nil]; omega)) (by decide)) fun _ => ?_ | refine ReqK.i (by unfold maxL; omega) fun _ => ?_ | simp only [go_sem, reduceIte, reduceCtorEq, Nat.reduceEqDiff, Nat.reduceAdd, Nat.reduceSub, Nat.reduceMul, Nat.reduceDiv, Nat.reduceMod, Nat.reduceLT, Nat.reduceLeDiff, Nat.reduceBEq, Nat.reducePow, Int.reduceLE, Int.reduceLT, Int.reduceEq, Int.reduceNeg, Int.reduceAdd, Int.reduceToNat, h1, hpe, hnm, hlm', hcke, hck, getD_map_lt, str_eta, form_eta, Tryd.f25, X32, X31, X30, X29, R28, R27, R22, R21, R20, R19, R18, R17, R16, R15, R14, R13, R12, R11, R10, R9, R8, R7, R6, R5, R4, R3, R2, R1, Q20, Q19, Q18, Q17, Q16, Q15, Q14, Q13, Q12, Q11, Q10, Q9, Q8, Q7, Q6, Q5, Q4, Q3, Q2, Q1, Tbl0])
      exact kr.out (bad (by unfold pieceC; rw [if_neg (by simp [hnm]), if_neg hlm, if_pos (by rw [hcke]; exact hck), hcke]) hck)
    have hck := Decidable.not_not.1 hck
    have hcke := checkM_code hck
    have hsp : p.form.size ≤ 1000 := by have := checkM_size hck; omega
    have hsz : szPre p.form := ⟨checkM_fit hck, by omega⟩
    have hs2 := checkM_size hck
    have hd2 := p.form.depth_size
    have hr2 := checkM_holes hck
    have hhl := holesM_len p.form
    obtain ⟨hs, hhs⟩ : ∃ hs, holesM p.form = hs := ⟨_, rfl⟩
    rw [hhs] at hr2 hhl ea hp
    have hpc : pieceC L A p = if dupH A hs = true then 7 else 0 := by unfold pieceC; rw [if_neg (by simp [hnm]), if_neg hlm, if_neg (by simp [hck]), hhs]
    repeat' (first | refine ReqK.i (by omega) fun _ => ?_ | refine ReqK.i hsz fun _ => ?_ | refine ReqK.i hsp fun _ => ?_ | refine ReqK.i (fits_of2 (by first | omega | (simp only [List.length_map, List.length_append, List.length_cons, List.length_nil]; omega)) (by decide)) fun _ => ?_ | refine ReqK.i (by unfold maxL; omega) fun _ => ?_ | simp only [go_sem, reduceIte, reduceCtorEq, Nat.reduceEqDiff, Nat.reduceAdd, Nat.reduceSub, Nat.reduceMul, Nat.reduceDiv, Nat.reduceMod, Nat.reduceLT, Nat.reduceLeDiff, Nat.reduceBEq, Nat.reducePow, Int.reduceLE, Int.reduceLT, Int.reduceEq, Int.reduceNeg, Int.reduceAdd, Int.reduceToNat, h1, hpe, hnm, hlm', hcke, hhs, hr2, getD_map_lt, str_eta, form_eta, Tryd.f25, X32, X31, X30, X29, R28, R27, R22, R21, R20, R19, R18, R17, R16, R15, R14, R13, R12, R11, R10, R9, R8, R7, R6, R5, R4, R3, R2, R1, Q20, Q19, Q18, Q17, Q16, Q15, Q14, Q13, Q12, Q11, Q10, Q9, Q8, Q7, Q6, Q5, Q4, Q3, Q2, Q1, Tbl0])
    refine WK_loop hm hX32 25000 (lsw [56, 73] []) (ι := LoopG hs.length (m + 2) fun j => dupH (A ++ hs.take j) (hs.drop j) = dupH A hs)
      ⟨fun q => ⟨frL [(1, .ptr (25001, 0) 0), (2, .ptr (25002, 1) 0), (3, .ow (25056, m + 1) 1 ((L ++ [p.label]).map enc)), (4, .ow (25073, q.g) 1 ((A ++ hs.take q.i).map enc)), (5, .fz (.i .i64 N)), (6, .fz (.i .i64 E)), (7, .fz (.i .i64 i)), (8, .ptr (25008, m) 0), (28, .fz (.sl (s.pieces.map enc))), (29, .fz (.i .i64 s.pieces.length)), (30, .fz (.i .i64 i)), (59, .fz (.sl (hs.map enc))), (60, .fz (.i .i64 hs.length)), (61, .fz (.i .i64 q.i))],
        hpL [((25001, 0), some ⟨[.fz (.sl (s.pieces.map enc)), .fz (.sl (s.overs.map enc)), .fz (.sl (s.vars.map enc))], true, false⟩), ((25002, 1), some ⟨[.fz (.i .i64 0), .fz (.i .i64 0)], true, false⟩), ((25056, m + 1), some tok), ((25073, q.g), some tok), ((25008, m), some ⟨[.fz (.s p.label.l), .fz (.i .i64 p.form.kind), .fz (.s p.form.name.l), .fz (.sl (p.form.words.map enc)), .fz (.sl (p.form.subs.map enc))], true, false⟩)], q.m⟩, fun q => hs.length - q.i⟩
      ⟨0, g2, m + 2, by omega, by omega, by omega, by simp⟩ (by kernel_rfl) ?_ ?_
    · refine Weak_to ?_ ?_ ?_ <;> simp only [go_sem, reduceIte, reduceCtorEq, Nat.reduceEqDiff, Nat.reduceAdd, Nat.reduceSub, Nat.reduceMul, Nat.reduceDiv, Nat.reduceMod, Nat.reduceLT, Nat.reduceLeDiff, Nat.reduceBEq, Nat.reducePow, Int.reduceLE, Int.reduceLT, Int.reduceEq, Int.reduceNeg, Int.reduceAdd, Int.reduceToNat, List.take_zero, List.append_nil, List.map_append]
    rintro ⟨j, g, m', hj, hg, hm', hd⟩
    try simp only at hj hg hm' hd
    have hAl : (A ++ hs.take j).length ≤ 200 * i + 200 := by rw [List.length_append, List.length_take]; omega
    rcases Nat.lt_or_ge j hs.length with h2 | h2
    · rw [dupH_step h2] at hd
      have et : A ++ hs.take (j + 1) = (A ++ hs.take j) ++ [hs[j]] := by rw [List.take_succ_eq_append_getElem h2, List.append_assoc]
      obtain ⟨x, hx⟩ : ∃ x, hs[j] = x := ⟨_, rfl⟩
      rw [hx] at hd et
      obtain ⟨B, hB⟩ : ∃ B, A ++ hs.take j = B := ⟨_, rfl⟩
      rw [hB] at hd hAl et
      simp only [hB]
      by_cases hxm : x ∈ B
      · repeat' (first | refine ReqK.i (by omega) fun _ => ?_ | refine ReqK.i hsz fun _ => ?_ | refine ReqK.i hsp fun _ => ?_ | refine ReqK.i (fits_of2 (by first | omega | (simp only [List.length_map, List.length_append, List.length_cons, List.length_nil]; omega)) (by decide)) fun _ => ?_ | refine ReqK.i (by unfold maxL; omega) fun _ => ?_ | simp only [go_sem, reduceIte, reduceCtorEq, Nat.reduceEqDiff, Nat.reduceAdd, Nat.reduceSub, Nat.reduceMul, Nat.reduceDiv, Nat.reduceMod, Nat.reduceLT, Nat.reduceLeDiff, Nat.reduceBEq, Nat.reducePow, Int.reduceLE, Int.reduceLT, Int.reduceEq, Int.reduceNeg, Int.reduceAdd, Int.reduceToNat, h2, hx, hxm, decide_true, getD_map_lt, str_eta, form_eta, Tryd.f25, X32, X31, X30, X29, R28, R27, R22, R21, R20, R19, R18, R17, R16, R15, R14, R13, R12, R11, R10, R9, R8, R7, R6, R5, R4, R3, R2, R1, Q20, Q19, Q18, Q17, Q16, Q15, Q14, Q13, Q12, Q11, Q10, Q9, Q8, Q7, Q6, Q5, Q4, Q3, Q2, Q1, Tbl0])
        exact kr.out (bad (by rw [hpc, ← hd, decide_eq_true hxm]; rfl) (by decide))
      · have hxm' := decide_eq_false hxm
        repeat' (first | refine ReqK.i (by omega) fun _ => ?_ | refine ReqK.i hsz fun _ => ?_ | refine ReqK.i hsp fun _ => ?_ | refine ReqK.i (fits_of2 (by first | omega | (simp only [List.length_map, List.length_append, List.length_cons, List.length_nil]; omega)) (by decide)) fun _ => ?_ | refine ReqK.i (by unfold maxL; omega) fun _ => ?_ | simp only [go_sem, reduceIte, reduceCtorEq, Nat.reduceEqDiff, Nat.reduceAdd, Nat.reduceSub, Nat.reduceMul, Nat.reduceDiv, Nat.reduceMod, Nat.reduceLT, Nat.reduceLeDiff, Nat.reduceBEq, Nat.reducePow, Int.reduceLE, Int.reduceLT, Int.reduceEq, Int.reduceNeg, Int.reduceAdd, Int.reduceToNat, h2, hx, hxm', getD_map_lt, str_eta, form_eta, Tryd.f25, X32, X31, X30, X29, R28, R27, R22, R21, R20, R19, R18, R17, R16, R15, R14, R13, R12, R11, R10, R9, R8, R7, R6, R5, R4, R3, R2, R1, Q20, Q19, Q18, Q17, Q16, Q15, Q14, Q13, Q12, Q11, Q10, Q9, Q8, Q7, Q6, Q5, Q4, Q3, Q2, Q1, Tbl0])
        refine ⟨⟨j + 1, m', m' + 1, by omega, by omega, by omega, by rw [et, ← hd, hxm', Bool.false_or]⟩, by simp only; omega, ?_⟩
        refine Weak_to ?_ ?_ ?_ <;> simp only [go_sem, reduceIte, reduceCtorEq, Nat.reduceEqDiff, Nat.reduceAdd, Nat.reduceSub, Nat.reduceMul, Nat.reduceDiv, Nat.reduceMod, Nat.reduceLT, Nat.reduceLeDiff, Nat.reduceBEq, Nat.reducePow, Int.reduceLE, Int.reduceLT, Int.reduceEq, Int.reduceNeg, Int.reduceAdd, Int.reduceToNat, et, List.map_append]
    · obtain rfl : j = hs.length := by omega
      rw [List.take_length, List.drop_length] at hd
      have h2' : ¬ hs.length < hs.length := Nat.lt_irrefl _
      rw [hpc, ← hd, if_neg (by simp [dupH])] at hp
      try rw [if_neg (by simp)] at hp
      rw [List.take_length] at hAl
      simp only [List.take_length]
      repeat' (first | refine ReqK.i (by omega) fun _ => ?_ | refine ReqK.i hsz fun _ => ?_ | refine ReqK.i hsp fun _ => ?_ | refine ReqK.i (fits_of2 (by first | omega | (simp only [List.length_map, List.length_append, List.length_cons, List.length_nil]; omega)) (by decide)) fun _ => ?_ | refine ReqK.i (by unfold maxL; omega) fun _ => ?_ | simp only [go_sem, reduceIte, reduceCtorEq, Nat.reduceEqDiff, Nat.reduceAdd, Nat.reduceSub, Nat.reduceMul, Nat.reduceDiv, Nat.reduceMod, Nat.reduceLT, Nat.reduceLeDiff, Nat.reduceBEq, Nat.reducePow, Int.reduceLE, Int.reduceLT, Int.reduceEq, Int.reduceNeg, Int.reduceAdd, Int.reduceToNat, h2', Int.lt_irrefl, str_eta, form_eta, Tryd.f25, X32, X31, X30, X29, R28, R27, R22, R21, R20, R19, R18, R17, R16, R15, R14, R13, R12, R11, R10, R9, R8, R7, R6, R5, R4, R3, R2, R1, Q20, Q19, Q18, Q17, Q16, Q15, Q14, Q13, Q12, Q11, Q10, Q9, Q8, Q7, Q6, Q5, Q4, Q3, Q2, Q1, Tbl0])
      refine ⟨⟨i + 1, m + 1, g, m', by omega, by omega, by omega, by omega, ⟨by rw [en]; omega, by rw [ed]; omega, by rw [ea]; omega⟩, by rw [el, ea]; exact hp⟩, by simp only; omega, ?_⟩
      refine Weak_to ?_ ?_ ?_ <;> simp only [go_sem, reduceIte, reduceCtorEq, Nat.reduceEqDiff, Nat.reduceAdd, Nat.reduceSub, Nat.reduceMul, Nat.reduceDiv, Nat.reduceMod, Nat.reduceLT, Nat.reduceLeDiff, Nat.reduceBEq, Nat.reducePow, Int.reduceLE, Int.reduceLT, Int.reduceEq, Int.reduceNeg, Int.reduceAdd, Int.reduceToNat, el, ea, en, ed, List.map_append, Int.natCast_add]
  obtain rfl : i = s.pieces.length := by omega
  rw [List.drop_length, restP] at hp
  rw [← hp, if_neg (by simp)] at e1
  rw [List.take_length] at hn1 hn2 hn3 hll
  simp only [List.take_length]
  obtain ⟨L, hL⟩ : ∃ L, labelsM s.pieces = L := ⟨_, rfl⟩
  obtain ⟨A, hA⟩ : ∃ A, allM s.pieces = A := ⟨_, rfl⟩
  obtain ⟨N, hN⟩ : ∃ N, nodesM s.pieces = N := ⟨_, rfl⟩
  obtain ⟨E, hE⟩ : ∃ E, deepM s.pieces = E := ⟨_, rfl⟩
  rw [hL, hA, hN, hE] at e1
  simp only [hL, hA, hN, hE]
  clear hp hn1 hn2 hn3 hL hA hN hE hll
  by_cases hN2 : 200 < N
  · have c1 : (200 < (N : Int)) = True := eq_true (by omega)
    repeat' (first | refine ReqK.i (by omega) fun _ => ?_ | simp only [go_sem, reduceIte, reduceCtorEq, Nat.reduceEqDiff, Nat.reduceAdd, Nat.reduceSub, Nat.reduceMul, Nat.reduceDiv, Nat.reduceMod, Nat.reduceLT, Nat.reduceLeDiff, Nat.reduceBEq, Nat.reducePow, Int.reduceLE, Int.reduceLT, Int.reduceEq, Int.reduceNeg, Int.reduceAdd, Int.reduceToNat, Nat.lt_irrefl, Int.lt_irrefl, c1, str_eta, form_eta, Tryd.f25, X32, X31, X30, X29, R28, R27, R22, R21, R20, R19, R18, R17, R16, R15, R14, R13, R12, R11, R10, R9, R8, R7, R6, R5, R4, R3, R2, R1, Q20, Q19, Q18, Q17, Q16, Q15, Q14, Q13, Q12, Q11, Q10, Q9, Q8, Q7, Q6, Q5, Q4, Q3, Q2, Q1, Tbl0])
    exact kr.out (by rw [e1, if_pos (.inl hN2)])
  have c1 : (200 < (N : Int)) = False := eq_false (by omega)
  by_cases hE2 : 40 < E
  · have c2 : (40 < (E : Int)) = True := eq_true (by omega)
    repeat' (first | refine ReqK.i (by omega) fun _ => ?_ | simp only [go_sem, reduceIte, reduceCtorEq, Nat.reduceEqDiff, Nat.reduceAdd, Nat.reduceSub, Nat.reduceMul, Nat.reduceDiv, Nat.reduceMod, Nat.reduceLT, Nat.reduceLeDiff, Nat.reduceBEq, Nat.reducePow, Int.reduceLE, Int.reduceLT, Int.reduceEq, Int.reduceNeg, Int.reduceAdd, Int.reduceToNat, Nat.lt_irrefl, Int.lt_irrefl, c1, c2, str_eta, form_eta, Tryd.f25, X32, X31, X30, X29, R28, R27, R22, R21, R20, R19, R18, R17, R16, R15, R14, R13, R12, R11, R10, R9, R8, R7, R6, R5, R4, R3, R2, R1, Q20, Q19, Q18, Q17, Q16, Q15, Q14, Q13, Q12, Q11, Q10, Q9, Q8, Q7, Q6, Q5, Q4, Q3, Q2, Q1, Tbl0])
    exact kr.out (by rw [e1, if_pos (.inr hE2)])
  have c2 : (40 < (E : Int)) = False := eq_false (by omega)
  rw [if_neg (by omega)] at e1
  by_cases ho : 300 < s.overs.length
  · have c3 : (300 < ((s.overs.length : Nat) : Int)) = True := eq_true (by omega)
    repeat' (first | refine ReqK.i (by omega) fun _ => ?_ | simp only [go_sem, reduceIte, reduceCtorEq, Nat.reduceEqDiff, Nat.reduceAdd, Nat.reduceSub, Nat.reduceMul, Nat.reduceDiv, Nat.reduceMod, Nat.reduceLT, Nat.reduceLeDiff, Nat.reduceBEq, Nat.reducePow, Int.reduceLE, Int.reduceLT, Int.reduceEq, Int.reduceNeg, Int.reduceAdd, Int.reduceToNat, Nat.lt_irrefl, Int.lt_irrefl, c1, c2, c3, str_eta, form_eta, Tryd.f25, X32, X31, X30, X29, R28, R27, R22, R21, R20, R19, R18, R17, R16, R15, R14, R13, R12, R11, R10, R9, R8, R7, R6, R5, R4, R3, R2, R1, Q20, Q19, Q18, Q17, Q16, Q15, Q14, Q13, Q12, Q11, Q10, Q9, Q8, Q7, Q6, Q5, Q4, Q3, Q2, Q1, Tbl0])
    exact kr.out (by rw [e1, if_pos ho])
  have c3 : (300 < ((s.overs.length : Nat) : Int)) = False := eq_false (by omega)
  rw [if_neg ho] at e1
  repeat' (first | refine ReqK.i (by omega) fun _ => ?_ | simp only [go_sem, reduceIte, reduceCtorEq, Nat.reduceEqDiff, Nat.reduceAdd, Nat.reduceSub, Nat.reduceMul, Nat.reduceDiv, Nat.reduceMod, Nat.reduceLT, Nat.reduceLeDiff, Nat.reduceBEq, Nat.reducePow, Int.reduceLE, Int.reduceLT, Int.reduceEq, Int.reduceNeg, Int.reduceAdd, Int.reduceToNat, Nat.lt_irrefl, Int.lt_irrefl, c1, c2, c3, str_eta, form_eta, Tryd.f25, X32, X31, X30, X29, R28, R27, R22, R21, R20, R19, R18, R17, R16, R15, R14, R13, R12, R11, R10, R9, R8, R7, R6, R5, R4, R3, R2, R1, Q20, Q19, Q18, Q17, Q16, Q15, Q14, Q13, Q12, Q11, Q10, Q9, Q8, Q7, Q6, Q5, Q4, Q3, Q2, Q1, Tbl0])
  refine WK_loop hm hX32 25000 (lsw [56, 73] []) (ι := LoopM s.overs.length m fun j => (s.overs.take j).all (oversOk L A) = true)
    ⟨fun q => ⟨frL [(1, .ptr (25001, 0) 0), (2, .ptr (25002, 1) 0), (3, .ow (25056, g1) 1 (L.map enc)), (4, .ow (25073, g2) 1 (A.map enc)), (99, .fz (.sl (s.overs.map enc))), (100, .fz (.i .i64 s.overs.length)), (101, .fz (.i .i64 q.i))],
      hpL [((25001, 0), some ⟨[.fz (.sl (s.pieces.map enc)), .fz (.sl (s.overs.map enc)), .fz (.sl (s.vars.map enc))], true, false⟩), ((25002, 1), some ⟨[.fz (.i .i64 0), .fz (.i .i64 0)], true, false⟩), ((25056, g1), some tok), ((25073, g2), some tok)], q.m⟩, fun q => s.overs.length - q.i⟩
    ⟨0, m, by omega, by omega, by simp⟩ (by kernel_rfl) ?_ ?_
  · refine Weak_to ?_ ?_ ?_ <;> simp only [go_sem, reduceIte, reduceCtorEq, Nat.reduceEqDiff, Nat.reduceAdd, Nat.reduceSub, Nat.reduceMul, Nat.reduceDiv, Nat.reduceMod, Nat.reduceLT, Nat.reduceLeDiff, Nat.reduceBEq, Nat.reducePow, Int.reduceLE, Int.reduceLT, Int.reduceEq, Int.reduceNeg, Int.reduceAdd, Int.reduceToNat]
  rintro ⟨j, m', hj, hm', hal⟩
  try simp only at hj hm' hal
  rcases Nat.lt_or_ge j s.overs.length with h2 | h2
  · have hat : (s.overs.take (j + 1)).all (oversOk L A) = ((s.overs.take j).all (oversOk L A) && oversOk L A s.overs[j]) := by
      rw [List.take_succ_eq_append_getElem h2, List.all_append]; simp
    have hbd : oversOk L A s.overs[j] = false → s.overs.all (oversOk L A) = false := fun hb => by
      cases ha : s.overs.all (oversOk L A) with
      | false => rfl
      | true => rw [List.all_eq_true.1 ha _ (List.getElem_mem h2)] at hb; cases hb
    obtain ⟨x, hx⟩ : ∃ x, s.overs[j] = x := ⟨_, rfl⟩
    rw [hx] at hat hbd
    by_cases hxa : x.hole ∈ A
    · by_cases hxl : x.label ∈ L
      · repeat' (first | refine ReqK.i (by omega) fun _ => ?_ | refine ReqK.i hsz fun _ => ?_ | refine ReqK.i hsp fun _ => ?_ | refine ReqK.i (fits_of2 (by first | omega | (simp only [List.length_map, List.length_append, List.length_cons, List.length_nil]; omega)) (by decide)) fun _ => ?_ | refine ReqK.i (by unfold maxL; omega) fun _ => ?_ | simp only [go_sem, reduceIte, reduceCtorEq, Nat.reduceEqDiff, Nat.reduceAdd, Nat.reduceSub, Nat.reduceMul, Nat.reduceDiv, Nat.reduceMod, Nat.reduceLT, Nat.reduceLeDiff, Nat.reduceBEq, Nat.reducePow, Int.reduceLE, Int.reduceLT, Int.reduceEq, Int.reduceNeg, Int.reduceAdd, Int.reduceToNat, h2, hx, hxa, hxl, decide_true, getD_map_lt, str_eta, form_eta, Tryd.f25, X32, X31, X30, X29, R28, R27, R22, R21, R20, R19, R18, R17, R16, R15, R14, R13, R12, R11, R10, R9, R8, R7, R6, R5, R4, R3, R2, R1, Q20, Q19, Q18, Q17, Q16, Q15, Q14, Q13, Q12, Q11, Q10, Q9, Q8, Q7, Q6, Q5, Q4, Q3, Q2, Q1, Tbl0])
        refine ⟨⟨j + 1, m' + 1, by omega, by omega, by rw [hat, hal]; simp [oversOk, hxa, hxl]⟩, by simp only; omega, ?_⟩
        refine Weak_to ?_ ?_ ?_ <;> simp only [go_sem, reduceIte, reduceCtorEq, Nat.reduceEqDiff, Nat.reduceAdd, Nat.reduceSub, Nat.reduceMul, Nat.reduceDiv, Nat.reduceMod, Nat.reduceLT, Nat.reduceLeDiff, Nat.reduceBEq, Nat.reducePow, Int.reduceLE, Int.reduceLT, Int.reduceEq, Int.reduceNeg, Int.reduceAdd, Int.reduceToNat]
      · have hxl' := decide_eq_false hxl
        repeat' (first | refine ReqK.i (by omega) fun _ => ?_ | refine ReqK.i hsz fun _ => ?_ | refine ReqK.i hsp fun _ => ?_ | refine ReqK.i (fits_of2 (by first | omega | (simp only [List.length_map, List.length_append, List.length_cons, List.length_nil]; omega)) (by decide)) fun _ => ?_ | refine ReqK.i (by unfold maxL; omega) fun _ => ?_ | simp only [go_sem, reduceIte, reduceCtorEq, Nat.reduceEqDiff, Nat.reduceAdd, Nat.reduceSub, Nat.reduceMul, Nat.reduceDiv, Nat.reduceMod, Nat.reduceLT, Nat.reduceLeDiff, Nat.reduceBEq, Nat.reducePow, Int.reduceLE, Int.reduceLT, Int.reduceEq, Int.reduceNeg, Int.reduceAdd, Int.reduceToNat, h2, hx, hxa, hxl', decide_true, getD_map_lt, str_eta, form_eta, Tryd.f25, X32, X31, X30, X29, R28, R27, R22, R21, R20, R19, R18, R17, R16, R15, R14, R13, R12, R11, R10, R9, R8, R7, R6, R5, R4, R3, R2, R1, Q20, Q19, Q18, Q17, Q16, Q15, Q14, Q13, Q12, Q11, Q10, Q9, Q8, Q7, Q6, Q5, Q4, Q3, Q2, Q1, Tbl0])
        exact kr.out (by rw [e1, if_pos (hbd (by simp [oversOk, hxl]))])
    · have hxa' := decide_eq_false hxa
      repeat' (first | refine ReqK.i (by omega) fun _ => ?_ | refine ReqK.i hsz fun _ => ?_ | refine ReqK.i hsp fun _ => ?_ | refine ReqK.i (fits_of2 (by first | omega | (simp only [List.length_map, List.length_append, List.length_cons, List.length_nil]; omega)) (by decide)) fun _ => ?_ | refine ReqK.i (by unfold maxL; omega) fun _ => ?_ | simp only [go_sem, reduceIte, reduceCtorEq, Nat.reduceEqDiff, Nat.reduceAdd, Nat.reduceSub, Nat.reduceMul, Nat.reduceDiv, Nat.reduceMod, Nat.reduceLT, Nat.reduceLeDiff, Nat.reduceBEq, Nat.reducePow, Int.reduceLE, Int.reduceLT, Int.reduceEq, Int.reduceNeg, Int.reduceAdd, Int.reduceToNat, h2, hx, hxa', getD_map_lt, str_eta, form_eta, Tryd.f25, X32, X31, X30, X29, R28, R27, R22, R21, R20, R19, R18, R17, R16, R15, R14, R13, R12, R11, R10, R9, R8, R7, R6, R5, R4, R3, R2, R1, Q20, Q19, Q18, Q17, Q16, Q15, Q14, Q13, Q12, Q11, Q10, Q9, Q8, Q7, Q6, Q5, Q4, Q3, Q2, Q1, Tbl0])
      exact kr.out (by rw [e1, if_pos (hbd (by simp [oversOk, hxa]))])
  obtain rfl : j = s.overs.length := by omega
  rw [List.take_length] at hal
  rw [if_neg (by simp [hal])] at e1
  by_cases hv : 6 < s.vars.length
  · have c4 : (6 < ((s.vars.length : Nat) : Int)) = True := eq_true (by omega)
    repeat' (first | refine ReqK.i (by omega) fun _ => ?_ | simp only [go_sem, reduceIte, reduceCtorEq, Nat.reduceEqDiff, Nat.reduceAdd, Nat.reduceSub, Nat.reduceMul, Nat.reduceDiv, Nat.reduceMod, Nat.reduceLT, Nat.reduceLeDiff, Nat.reduceBEq, Nat.reducePow, Int.reduceLE, Int.reduceLT, Int.reduceEq, Int.reduceNeg, Int.reduceAdd, Int.reduceToNat, Nat.lt_irrefl, Int.lt_irrefl, c4, str_eta, form_eta, Tryd.f25, X32, X31, X30, X29, R28, R27, R22, R21, R20, R19, R18, R17, R16, R15, R14, R13, R12, R11, R10, R9, R8, R7, R6, R5, R4, R3, R2, R1, Q20, Q19, Q18, Q17, Q16, Q15, Q14, Q13, Q12, Q11, Q10, Q9, Q8, Q7, Q6, Q5, Q4, Q3, Q2, Q1, Tbl0])
    exact kr.out (by rw [e1, if_pos hv])
  have c4 : (6 < ((s.vars.length : Nat) : Int)) = False := eq_false (by omega)
  rw [if_neg hv] at e1
  repeat' (first | refine ReqK.i (by omega) fun _ => ?_ | simp only [go_sem, reduceIte, reduceCtorEq, Nat.reduceEqDiff, Nat.reduceAdd, Nat.reduceSub, Nat.reduceMul, Nat.reduceDiv, Nat.reduceMod, Nat.reduceLT, Nat.reduceLeDiff, Nat.reduceBEq, Nat.reducePow, Int.reduceLE, Int.reduceLT, Int.reduceEq, Int.reduceNeg, Int.reduceAdd, Int.reduceToNat, Nat.lt_irrefl, Int.lt_irrefl, c4, str_eta, form_eta, Tryd.f25, X32, X31, X30, X29, R28, R27, R22, R21, R20, R19, R18, R17, R16, R15, R14, R13, R12, R11, R10, R9, R8, R7, R6, R5, R4, R3, R2, R1, Q20, Q19, Q18, Q17, Q16, Q15, Q14, Q13, Q12, Q11, Q10, Q9, Q8, Q7, Q6, Q5, Q4, Q3, Q2, Q1, Tbl0])
  refine WK_loop hm hX32 25000 (lsw [56, 73] []) (ι := LoopI s.vars.length fun j => restV (s.vars.take j) (s.vars.drop j) = restV [] s.vars)
    ⟨fun q => ⟨frL [(1, .ptr (25001, 0) 0), (2, .ptr (25002, 1) 0), (125, .fz (.sl (s.vars.map enc))), (126, .fz (.i .i64 s.vars.length)), (127, .fz (.i .i64 q.i))],
      hpL [((25001, 0), some ⟨[.fz (.sl (s.pieces.map enc)), .fz (.sl (s.overs.map enc)), .fz (.sl (s.vars.map enc))], true, false⟩), ((25002, 1), some ⟨[.fz (.i .i64 0), .fz (.i .i64 0)], true, false⟩)], m'⟩, fun q => s.vars.length - q.i⟩
    ⟨0, by omega, by simp⟩ (by kernel_rfl) ?_ ?_
  · refine Weak_to ?_ ?_ ?_ <;> simp only [go_sem, reduceIte, reduceCtorEq, Nat.reduceEqDiff, Nat.reduceAdd, Nat.reduceSub, Nat.reduceMul, Nat.reduceDiv, Nat.reduceMod, Nat.reduceLT, Nat.reduceLeDiff, Nat.reduceBEq, Nat.reducePow, Int.reduceLE, Int.reduceLT, Int.reduceEq, Int.reduceNeg, Int.reduceAdd, Int.reduceToNat]
  rintro ⟨j, hj, hvr⟩
  try simp only at hj hvr
  rcases Nat.lt_or_ge j s.vars.length with h2 | h2
  · rw [restV_step h2] at hvr
    have et : s.vars.take (j + 1) = s.vars.take j ++ [s.vars[j]] := List.take_succ_eq_append_getElem h2
    obtain ⟨x, hx⟩ : ∃ x, s.vars[j] = x := ⟨_, rfl⟩
    rw [hx] at hvr et
    have bad : ∀ {c : Int}, varC (s.vars.take j) x = c → c ≠ 0 → scopeM s = ⟨c, -3⟩ := fun h h3 => by
      rw [h, if_pos h3] at hvr
      rw [e1, ← hvr, if_pos h3]
    cases hnm : isName x with
    | false =>
      repeat' (first | refine ReqK.i (by omega) fun _ => ?_ | refine ReqK.i hsz fun _ => ?_ | refine ReqK.i hsp fun _ => ?_ | refine ReqK.i (fits_of2 (by first | omega | (simp only [List.length_map, List.length_append, List.length_cons, List.length_nil]; omega)) (by decide)) fun _ => ?_ | refine ReqK.i (by unfold maxL; omega) fun _ => ?_ | simp only [go_sem, reduceIte, reduceCtorEq, Nat.reduceEqDiff, Nat.reduceAdd, Nat.reduceSub, Nat.reduceMul, Nat.reduceDiv, Nat.reduceMod, Nat.reduceLT, Nat.reduceLeDiff, Nat.reduceBEq, Nat.reducePow, Int.reduceLE, Int.reduceLT, Int.reduceEq, Int.reduceNeg, Int.reduceAdd, Int.reduceToNat, h2, hx, hnm, getD_map_lt, str_eta, form_eta, Tryd.f25, X32, X31, X30, X29, R28, R27, R22, R21, R20, R19, R18, R17, R16, R15, R14, R13, R12, R11, R10, R9, R8, R7, R6, R5, R4, R3, R2, R1, Q20, Q19, Q18, Q17, Q16, Q15, Q14, Q13, Q12, Q11, Q10, Q9, Q8, Q7, Q6, Q5, Q4, Q3, Q2, Q1, Tbl0])
      exact kr.out (bad (by unfold varC; rw [if_pos hnm]) (by decide))
    | true =>
    by_cases hm2 : x ∈ s.vars.take j
    · repeat' (first | refine ReqK.i (by omega) fun _ => ?_ | refine ReqK.i hsz fun _ => ?_ | refine ReqK.i hsp fun _ => ?_ | refine ReqK.i (fits_of2 (by first | omega | (simp only [List.length_map, List.length_append, List.length_cons, List.length_nil]; omega)) (by decide)) fun _ => ?_ | refine ReqK.i (by unfold maxL; omega) fun _ => ?_ | simp only [go_sem, reduceIte, reduceCtorEq, Nat.reduceEqDiff, Nat.reduceAdd, Nat.reduceSub, Nat.reduceMul, Nat.reduceDiv, Nat.reduceMod, Nat.reduceLT, Nat.reduceLeDiff, Nat.reduceBEq, Nat.reducePow, Int.reduceLE, Int.reduceLT, Int.reduceEq, Int.reduceNeg, Int.reduceAdd, Int.reduceToNat, h2, hx, hnm, hm2, hj, decide_true, getD_map_lt, ← List.map_take, List.drop_zero, str_eta, form_eta, Tryd.f25, X32, X31, X30, X29, R28, R27, R22, R21, R20, R19, R18, R17, R16, R15, R14, R13, R12, R11, R10, R9, R8, R7, R6, R5, R4, R3, R2, R1, Q20, Q19, Q18, Q17, Q16, Q15, Q14, Q13, Q12, Q11, Q10, Q9, Q8, Q7, Q6, Q5, Q4, Q3, Q2, Q1, Tbl0])
      exact kr.out (bad (by unfold varC; rw [if_neg (by simp [hnm]), if_pos hm2]) (by decide))
    · have hm2' := decide_eq_false hm2
      repeat' (first | refine ReqK.i (by omega) fun _ => ?_ | refine ReqK.i hsz fun _ => ?_ | refine ReqK.i hsp fun _ => ?_ | refine ReqK.i (fits_of2 (by first | omega | (simp only [List.length_map, List.length_append, List.length_cons, List.length_nil]; omega)) (by decide)) fun _ => ?_ | refine ReqK.i (by unfold maxL; omega) fun _ => ?_ | simp only [go_sem, reduceIte, reduceCtorEq, Nat.reduceEqDiff, Nat.reduceAdd, Nat.reduceSub, Nat.reduceMul, Nat.reduceDiv, Nat.reduceMod, Nat.reduceLT, Nat.reduceLeDiff, Nat.reduceBEq, Nat.reducePow, Int.reduceLE, Int.reduceLT, Int.reduceEq, Int.reduceNeg, Int.reduceAdd, Int.reduceToNat, h2, hx, hnm, hm2', hj, getD_map_lt, ← List.map_take, List.drop_zero, str_eta, form_eta, Tryd.f25, X32, X31, X30, X29, R28, R27, R22, R21, R20, R19, R18, R17, R16, R15, R14, R13, R12, R11, R10, R9, R8, R7, R6, R5, R4, R3, R2, R1, Q20, Q19, Q18, Q17, Q16, Q15, Q14, Q13, Q12, Q11, Q10, Q9, Q8, Q7, Q6, Q5, Q4, Q3, Q2, Q1, Tbl0])
      refine ⟨⟨j + 1, by omega, ?_⟩, by simp only; omega, ?_⟩
      · rw [show varC (s.vars.take j) x = 0 by unfold varC; rw [if_neg (by simp [hnm]), if_neg hm2], if_neg (by simp)] at hvr
        rw [et]; exact hvr
      · refine Weak_to ?_ ?_ ?_ <;> simp only [go_sem, reduceIte, reduceCtorEq, Nat.reduceEqDiff, Nat.reduceAdd, Nat.reduceSub, Nat.reduceMul, Nat.reduceDiv, Nat.reduceMod, Nat.reduceLT, Nat.reduceLeDiff, Nat.reduceBEq, Nat.reducePow, Int.reduceLE, Int.reduceLT, Int.reduceEq, Int.reduceNeg, Int.reduceAdd, Int.reduceToNat]
  obtain rfl : j = s.vars.length := by omega
  rw [List.drop_length, restV] at hvr
  rw [← hvr, if_neg (by simp)] at e1
  repeat' (first | refine ReqK.i (by omega) fun _ => ?_ | simp only [go_sem, reduceIte, reduceCtorEq, Nat.reduceEqDiff, Nat.reduceAdd, Nat.reduceSub, Nat.reduceMul, Nat.reduceDiv, Nat.reduceMod, Nat.reduceLT, Nat.reduceLeDiff, Nat.reduceBEq, Nat.reducePow, Int.reduceLE, Int.reduceLT, Int.reduceEq, Int.reduceNeg, Int.reduceAdd, Int.reduceToNat, Nat.lt_irrefl, Int.lt_irrefl, str_eta, form_eta, Tryd.f25, X32, X31, X30, X29, R28, R27, R22, R21, R20, R19, R18, R17, R16, R15, R14, R13, R12, R11, R10, R9, R8, R7, R6, R5, R4, R3, R2, R1, Q20, Q19, Q18, Q17, Q16, Q15, Q14, Q13, Q12, Q11, Q10, Q9, Q8, Q7, Q6, Q5, Q4, Q3, Q2, Q1, Tbl0])
  exact kr.out e1
end Go.Proofs.YtoicheicnbjfeaaDoor

namespace Go.Proofs.YtoicheicnbjfeaaDoor
open Go Go.Abs Go.Proofs

/-! ## equal meanings -/
theorem scoped_ext {a b : Abs.Scoped} (h1 : a.pieces = b.pieces) (h2 : a.overs = b.overs) (h3 : a.vars = b.vars) : a = b := by
  cases a; cases b; simp only at *; subst h1 h2 h3; rfl
theorem piece_ext {a b : Piece} (h1 : a.label = b.label) (h2 : a.form = b.form) : a = b := by
  cases a; cases b; simp only at *; subst h1 h2; rfl
theorem over_ext {a b : Over} (h1 : a.hole = b.hole) (h2 : a.label = b.label) : a = b := by
  cases a; cases b; simp only at *; subst h1 h2; rfl
def X34 : Tbl := X33.add 44 (sp2 (fun a b : Abs.Scoped => decide (a = b)) fun _ _ => True)
set_option maxRecDepth 100000 in
set_option maxHeartbeats 1000000 in
theorem hX34 : TblOk Tryd.prog GA X34 := by
  refine sp2_ok ok44 hX33 fun a b _ hwa hwb => ?_
  obtain ⟨Q, hQ⟩ : ∃ Q : D → Heap → Nat → Prop, Q = (fun d _ _ => D.val d = some (.fz (enc (decide (a = b))))) := ⟨_, rfl⟩
  rw [← hQ]
  have hf : a ≠ b → ∀ {H' n'}, Q (.fz (.b false)) H' n' := fun h H' n' => by rw [hQ]; show _ = some (D.fz (.b (decide (a = b)))); rw [decide_eq_false h]; rfl
  have ht : a = b → ∀ {H' n'}, Q (.fz (.b true)) H' n' := fun h H' n' => by rw [hQ]; show _ = some (D.fz (.b (decide (a = b)))); rw [decide_eq_true h]; rfl
  have hsl : a.pieces.length ≤ maxL := by
    have h := Wf_agg (by have h := hwa; rw [enc_scoped] at h; exact h) (FD.sl (a.pieces.map enc)) (by simp)
    have := Wf_sl h
    simpa using this
  have hso : a.overs.length ≤ maxL := by
    have h := Wf_agg (by have h := hwa; rw [enc_scoped] at h; exact h) (FD.sl (a.overs.map enc)) (by simp)
    have := Wf_sl h
    simpa using this
  unfold maxL at hsl hso
  have kf := Kp.mk @hf
  have kt := Kp.mk @ht
  clear hf ht hQ hwa hwb
  refine Wcall_K (N := 85) hm hX33 44000 (lst []) ok44 Tryd.func44 rfl rfl (by simp) (by kernel_rfl) ?_
  repeat' (first | refine CondK.d (fun _ => ?_) (fun _ => ?_) | refine CondK.i (fun _ => ?_) (fun _ => ?_) | refine ReqK.i (by omega) fun _ => ?_ | simp only [go_sem, reduceIte, reduceCtorEq, Nat.reduceEqDiff, Nat.reduceAdd, Nat.reduceSub, Nat.reduceMul, Nat.reduceDiv, Nat.reduceMod, Nat.reduceLT, Nat.reduceLeDiff, Nat.reduceBEq, Nat.reducePow, Int.reduceLE, Int.reduceLT, Int.reduceEq, Int.reduceNeg, Int.reduceAdd, Int.reduceToNat, Tryd.f44, X33, X32, X31, X30, X29, R28, R27, R22, R21, R20, R19, R18, R17, R16, R15, R14, R13, R12, R11, R10, R9, R8, R7, R6, R5, R4, R3, R2, R1, Q20, Q19, Q18, Q17, Q16, Q15, Q14, Q13, Q12, Q11, Q10, Q9, Q8, Q7, Q6, Q5, Q4, Q3, Q2, Q1, Tbl0, *])
  all_goals try (refine kf.out (fun e => ?_); subst e; contradiction)
  rename_i e1 e2 e3
  refine WK_loop hm hX33 44000 (lst []) (ι := LoopI a.pieces.length fun i => a.pieces.take i = b.pieces.take i)
    ⟨fun q => ⟨frL [(2, .ptr (44002, 0) 0), (3, .ptr (44003, 1) 0), (33, .fz (.i .i64 a.pieces.length)), (34, .fz (.i .i64 q.i))],
      hpL [((44002, 0), some ⟨[.fz (.sl (a.pieces.map enc)), .fz (.sl (a.overs.map enc)), .fz (.sl (a.vars.map enc))], true, false⟩), ((44003, 1), some ⟨[.fz (.sl (b.pieces.map enc)), .fz (.sl (b.overs.map enc)), .fz (.sl (b.vars.map enc))], true, false⟩)], 2⟩, fun q => a.pieces.length - q.i⟩
    ⟨0, by omega, rfl⟩ (by kernel_rfl) ?_ ?_
  · refine Weak_to ?_ ?_ ?_ <;> simp only [go_sem, reduceIte, reduceCtorEq, Nat.reduceEqDiff, Nat.reduceAdd, Nat.reduceSub, Nat.reduceMul, Nat.reduceDiv, Nat.reduceMod, Nat.reduceLT, Nat.reduceLeDiff, Nat.reduceBEq, Nat.reducePow, Int.reduceLE, Int.reduceLT, Int.reduceEq, Int.reduceNeg, Int.reduceAdd, Int.reduceToNat, *]
  rintro ⟨i, hi, hpi⟩
  try simp only at hi hpi
  rcases Nat.lt_or_ge i a.pieces.length with h1 | h1
  · have h2 : i < b.pieces.length := by omega
    obtain ⟨x, hx⟩ : ∃ x, a.pieces[i] = x := ⟨_, rfl⟩
    obtain ⟨y, hy⟩ : ∃ y, b.pieces[i] = y := ⟨_, rfl⟩
    have hne : x ≠ y → a ≠ b := fun h e => h (by subst e; rw [← hx, ← hy])
    by_cases hl : x.label = y.label
    · by_cases hf : x.form = y.form
      · repeat' (first | refine ReqK.i (by omega) fun _ => ?_ | simp only [go_sem, reduceIte, reduceCtorEq, Nat.reduceEqDiff, Nat.reduceAdd, Nat.reduceSub, Nat.reduceMul, Nat.reduceDiv, Nat.reduceMod, Nat.reduceLT, Nat.reduceLeDiff, Nat.reduceBEq, Nat.reducePow, Int.reduceLE, Int.reduceLT, Int.reduceEq, Int.reduceNeg, Int.reduceAdd, Int.reduceToNat, h1, h2, hx, hy, eq_true hl, eq_true hf, decide_true, str_eta, form_eta, getD_map_lt, Tryd.f44, X33, X32, X31, X30, X29, R28, R27, R22, R21, R20, R19, R18, R17, R16, R15, R14, R13, R12, R11, R10, R9, R8, R7, R6, R5, R4, R3, R2, R1, Q20, Q19, Q18, Q17, Q16, Q15, Q14, Q13, Q12, Q11, Q10, Q9, Q8, Q7, Q6, Q5, Q4, Q3, Q2, Q1, Tbl0])
        refine ⟨⟨i + 1, by omega, ?_⟩, by simp only; omega, ?_⟩
        · rw [List.take_succ_eq_append_getElem h1, List.take_succ_eq_append_getElem h2, hpi, hx, hy, piece_ext hl hf]
        · refine Weak_to ?_ ?_ ?_ <;> simp only [go_sem, reduceIte, reduceCtorEq, Nat.reduceEqDiff, Nat.reduceAdd, Nat.reduceSub, Nat.reduceMul, Nat.reduceDiv, Nat.reduceMod, Nat.reduceLT, Nat.reduceLeDiff, Nat.reduceBEq, Nat.reducePow, Int.reduceLE, Int.reduceLT, Int.reduceEq, Int.reduceNeg, Int.reduceAdd, Int.reduceToNat]
      · repeat' (first | refine ReqK.i (by omega) fun _ => ?_ | simp only [go_sem, reduceIte, reduceCtorEq, Nat.reduceEqDiff, Nat.reduceAdd, Nat.reduceSub, Nat.reduceMul, Nat.reduceDiv, Nat.reduceMod, Nat.reduceLT, Nat.reduceLeDiff, Nat.reduceBEq, Nat.reducePow, Int.reduceLE, Int.reduceLT, Int.reduceEq, Int.reduceNeg, Int.reduceAdd, Int.reduceToNat, h1, h2, hx, hy, eq_true hl, eq_false hf, decide_true, decide_false, str_eta, form_eta, getD_map_lt, Tryd.f44, X33, X32, X31, X30, X29, R28, R27, R22, R21, R20, R19, R18, R17, R16, R15, R14, R13, R12, R11, R10, R9, R8, R7, R6, R5, R4, R3, R2, R1, Q20, Q19, Q18, Q17, Q16, Q15, Q14, Q13, Q12, Q11, Q10, Q9, Q8, Q7, Q6, Q5, Q4, Q3, Q2, Q1, Tbl0])
        exact kf.out (hne fun e => hf (by rw [e]))
    · repeat' (first | refine ReqK.i (by omega) fun _ => ?_ | simp only [go_sem, reduceIte, reduceCtorEq, Nat.reduceEqDiff, Nat.reduceAdd, Nat.reduceSub, Nat.reduceMul, Nat.reduceDiv, Nat.reduceMod, Nat.reduceLT, Nat.reduceLeDiff, Nat.reduceBEq, Nat.reducePow, Int.reduceLE, Int.reduceLT, Int.reduceEq, Int.reduceNeg, Int.reduceAdd, Int.reduceToNat, h1, h2, hx, hy, eq_false hl, decide_true, decide_false, str_eta, form_eta, getD_map_lt, Tryd.f44, X33, X32, X31, X30, X29, R28, R27, R22, R21, R20, R19, R18, R17, R16, R15, R14, R13, R12, R11, R10, R9, R8, R7, R6, R5, R4, R3, R2, R1, Q20, Q19, Q18, Q17, Q16, Q15, Q14, Q13, Q12, Q11, Q10, Q9, Q8, Q7, Q6, Q5, Q4, Q3, Q2, Q1, Tbl0])
      exact kf.out (hne fun e => hl (by rw [e]))
  obtain rfl : i = a.pieces.length := by omega
  have ep1 := eq_of_take e1 hpi
  repeat' (first | refine ReqK.i (by omega) fun _ => ?_ | simp only [go_sem, reduceIte, reduceCtorEq, Nat.reduceEqDiff, Nat.reduceAdd, Nat.reduceSub, Nat.reduceMul, Nat.reduceDiv, Nat.reduceMod, Nat.reduceLT, Nat.reduceLeDiff, Nat.reduceBEq, Nat.reducePow, Int.reduceLE, Int.reduceLT, Int.reduceEq, Int.reduceNeg, Int.reduceAdd, Int.reduceToNat, Nat.lt_irrefl, Int.lt_irrefl, str_eta, form_eta, getD_map_lt, Tryd.f44, X33, X32, X31, X30, X29, R28, R27, R22, R21, R20, R19, R18, R17, R16, R15, R14, R13, R12, R11, R10, R9, R8, R7, R6, R5, R4, R3, R2, R1, Q20, Q19, Q18, Q17, Q16, Q15, Q14, Q13, Q12, Q11, Q10, Q9, Q8, Q7, Q6, Q5, Q4, Q3, Q2, Q1, Tbl0])
  refine WK_loop hm hX33 44000 (lst []) (ι := LoopI a.overs.length fun i => a.overs.take i = b.overs.take i)
    ⟨fun q => ⟨frL [(2, .ptr (44002, 0) 0), (3, .ptr (44003, 1) 0), (69, .fz (.i .i64 a.overs.length)), (70, .fz (.i .i64 q.i))],
      hpL [((44002, 0), some ⟨[.fz (.sl (a.pieces.map enc)), .fz (.sl (a.overs.map enc)), .fz (.sl (a.vars.map enc))], true, false⟩), ((44003, 1), some ⟨[.fz (.sl (b.pieces.map enc)), .fz (.sl (b.overs.map enc)), .fz (.sl (b.vars.map enc))], true, false⟩)], 2⟩, fun q => a.overs.length - q.i⟩
    ⟨0, by omega, rfl⟩ (by kernel_rfl) ?_ ?_
  · refine Weak_to ?_ ?_ ?_ <;> simp only [go_sem, reduceIte, reduceCtorEq, Nat.reduceEqDiff, Nat.reduceAdd, Nat.reduceSub, Nat.reduceMul, Nat.reduceDiv, Nat.reduceMod, Nat.reduceLT, Nat.reduceLeDiff, Nat.reduceBEq, Nat.reducePow, Int.reduceLE, Int.reduceLT, Int.reduceEq, Int.reduceNeg, Int.reduceAdd, Int.reduceToNat, *]
  rintro ⟨i, hi, hpi⟩
  try simp only at hi hpi
  rcases Nat.lt_or_ge i a.overs.length with h1 | h1
  · have h2 : i < b.overs.length := by omega
    obtain ⟨x, hx⟩ : ∃ x, a.overs[i] = x := ⟨_, rfl⟩
    obtain ⟨y, hy⟩ : ∃ y, b.overs[i] = y := ⟨_, rfl⟩
    have hne : x ≠ y → a ≠ b := fun h e => h (by subst e; rw [← hx, ← hy])
    by_cases hl : x.hole = y.hole
    · by_cases hf : x.label = y.label
      · repeat' (first | refine ReqK.i (by omega) fun _ => ?_ | simp only [go_sem, reduceIte, reduceCtorEq, Nat.reduceEqDiff, Nat.reduceAdd, Nat.reduceSub, Nat.reduceMul, Nat.reduceDiv, Nat.reduceMod, Nat.reduceLT, Nat.reduceLeDiff, Nat.reduceBEq, Nat.reducePow, Int.reduceLE, Int.reduceLT, Int.reduceEq, Int.reduceNeg, Int.reduceAdd, Int.reduceToNat, h1, h2, hx, hy, eq_true hl, eq_true hf, decide_true, str_eta, form_eta, getD_map_lt, Tryd.f44, X33, X32, X31, X30, X29, R28, R27, R22, R21, R20, R19, R18, R17, R16, R15, R14, R13, R12, R11, R10, R9, R8, R7, R6, R5, R4, R3, R2, R1, Q20, Q19, Q18, Q17, Q16, Q15, Q14, Q13, Q12, Q11, Q10, Q9, Q8, Q7, Q6, Q5, Q4, Q3, Q2, Q1, Tbl0])
        refine ⟨⟨i + 1, by omega, ?_⟩, by simp only; omega, ?_⟩
        · rw [List.take_succ_eq_append_getElem h1, List.take_succ_eq_append_getElem h2, hpi, hx, hy, over_ext hl hf]
        · refine Weak_to ?_ ?_ ?_ <;> simp only [go_sem, reduceIte, reduceCtorEq, Nat.reduceEqDiff, Nat.reduceAdd, Nat.reduceSub, Nat.reduceMul, Nat.reduceDiv, Nat.reduceMod, Nat.reduceLT, Nat.reduceLeDiff, Nat.reduceBEq, Nat.reducePow, Int.reduceLE, Int.reduceLT, Int.reduceEq, Int.reduceNeg, Int.reduceAdd, Int.reduceToNat]
      · repeat' (first | refine ReqK.i (by omega) fun _ => ?_ | simp only [go_sem, reduceIte, reduceCtorEq, Nat.reduceEqDiff, Nat.reduceAdd, Nat.reduceSub, Nat.reduceMul, Nat.reduceDiv, Nat.reduceMod, Nat.reduceLT, Nat.reduceLeDiff, Nat.reduceBEq, Nat.reducePow, Int.reduceLE, Int.reduceLT, Int.reduceEq, Int.reduceNeg, Int.reduceAdd, Int.reduceToNat, h1, h2, hx, hy, eq_true hl, eq_false hf, decide_true, decide_false, str_eta, form_eta, getD_map_lt, Tryd.f44, X33, X32, X31, X30, X29, R28, R27, R22, R21, R20, R19, R18, R17, R16, R15, R14, R13, R12, R11, R10, R9, R8, R7, R6, R5, R4, R3, R2, R1, Q20, Q19, Q18, Q17, Q16, Q15, Q14, Q13, Q12, Q11, Q10, Q9, Q8, Q7, Q6, Q5, Q4, Q3, Q2, Q1, Tbl0])
        exact kf.out (hne fun e => hf (by rw [e]))
    · repeat' (first | refine ReqK.i (by omega) fun _ => ?_ | simp only [go_sem, reduceIte, reduceCtorEq, Nat.reduceEqDiff, Nat.reduceAdd, Nat.reduceSub, Nat.reduceMul, Nat.reduceDiv, Nat.reduceMod, Nat.reduceLT, Nat.reduceLeDiff, Nat.reduceBEq, Nat.reducePow, Int.reduceLE, Int.reduceLT, Int.reduceEq, Int.reduceNeg, Int.reduceAdd, Int.reduceToNat, h1, h2, hx, hy, eq_false hl, decide_true, decide_false, str_eta, form_eta, getD_map_lt, Tryd.f44, X33, X32, X31, X30, X29, R28, R27, R22, R21, R20, R19, R18, R17, R16, R15, R14, R13, R12, R11, R10, R9, R8, R7, R6, R5, R4, R3, R2, R1, Q20, Q19, Q18, Q17, Q16, Q15, Q14, Q13, Q12, Q11, Q10, Q9, Q8, Q7, Q6, Q5, Q4, Q3, Q2, Q1, Tbl0])
      exact kf.out (hne fun e => hl (by rw [e]))
  obtain rfl : i = a.overs.length := by omega
  have ep2 := eq_of_take e2 hpi
  repeat' (first | refine ReqK.i (by omega) fun _ => ?_ | simp only [go_sem, reduceIte, reduceCtorEq, Nat.reduceEqDiff, Nat.reduceAdd, Nat.reduceSub, Nat.reduceMul, Nat.reduceDiv, Nat.reduceMod, Nat.reduceLT, Nat.reduceLeDiff, Nat.reduceBEq, Nat.reducePow, Int.reduceLE, Int.reduceLT, Int.reduceEq, Int.reduceNeg, Int.reduceAdd, Int.reduceToNat, Nat.lt_irrefl, Int.lt_irrefl, str_eta, form_eta, getD_map_lt, Tryd.f44, X33, X32, X31, X30, X29, R28, R27, R22, R21, R20, R19, R18, R17, R16, R15, R14, R13, R12, R11, R10, R9, R8, R7, R6, R5, R4, R3, R2, R1, Q20, Q19, Q18, Q17, Q16, Q15, Q14, Q13, Q12, Q11, Q10, Q9, Q8, Q7, Q6, Q5, Q4, Q3, Q2, Q1, Tbl0])
  exact kt.out (scoped_ext ep1 ep2 e3)
end Go.Proofs.YtoicheicnbjfeaaDoor
