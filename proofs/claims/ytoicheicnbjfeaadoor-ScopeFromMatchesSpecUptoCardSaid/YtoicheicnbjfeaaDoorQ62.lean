import Derived.Test.YtoicheicnbjfeaaDoorQ61
set_option linter.unusedSimpArgs false
namespace Go.Proofs.YtoicheicnbjfeaaDoor
open Go Go.Abs Go.Proofs

/-! ## holes -/
def X30 : Tbl := X29.add 157 (sp1 holesM fun f => f.size ≤ 1000)
set_option maxRecDepth 100000 in
set_option maxHeartbeats 1000000 in
theorem hX30 : TblOk Tryd.prog GA X30 := by
  refine sp1_rec Form.size ok157 hX29 fun n hT f hn hpre hw => ?_
  by_cases hk : f.kind = 10
  · have e : holesM f = [f.name] := by rw [holesM_eq, if_pos hk]
    rw [e]
    refine Wcall_K (N := 25) hm hT 157000 (lsw [22] []) ok157 Tryd.func157 rfl rfl (by simp) (by kernel_rfl) ?_
    repeat' (first | refine ReqK.i (by omega) fun _ => ?_ | refine ReqK.i (by unfold maxL; omega) fun _ => ?_ | simp only [go_sem, reduceIte, reduceCtorEq, Nat.reduceEqDiff, Nat.reduceAdd, Nat.reduceSub, Nat.reduceMul, Nat.reduceDiv, Nat.reduceMod, Nat.reduceLT, Nat.reduceLeDiff, Nat.reduceBEq, Nat.reducePow, Int.reduceLE, Int.reduceLT, Int.reduceEq, Int.reduceNeg, Int.reduceAdd, Int.reduceToNat, hk, Tryd.f157])
  have e : holesM f = holesMs f.subs := by rw [holesM_eq, if_neg hk]
  have hsl : f.subs.length ≤ maxL := by
    have h := Wf_agg (by have h := hw; rw [enc_form] at h; exact h) (FD.sl (f.subs.map enc)) (by simp)
    have := Wf_sl h
    simpa using this
  unfold maxL at hsl
  have hse := @size_eq f
  have hlt : ∀ i (_ : i < f.subs.length), (holesMs (f.subs.take i)).length + (holesM f.subs[i]).length ≤ 1000 := fun i h => by
    have h1 := holesMs_take h
    have h2 := holesMs_len (f.subs.take (i + 1))
    have h3 := congrArg Form.sizes (List.take_append_drop (i + 1) f.subs)
    rw [Form.sizes_app] at h3
    rw [h1, List.length_append] at h2
    omega
  have hsz : ∀ g ∈ f.subs, g.size < n ∧ g.size ≤ 1000 := fun g hg => by have := Form.size_sub hg; omega
  have kT := Kp.mk hT
  have kz := Kp.mk hsz
  have kl := Kp.mk hlt
  rw [e]
  clear hT hsz hlt hse hn hw
  refine Wcall_K (N := 25) hm kT.out 157000 (lsw [22] []) ok157 Tryd.func157 rfl rfl (by simp) (by kernel_rfl) ?_
  repeat' (first | refine ReqK.i (by omega) fun _ => ?_ | refine ReqK.i (by unfold maxL; omega) fun _ => ?_ | simp only [go_sem, reduceIte, reduceCtorEq, Nat.reduceEqDiff, Nat.reduceAdd, Nat.reduceSub, Nat.reduceMul, Nat.reduceDiv, Nat.reduceMod, Nat.reduceLT, Nat.reduceLeDiff, Nat.reduceBEq, Nat.reducePow, Int.reduceLE, Int.reduceLT, Int.reduceEq, Int.reduceNeg, Int.reduceAdd, Int.reduceToNat, hk, Tryd.f157, X29, R28, R27, R22, R21, R20, R19, R18, R17, R16, R15, R14, R13, R12, R11, R10, R9, R8, R7, R6, R5, R4, R3, R2, R1, Q20, Q19, Q18, Q17, Q16, Q15, Q14, Q13, Q12, Q11, Q10, Q9, Q8, Q7, Q6, Q5, Q4, Q3, Q2, Q1, Tbl0])
  refine WK_loop hm kT.out 157000 (lsw [22] []) (ι := LoopG f.subs.length 1 fun _ => True)
    ⟨fun q => ⟨frL [(1, .ptr (157001, 0) 0), (3, .ow (157022, q.g) 1 ((holesMs (f.subs.take q.i)).map enc)), (13, .fz (.sl (f.subs.map enc))), (14, .fz (.i .i64 f.subs.length)), (15, .fz (.i .i64 q.i))],
      hpL [((157022, q.g), some tok)], q.m⟩, fun q => f.subs.length - q.i⟩
    ⟨0, 1, 2, by omega, by omega, by omega, trivial⟩ (by kernel_rfl) ?_ ?_
  · refine Weak_g [] [(157022, 1)] [] ?_ ?_ ?_ ?_ ?_ <;> simp only [go_sem, reduceIte, reduceCtorEq, Nat.reduceEqDiff, Nat.reduceAdd, Nat.reduceSub, Nat.reduceMul, Nat.reduceDiv, Nat.reduceMod, Nat.reduceLT, Nat.reduceLeDiff, Nat.reduceBEq, Nat.reducePow, Int.reduceLE, Int.reduceLT, Int.reduceEq, Int.reduceNeg, Int.reduceAdd, Int.reduceToNat, holesMs]
    all_goals rfl
  rintro ⟨i, g, m, hi, hg, hm1, _⟩
  try simp only at hi hg hm1
  rcases Nat.lt_or_ge i f.subs.length with h1 | h1
  · obtain ⟨x, hx⟩ : ∃ x, f.subs[i] = x := ⟨_, rfl⟩
    have hxs : x.size < n ∧ x.size ≤ 1000 := kz.out x (by rw [← hx]; exact List.getElem_mem h1)
    have hb := kl.out i h1
    have et := holesMs_take h1
    rw [hx] at hb et
    repeat' (first | refine ReqK.i hxs fun _ => ?_ | refine ReqK.i (by omega) fun _ => ?_ | refine ReqK.i (fits_of2 (by omega) (by decide)) fun _ => ?_ | refine ReqK.i (by unfold maxL; omega) fun _ => ?_ | simp only [go_sem, reduceIte, reduceCtorEq, Nat.reduceEqDiff, Nat.reduceAdd, Nat.reduceSub, Nat.reduceMul, Nat.reduceDiv, Nat.reduceMod, Nat.reduceLT, Nat.reduceLeDiff, Nat.reduceBEq, Nat.reducePow, Int.reduceLE, Int.reduceLT, Int.reduceEq, Int.reduceNeg, Int.reduceAdd, Int.reduceToNat, h1, hx, form_eta, getD_map_lt, Tryd.f157, X29, R28, R27, R22, R21, R20, R19, R18, R17, R16, R15, R14, R13, R12, R11, R10, R9, R8, R7, R6, R5, R4, R3, R2, R1, Q20, Q19, Q18, Q17, Q16, Q15, Q14, Q13, Q12, Q11, Q10, Q9, Q8, Q7, Q6, Q5, Q4, Q3, Q2, Q1, Tbl0])
    refine ⟨⟨i + 1, m + 1, m + 2, by omega, by omega, by omega, trivial⟩, by simp only; omega, ?_⟩
    refine Weak_to ?_ ?_ ?_ <;> simp only [go_sem, reduceIte, reduceCtorEq, Nat.reduceEqDiff, Nat.reduceAdd, Nat.reduceSub, Nat.reduceMul, Nat.reduceDiv, Nat.reduceMod, Nat.reduceLT, Nat.reduceLeDiff, Nat.reduceBEq, Nat.reducePow, Int.reduceLE, Int.reduceLT, Int.reduceEq, Int.reduceNeg, Int.reduceAdd, Int.reduceToNat, et, List.map_append]
  · obtain rfl : i = f.subs.length := by omega
    repeat' (first | refine ReqK.i (by omega) fun _ => ?_ | simp only [go_sem, reduceIte, reduceCtorEq, Nat.reduceEqDiff, Nat.reduceAdd, Nat.reduceSub, Nat.reduceMul, Nat.reduceDiv, Nat.reduceMod, Nat.reduceLT, Nat.reduceLeDiff, Nat.reduceBEq, Nat.reducePow, Int.reduceLE, Int.reduceLT, Int.reduceEq, Int.reduceNeg, Int.reduceAdd, Int.reduceToNat, Nat.lt_irrefl, List.take_length, Tryd.f157])
/-! part 2 -/
def X31 : Tbl := X30.add 86 (sp1 holesR fun f => f.size ≤ 1000)
set_option maxRecDepth 100000 in
set_option maxHeartbeats 1000000 in
theorem hX31 : TblOk Tryd.prog GA X31 := by
  refine sp1_rec Form.size ok86 hX30 fun n hT f hn hpre hw => ?_
  obtain ⟨h0, hh0⟩ : ∃ h0, (if f.kind = 10 then [f.name] else []) = h0 := ⟨_, rfl⟩
  have e : holesR f = h0 ++ holesRs f.subs := by rw [holesR_eq, hh0]
  have hsl : f.subs.length ≤ maxL := by
    have h := Wf_agg (by have h := hw; rw [enc_form] at h; exact h) (FD.sl (f.subs.map enc)) (by simp)
    have := Wf_sl h
    simpa using this
  unfold maxL at hsl
  have hse := @size_eq f
  have hl0 : h0.length ≤ 1 := by rw [← hh0]; split <;> simp
  have hlt : ∀ i (_ : i < f.subs.length), (h0 ++ holesRs (f.subs.take i)).length + (holesR f.subs[i]).length ≤ 1001 := fun i h => by
    have h1 := holesRs_take h
    have h2 := holesRs_len (f.subs.take (i + 1))
    have h3 := congrArg Form.sizes (List.take_append_drop (i + 1) f.subs)
    rw [Form.sizes_app] at h3
    rw [h1, List.length_append] at h2
    rw [List.length_append]
    omega
  have hsz : ∀ g ∈ f.subs, g.size < n ∧ g.size ≤ 1000 := fun g hg => by have := Form.size_sub hg; omega
  have hst : ∀ i (_ : i < f.subs.length), h0 ++ holesRs (f.subs.take (i + 1)) = (h0 ++ holesRs (f.subs.take i)) ++ holesR f.subs[i] := fun i h => by rw [holesRs_take h, List.append_assoc]
  have hen : h0 ++ holesRs f.subs = h0 ++ holesRs (f.subs.take f.subs.length) := by rw [List.take_length]
  have h00 : h0 = h0 ++ holesRs (f.subs.take 0) := by simp [holesRs]
  rw [e, hen]
  obtain ⟨A, hA⟩ : ∃ A : Nat → List Str, A = fun i => h0 ++ holesRs (f.subs.take i) := ⟨_, rfl⟩
  have hAi : ∀ i, h0 ++ holesRs (f.subs.take i) = A i := fun i => by rw [hA]
  rw [hAi] at h00
  simp only [hAi] at hlt hst ⊢
  have kT := Kp.mk hT
  have kz := Kp.mk hsz
  have kl := Kp.mk hlt
  have ks := Kp.mk hst
  clear hT hsz hlt hse hn hw hst hen hA hAi e
  rcases Classical.em (f.kind = 10) with hk | hk
  case' inl =>
    rw [if_pos hk] at hh0
    subst hh0
    refine Wcall_K (N := 29) hm kT.out 86000 (lsw [12, 26] []) ok86 Tryd.func86 rfl rfl (by simp) (by kernel_rfl) ?_
    repeat' (first | refine ReqK.i (by omega) fun _ => ?_ | refine ReqK.i (by unfold maxL; omega) fun _ => ?_ | refine ReqK.i (fits_of2 (by decide) (by decide)) fun _ => ?_ | simp only [go_sem, reduceIte, reduceCtorEq, Nat.reduceEqDiff, Nat.reduceAdd, Nat.reduceSub, Nat.reduceMul, Nat.reduceDiv, Nat.reduceMod, Nat.reduceLT, Nat.reduceLeDiff, Nat.reduceBEq, Nat.reducePow, Int.reduceLE, Int.reduceLT, Int.reduceEq, Int.reduceNeg, Int.reduceAdd, Int.reduceToNat, hk, Tryd.f86, X30, X29, R28, R27, R22, R21, R20, R19, R18, R17, R16, R15, R14, R13, R12, R11, R10, R9, R8, R7, R6, R5, R4, R3, R2, R1, Q20, Q19, Q18, Q17, Q16, Q15, Q14, Q13, Q12, Q11, Q10, Q9, Q8, Q7, Q6, Q5, Q4, Q3, Q2, Q1, Tbl0])
    refine WK_loop hm kT.out 86000 (lsw [12, 26] []) (ι := LoopG f.subs.length 1 fun _ => True)
      ⟨fun q => ⟨frL [(1, .ptr (86001, 0) 0), (3, .ow (86026, q.g) 1 ((A q.i).map enc)), (15, .fz (.i .i64 f.subs.length)), (16, .fz (.i .i64 q.i))],
        hpL [((86001, 0), some ⟨[.fz (.i .i64 f.kind), .fz (.s f.name.l), .fz (.sl (f.words.map enc)), .fz (.sl (f.subs.map enc))], true, false⟩), ((86026, q.g), some tok)], q.m⟩, fun q => f.subs.length - q.i⟩
      ⟨0, 2, 3, by omega, by omega, by omega, trivial⟩ (by kernel_rfl) ?_ ?_
    · refine Weak_g [((86026, 2), (86012, 1))] [] [] ?_ ?_ ?_ ?_ ?_ <;> simp only [go_sem, reduceIte, reduceCtorEq, Nat.reduceEqDiff, Nat.reduceAdd, Nat.reduceSub, Nat.reduceMul, Nat.reduceDiv, Nat.reduceMod, Nat.reduceLT, Nat.reduceLeDiff, Nat.reduceBEq, Nat.reducePow, Int.reduceLE, Int.reduceLT, Int.reduceEq, Int.reduceNeg, Int.reduceAdd, Int.reduceToNat, r_ren, hk, ← h00]
      all_goals first | done | rfl | trace_state
  case' inr =>
    rw [if_neg hk] at hh0
    subst hh0
    refine Wcall_K (N := 29) hm kT.out 86000 (lsw [12, 26] []) ok86 Tryd.func86 rfl rfl (by simp) (by kernel_rfl) ?_
    repeat' (first | refine ReqK.i (by omega) fun _ => ?_ | refine ReqK.i (by unfold maxL; omega) fun _ => ?_ | simp only [go_sem, reduceIte, reduceCtorEq, Nat.reduceEqDiff, Nat.reduceAdd, Nat.reduceSub, Nat.reduceMul, Nat.reduceDiv, Nat.reduceMod, Nat.reduceLT, Nat.reduceLeDiff, Nat.reduceBEq, Nat.reducePow, Int.reduceLE, Int.reduceLT, Int.reduceEq, Int.reduceNeg, Int.reduceAdd, Int.reduceToNat, hk, Tryd.f86, X30, X29, R28, R27, R22, R21, R20, R19, R18, R17, R16, R15, R14, R13, R12, R11, R10, R9, R8, R7, R6, R5, R4, R3, R2, R1, Q20, Q19, Q18, Q17, Q16, Q15, Q14, Q13, Q12, Q11, Q10, Q9, Q8, Q7, Q6, Q5, Q4, Q3, Q2, Q1, Tbl0])
    refine WK_loop hm kT.out 86000 (lsw [12, 26] []) (ι := LoopG f.subs.length 1 fun _ => True)
      ⟨fun q => ⟨frL [(1, .ptr (86001, 0) 0), (3, .ow (86026, q.g) 1 ((A q.i).map enc)), (15, .fz (.i .i64 f.subs.length)), (16, .fz (.i .i64 q.i))],
        hpL [((86001, 0), some ⟨[.fz (.i .i64 f.kind), .fz (.s f.name.l), .fz (.sl (f.words.map enc)), .fz (.sl (f.subs.map enc))], true, false⟩), ((86026, q.g), some tok)], q.m⟩, fun q => f.subs.length - q.i⟩
      ⟨0, 1, 2, by omega, by omega, by omega, trivial⟩ (by kernel_rfl) ?_ ?_
    · refine Weak_g [] [(86026, 1)] [] ?_ ?_ ?_ ?_ ?_ <;> simp only [go_sem, reduceIte, reduceCtorEq, Nat.reduceEqDiff, Nat.reduceAdd, Nat.reduceSub, Nat.reduceMul, Nat.reduceDiv, Nat.reduceMod, Nat.reduceLT, Nat.reduceLeDiff, Nat.reduceBEq, Nat.reducePow, Int.reduceLE, Int.reduceLT, Int.reduceEq, Int.reduceNeg, Int.reduceAdd, Int.reduceToNat, ← h00]
      all_goals first | done | rfl | trace_state
  all_goals
    rintro ⟨i, g, m, hi, hg, hm1, _⟩
    try simp only at hi hg hm1
    rcases Nat.lt_or_ge i f.subs.length with h1 | h1
    · obtain ⟨x, hx⟩ : ∃ x, f.subs[i] = x := ⟨_, rfl⟩
      have hxs : x.size < n ∧ x.size ≤ 1000 := kz.out x (by rw [← hx]; exact List.getElem_mem h1)
      have hb := kl.out i h1
      have et := ks.out i h1
      rw [hx] at hb et
      repeat' (first | refine ReqK.i hxs fun _ => ?_ | refine ReqK.i (by omega) fun _ => ?_ | refine ReqK.i (fits_of2 (by omega) (by decide)) fun _ => ?_ | refine ReqK.i (by unfold maxL; omega) fun _ => ?_ | simp only [go_sem, reduceIte, reduceCtorEq, Nat.reduceEqDiff, Nat.reduceAdd, Nat.reduceSub, Nat.reduceMul, Nat.reduceDiv, Nat.reduceMod, Nat.reduceLT, Nat.reduceLeDiff, Nat.reduceBEq, Nat.reducePow, Int.reduceLE, Int.reduceLT, Int.reduceEq, Int.reduceNeg, Int.reduceAdd, Int.reduceToNat, h1, hx, form_eta, getD_map_lt, Tryd.f86, X30, X29, R28, R27, R22, R21, R20, R19, R18, R17, R16, R15, R14, R13, R12, R11, R10, R9, R8, R7, R6, R5, R4, R3, R2, R1, Q20, Q19, Q18, Q17, Q16, Q15, Q14, Q13, Q12, Q11, Q10, Q9, Q8, Q7, Q6, Q5, Q4, Q3, Q2, Q1, Tbl0])
      refine ⟨⟨i + 1, m, m + 1, by omega, by omega, by omega, trivial⟩, by simp only; omega, ?_⟩
      refine Weak_to ?_ ?_ ?_ <;> simp only [go_sem, reduceIte, reduceCtorEq, Nat.reduceEqDiff, Nat.reduceAdd, Nat.reduceSub, Nat.reduceMul, Nat.reduceDiv, Nat.reduceMod, Nat.reduceLT, Nat.reduceLeDiff, Nat.reduceBEq, Nat.reducePow, Int.reduceLE, Int.reduceLT, Int.reduceEq, Int.reduceNeg, Int.reduceAdd, Int.reduceToNat, et, List.map_append]
    · obtain rfl : i = f.subs.length := by omega
      repeat' (first | refine ReqK.i (by omega) fun _ => ?_ | simp only [go_sem, reduceIte, reduceCtorEq, Nat.reduceEqDiff, Nat.reduceAdd, Nat.reduceSub, Nat.reduceMul, Nat.reduceDiv, Nat.reduceMod, Nat.reduceLT, Nat.reduceLeDiff, Nat.reduceBEq, Nat.reducePow, Int.reduceLE, Int.reduceLT, Int.reduceEq, Int.reduceNeg, Int.reduceAdd, Int.reduceToNat, Nat.lt_irrefl, List.take_length, Tryd.f86])
end Go.Proofs.YtoicheicnbjfeaaDoor
