import Derived.Test.YtomhobohcejocaaDoorQ14
set_option linter.unusedSimpArgs false
namespace Go.Proofs.YtomhobohcejocaaDoor
open Go Go.Abs Go.Proofs

def reachP (b : Abs.Box) (path : List Int) : List Abs.Box × Bool :=
  match reachM b path with
  | none => ([], false)
  | some l => (b :: l, true)
structure LoopRe where
  l : List Abs.Box
  b : Abs.Box
  bb : Abs.Box
  i : Nat
  g : Nat
  m : Nat

def Q27 : Tbl := Q26.add 19 (sp2p reachP fun b path => path.length % 2 = 0 ∧ (boxM b).code = 0)
set_option maxRecDepth 100000 in
set_option maxHeartbeats 1000000 in
theorem hQ27 : TblOk Tryd.prog G0 Q27 := by
  refine sp2p_ok ok19 hQ26 fun b0 path hpre hb hpw => ?_
  obtain ⟨hev, hc⟩ := hpre
  obtain ⟨Q, hQ⟩ : ∃ Q : D → Heap → Nat → Prop, Q = (fun d _ _ => D.val d = some (.tup [.fz (enc (reachP b0 path).1), .fz (enc (reachP b0 path).2)])) := ⟨_, rfl⟩
  rw [← hQ]
  have h1 : ∀ {H' : Heap} {n' : Nat}, reachP b0 path = ([], false) → Q (.tup [.full [], .fz (.b false)]) H' n' := fun e => by rw [hQ, e]; rfl
  have h2 : ∀ {l : List Abs.Box} {id : Abs.Id} {H' : Heap} {n' : Nat}, reachP b0 path = (l, true) → Q (.tup [.ow id 2 (l.map enc), .fz (.b true)]) H' n' := fun e => by rw [hQ, e]; rfl
  have hpl : path.length ≤ maxL := by
    have := Wf_sl hpw
    simpa using this
  unfold maxL at hpl
  have k1 := Kp.mk @h1
  have k2 := Kp.mk @h2
  clear h1 h2 hQ hpw
  obtain ⟨hok, htot⟩ := boxM_ok hc
  rw [Box.tot_eq] at htot
  refine Wcall_K (N := 85) hm hQ26 19000 (lsw [75, 83] [1000008]) ok19 Tryd.func19 rfl rfl (by simp) (by kernel_rfl) ?_
  repeat' (first | refine ReqK.i (by omega) fun _ => ?_ | refine ReqK.i (by unfold maxL; omega) fun _ => ?_ | simp only [go_sem, reduceIte, reduceCtorEq, Nat.reduceEqDiff, Nat.reduceAdd, Nat.reduceSub, Nat.reduceMul, Nat.reduceDiv, Nat.reduceMod, Nat.reduceLT, Nat.reduceLeDiff, Nat.reduceBEq, Nat.reducePow, Int.reduceLE, Int.reduceLT, Int.reduceEq, Int.reduceNeg, Int.reduceAdd, Int.reduceToNat, Tryd.f19])
  refine WK_loop hm hQ26 19000 (lsw [75, 83] [1000008]) (ι := { q : LoopRe // Kp (q.g < q.m ∧ q.i ≤ path.length ∧ q.i % 2 = 0 ∧ (∃ pre, q.l = b0 :: pre ∧ reachM b0 path = (reachM q.b (path.drop q.i)).map (pre ++ ·)) ∧ (∃ l', q.l = l' ++ [q.b]) ∧ q.l.length + 2 * Cond.tots q.b.conds ≤ 801) })
    ⟨fun q => ⟨frL [(1, .fz (.sl (path.map enc))), (2, .ptr (19002, 0) 0), (6, .ow (19083, q.1.g) 2 (q.1.l.map enc)), (7, .fz (.i .i64 q.1.i)), (4, .full []), (5, .fz (.b false))],
      hpL [((19002, 0), some ⟨[.fz (.sl (q.1.bb.refs.map enc)), .fz (.sl (q.1.bb.conds.map enc))], true, false⟩), ((19083, q.1.g), some tok)], q.1.m⟩, fun q => path.length - q.1.i⟩
    ⟨⟨[b0], b0, b0, 0, 1, 2⟩, ⟨by simp only; omega, by simp only; omega, rfl, ⟨[], rfl, by simp only [List.nil_append, List.drop_zero]; cases reachM b0 path <;> rfl⟩, ⟨[], rfl⟩, by simp only [List.length_singleton]; omega⟩⟩ (by kernel_rfl) ?_ ?_
  · refine Weak_g [] [(19083, 1)] [] ?_ ?_ ?_ ?_ ?_ <;> simp only [go_sem, reduceIte, reduceCtorEq, Nat.reduceEqDiff, Nat.reduceAdd, Nat.reduceSub, Nat.reduceMul, Nat.reduceDiv, Nat.reduceMod, Nat.reduceLT, Nat.reduceLeDiff, Nat.reduceBEq, Nat.reducePow, Int.reduceLE, Int.reduceLT, Int.reduceEq, Int.reduceNeg, Int.reduceAdd, Int.reduceToNat]
    all_goals rfl
  rintro ⟨⟨l, b, bb, i, g, m⟩, kp⟩
  obtain ⟨hg, hi, hi2, ⟨pre, hl, hre⟩, ⟨l', hl'⟩, hle⟩ := kp.out
  try simp only at hg hi hi2 hl hre hl' hle
  have kre := Kp.mk hre
  have kl := Kp.mk hl
  have hll : l.length = l'.length + 1 := by rw [hl', List.length_append, List.length_singleton]
  have e1 : ((l.length : Int) - 1).toNat = l'.length := by omega
  have hgl : (List.map enc l).getD l'.length FD.nilf = .agg [.sl (b.refs.map enc), .sl (b.conds.map enc)] := by
    rw [hl', List.map_append, List.getD_eq_getElem?_getD, List.getElem?_append_right (by simp)]
    simp [enc_box]
  have e2 : ((i : Int) + 1).toNat = i + 1 := by omega
  have c2 : (((i + 2 : Nat) : Int)) = (i : Int) + 2 := by omega
  rcases Nat.lt_or_ge (i + 1) path.length with hlt | hge
  rotate_left
  · have hx : ¬ (i : Int) + 1 < path.length := by omega
    have hdr : path.drop i = [] := List.drop_of_length_le (by omega)
    repeat' (first | refine ReqK.i (by omega) fun _ => ?_ | simp only [go_sem, reduceIte, reduceCtorEq, Nat.reduceEqDiff, Nat.reduceAdd, Nat.reduceSub, Nat.reduceMul, Nat.reduceDiv, Nat.reduceMod, Nat.reduceLT, Nat.reduceLeDiff, Nat.reduceBEq, Nat.reducePow, Int.reduceLE, Int.reduceLT, Int.reduceEq, Int.reduceNeg, Int.reduceAdd, Int.reduceToNat, hx, Tryd.f19, Q26, Q25, Q24, Q23, Q22, Q21, Q20, Q19, Q18, Q17, Q16, Q15, Q14, Q13, Q12, Q11, Q10, Q9, Q8, Q7, Q6, Q5, Q4, Q3, Q2, Q1, Tbl0])
    exact k2.out (by unfold reachP; rw [kre.out, hdr, kl.out]; simp [reachM])
  have hlt0 : i < path.length := by omega
  have hx : (i : Int) + 1 < path.length := by omega
  have hdr : path.drop i = path[i] :: path[i + 1] :: path.drop (i + 2) := by
    rw [List.drop_eq_getElem_cons hlt0, List.drop_eq_getElem_cons hlt]
  obtain ⟨a, ha⟩ : ∃ a, path[i] = a := ⟨_, rfl⟩
  obtain ⟨k, hk'⟩ : ∃ k, path[i + 1] = k := ⟨_, rfl⟩
  rw [ha, hk'] at hdr
  have hnone : stepB b a k = none → ∀ {H' n'}, Q (.tup [.full [], .fz (.b false)]) H' n' := fun h H' n' => k1.out (by unfold reachP; rw [kre.out, hdr, reachM, h]; rfl)
  have kn := Kp.mk @hnone
  have kd := Kp.mk hdr
  clear hnone hdr hre hl hl'
  rcases Int.lt_or_le a 0 with hi0 | hi0
  · repeat' (first | refine ReqK.i (by omega) fun _ => ?_ | simp only [go_sem, reduceIte, reduceCtorEq, Nat.reduceEqDiff, Nat.reduceAdd, Nat.reduceSub, Nat.reduceMul, Nat.reduceDiv, Nat.reduceMod, Nat.reduceLT, Nat.reduceLeDiff, Nat.reduceBEq, Nat.reducePow, Int.reduceLE, Int.reduceLT, Int.reduceEq, Int.reduceNeg, Int.reduceAdd, Int.reduceToNat, hx, hlt0, hlt, ha, hk', e1, e2, hgl, hi0, getD_map_lt, Int.toNat_natCast, Tryd.f19, Q26, Q25, Q24, Q23, Q22, Q21, Q20, Q19, Q18, Q17, Q16, Q15, Q14, Q13, Q12, Q11, Q10, Q9, Q8, Q7, Q6, Q5, Q4, Q3, Q2, Q1, Tbl0])
    exact kn.out (stepB_none1 (.inl hi0))
  obtain ⟨a, rfl⟩ := Int.eq_ofNat_of_zero_le hi0
  have ha0 : ¬ (a : Int) < 0 := by omega
  rcases Nat.lt_or_ge a b.conds.length with hi1 | hi1
  rotate_left
  · have ha2 : (b.conds.length : Int) ≤ a := by omega
    repeat' (first | refine ReqK.i (by omega) fun _ => ?_ | simp only [go_sem, reduceIte, reduceCtorEq, Nat.reduceEqDiff, Nat.reduceAdd, Nat.reduceSub, Nat.reduceMul, Nat.reduceDiv, Nat.reduceMod, Nat.reduceLT, Nat.reduceLeDiff, Nat.reduceBEq, Nat.reducePow, Int.reduceLE, Int.reduceLT, Int.reduceEq, Int.reduceNeg, Int.reduceAdd, Int.reduceToNat, hx, hlt0, hlt, ha, hk', e1, e2, hgl, ha0, ha2, getD_map_lt, Int.toNat_natCast, Tryd.f19, Q26, Q25, Q24, Q23, Q22, Q21, Q20, Q19, Q18, Q17, Q16, Q15, Q14, Q13, Q12, Q11, Q10, Q9, Q8, Q7, Q6, Q5, Q4, Q3, Q2, Q1, Tbl0])
    exact kn.out (stepB_none1 (.inr ha2))
  have ha2 : ¬ (b.conds.length : Int) ≤ a := by omega
  obtain ⟨c, hci⟩ : ∃ c, b.conds[a] = c := ⟨_, rfl⟩
  rcases Int.lt_or_le k 0 with hk | hk
  · repeat' (first | refine ReqK.i (by omega) fun _ => ?_ | refine WK_drawF hm hQ26 19000 (lsw [75, 83] [1000008]) (by kernel_rfl) ?_ | simp only [go_sem, reduceIte, reduceCtorEq, Nat.reduceEqDiff, Nat.reduceAdd, Nat.reduceSub, Nat.reduceMul, Nat.reduceDiv, Nat.reduceMod, Nat.reduceLT, Nat.reduceLeDiff, Nat.reduceBEq, Nat.reducePow, Int.reduceLE, Int.reduceLT, Int.reduceEq, Int.reduceNeg, Int.reduceAdd, Int.reduceToNat, hx, hlt0, hlt, ha, hk', e1, e2, hgl, ha0, ha2, hi1, hci, hk, getD_map_lt, Int.toNat_natCast, Tryd.f19, Q26, Q25, Q24, Q23, Q22, Q21, Q20, Q19, Q18, Q17, Q16, Q15, Q14, Q13, Q12, Q11, Q10, Q9, Q8, Q7, Q6, Q5, Q4, Q3, Q2, Q1, Tbl0])
    exact kn.out (stepB_none2 hi1 (.inl hk))
  obtain ⟨k, rfl⟩ := Int.eq_ofNat_of_zero_le hk
  have hk0 : ¬ (k : Int) < 0 := by omega
  rcases Nat.lt_or_ge k c.boxes.length with hk1 | hk1
  rotate_left
  · have hk2 : (c.boxes.length : Int) ≤ k := by omega
    repeat' (first | refine ReqK.i (by omega) fun _ => ?_ | refine WK_drawF hm hQ26 19000 (lsw [75, 83] [1000008]) (by kernel_rfl) ?_ | simp only [go_sem, reduceIte, reduceCtorEq, Nat.reduceEqDiff, Nat.reduceAdd, Nat.reduceSub, Nat.reduceMul, Nat.reduceDiv, Nat.reduceMod, Nat.reduceLT, Nat.reduceLeDiff, Nat.reduceBEq, Nat.reducePow, Int.reduceLE, Int.reduceLT, Int.reduceEq, Int.reduceNeg, Int.reduceAdd, Int.reduceToNat, hx, hlt0, hlt, ha, hk', e1, e2, hgl, ha0, ha2, hi1, hci, hk0, hk2, getD_map_lt, Int.toNat_natCast, Tryd.f19, Q26, Q25, Q24, Q23, Q22, Q21, Q20, Q19, Q18, Q17, Q16, Q15, Q14, Q13, Q12, Q11, Q10, Q9, Q8, Q7, Q6, Q5, Q4, Q3, Q2, Q1, Tbl0])
    exact kn.out (stepB_none2 hi1 (.inr (by rw [hci]; exact hk2)))
  have hk2 : ¬ (c.boxes.length : Int) ≤ k := by omega
  obtain ⟨x, hxk⟩ : ∃ x, c.boxes[k] = x := ⟨_, rfl⟩
  have hst := stepB_some2 hi1 hci hk1 hxk
  have hl1 := step_le hi1 hci hk1 hxk
  have hre2 : ∀ {z : List Abs.Box}, z = (if c.kind = 3 ∧ (k : Int) = 1 then [c.boxes.getD 0 noB] else []) ++ [x] → l ++ z = b0 :: (pre ++ z) ∧ reachM b0 path = (reachM x (path.drop (i + 2))).map ((pre ++ z) ++ ·) := fun e => by
    refine ⟨by rw [kl.out]; rfl, ?_⟩
    rw [kre.out, kd.out, reachM, hst]
    simp only
    rw [Option.map_map, e]
    congr 1
    funext z
    simp only [Function.comp, List.append_assoc]
  have kr2 := Kp.mk @hre2
  clear hst hre2
  have hlc := Nat.le_trans (Nat.succ_le_of_lt (Nat.lt_of_le_of_lt (Nat.zero_le _) hi1)) (@Cond.tots_len b.conds)
  by_cases h3 : c.kind = 3 ∧ (k : Int) = 1
  · have hb3 := eq_true h3.1
    have hb1 := eq_true h3.2
    have hp0 : 0 < c.boxes.length := by omega
    obtain ⟨y, hy⟩ : ∃ y, c.boxes[0] = y := ⟨_, rfl⟩
    have hz : [y, x] = (if c.kind = 3 ∧ (k : Int) = 1 then [c.boxes.getD 0 noB] else []) ++ [x] := by
      rw [if_pos h3, List.getD_eq_getElem?_getD, List.getElem?_eq_getElem hp0]; simp [hy]
    repeat' (first | refine ReqK.i (by omega) fun _ => ?_ | refine ReqK.i (by unfold maxL; omega) fun _ => ?_ | refine ReqK.i (fits_of2 (by omega) (by decide)) fun _ => ?_ | refine WK_drawF hm hQ26 19000 (lsw [75, 83] [1000008]) (by kernel_rfl) ?_ | simp only [go_sem, reduceIte, reduceCtorEq, Nat.reduceEqDiff, Nat.reduceAdd, Nat.reduceSub, Nat.reduceMul, Nat.reduceDiv, Nat.reduceMod, Nat.reduceLT, Nat.reduceLeDiff, Nat.reduceBEq, Nat.reducePow, Int.reduceLE, Int.reduceLT, Int.reduceEq, Int.reduceNeg, Int.reduceAdd, Int.reduceToNat, hx, hlt0, hlt, ha, hk', e1, e2, hgl, ha0, ha2, hi1, hci, hk0, hk2, hk1, hxk, hb3, hb1, hp0, hy, getD_map_lt, Int.toNat_natCast, Int.toNat_zero, Tryd.f19, Q26, Q25, Q24, Q23, Q22, Q21, Q20, Q19, Q18, Q17, Q16, Q15, Q14, Q13, Q12, Q11, Q10, Q9, Q8, Q7, Q6, Q5, Q4, Q3, Q2, Q1, Tbl0])
    refine ⟨⟨⟨l ++ [y, x], x, b, i + 2, m + 1 + 1, m + 1 + 1 + 1⟩, ⟨by simp only; omega, by simp only; omega, by simp only; omega, ⟨pre ++ [y, x], kr2.out hz⟩, ⟨l ++ [y], by simp⟩, by simp only [List.length_append, List.length_cons, List.length_nil]; omega⟩⟩, by simp only; omega, ?_⟩
    refine Weak_to ?_ ?_ ?_ <;> simp only [go_sem, reduceIte, reduceCtorEq, Nat.reduceEqDiff, Nat.reduceAdd, Nat.reduceSub, Nat.reduceMul, Nat.reduceDiv, Nat.reduceMod, Nat.reduceLT, Nat.reduceLeDiff, Nat.reduceBEq, Nat.reducePow, Int.reduceLE, Int.reduceLT, Int.reduceEq, Int.reduceNeg, Int.reduceAdd, Int.reduceToNat, List.map_append, List.append_assoc, c2]
  have hz : [x] = (if c.kind = 3 ∧ (k : Int) = 1 then [c.boxes.getD 0 noB] else []) ++ [x] := by rw [if_neg h3]; rfl
  have hcases : c.kind = 3 ∧ ¬ (k : Int) = 1 ∨ ¬ c.kind = 3 := by
    by_cases h4 : c.kind = 3
    · exact .inl ⟨h4, fun h => h3 ⟨h4, h⟩⟩
    · exact .inr h4
  rcases hcases with ⟨h4, h5⟩ | h4
  · have hb3 := eq_true h4
    have hb1 := eq_false h5
    repeat' (first | refine ReqK.i (by omega) fun _ => ?_ | refine ReqK.i (by unfold maxL; omega) fun _ => ?_ | refine ReqK.i (fits_of2 (by omega) (by decide)) fun _ => ?_ | refine WK_drawF hm hQ26 19000 (lsw [75, 83] [1000008]) (by kernel_rfl) ?_ | simp only [go_sem, reduceIte, reduceCtorEq, Nat.reduceEqDiff, Nat.reduceAdd, Nat.reduceSub, Nat.reduceMul, Nat.reduceDiv, Nat.reduceMod, Nat.reduceLT, Nat.reduceLeDiff, Nat.reduceBEq, Nat.reducePow, Int.reduceLE, Int.reduceLT, Int.reduceEq, Int.reduceNeg, Int.reduceAdd, Int.reduceToNat, hx, hlt0, hlt, ha, hk', e1, e2, hgl, ha0, ha2, hi1, hci, hk0, hk2, hk1, hxk, hb3, hb1, getD_map_lt, Int.toNat_natCast, Int.toNat_zero, Tryd.f19, Q26, Q25, Q24, Q23, Q22, Q21, Q20, Q19, Q18, Q17, Q16, Q15, Q14, Q13, Q12, Q11, Q10, Q9, Q8, Q7, Q6, Q5, Q4, Q3, Q2, Q1, Tbl0])
    refine ⟨⟨⟨l ++ [x], x, b, i + 2, m + 1, m + 1 + 1⟩, ⟨by simp only; omega, by simp only; omega, by simp only; omega, ⟨pre ++ [x], kr2.out hz⟩, ⟨l, rfl⟩, by simp only [List.length_append, List.length_cons, List.length_nil]; omega⟩⟩, by simp only; omega, ?_⟩
    refine Weak_to ?_ ?_ ?_ <;> simp only [go_sem, reduceIte, reduceCtorEq, Nat.reduceEqDiff, Nat.reduceAdd, Nat.reduceSub, Nat.reduceMul, Nat.reduceDiv, Nat.reduceMod, Nat.reduceLT, Nat.reduceLeDiff, Nat.reduceBEq, Nat.reducePow, Int.reduceLE, Int.reduceLT, Int.reduceEq, Int.reduceNeg, Int.reduceAdd, Int.reduceToNat, List.map_append, List.append_assoc, c2]
  · have hb3 := eq_false h4
    repeat' (first | refine ReqK.i (by omega) fun _ => ?_ | refine ReqK.i (by unfold maxL; omega) fun _ => ?_ | refine ReqK.i (fits_of2 (by omega) (by decide)) fun _ => ?_ | refine WK_drawF hm hQ26 19000 (lsw [75, 83] [1000008]) (by kernel_rfl) ?_ | simp only [go_sem, reduceIte, reduceCtorEq, Nat.reduceEqDiff, Nat.reduceAdd, Nat.reduceSub, Nat.reduceMul, Nat.reduceDiv, Nat.reduceMod, Nat.reduceLT, Nat.reduceLeDiff, Nat.reduceBEq, Nat.reducePow, Int.reduceLE, Int.reduceLT, Int.reduceEq, Int.reduceNeg, Int.reduceAdd, Int.reduceToNat, hx, hlt0, hlt, ha, hk', e1, e2, hgl, ha0, ha2, hi1, hci, hk0, hk2, hk1, hxk, hb3, getD_map_lt, Int.toNat_natCast, Int.toNat_zero, Tryd.f19, Q26, Q25, Q24, Q23, Q22, Q21, Q20, Q19, Q18, Q17, Q16, Q15, Q14, Q13, Q12, Q11, Q10, Q9, Q8, Q7, Q6, Q5, Q4, Q3, Q2, Q1, Tbl0])
    refine ⟨⟨⟨l ++ [x], x, b, i + 2, m + 1, m + 1 + 1⟩, ⟨by simp only; omega, by simp only; omega, by simp only; omega, ⟨pre ++ [x], kr2.out hz⟩, ⟨l, rfl⟩, by simp only [List.length_append, List.length_cons, List.length_nil]; omega⟩⟩, by simp only; omega, ?_⟩
    refine Weak_to ?_ ?_ ?_ <;> simp only [go_sem, reduceIte, reduceCtorEq, Nat.reduceEqDiff, Nat.reduceAdd, Nat.reduceSub, Nat.reduceMul, Nat.reduceDiv, Nat.reduceMod, Nat.reduceLT, Nat.reduceLeDiff, Nat.reduceBEq, Nat.reducePow, Int.reduceLE, Int.reduceLT, Int.reduceEq, Int.reduceNeg, Int.reduceAdd, Int.reduceToNat, List.map_append, List.append_assoc, c2]
end Go.Proofs.YtomhobohcejocaaDoor
