import Derived.Test.YtomhobohcejocaaDoorQ13
import Derived.Test.YtomhobohcejocaaDoorAbs41
set_option linter.unusedSimpArgs false
namespace Go.Proofs.YtomhobohcejocaaDoor
open Go Go.Abs Go.Proofs

theorem tots_get2 : ∀ {cs : List Abs.Cond} {i : Nat} (h : i < cs.length), cs.length + Box.tots cs[i].boxes ≤ Cond.tots cs
  | c :: cs, 0, _ => by
    have h1 := @Cond.tots_len cs
    rw [Cond.tots, Cond.tot_eq, List.length_cons, List.getElem_cons_zero]; omega
  | c :: cs, i + 1, h => by
    have h1 := tots_get2 (cs := cs) (i := i) (by simpa using h)
    rw [Cond.tots, Cond.tot_eq, List.length_cons, List.getElem_cons_succ]; omega
theorem step_le {b : Abs.Box} {c : Abs.Cond} {x : Abs.Box} {i k : Nat} (hi : i < b.conds.length) (hc : b.conds[i] = c) (hk : k < c.boxes.length) (hx : c.boxes[k] = x) :
    b.conds.length + x.refs.length + Cond.tots x.conds ≤ Cond.tots b.conds := by
  have h1 := tots_get2 hi
  rw [hc] at h1
  have h2 := Box.tots_get hk
  rw [hx, Box.tot_eq] at h2
  omega
theorem step_le2 {b : Abs.Box} {c : Abs.Cond} {x : Abs.Box} {i : Nat} (hi : i < b.conds.length) (hc : b.conds[i] = c) (hk : 1 < c.boxes.length) (hx : c.boxes[1] = x) :
    b.conds.length + (c.boxes.getD 0 noB).refs.length + (c.boxes.getD 0 noB).conds.length + x.refs.length + Cond.tots x.conds ≤ Cond.tots b.conds := by
  have h1 := tots_get2 hi
  rw [hc] at h1
  have h2 := Box.tots_two hk
  have e : c.boxes.getD 0 noB = c.boxes[0] := by rw [List.getD_eq_getElem?_getD, List.getElem?_eq_getElem (by omega)]; rfl
  rw [hx, Box.tot_eq, Box.tot_eq] at h2
  rw [e]
  have h4 := @Cond.tots_len (c.boxes[0]).conds
  omega
theorem stepB_some2 {b : Abs.Box} {c : Abs.Cond} {x : Abs.Box} {i k : Nat} (hi : i < b.conds.length) (hc : b.conds[i] = c) (hk : k < c.boxes.length) (hx : c.boxes[k] = x) :
    stepB b i k = some ((if c.kind = 3 ∧ (k : Int) = 1 then [c.boxes.getD 0 noB] else []) ++ [x], x) := by
  have h := stepB_some hi (by rw [hc]; exact hk)
  have e : ((k : Int) = 1) = (k = 1) := propext (by omega)
  simp only [hc, hx] at h
  simp only [e]
  exact h
theorem innerM_refs {v : Abs.Box} {c : Abs.Cond} {k : Int} : (innerM v c k).refs = v.refs ++ refsOf (if c.kind = 3 ∧ k = 1 then [c.boxes.getD 0 noB] else []) := by
  unfold innerM
  split <;> simp [refsOf, withM, box_refs]
theorem refsOf_app {l k : List Abs.Box} : refsOf (l ++ k) = refsOf l ++ refsOf k := by simp [refsOf]

def accM (b : Abs.Box) (path : List Int) : List Str × Fault :=
  if (boxM b).code ≠ 0 then ([], boxM b) else if path.length % 2 ≠ 0 then ([], ⟨9, -2⟩) else match reachM b path with
  | none => ([], ⟨3, -2⟩)
  | some l => (refsOf (b :: l), ⟨0, 0⟩)

structure LoopA where
  v : Abs.Box
  b : Abs.Box
  rest : List Int
  m : Nat

def Q26 : Tbl := Q25.add 15 (sp2p accM fun _ _ => True)
set_option maxRecDepth 100000 in
set_option maxHeartbeats 1000000 in
theorem hQ26 : TblOk Tryd.prog G0 Q26 := by
  refine sp2p_ok ok15 hQ25 fun b0 path _ hb hpw => ?_
  obtain ⟨Q, hQ⟩ : ∃ Q : D → Heap → Nat → Prop, Q = (fun d _ _ => D.val d = some (.tup [.fz (enc (accM b0 path).1), .fz (enc (accM b0 path).2)])) := ⟨_, rfl⟩
  rw [← hQ]
  have h1 : ∀ {c i : Int} {H' : Heap} {n' : Nat}, accM b0 path = ([], ⟨c, i⟩) → Q (.tup [.full [], .agg [.fz (.i .i64 c), .fz (.i .i64 i)]]) H' n' := fun e => by rw [hQ, e]; rfl
  have h2 : ∀ {l : List Str} {H' : Heap} {n' : Nat}, accM b0 path = (l, ⟨0, 0⟩) → Q (.tup [.fz (.sl (l.map enc)), .agg [.fz (.i .i64 0), .fz (.i .i64 0)]]) H' n' := fun e => by rw [hQ, e]; rfl
  have hpl : path.length ≤ maxL := by
    have := Wf_sl hpw
    simpa using this
  unfold maxL at hpl
  have k1 := Kp.mk @h1
  have k2 := Kp.mk @h2
  clear h1 h2 hQ hpw
  refine Wcall_K (N := 90) hm hQ25 15000 (lst [1000011]) ok15 Tryd.func15 rfl rfl (by simp) (by kernel_rfl) ?_
  by_cases hc : ¬ (boxM b0).code = 0
  · repeat' (first | refine ReqK.i (by omega) fun _ => ?_ | simp only [go_sem, reduceIte, reduceCtorEq, Nat.reduceEqDiff, Nat.reduceAdd, Nat.reduceSub, Nat.reduceMul, Nat.reduceDiv, Nat.reduceMod, Nat.reduceLT, Nat.reduceLeDiff, Nat.reduceBEq, Nat.reducePow, Int.reduceLE, Int.reduceLT, Int.reduceEq, Int.reduceNeg, Int.reduceAdd, Int.reduceToNat, hc, Tryd.f15, Q25, Q24, Q23, Q22, Q21, Q20, Q19, Q18, Q17, Q16, Q15, Q14, Q13, Q12, Q11, Q10, Q9, Q8, Q7, Q6, Q5, Q4, Q3, Q2, Q1, Tbl0])
    exact k1.out (by unfold accM; rw [if_pos hc])
  have hc := Decidable.not_not.1 hc
  obtain ⟨hok, htot⟩ := boxM_ok hc
  rw [Box.tot_eq] at htot
  have hcl0 := @Cond.tots_len b0.conds
  by_cases hev : ¬ path.length % 2 = 0
  · have hev2 : ¬ (path.length : Int) % 2 = 0 := by omega
    repeat' (first | refine ReqK.i (by omega) fun _ => ?_ | simp only [go_sem, reduceIte, reduceCtorEq, Nat.reduceEqDiff, Nat.reduceAdd, Nat.reduceSub, Nat.reduceMul, Nat.reduceDiv, Nat.reduceMod, Nat.reduceLT, Nat.reduceLeDiff, Nat.reduceBEq, Nat.reducePow, Int.reduceLE, Int.reduceLT, Int.reduceEq, Int.reduceNeg, Int.reduceAdd, Int.reduceToNat, hc, hev2, Tryd.f15, Q25, Q24, Q23, Q22, Q21, Q20, Q19, Q18, Q17, Q16, Q15, Q14, Q13, Q12, Q11, Q10, Q9, Q8, Q7, Q6, Q5, Q4, Q3, Q2, Q1, Tbl0])
    exact k1.out (by unfold accM; rw [if_neg (by simp [hc]), if_pos hev])
  have hev := Decidable.not_not.1 hev
  have hev2 : (path.length : Int) % 2 = 0 := by omega
  repeat' (first | refine ReqK.i (by omega) fun _ => ?_ | simp only [go_sem, reduceIte, reduceCtorEq, Nat.reduceEqDiff, Nat.reduceAdd, Nat.reduceSub, Nat.reduceMul, Nat.reduceDiv, Nat.reduceMod, Nat.reduceLT, Nat.reduceLeDiff, Nat.reduceBEq, Nat.reducePow, Int.reduceLE, Int.reduceLT, Int.reduceEq, Int.reduceNeg, Int.reduceAdd, Int.reduceToNat, hc, hev2, Tryd.f15, Q25, Q24, Q23, Q22, Q21, Q20, Q19, Q18, Q17, Q16, Q15, Q14, Q13, Q12, Q11, Q10, Q9, Q8, Q7, Q6, Q5, Q4, Q3, Q2, Q1, Tbl0])
  have hacc : accM b0 path = match reachM b0 path with | none => ([], ⟨3, -2⟩) | some l => (refsOf (b0 :: l), ⟨0, 0⟩) := by
    unfold accM; rw [if_neg (by simp [hc]), if_neg (by simp [hev])]
  have ka := Kp.mk hacc
  clear hacc
  refine WK_loop hm hQ25 15000 (lst [1000011]) (ι := { q : LoopA // Kp (4 ≤ q.m ∧ (∃ pre, reachM b0 path = (reachM q.b q.rest).map (pre ++ ·) ∧ q.v.refs = refsOf (b0 :: pre)) ∧ q.v.refs.length + q.v.conds.length + Cond.tots q.b.conds ≤ 400 + q.b.conds.length ∧ q.rest.length % 2 = 0 ∧ q.rest.length ≤ path.length) })
    ⟨fun q => ⟨frL [(1, .fz (.sl (q.1.rest.map enc))), (2, .ptr (15002, 0) 0), (4, .full []), (5, .ptr (15005, 1) 0), (7, .ptr (15007, 3) 0)],
      hpL [((15002, 0), some ⟨[.fz (.sl (q.1.b.refs.map enc)), .fz (.sl (q.1.b.conds.map enc))], true, false⟩), ((15005, 1), some ⟨[.fz (.i .i64 0), .fz (.i .i64 0)], true, false⟩),
        ((15007, 3), some ⟨[.fz (.sl (q.1.v.refs.map enc)), .fz (.sl (q.1.v.conds.map enc))], true, false⟩)], q.1.m⟩, fun q => q.1.rest.length⟩
    ⟨⟨b0, b0, path, 4⟩, ⟨by simp only; omega, ⟨[], by simp only [List.nil_append]; cases reachM b0 path <;> rfl, by simp [refsOf]⟩, by simp only; omega, hev, Nat.le_refl _⟩⟩ (by kernel_rfl) ?_ ?_
  · refine Weak_to ?_ ?_ ?_ <;> simp only [go_sem, reduceIte, reduceCtorEq, Nat.reduceEqDiff, Nat.reduceAdd, Nat.reduceSub, Nat.reduceMul, Nat.reduceDiv, Nat.reduceMod, Nat.reduceLT, Nat.reduceLeDiff, Nat.reduceBEq, Nat.reducePow, Int.reduceLE, Int.reduceLT, Int.reduceEq, Int.reduceNeg, Int.reduceAdd, Int.reduceToNat]
  rintro ⟨⟨v, b, rest, m⟩, kp⟩
  obtain ⟨hm4, ⟨pre, hpre, hv⟩, hle, heven, hlen⟩ := kp.out
  try simp only at hm4 hpre hv hle heven hlen
  have hcl := @Cond.tots_len b.conds
  have kpre := Kp.mk hpre
  have kv := Kp.mk hv
  clear hpre hv
  rcases rest with _ | ⟨i, _ | ⟨k, p⟩⟩
  · repeat' (first | refine ReqK.i (by omega) fun _ => ?_ | simp only [go_sem, reduceIte, reduceCtorEq, Nat.reduceEqDiff, Nat.reduceAdd, Nat.reduceSub, Nat.reduceMul, Nat.reduceDiv, Nat.reduceMod, Nat.reduceLT, Nat.reduceLeDiff, Nat.reduceBEq, Nat.reducePow, Int.reduceLE, Int.reduceLT, Int.reduceEq, Int.reduceNeg, Int.reduceAdd, Int.reduceToNat, List.length_nil, Tryd.f15, Q25, Q24, Q23, Q22, Q21, Q20, Q19, Q18, Q17, Q16, Q15, Q14, Q13, Q12, Q11, Q10, Q9, Q8, Q7, Q6, Q5, Q4, Q3, Q2, Q1, Tbl0])
    exact k2.out (by rw [ka.out, kpre.out, kv.out]; simp [reachM])
  · simp at heven
  · simp only [List.length_cons] at heven hlen
    have hz0 : (0 : Int) < (p.length : Int) + 1 + 1 := by omega
    have hnone : stepB b i k = none → ∀ {H' n'}, Q (.tup [.full [], .agg [.fz (.i .i64 3), .fz (.i .i64 (-2))]]) H' n' := fun h H' n' => k1.out (by rw [ka.out, kpre.out, reachM, h]; rfl)
    have kn := Kp.mk @hnone
    clear hnone
    rcases Int.lt_or_le i 0 with hi | hi
    · repeat' (first | refine ReqK.i (by omega) fun _ => ?_ | simp only [go_sem, reduceIte, reduceCtorEq, Nat.reduceEqDiff, Nat.reduceAdd, Nat.reduceSub, Nat.reduceMul, Nat.reduceDiv, Nat.reduceMod, Nat.reduceLT, Nat.reduceLeDiff, Nat.reduceBEq, Nat.reducePow, Int.reduceLE, Int.reduceLT, Int.reduceEq, Int.reduceNeg, Int.reduceAdd, Int.reduceToNat, hz0, List.length_cons, hi, Tryd.f15, Q25, Q24, Q23, Q22, Q21, Q20, Q19, Q18, Q17, Q16, Q15, Q14, Q13, Q12, Q11, Q10, Q9, Q8, Q7, Q6, Q5, Q4, Q3, Q2, Q1, Tbl0])
      exact kn.out (stepB_none1 (.inl hi))
    obtain ⟨i, rfl⟩ := Int.eq_ofNat_of_zero_le hi
    have hi0 : ¬ (i : Int) < 0 := by omega
    rcases Nat.lt_or_ge i b.conds.length with hi1 | hi1
    rotate_left
    · have hi2 : (b.conds.length : Int) ≤ i := by omega
      repeat' (first | refine ReqK.i (by omega) fun _ => ?_ | simp only [go_sem, reduceIte, reduceCtorEq, Nat.reduceEqDiff, Nat.reduceAdd, Nat.reduceSub, Nat.reduceMul, Nat.reduceDiv, Nat.reduceMod, Nat.reduceLT, Nat.reduceLeDiff, Nat.reduceBEq, Nat.reducePow, Int.reduceLE, Int.reduceLT, Int.reduceEq, Int.reduceNeg, Int.reduceAdd, Int.reduceToNat, hz0, List.length_cons, hi0, hi2, Tryd.f15, Q25, Q24, Q23, Q22, Q21, Q20, Q19, Q18, Q17, Q16, Q15, Q14, Q13, Q12, Q11, Q10, Q9, Q8, Q7, Q6, Q5, Q4, Q3, Q2, Q1, Tbl0])
      exact kn.out (stepB_none1 (.inr hi2))
    have hi2 : ¬ (b.conds.length : Int) ≤ i := by omega
    obtain ⟨c, hci⟩ : ∃ c, b.conds[i] = c := ⟨_, rfl⟩
    rcases Int.lt_or_le k 0 with hk | hk
    · repeat' (first | refine ReqK.i (by omega) fun _ => ?_ | simp only [go_sem, reduceIte, reduceCtorEq, Nat.reduceEqDiff, Nat.reduceAdd, Nat.reduceSub, Nat.reduceMul, Nat.reduceDiv, Nat.reduceMod, Nat.reduceLT, Nat.reduceLeDiff, Nat.reduceBEq, Nat.reducePow, Int.reduceLE, Int.reduceLT, Int.reduceEq, Int.reduceNeg, Int.reduceAdd, Int.reduceToNat, hz0, List.length_cons, hi0, hi2, hi1, hci, hk, getD_map_lt, Int.toNat_natCast, Tryd.f15, Q25, Q24, Q23, Q22, Q21, Q20, Q19, Q18, Q17, Q16, Q15, Q14, Q13, Q12, Q11, Q10, Q9, Q8, Q7, Q6, Q5, Q4, Q3, Q2, Q1, Tbl0])
      exact kn.out (stepB_none2 hi1 (.inl hk))
    obtain ⟨k, rfl⟩ := Int.eq_ofNat_of_zero_le hk
    have hk0 : ¬ (k : Int) < 0 := by omega
    rcases Nat.lt_or_ge k c.boxes.length with hk1 | hk1
    rotate_left
    · have hk2 : (c.boxes.length : Int) ≤ k := by omega
      repeat' (first | refine ReqK.i (by omega) fun _ => ?_ | simp only [go_sem, reduceIte, reduceCtorEq, Nat.reduceEqDiff, Nat.reduceAdd, Nat.reduceSub, Nat.reduceMul, Nat.reduceDiv, Nat.reduceMod, Nat.reduceLT, Nat.reduceLeDiff, Nat.reduceBEq, Nat.reducePow, Int.reduceLE, Int.reduceLT, Int.reduceEq, Int.reduceNeg, Int.reduceAdd, Int.reduceToNat, hz0, List.length_cons, hi0, hi2, hi1, hci, hk0, hk2, getD_map_lt, Int.toNat_natCast, Tryd.f15, Q25, Q24, Q23, Q22, Q21, Q20, Q19, Q18, Q17, Q16, Q15, Q14, Q13, Q12, Q11, Q10, Q9, Q8, Q7, Q6, Q5, Q4, Q3, Q2, Q1, Tbl0])
      exact kn.out (stepB_none2 hi1 (.inr (by rw [hci]; exact hk2)))
    have hk2 : ¬ (c.boxes.length : Int) ≤ k := by omega
    obtain ⟨x, hxk⟩ : ∃ x, c.boxes[k] = x := ⟨_, rfl⟩
    have hst := stepB_some2 hi1 hci hk1 hxk
    have hl1 := step_le hi1 hci hk1 hxk
    have hcx := @Cond.tots_len x.conds
    have hinr : c.kind = 3 → (k : Int) = 1 → 0 < c.boxes.length ∧ v.refs.length + (c.boxes.getD 0 noB).refs.length ≤ 1000000 ∧ v.conds.length + (c.boxes.getD 0 noB).conds.length ≤ 1000000 := fun _ e => by
      obtain rfl : k = 1 := by omega
      have hl2 := step_le2 hi1 hci hk1 hxk
      omega
    obtain ⟨v2, hv2⟩ : ∃ v2, innerM v c k = v2 := ⟨_, rfl⟩
    have hv2r : v2.refs = v.refs ++ refsOf (if c.kind = 3 ∧ (k : Int) = 1 then [c.boxes.getD 0 noB] else []) := by rw [← hv2, innerM_refs]
    have hv2l : v2.refs.length + v2.conds.length + x.refs.length + Cond.tots x.conds ≤ 400 := by
      rw [← hv2]
      unfold innerM
      split
      · rename_i h
        obtain rfl : k = 1 := by omega
        have hl2 := step_le2 hi1 hci hk1 hxk
        simp only [withM, box_refs, box_conds, List.length_append]
        omega
      · omega
    have kst := Kp.mk hst
    have kin := Kp.mk hinr
    have kv2 := Kp.mk hv2r
    clear hst hinr hv2r
    repeat' (first | refine ReqK.i (by omega) fun _ => ?_ | refine ReqK.i kin.out fun _ => ?_ | refine WK_drawF hm hQ25 15000 (lst [1000011]) (by kernel_rfl) ?_ | simp only [go_sem, reduceIte, reduceCtorEq, Nat.reduceEqDiff, Nat.reduceAdd, Nat.reduceSub, Nat.reduceMul, Nat.reduceDiv, Nat.reduceMod, Nat.reduceLT, Nat.reduceLeDiff, Nat.reduceBEq, Nat.reducePow, Int.reduceLE, Int.reduceLT, Int.reduceEq, Int.reduceNeg, Int.reduceAdd, Int.reduceToNat, hz0, List.length_cons, hi0, hi2, hi1, hci, hk0, hk2, hk1, hxk, hv2, getD_map_lt, Int.toNat_natCast, Tryd.f15, Q25, Q24, Q23, Q22, Q21, Q20, Q19, Q18, Q17, Q16, Q15, Q14, Q13, Q12, Q11, Q10, Q9, Q8, Q7, Q6, Q5, Q4, Q3, Q2, Q1, Tbl0])
    have hp1 : 2 ≤ (p.length : Int) + 1 + 1 ∧ (p.length : Int) + 1 + 1 ≤ (p.length : Int) + 1 + 1 ∧ (2 = (p.length : Int) + 1 + 1 ∨ ((List.map enc p).getD 0 FD.nilf).cells.length = 1) := by
      refine ⟨by omega, by omega, ?_⟩
      cases p with
      | nil => exact .inl (by simp)
      | cons _ _ => exact .inr rfl
    have hcut : cutFD (FD.i IntKind.i64 i :: FD.i IntKind.i64 k :: List.map enc p) 2 ((p.length : Int) + 1 + 1) = List.map enc p := by
      have e : ((p.length : Int) + 1 + 1).toNat = p.length + 2 := by omega
      simp only [cutFD, e]
      rw [List.take_of_length_le (by simp)]
      rfl
    repeat' (first | refine ReqK.i (by omega) fun _ => ?_ | refine ReqK.i hp1 fun _ => ?_ | simp only [go_sem, reduceIte, reduceCtorEq, Nat.reduceEqDiff, Nat.reduceAdd, Nat.reduceSub, Nat.reduceMul, Nat.reduceDiv, Nat.reduceMod, Nat.reduceLT, Nat.reduceLeDiff, Nat.reduceBEq, Nat.reducePow, Int.reduceLE, Int.reduceLT, Int.reduceEq, Int.reduceNeg, Int.reduceAdd, Int.reduceToNat, hcut, List.length_cons])
    refine ⟨⟨⟨withM v2 x, x, p, m + 1⟩, ⟨by simp only; omega, ⟨pre ++ ((if c.kind = 3 ∧ (k : Int) = 1 then [c.boxes.getD 0 noB] else []) ++ [x]), ?_, ?_⟩, ?_, by simp only; omega, by simp only; omega⟩⟩, by simp only [List.length_cons]; omega, ?_⟩
    · simp only
      rw [kpre.out, reachM, kst.out]
      simp only
      rw [Option.map_map]
      congr 1
      funext z
      simp only [Function.comp, List.append_assoc]
    · simp only [withM_refs]
      rw [kv2.out, kv.out, ← List.cons_append, refsOf_app, refsOf_app]
      simp [refsOf]
    · simp only [withM_refs, withM_conds, List.length_append]; omega
    · refine Weak_to ?_ ?_ ?_ <;> simp only [go_sem, reduceIte, reduceCtorEq, Nat.reduceEqDiff, Nat.reduceAdd, Nat.reduceSub, Nat.reduceMul, Nat.reduceDiv, Nat.reduceMod, Nat.reduceLT, Nat.reduceLeDiff, Nat.reduceBEq, Nat.reducePow, Int.reduceLE, Int.reduceLT, Int.reduceEq, Int.reduceNeg, Int.reduceAdd, Int.reduceToNat, hcut]
end Go.Proofs.YtomhobohcejocaaDoor
