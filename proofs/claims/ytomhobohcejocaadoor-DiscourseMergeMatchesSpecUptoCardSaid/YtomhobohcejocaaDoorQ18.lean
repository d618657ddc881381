import Derived.Test.YtomhobohcejocaaDoorQ17
set_option linter.unusedSimpArgs false
namespace Go.Proofs.YtomhobohcejocaaDoor
open Go Go.Abs Go.Proofs

noncomputable instance decBox : DecidableEq Abs.Box := fun _ _ => Classical.propDecidable _
theorem cond_ext {a b : Abs.Cond} (h1 : a.kind = b.kind) (h2 : a.name = b.name) (h3 : a.form = b.form) (h4 : a.boxes = b.boxes) : a = b := by
  cases a; cases b; simp only [cond_kind, cond_name, cond_form, cond_boxes] at *; subst h1 h2 h3 h4; rfl
theorem box_ext {a b : Abs.Box} (h1 : a.refs = b.refs) (h2 : a.conds = b.conds) : a = b := by
  cases a; cases b; simp only [box_refs, box_conds] at *; subst h1 h2; rfl
def tree22 : Tr := (.node (.cons 0 (.node (.cons 1 (.node (.cons 2 (.node (.cons 3 (.node (.cons 4 (.node (.cons 5 (.node (.cons 7 (.node (.cons 6 (.node (.cons 8 (.node (.cons 9 (.node (.cons 10 (.node (.cons 11 (.node (.cons 12 (.node (.cons 13 .leaf .nil)) .nil)) .nil)) (.cons 11 (.node (.cons 10 (.node (.cons 12 (.node (.cons 13 .leaf .nil)) .nil)) .nil)) .nil))) (.cons 10 (.node (.cons 9 (.node (.cons 11 (.node (.cons 12 (.node (.cons 13 .leaf .nil)) .nil)) .nil)) (.cons 11 (.node (.cons 9 (.node (.cons 12 (.node (.cons 13 .leaf .nil)) .nil)) (.cons 12 (.node (.cons 9 (.node (.cons 13 .leaf .nil)) .nil)) .nil))) .nil))) (.cons 11 (.node (.cons 9 (.node (.cons 10 (.node (.cons 12 (.node (.cons 13 .leaf .nil)) .nil)) .nil)) (.cons 10 (.node (.cons 9 (.node (.cons 12 (.node (.cons 13 .leaf .nil)) .nil)) (.cons 12 (.node (.cons 9 (.node (.cons 13 .leaf .nil)) .nil)) .nil))) .nil))) .nil)))) .nil)) (.cons 10 (.node (.cons 6 (.node (.cons 8 (.node (.cons 9 (.node (.cons 11 (.node (.cons 12 (.node (.cons 13 .leaf .nil)) .nil)) .nil)) (.cons 11 (.node (.cons 9 (.node (.cons 12 (.node (.cons 13 .leaf .nil)) .nil)) (.cons 12 (.node (.cons 9 (.node (.cons 13 .leaf .nil)) .nil)) .nil))) .nil))) .nil)) (.cons 11 (.node (.cons 6 (.node (.cons 8 (.node (.cons 9 (.node (.cons 12 (.node (.cons 13 .leaf .nil)) .nil)) (.cons 12 (.node (.cons 9 (.node (.cons 13 .leaf .nil)) .nil)) .nil))) .nil)) (.cons 12 (.node (.cons 6 (.node (.cons 8 (.node (.cons 9 (.node (.cons 13 .leaf .nil)) .nil)) .nil)) .nil)) .nil))) .nil))) (.cons 11 (.node (.cons 6 (.node (.cons 8 (.node (.cons 9 (.node (.cons 10 (.node (.cons 12 (.node (.cons 13 .leaf .nil)) .nil)) .nil)) (.cons 10 (.node (.cons 9 (.node (.cons 12 (.node (.cons 13 .leaf .nil)) .nil)) (.cons 12 (.node (.cons 9 (.node (.cons 13 .leaf .nil)) .nil)) .nil))) .nil))) .nil)) (.cons 10 (.node (.cons 6 (.node (.cons 8 (.node (.cons 9 (.node (.cons 12 (.node (.cons 13 .leaf .nil)) .nil)) (.cons 12 (.node (.cons 9 (.node (.cons 13 .leaf .nil)) .nil)) .nil))) .nil)) (.cons 12 (.node (.cons 6 (.node (.cons 8 (.node (.cons 9 (.node (.cons 13 .leaf .nil)) .nil)) .nil)) .nil)) .nil))) .nil))) .nil)))) .nil)) .nil)) .nil)) .nil)) .nil)) .nil)) .nil))
noncomputable def Q29 : Tbl := (Q28.add 22 (sp2 (fun a b : Abs.Box => decide (a = b)) fun _ _ => True)).add 25 (sp2 (fun a b : List Abs.Box => decide (a = b)) fun _ _ => True)
set_option maxRecDepth 100000 in
set_option maxHeartbeats 1000000 in
theorem hQ29 : TblOk Tryd.prog G0 Q29 := by
  refine sp2_rec2 (by decide) (fun b => 2 * b.size) (fun l => 2 * Box.sizes l + 1) ok22 ok25 hQ28 (fun n hT a b hn hwa hwb => ?_) (fun n hT a b hn hwa hwb => ?_)
  · obtain ⟨Q, hQ⟩ : ∃ Q : D → Heap → Nat → Prop, Q = (fun d _ _ => D.val d = some (.fz (enc (decide (a = b))))) := ⟨_, rfl⟩
    rw [← hQ]
    have hf : a ≠ b → ∀ {H' n'}, Q (.fz (.b false)) H' n' := fun h H' n' => by rw [hQ]; show _ = some (D.fz (.b (decide (a = b)))); rw [decide_eq_false h]; rfl
    have ht : a = b → ∀ {H' n'}, Q (.fz (.b true)) H' n' := fun h H' n' => by rw [hQ]; show _ = some (D.fz (.b (decide (a = b)))); rw [decide_eq_true h]; rfl
    have hsl : a.conds.length ≤ maxL := by
      have h := Wf_agg (by have h := hwa; rw [enc_box] at h; exact h) (FD.sl (a.conds.map enc)) (by simp)
      have := Wf_sl h
      simpa using this
    unfold maxL at hsl
    have hsz : ∀ c ∈ a.conds, 2 * Box.sizes c.boxes + 1 < n := fun c hc => by
      have h1 := Box.size_sub hc
      have h2 : c.size = Box.sizes c.boxes + 1 := by cases c; rw [Cond.size]; rfl
      omega
    have kf := Kp.mk @hf
    have kt := Kp.mk @ht
    have kz := Kp.mk hsz
    have kT := Kp.mk hT
    clear hf ht hQ hwa hwb hsz hT hn
    refine Wcall_K (N := 68) hm kT.out 22000 (lst [1000006]) ok22 Tryd.func22 rfl rfl (by simp) (by kernel_rfl) ?_
    repeat' (first | refine CondK.d (fun _ => ?_) (fun _ => ?_) | refine CondK.i (fun _ => ?_) (fun _ => ?_) | refine ReqK.i (by omega) fun _ => ?_ | simp only [go_sem, reduceIte, reduceCtorEq, Nat.reduceEqDiff, Nat.reduceAdd, Nat.reduceSub, Nat.reduceMul, Nat.reduceDiv, Nat.reduceMod, Nat.reduceLT, Nat.reduceLeDiff, Nat.reduceBEq, Nat.reducePow, Int.reduceLE, Int.reduceLT, Int.reduceEq, Int.reduceNeg, Int.reduceAdd, Int.reduceToNat, Tryd.f22, Q28, Q27, Q26, Q25, Q24, Q23, Q22, Q21, Q20, Q19, Q18, Q17, Q16, Q15, Q14, Q13, Q12, Q11, Q10, Q9, Q8, Q7, Q6, Q5, Q4, Q3, Q2, Q1, Tbl0, *])
    all_goals try (refine kf.out (fun e => ?_); subst e; contradiction)
    rename_i e1 e2
    have hlen : a.conds.length = b.conds.length := by omega
    refine WK_loop hm kT.out 22000 (lst [1000006]) (ι := LoopM a.conds.length 2 fun i => a.conds.take i = b.conds.take i)
      ⟨fun q => ⟨frL [(2, .ptr (22002, 0) 0), (3, .ptr (22003, 1) 0), (25, .fz (.i .i64 a.conds.length)), (26, .fz (.i .i64 q.i))],
        hpL [((22002, 0), some ⟨[.fz (.sl (a.refs.map enc)), .fz (.sl (a.conds.map enc))], true, false⟩), ((22003, 1), some ⟨[.fz (.sl (b.refs.map enc)), .fz (.sl (b.conds.map enc))], true, false⟩)], q.m⟩, fun q => a.conds.length - q.i⟩
      ⟨0, 2, by omega, by omega, rfl⟩ (by kernel_rfl) ?_ ?_
    · refine Weak_to ?_ ?_ ?_ <;> simp only [go_sem, reduceIte, reduceCtorEq, Nat.reduceEqDiff, Nat.reduceAdd, Nat.reduceSub, Nat.reduceMul, Nat.reduceDiv, Nat.reduceMod, Nat.reduceLT, Nat.reduceLeDiff, Nat.reduceBEq, Nat.reducePow, Int.reduceLE, Int.reduceLT, Int.reduceEq, Int.reduceNeg, Int.reduceAdd, Int.reduceToNat, *]
    rintro ⟨i, m, hi, hm2, hpi⟩
    rcases Nat.lt_or_ge i a.conds.length with h1 | h1
    · have h2 : i < b.conds.length := by omega
      obtain ⟨x, hx⟩ : ∃ x, a.conds[i] = x := ⟨_, rfl⟩
      obtain ⟨y, hy⟩ : ∃ y, b.conds[i] = y := ⟨_, rfl⟩
      have hxs : 2 * Box.sizes x.boxes + 1 < n := kz.out x (by rw [← hx]; exact List.getElem_mem h1)
      have hxy : x ≠ y → a ≠ b := fun h e => h (by subst e; rw [← hx, ← hy])
      have kxy := Kp.mk hxy
      have kp := Kp.mk hpi
      clear hxy e1 e2
      have hcase : (x.kind = y.kind) = False ∨ ((x.kind = y.kind) = True ∧ ((x.name = y.name) = False ∨ ((x.name = y.name) = True ∧ ((x.form = y.form) = False ∨ ((x.form = y.form) = True ∧ ((x.boxes = y.boxes) = False ∨ (x.boxes = y.boxes) = True)))))) := by
        by_cases f1 : x.kind = y.kind
        · refine .inr ⟨eq_true f1, ?_⟩
          by_cases f2 : x.name = y.name
          · refine .inr ⟨eq_true f2, ?_⟩
            by_cases f3 : x.form = y.form
            · refine .inr ⟨eq_true f3, ?_⟩
              by_cases f4 : x.boxes = y.boxes
              · exact .inr (eq_true f4)
              · exact .inl (eq_false f4)
            · exact .inl (eq_false f3)
          · exact .inl (eq_false f2)
        · exact .inl (eq_false f1)
      have kcase := Kp.mk hcase
      clear hcase
      repeat' (first | refine ReqK.i (by omega) fun _ => ?_ | simp only [go_sem, reduceIte, reduceCtorEq, Nat.reduceEqDiff, Nat.reduceAdd, Nat.reduceSub, Nat.reduceMul, Nat.reduceDiv, Nat.reduceMod, Nat.reduceLT, Nat.reduceLeDiff, Nat.reduceBEq, Nat.reducePow, Int.reduceLE, Int.reduceLT, Int.reduceEq, Int.reduceNeg, Int.reduceAdd, Int.reduceToNat, h1, h2, hx, hy, hxs, getD_map_lt, Tryd.f22, Q28, Q27, Q26, Q25, Q24, Q23, Q22, Q21, Q20, Q19, Q18, Q17, Q16, Q15, Q14, Q13, Q12, Q11, Q10, Q9, Q8, Q7, Q6, Q5, Q4, Q3, Q2, Q1, Tbl0])
      refine WK_join (ι := Nat × Nat) (fun g => ⟨frL [(2, .ptr (22002, 0) 0), (3, .ptr (22003, 1) 0), (25, .fz (.i .i64 a.conds.length)), (26, .fz (.i .i64 i)), (6, .ptr (22006, g.1) 0), (7, .ptr (22007, g.2) 0)],
        hpL [((22002, 0), some ⟨[.fz (.sl (a.refs.map enc)), .fz (.sl (a.conds.map enc))], true, false⟩), ((22003, 1), some ⟨[.fz (.sl (b.refs.map enc)), .fz (.sl (b.conds.map enc))], true, false⟩),
          ((22006, g.1), some ⟨[.fz (.i .i64 x.kind), .fz (.s x.name.l), .fz (.i .i64 x.form.kind), .fz (.s x.form.name.l), .fz (.sl (x.form.words.map enc)), .fz (.sl (x.form.subs.map enc)), .fz (.sl (x.boxes.map enc))], true, false⟩),
          ((22007, g.2), some ⟨[.fz (.i .i64 y.kind), .fz (.s y.name.l), .fz (.i .i64 y.form.kind), .fz (.s y.form.name.l), .fz (.sl (y.form.words.map enc)), .fz (.sl (y.form.subs.map enc)), .fz (.sl (y.boxes.map enc))], true, false⟩)], m + 1 + 1⟩) (fun g => ?_) (WK_drawG hm kT.out 22000 (lst [1000006]) tree22 (by kernel_rfl) (by kernel_rfl) ?_)
      rotate_left
      · have hlt : i < b.conds.length := h2
        repeat' (first | refine And.intro ?_ ?_ | exact True.intro | refine ReqK.i (by omega) fun _ => ?_ | simp only [go_sem, reduceIte, reduceCtorEq, Nat.reduceEqDiff, Nat.reduceAdd, Nat.reduceSub, Nat.reduceMul, Nat.reduceDiv, Nat.reduceMod, Nat.reduceLT, Nat.reduceLeDiff, Nat.reduceBEq, Nat.reducePow, Int.reduceLE, Int.reduceLT, Int.reduceEq, Int.reduceNeg, Int.reduceAdd, Int.reduceToNat, h1, h2, hx, hy, hxs, getD_map_lt, tree22, Tryd.f22, Q28, Q27, Q26, Q25, Q24, Q23, Q22, Q21, Q20, Q19, Q18, Q17, Q16, Q15, Q14, Q13, Q12, Q11, Q10, Q9, Q8, Q7, Q6, Q5, Q4, Q3, Q2, Q1, Tbl0])
        all_goals first
          | (refine ⟨(m, m + 1), Weak_to ?_ ?_ ?_⟩ <;> simp only [go_sem, reduceIte, reduceCtorEq, Nat.reduceEqDiff, Nat.reduceAdd, Nat.reduceSub, Nat.reduceMul, Nat.reduceDiv, Nat.reduceMod, Nat.reduceLT, Nat.reduceLeDiff, Nat.reduceBEq, Nat.reducePow, Int.reduceLE, Int.reduceLT, Int.reduceEq, Int.reduceNeg, Int.reduceAdd, Int.reduceToNat]; done)
          | (refine ⟨(m + 1, m), Weak_to ?_ ?_ ?_⟩ <;> simp only [go_sem, reduceIte, reduceCtorEq, Nat.reduceEqDiff, Nat.reduceAdd, Nat.reduceSub, Nat.reduceMul, Nat.reduceDiv, Nat.reduceMod, Nat.reduceLT, Nat.reduceLeDiff, Nat.reduceBEq, Nat.reducePow, Int.reduceLE, Int.reduceLT, Int.reduceEq, Int.reduceNeg, Int.reduceAdd, Int.reduceToNat]; done)
      obtain ⟨g1, g2⟩ := g
      clear hlen
      rcases kcase.out with f1 | ⟨f1, f2 | ⟨f2, f3 | ⟨f3, f4 | f4⟩⟩⟩
      all_goals
        repeat' (first | refine ReqK.i (by omega) fun _ => ?_ | simp only [go_sem, reduceIte, reduceCtorEq, Nat.reduceEqDiff, Nat.reduceAdd, Nat.reduceSub, Nat.reduceMul, Nat.reduceDiv, Nat.reduceMod, Nat.reduceLT, Nat.reduceLeDiff, Nat.reduceBEq, Nat.reducePow, Int.reduceLE, Int.reduceLT, Int.reduceEq, Int.reduceNeg, Int.reduceAdd, Int.reduceToNat, h1, h2, hx, hy, hxs, getD_map_lt, Tryd.f22, Q28, Q27, Q26, Q25, Q24, Q23, Q22, Q21, Q20, Q19, Q18, Q17, Q16, Q15, Q14, Q13, Q12, Q11, Q10, Q9, Q8, Q7, Q6, Q5, Q4, Q3, Q2, Q1, Tbl0, *])
        first
        | exact kf.out (kxy.out fun e => by subst e; simp_all)
        | (refine ⟨⟨i + 1, m + 1 + 1, by omega, by omega, ?_⟩, by simp only; omega, ?_⟩
           · rw [List.take_succ_eq_append_getElem h1, List.take_succ_eq_append_getElem h2, hpi, hx, hy, cond_ext (of_eq_true f1) (of_eq_true f2) (of_eq_true f3) (of_eq_true f4)]
           · refine Weak_to ?_ ?_ ?_ <;> simp only [go_sem, reduceIte, reduceCtorEq, Nat.reduceEqDiff, Nat.reduceAdd, Nat.reduceSub, Nat.reduceMul, Nat.reduceDiv, Nat.reduceMod, Nat.reduceLT, Nat.reduceLeDiff, Nat.reduceBEq, Nat.reducePow, Int.reduceLE, Int.reduceLT, Int.reduceEq, Int.reduceNeg, Int.reduceAdd, Int.reduceToNat])
    · have h1' : ¬ i < a.conds.length := by omega
      obtain rfl : i = a.conds.length := by omega
      repeat' (first | refine ReqK.i (by omega) fun _ => ?_ | simp only [go_sem, reduceIte, reduceCtorEq, Nat.reduceEqDiff, Nat.reduceAdd, Nat.reduceSub, Nat.reduceMul, Nat.reduceDiv, Nat.reduceMod, Nat.reduceLT, Nat.reduceLeDiff, Nat.reduceBEq, Nat.reducePow, Int.reduceLE, Int.reduceLT, Int.reduceEq, Int.reduceNeg, Int.reduceAdd, Int.reduceToNat, Nat.lt_irrefl, h1', Tryd.f22])
      exact kt.out (box_ext e1 (eq_of_take hlen hpi))
  · obtain ⟨Q, hQ⟩ : ∃ Q : D → Heap → Nat → Prop, Q = (fun d _ _ => D.val d = some (.fz (enc (decide (a = b))))) := ⟨_, rfl⟩
    rw [← hQ]
    have hf : a ≠ b → ∀ {H' n'}, Q (.fz (.b false)) H' n' := fun h H' n' => by rw [hQ]; show _ = some (D.fz (.b (decide (a = b)))); rw [decide_eq_false h]; rfl
    have ht : a = b → ∀ {H' n'}, Q (.fz (.b true)) H' n' := fun h H' n' => by rw [hQ]; show _ = some (D.fz (.b (decide (a = b)))); rw [decide_eq_true h]; rfl
    have hsl : a.length ≤ maxL := by
      have := Wf_sl hwa
      simpa using this
    unfold maxL at hsl
    have hsz : ∀ x ∈ a, 2 * x.size < n := fun x hx => by have := Box.size_mem hx; omega
    have kf := Kp.mk @hf
    have kt := Kp.mk @ht
    have kz := Kp.mk hsz
    have kT := Kp.mk hT
    clear hf ht hQ hwa hwb hsz hT hn
    refine Wcall_K (N := 27) hm kT.out 25000 (lst []) ok25 Tryd.func25 rfl rfl (by simp) (by kernel_rfl) ?_
    repeat' (first | refine CondK.d (fun _ => ?_) (fun _ => ?_) | refine ReqK.i (by omega) fun _ => ?_ | simp only [go_sem, reduceIte, reduceCtorEq, Nat.reduceEqDiff, Nat.reduceAdd, Nat.reduceSub, Nat.reduceMul, Nat.reduceDiv, Nat.reduceMod, Nat.reduceLT, Nat.reduceLeDiff, Nat.reduceBEq, Nat.reducePow, Int.reduceLE, Int.reduceLT, Int.reduceEq, Int.reduceNeg, Int.reduceAdd, Int.reduceToNat, Tryd.f25, Q28, Q27, Q26, Q25, Q24, Q23, Q22, Q21, Q20, Q19, Q18, Q17, Q16, Q15, Q14, Q13, Q12, Q11, Q10, Q9, Q8, Q7, Q6, Q5, Q4, Q3, Q2, Q1, Tbl0])
    all_goals try (refine kf.out (fun e => ?_); subst e; omega)
    rename_i e1
    have hlen : a.length = b.length := by omega
    refine WK_loop hm kT.out 25000 (lst []) (ι := LoopI a.length fun i => a.take i = b.take i)
      ⟨fun q => ⟨frL [(0, .fz (.sl (a.map enc))), (1, .fz (.sl (b.map enc))), (12, .fz (.i .i64 a.length)), (13, .fz (.i .i64 q.i))], hpL [], 0⟩, fun q => a.length - q.i⟩
      ⟨0, by omega, rfl⟩ (by kernel_rfl) ?_ ?_
    · refine Weak_to ?_ ?_ ?_ <;> simp only [go_sem, reduceIte, reduceCtorEq, Nat.reduceEqDiff, Nat.reduceAdd, Nat.reduceSub, Nat.reduceMul, Nat.reduceDiv, Nat.reduceMod, Nat.reduceLT, Nat.reduceLeDiff, Nat.reduceBEq, Nat.reducePow, Int.reduceLE, Int.reduceLT, Int.reduceEq, Int.reduceNeg, Int.reduceAdd, Int.reduceToNat]
    rintro ⟨i, hi, hpi⟩
    rcases Nat.lt_or_ge i a.length with h1 | h1
    · have h2 : i < b.length := by omega
      obtain ⟨x, hx⟩ : ∃ x, a[i] = x := ⟨_, rfl⟩
      obtain ⟨y, hy⟩ : ∃ y, b[i] = y := ⟨_, rfl⟩
      have hxs : 2 * x.size < n := kz.out x (by rw [← hx]; exact List.getElem_mem h1)
      by_cases hxy : x = y
      · repeat' (first | refine ReqK.i (by omega) fun _ => ?_ | simp only [go_sem, reduceIte, reduceCtorEq, Nat.reduceEqDiff, Nat.reduceAdd, Nat.reduceSub, Nat.reduceMul, Nat.reduceDiv, Nat.reduceMod, Nat.reduceLT, Nat.reduceLeDiff, Nat.reduceBEq, Nat.reducePow, Int.reduceLE, Int.reduceLT, Int.reduceEq, Int.reduceNeg, Int.reduceAdd, Int.reduceToNat, h1, h2, hx, hy, hxs, eq_true hxy, getD_map_lt, Tryd.f25, Q28, Q27, Q26, Q25, Q24, Q23, Q22, Q21, Q20, Q19, Q18, Q17, Q16, Q15, Q14, Q13, Q12, Q11, Q10, Q9, Q8, Q7, Q6, Q5, Q4, Q3, Q2, Q1, Tbl0])
        refine ⟨⟨i + 1, by omega, ?_⟩, by simp only; omega, ?_⟩
        · rw [List.take_succ_eq_append_getElem h1, List.take_succ_eq_append_getElem h2, hpi, hx, hy, hxy]
        · refine Weak_to ?_ ?_ ?_ <;> simp only [go_sem, reduceIte, reduceCtorEq, Nat.reduceEqDiff, Nat.reduceAdd, Nat.reduceSub, Nat.reduceMul, Nat.reduceDiv, Nat.reduceMod, Nat.reduceLT, Nat.reduceLeDiff, Nat.reduceBEq, Nat.reducePow, Int.reduceLE, Int.reduceLT, Int.reduceEq, Int.reduceNeg, Int.reduceAdd, Int.reduceToNat]
      · repeat' (first | refine ReqK.i (by omega) fun _ => ?_ | simp only [go_sem, reduceIte, reduceCtorEq, Nat.reduceEqDiff, Nat.reduceAdd, Nat.reduceSub, Nat.reduceMul, Nat.reduceDiv, Nat.reduceMod, Nat.reduceLT, Nat.reduceLeDiff, Nat.reduceBEq, Nat.reducePow, Int.reduceLE, Int.reduceLT, Int.reduceEq, Int.reduceNeg, Int.reduceAdd, Int.reduceToNat, h1, h2, hx, hy, hxs, eq_false hxy, getD_map_lt, Tryd.f25, Q28, Q27, Q26, Q25, Q24, Q23, Q22, Q21, Q20, Q19, Q18, Q17, Q16, Q15, Q14, Q13, Q12, Q11, Q10, Q9, Q8, Q7, Q6, Q5, Q4, Q3, Q2, Q1, Tbl0])
        exact kf.out fun e => hxy (by subst e; rw [← hx, ← hy])
    · have h1' : ¬ i < a.length := by omega
      obtain rfl : i = a.length := by omega
      repeat' (first | refine ReqK.i (by omega) fun _ => ?_ | simp only [go_sem, reduceIte, reduceCtorEq, Nat.reduceEqDiff, Nat.reduceAdd, Nat.reduceSub, Nat.reduceMul, Nat.reduceDiv, Nat.reduceMod, Nat.reduceLT, Nat.reduceLeDiff, Nat.reduceBEq, Nat.reducePow, Int.reduceLE, Int.reduceLT, Int.reduceEq, Int.reduceNeg, Int.reduceAdd, Int.reduceToNat, Nat.lt_irrefl, h1', Tryd.f25])
      exact kt.out (eq_of_take hlen hpi)
end Go.Proofs.YtomhobohcejocaaDoor
