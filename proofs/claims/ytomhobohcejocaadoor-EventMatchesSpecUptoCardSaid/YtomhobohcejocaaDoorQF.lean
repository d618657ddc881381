/- several texts of this proof in one; no conditions -/
import Derived.Test.YtomhobohcejocaaDoorQE
set_option linter.unusedSimpArgs false
namespace Go.Proofs.YtomhobohcejocaaDoor
open Go Go.Abs Go.Proofs

/-! ## event.change with Split$1 -/
theorem splitBy_size {v : Str} {ps : List Str} (f : Abs.Form) : (splitBy v ps f).size ≤ f.size + 2 * f.words.length + 4 := by
  unfold splitBy
  split
  · have := (splitF_size v f.name f.words).1; omega
  · omega

def tree1266S : Tv := (.q 0 (.q 2 (.q 3 (.br [(1, (.br [(4, (.q 5 (.br [(6, (.q 7 (.br [(8, .leaf)])))])))])), (4, (.q 1 (.q 5 (.br [(6, (.q 7 (.br [(8, .leaf)])))]))))]))))
set_option maxRecDepth 100000 in
set_option maxHeartbeats 1000000 in
set_option maxHeartbeats 8000000 in
theorem f126S {ps : List Str} {ga : Nat} : ∀ (s : Nat) (f : Abs.Form) (n : Nat) (X : Heap), f.size ≤ s → (enc f).Wf → f.fit = true → wfE f → f.size ≤ 100000 → ga < n → (∀ id o, X id = some o → id.2 < n ∧ id.1 ≠ 55003) →
    Wcall Tryd.prog GA 126 [.fz (enc f), .fn 127 [.ptr (55003, ga) 0]] (hpX (HP ps ga) X) n (fun d' H' n' => d' = .fz (enc (changeM (splitBy qM ps) f)) ∧ n ≤ n' ∧ HpOk H' (HP ps ga) ∧ ∀ id o, X id = some o → H' id = some o) := by
  intro s
  induction s with
  | zero => intro f n X hs; have := f.size_pos; omega
  | succ s ih =>
    intro f n X hs hw hfit hwf hsz hga hX
    obtain ⟨R, hR⟩ : ∃ R, changeM (splitBy qM ps) f = R := ⟨_, rfl⟩
    obtain ⟨Q, hQ⟩ : ∃ Q : D → Heap → Nat → Prop, Q = (fun d' H' n' => d' = .fz (enc (changeM (splitBy qM ps) f)) ∧ n ≤ n' ∧ HpOk H' (HP ps ga) ∧ ∀ id o, X id = some o → H' id = some o) := ⟨_, rfl⟩
    obtain ⟨QQ, hQQ⟩ : ∃ QQ : D → Heap → Nat → Prop, QQ = (fun d' H' n' => D.val d' = some (.fz (enc (changeM (splitBy qM ps) f))) ∧ n ≤ n' ∧ HpOk H' (HP ps ga) ∧ ∀ id o, X id = some o → H' id = some o) := ⟨_, rfl⟩
    have hfin : ∀ d H m, QQ d H m → ∃ d' H' n', Weak GA 1 ⟨frL [(0, d)], H, m⟩ ⟨frL [(0, d')], H', n'⟩ ∧ Q d' H' n' := by
      rw [hQQ, hQ]
      rintro d H m ⟨h1, h2, h3, h4⟩
      exact ⟨_, H, m, Weak_val h1, rfl, h2, h3, h4⟩
    rw [← hQ]
    refine Wcall_post (Q := QQ) ?_ hfin
    clear hfin hQ
    rw [hR] at hQQ
    have hX' : ∀ {l : List (Abs.Id × Option O)} (id o), X id = some o → (id.2 < n ∧ id.1 ≠ 55003 → apartL id l) → hpX l X id = some o := fun id o h1 h2 => (hpX_pass (h2 (hX id o h1))).trans h1
    obtain ⟨hwl, hsl, hfs⟩ := Form.fit_eq hfit
    have hsw : ∀ g ∈ f.subs, (enc g).Wf := fun g hg => Wf_mem (Wf_agg (by have h := hw; rw [enc_form] at h; exact h) (FD.sl (f.subs.map enc)) (by simp)) _ (List.mem_map_of_mem hg)
    have hss : ∀ g ∈ f.subs, g.size ≤ s ∧ g.fit = true ∧ wfE g ∧ g.size ≤ 100000 := fun g hg => ⟨by have := Form.size_sub hg; omega, Form.fits_mem hfs hg, wfE_sub hwf g hg, by have := Form.size_sub hg; omega⟩
    obtain ⟨A, hA⟩ : ∃ A : Nat → List Abs.Form, A = fun j => (f.subs.take j).map (changeM (splitBy qM ps)) := ⟨_, rfl⟩
    have hA0 : A 0 = [] := by rw [hA]; rfl
    have hAs : ∀ j (h : j < f.subs.length), A (j + 1) = A j ++ [changeM (splitBy qM ps) f.subs[j]] := fun j h => by rw [hA]; simp only [List.take_succ_eq_append_getElem h, List.map_append, List.map_cons, List.map_nil]
    have hAl : ∀ j, (A j).length ≤ f.subs.length := fun j => by rw [hA]; simp only [List.length_map, List.length_take]; omega
    have hRe : (splitBy qM ps) (.mk f.kind f.name f.words (A f.subs.length)) = R := by rw [← hR, changeM_eq, hA]; simp only [List.take_length]
    have hAf : A f.subs.length = changeMs (splitBy qM ps) f.subs := by rw [hA, changeMs_map]; simp only [List.take_length]
    have hgo : wfE (.mk f.kind f.name f.words (A f.subs.length)) ∧ (Abs.Form.mk f.kind f.name f.words (A f.subs.length)).fit = true := by
      rw [hAf]
      have h5 := wfE_eq.1 hwf
      refine ⟨?_, ?_⟩
      · rw [wfE]
        exact ⟨by rw [changeMs_map, List.length_map]; exact h5.1, by rw [changeMs_map, List.length_map]; exact h5.2.1, h5.2.2.1, changeMs_wfE (fun f h => splitBy_wfE h) f.subs h5.2.2.2⟩
      · rw [Form.fit, changeMs_fit (fun f h => splitBy_fit h) f.subs hfs, changeMs_map, List.length_map, decide_eq_true hwl, decide_eq_true hsl]; rfl
    have kX := Kp.mk @hX'
    have kQ := Kp.mk hQQ
    have kI := Kp.mk ih
    have kS := Kp.mk hsw
    have kZ := Kp.mk hss
    have kx := Kp.mk hX
    have kA := Kp.mk hAs
    have kL := Kp.mk hAl
    have kG := Kp.mk hgo
    have kR := Kp.mk hRe
    clear hX' hQQ ih hsw hss hX hfs hw hfit hA hAs hAl hR hgo hRe hAf
    refine Wcall_K (N := 29) hm hV38 126000 (lsw [23] [1000006]) ok126 Tryd.func126 rfl rfl (by simp) (by kernel_rfl) ?_
    repeat' (first | refine ReqK.i (by omega) fun _ => ?_ | refine ReqK.i (by unfold maxL; omega) fun _ => ?_ | refine ReqK.i (fits_of2 (by first | omega | (simp only [List.length_map, List.length_take, List.length_append, List.length_cons, List.length_nil]; omega)) (by decide)) fun _ => ?_ | simp only [go_sem, reduceIte, reduceCtorEq, Nat.reduceEqDiff, Nat.reduceAdd, Nat.reduceSub, Nat.reduceMul, Nat.reduceDiv, Nat.reduceMod, Nat.reduceLT, Nat.reduceLeDiff, Nat.reduceBEq, Nat.reducePow, Int.reduceLE, Int.reduceLT, Int.reduceEq, Int.reduceNeg, Int.reduceAdd, Int.reduceToNat, HP, Tryd.f126, V38, V37, V36, V35, V34, V33, V32, V31, V30, V29, R28, R27, R22, R21, R20, R19, R18, R17, R16, R15, R14, R13, R12, R11, R10, R9, R8, R7, R6, R5, R4, R3, R2, R1, Q20, Q19, Q18, Q17, Q16, Q15, Q14, Q13, Q12, Q11, Q10, Q9, Q8, Q7, Q6, Q5, Q4, Q3, Q2, Q1, Tbl0])
    refine WK_loop hm hV38 126000 (lsw [23] [1000006]) (ι := LoopX f.subs.length (n + 4) n)
      ⟨fun q => ⟨frL [(1, .fn 127 [.ptr (55003, ga) 0]), (4, .ptr (126004, n + 1) 0), (5, .ptr (126005, n + 1 + 1) 0), (11, .fz (.sl (f.subs.map enc))), (12, .fz (.i .i64 f.subs.length)), (13, .fz (.i .i64 q.i))],
        hpX ([((126004, n + 1), some ⟨[.fz (.i .i64 0), .fz (.s []), .full [], .full []], true, false⟩), ((126005, n + 1 + 1), some ⟨[.fz (.i .i64 f.kind), .fz (.s f.name.l), .fz (.sl (f.words.map enc)), .ow (126023, q.g) 4 ((A q.i).map enc)], true, false⟩), ((126023, q.g), some tok)] ++ HP ps ga) X, q.m⟩, fun q => f.subs.length - q.i⟩
      ⟨0, n + 1 + 1 + 1, n + 1 + 1 + 1 + 1, by omega, by omega, by omega, by omega⟩ (by kernel_rfl) ?_ ?_
    · refine Weak_then (Weak_newvX 126023) (Weak_then (Weak_cellX (id := (126005, n + 1 + 1)) (id2 := (126023, n + 1 + 1 + 1)) (es := 4) (k := 3) (xs := []) (b := true) (by simp only [go_sem, reduceIte, reduceCtorEq, Nat.reduceEqDiff, Nat.reduceAdd, Nat.reduceSub, Nat.reduceMul, Nat.reduceDiv, Nat.reduceMod, Nat.reduceLT, Nat.reduceLeDiff, Nat.reduceBEq, Nat.reducePow, Int.reduceLE, Int.reduceLT, Int.reduceEq, Int.reduceNeg, Int.reduceAdd, Int.reduceToNat]; rfl) (by simp) (by rfl) (by simp only; omega)) ?_)
      refine Weak_toX ?_ ?_ (fun id o ho => ?_) ?_
      · simp only [go_sem, reduceIte, reduceCtorEq, Nat.reduceEqDiff, Nat.reduceAdd, Nat.reduceSub, Nat.reduceMul, Nat.reduceDiv, Nat.reduceMod, Nat.reduceLT, Nat.reduceLeDiff, Nat.reduceBEq, Nat.reducePow, Int.reduceLE, Int.reduceLT, Int.reduceEq, Int.reduceNeg, Int.reduceAdd, Int.reduceToNat]
      · simp only [go_sem, reduceIte, reduceCtorEq, Nat.reduceEqDiff, Nat.reduceAdd, Nat.reduceSub, Nat.reduceMul, Nat.reduceDiv, Nat.reduceMod, Nat.reduceLT, Nat.reduceLeDiff, Nat.reduceBEq, Nat.reducePow, Int.reduceLE, Int.reduceLT, Int.reduceEq, Int.reduceNeg, Int.reduceAdd, Int.reduceToNat, HP, hA0]
      · refine kX.out id o ho fun h1 => ?_
        ((repeat' (first | exact trivial | apply And.intro)) <;> (rintro rfl; simp only at h1; omega))
      · simp only [go_sem, reduceIte, reduceCtorEq, Nat.reduceEqDiff, Nat.reduceAdd, Nat.reduceSub, Nat.reduceMul, Nat.reduceDiv, Nat.reduceMod, Nat.reduceLT, Nat.reduceLeDiff, Nat.reduceBEq, Nat.reducePow, Int.reduceLE, Int.reduceLT, Int.reduceEq, Int.reduceNeg, Int.reduceAdd, Int.reduceToNat]
    rintro ⟨j, g2, m2, hj, hg2, hm2, hgl2⟩
    try simp only at hj hg2 hm2 hgl2
    rcases Nat.lt_or_ge j f.subs.length with h2 | h2
    · have hmem := List.getElem_mem h2
      obtain ⟨x, hx⟩ : ∃ x, f.subs[j] = x := ⟨_, rfl⟩
      have hz := kZ.out _ hmem
      have hwx := kS.out _ hmem
      have hAj := kA.out j h2
      have hAlj := kL.out j
      rw [hx] at hz hwx hAj
      obtain ⟨y, hy⟩ : ∃ y, changeM (splitBy qM ps) x = y := ⟨_, rfl⟩
      rw [hy] at hAj
      have ih2 : ∀ (m3 : Nat), m2 ≤ m3 → _ := fun m3 hm3 => kI.out x m3 (hpX [((126004, n + 1), some ⟨[.fz (.i .i64 0), .fz (.s []), .full [], .full []], true, false⟩), ((126005, n + 1 + 1), some ⟨[.fz (.i .i64 f.kind), .fz (.s f.name.l), .fz (.sl (f.words.map enc)), .ow (126023, g2) 4 ((A j).map enc)], true, false⟩), ((126023, g2), some tok)] X) hz.1 hwx hz.2.1 hz.2.2.1 hz.2.2.2 (by omega) (by
        intro id o ho
        simp only [hpX] at ho
        split at ho
        · rename_i e; subst e; simp only; omega
        split at ho
        · rename_i e; subst e; simp only; omega
        split at ho
        · rename_i e; subst e; simp only; omega
        · have := kx.out id o ho; omega)
      simp only [hy] at ih2
      rw [enc_form (f := x)] at ih2
      obtain ⟨fy, hfy⟩ : ∃ fy, enc y = fy := ⟨_, rfl⟩
      have hcy : fy.cells.length = 4 := by rw [← hfy, enc_form]; rfl
      have hff : (flatFz [fy]).all oneB = true := by rw [← hfy]; have h9 := @flats_forms [y]; exact eq_true h9 ▸ h9
      repeat' (first | refine ReqK.i (by omega) fun _ => ?_ | refine ReqK.i (by unfold maxL; omega) fun _ => ?_ | refine ReqK.i (fits_of2 (by first | omega | (simp only [List.length_map, List.length_take, List.length_append, List.length_cons, List.length_nil]; omega)) (by decide)) fun _ => ?_ | simp only [go_sem, reduceIte, reduceCtorEq, Nat.reduceEqDiff, Nat.reduceAdd, Nat.reduceSub, Nat.reduceMul, Nat.reduceDiv, Nat.reduceMod, Nat.reduceLT, Nat.reduceLeDiff, Nat.reduceBEq, Nat.reducePow, Int.reduceLE, Int.reduceLT, Int.reduceEq, Int.reduceNeg, Int.reduceAdd, Int.reduceToNat, HP, h2, hx, getD_map_lt, Tryd.f126, V38, V37, V36, V35, V34, V33, V32, V31, V30, V29, R28, R27, R22, R21, R20, R19, R18, R17, R16, R15, R14, R13, R12, R11, R10, R9, R8, R7, R6, R5, R4, R3, R2, R1, Q20, Q19, Q18, Q17, Q16, Q15, Q14, Q13, Q12, Q11, Q10, Q9, Q8, Q7, Q6, Q5, Q4, Q3, Q2, Q1, Tbl0])
      refine WK_weak2 (Weak_rpL (id := (126007, m2)) (t := 7) (b := true) (ys := [.i .i64 x.kind, .s x.name.l, .sl (x.words.map enc), .sl (x.subs.map enc)]) (by simp only [go_sem, reduceIte, reduceCtorEq, Nat.reduceEqDiff, Nat.reduceAdd, Nat.reduceSub, Nat.reduceMul, Nat.reduceDiv, Nat.reduceMod, Nat.reduceLT, Nat.reduceLeDiff, Nat.reduceBEq, Nat.reducePow, Int.reduceLE, Int.reduceLT, Int.reduceEq, Int.reduceNeg, Int.reduceAdd, Int.reduceToNat]) (by simp only [go_sem, reduceIte, reduceCtorEq, Nat.reduceEqDiff, Nat.reduceAdd, Nat.reduceSub, Nat.reduceMul, Nat.reduceDiv, Nat.reduceMod, Nat.reduceLT, Nat.reduceLeDiff, Nat.reduceBEq, Nat.reducePow, Int.reduceLE, Int.reduceLT, Int.reduceEq, Int.reduceNeg, Int.reduceAdd, Int.reduceToNat])) ?_
      refine WK_drawV hm hV38 126000 (lsw [23] [1000006]) tree1266S (by kernel_rfl) (by kernel_rfl) ?_
      repeat' (first | refine And.intro ?_ ?_ | exact True.intro | refine ReqK.i (by omega) fun _ => ?_ | refine ReqK.i (by unfold maxL; omega) fun _ => ?_ | refine ReqK.i (fits_of2 (by first | omega | (simp only [List.length_map, List.length_take, List.length_append, List.length_cons, List.length_nil]; omega)) (by decide)) fun _ => ?_ | simp only [go_sem, reduceIte, reduceCtorEq, Nat.reduceEqDiff, Nat.reduceAdd, Nat.reduceSub, Nat.reduceMul, Nat.reduceDiv, Nat.reduceMod, Nat.reduceLT, Nat.reduceLeDiff, Nat.reduceBEq, Nat.reducePow, Int.reduceLE, Int.reduceLT, Int.reduceEq, Int.reduceNeg, Int.reduceAdd, Int.reduceToNat, HP, tree1266S, h2, hx, getD_map_lt, Tryd.f126, V38, V37, V36, V35, V34, V33, V32, V31, V30, V29, R28, R27, R22, R21, R20, R19, R18, R17, R16, R15, R14, R13, R12, R11, R10, R9, R8, R7, R6, R5, R4, R3, R2, R1, Q20, Q19, Q18, Q17, Q16, Q15, Q14, Q13, Q12, Q11, Q10, Q9, Q8, Q7, Q6, Q5, Q4, Q3, Q2, Q1, Tbl0])
      all_goals
        refine WcallK.i (Wcall_toX (by simp only [go_sem, reduceIte, reduceCtorEq, Nat.reduceEqDiff, Nat.reduceAdd, Nat.reduceSub, Nat.reduceMul, Nat.reduceDiv, Nat.reduceMod, Nat.reduceLT, Nat.reduceLeDiff, Nat.reduceBEq, Nat.reducePow, Int.reduceLE, Int.reduceLT, Int.reduceEq, Int.reduceNeg, Int.reduceAdd, Int.reduceToNat, argL]) (by simp only [go_sem, reduceIte, reduceCtorEq, Nat.reduceEqDiff, Nat.reduceAdd, Nat.reduceSub, Nat.reduceMul, Nat.reduceDiv, Nat.reduceMod, Nat.reduceLT, Nat.reduceLeDiff, Nat.reduceBEq, Nat.reducePow, Int.reduceLE, Int.reduceLT, Int.reduceEq, Int.reduceNeg, Int.reduceAdd, Int.reduceToNat, HP]) (fun id o ho => ?_) (Nat.le_refl _) (Wcall_mono (ih2 _ (by omega)) ?_))
        · simp only [hpX] at ho
          split at ho
          · rename_i e; subst e; simp only [go_sem, reduceIte, reduceCtorEq, Nat.reduceEqDiff, Nat.reduceAdd, Nat.reduceSub, Nat.reduceMul, Nat.reduceDiv, Nat.reduceMod, Nat.reduceLT, Nat.reduceLeDiff, Nat.reduceBEq, Nat.reducePow, Int.reduceLE, Int.reduceLT, Int.reduceEq, Int.reduceNeg, Int.reduceAdd, Int.reduceToNat]; exact Option.some.inj ho
          split at ho
          · rename_i e; subst e; simp only [go_sem, reduceIte, reduceCtorEq, Nat.reduceEqDiff, Nat.reduceAdd, Nat.reduceSub, Nat.reduceMul, Nat.reduceDiv, Nat.reduceMod, Nat.reduceLT, Nat.reduceLeDiff, Nat.reduceBEq, Nat.reducePow, Int.reduceLE, Int.reduceLT, Int.reduceEq, Int.reduceNeg, Int.reduceAdd, Int.reduceToNat]; exact Option.some.inj ho
          split at ho
          · rename_i e; subst e; simp only [go_sem, reduceIte, reduceCtorEq, Nat.reduceEqDiff, Nat.reduceAdd, Nat.reduceSub, Nat.reduceMul, Nat.reduceDiv, Nat.reduceMod, Nat.reduceLT, Nat.reduceLeDiff, Nat.reduceBEq, Nat.reducePow, Int.reduceLE, Int.reduceLT, Int.reduceEq, Int.reduceNeg, Int.reduceAdd, Int.reduceToNat]; exact Option.some.inj ho
          · refine kX.out id o ho fun h1 => ?_
            ((repeat' (first | exact trivial | apply And.intro)) <;> (rintro rfl; simp only at h1; omega))
        rintro d' H' n' ⟨rfl, e1, e2, e3⟩
        have c6 := e3 (126004, n + 1) ⟨[.fz (.i .i64 0), .fz (.s []), .full [], .full []], true, false⟩ (by simp only [go_sem, reduceIte, reduceCtorEq, Nat.reduceEqDiff, Nat.reduceAdd, Nat.reduceSub, Nat.reduceMul, Nat.reduceDiv, Nat.reduceMod, Nat.reduceLT, Nat.reduceLeDiff, Nat.reduceBEq, Nat.reducePow, Int.reduceLE, Int.reduceLT, Int.reduceEq, Int.reduceNeg, Int.reduceAdd, Int.reduceToNat])
        have c7 := e3 (126005, n + 1 + 1) ⟨[.fz (.i .i64 f.kind), .fz (.s f.name.l), .fz (.sl (f.words.map enc)), .ow (126023, g2) 4 ((A j).map enc)], true, false⟩ (by simp only [go_sem, reduceIte, reduceCtorEq, Nat.reduceEqDiff, Nat.reduceAdd, Nat.reduceSub, Nat.reduceMul, Nat.reduceDiv, Nat.reduceMod, Nat.reduceLT, Nat.reduceLeDiff, Nat.reduceBEq, Nat.reducePow, Int.reduceLE, Int.reduceLT, Int.reduceEq, Int.reduceNeg, Int.reduceAdd, Int.reduceToNat])
        have c8 := e3 (126023, g2) tok (by simp only [go_sem, reduceIte, reduceCtorEq, Nat.reduceEqDiff, Nat.reduceAdd, Nat.reduceSub, Nat.reduceMul, Nat.reduceDiv, Nat.reduceMod, Nat.reduceLT, Nat.reduceLeDiff, Nat.reduceBEq, Nat.reducePow, Int.reduceLE, Int.reduceLT, Int.reduceEq, Int.reduceNeg, Int.reduceAdd, Int.reduceToNat])
        have hX2 : ∀ id o, X id = some o → H' id = some o := fun id o ho => e3 id o (kX.out id o ho fun h1 => by
          ((repeat' (first | exact trivial | apply And.intro)) <;> (rintro rfl; simp only at h1; omega)))
        clear e3
        simp only [go_sem, reduceIte, reduceCtorEq, Nat.reduceEqDiff, Nat.reduceAdd, Nat.reduceSub, Nat.reduceMul, Nat.reduceDiv, Nat.reduceMod, Nat.reduceLT, Nat.reduceLeDiff, Nat.reduceBEq, Nat.reducePow, Int.reduceLE, Int.reduceLT, Int.reduceEq, Int.reduceNeg, Int.reduceAdd, Int.reduceToNat, HP] at e2
        have c1 := e2
        rw [show H' = hpX [] H' from rfl]
        rw [hfy]
        repeat' (first | refine ReqK.i (by omega) fun _ => ?_ | refine ReqK.i (by unfold maxL; omega) fun _ => ?_ | refine ReqK.i (fits_of2 (by first | omega | (simp only [List.length_map, List.length_take, List.length_append, List.length_cons, List.length_nil]; omega)) (by decide)) fun _ => ?_ | simp only [go_sem, reduceIte, reduceCtorEq, Nat.reduceEqDiff, Nat.reduceAdd, Nat.reduceSub, Nat.reduceMul, Nat.reduceDiv, Nat.reduceMod, Nat.reduceLT, Nat.reduceLeDiff, Nat.reduceBEq, Nat.reducePow, Int.reduceLE, Int.reduceLT, Int.reduceEq, Int.reduceNeg, Int.reduceAdd, Int.reduceToNat, HP, tree1266S, c1, c6, c7, c8, h2, hcy, hff, Tryd.f126, V38, V37, V36, V35, V34, V33, V32, V31, V30, V29, R28, R27, R22, R21, R20, R19, R18, R17, R16, R15, R14, R13, R12, R11, R10, R9, R8, R7, R6, R5, R4, R3, R2, R1, Q20, Q19, Q18, Q17, Q16, Q15, Q14, Q13, Q12, Q11, Q10, Q9, Q8, Q7, Q6, Q5, Q4, Q3, Q2, Q1, Tbl0])
        refine ⟨⟨j + 1, n', n' + 1, by omega, by omega, by omega, by omega⟩, by simp only; omega, ?_⟩
        refine Weak_toX ?_ ?_ (fun id o ho => ?_) ?_
        · simp only [go_sem, reduceIte, reduceCtorEq, Nat.reduceEqDiff, Nat.reduceAdd, Nat.reduceSub, Nat.reduceMul, Nat.reduceDiv, Nat.reduceMod, Nat.reduceLT, Nat.reduceLeDiff, Nat.reduceBEq, Nat.reducePow, Int.reduceLE, Int.reduceLT, Int.reduceEq, Int.reduceNeg, Int.reduceAdd, Int.reduceToNat]
        · simp only [go_sem, reduceIte, reduceCtorEq, Nat.reduceEqDiff, Nat.reduceAdd, Nat.reduceSub, Nat.reduceMul, Nat.reduceDiv, Nat.reduceMod, Nat.reduceLT, Nat.reduceLeDiff, Nat.reduceBEq, Nat.reducePow, Int.reduceLE, Int.reduceLT, Int.reduceEq, Int.reduceNeg, Int.reduceAdd, Int.reduceToNat, HP, c1, c6, c7, c8, hAj, hfy, List.map_append]
        · have h1 := kx.out id o ho
          refine (hpX_pass ?_).trans (hX2 id o ho)
          ((repeat' (first | exact trivial | apply And.intro)) <;> (rintro rfl; simp only at h1; omega))
        · simp only [go_sem, reduceIte, reduceCtorEq, Nat.reduceEqDiff, Nat.reduceAdd, Nat.reduceSub, Nat.reduceMul, Nat.reduceDiv, Nat.reduceMod, Nat.reduceLT, Nat.reduceLeDiff, Nat.reduceBEq, Nat.reducePow, Int.reduceLE, Int.reduceLT, Int.reduceEq, Int.reduceNeg, Int.reduceAdd, Int.reduceToNat]
    · obtain rfl : j = f.subs.length := by omega
      have hE := kG.out
      have hRe := kR.out
      obtain ⟨AA, hAA⟩ : ∃ AA, A f.subs.length = AA := ⟨_, rfl⟩
      rw [hAA] at hE hRe
      repeat' (first | refine ReqK.i (by omega) fun _ => ?_ | refine ReqK.i (by unfold maxL; omega) fun _ => ?_ | refine ReqK.i (fits_of2 (by first | omega | (simp only [List.length_map, List.length_take, List.length_append, List.length_cons, List.length_nil]; omega)) (by decide)) fun _ => ?_ | simp only [go_sem, reduceIte, reduceCtorEq, Nat.reduceEqDiff, Nat.reduceAdd, Nat.reduceSub, Nat.reduceMul, Nat.reduceDiv, Nat.reduceMod, Nat.reduceLT, Nat.reduceLeDiff, Nat.reduceBEq, Nat.reducePow, Int.reduceLE, Int.reduceLT, Int.reduceEq, Int.reduceNeg, Int.reduceAdd, Int.reduceToNat, HP, Nat.lt_irrefl, hAA, str_eta, form_eta, Tryd.f126, V38, V37, V36, V35, V34, V33, V32, V31, V30, V29, R28, R27, R22, R21, R20, R19, R18, R17, R16, R15, R14, R13, R12, R11, R10, R9, R8, R7, R6, R5, R4, R3, R2, R1, Q20, Q19, Q18, Q17, Q16, Q15, Q14, Q13, Q12, Q11, Q10, Q9, Q8, Q7, Q6, Q5, Q4, Q3, Q2, Q1, Tbl0])
      have h127 := f127 (ps := ps) (ga := ga) (.mk f.kind f.name f.words AA) m2 (hpX [((126004, n + 1), some ⟨[.fz (.i .i64 0), .fz (.s []), .full [], .full []], true, false⟩)] X) hE.2 (by omega) (by
        intro id o ho
        simp only [hpX] at ho
        split at ho
        · rename_i e; subst e; simp only; omega
        · have := kx.out id o ho; omega)
      rw [hRe, enc_form (f := .mk f.kind f.name f.words AA)] at h127
      refine WcallK.i (Wcall_hd rfl (Wcall_toX (by simp only [go_sem, reduceIte, reduceCtorEq, Nat.reduceEqDiff, Nat.reduceAdd, Nat.reduceSub, Nat.reduceMul, Nat.reduceDiv, Nat.reduceMod, Nat.reduceLT, Nat.reduceLeDiff, Nat.reduceBEq, Nat.reducePow, Int.reduceLE, Int.reduceLT, Int.reduceEq, Int.reduceNeg, Int.reduceAdd, Int.reduceToNat, argL]) (by simp only [go_sem, reduceIte, reduceCtorEq, Nat.reduceEqDiff, Nat.reduceAdd, Nat.reduceSub, Nat.reduceMul, Nat.reduceDiv, Nat.reduceMod, Nat.reduceLT, Nat.reduceLeDiff, Nat.reduceBEq, Nat.reducePow, Int.reduceLE, Int.reduceLT, Int.reduceEq, Int.reduceNeg, Int.reduceAdd, Int.reduceToNat, HP]) (fun id o ho => ?_) (Nat.le_refl _) (Wcall_mono h127 ?_)))
      · simp only [hpX] at ho
        split at ho
        · rename_i e; subst e; simp only [go_sem, reduceIte, reduceCtorEq, Nat.reduceEqDiff, Nat.reduceAdd, Nat.reduceSub, Nat.reduceMul, Nat.reduceDiv, Nat.reduceMod, Nat.reduceLT, Nat.reduceLeDiff, Nat.reduceBEq, Nat.reducePow, Int.reduceLE, Int.reduceLT, Int.reduceEq, Int.reduceNeg, Int.reduceAdd, Int.reduceToNat]; exact Option.some.inj ho
        · refine kX.out id o ho fun h1 => ?_
          ((repeat' (first | exact trivial | apply And.intro)) <;> (rintro rfl; simp only at h1; omega))
      rintro d' H' n' ⟨rfl, e1, e2, e3⟩
      have c6 := e3 (126004, n + 1) ⟨[.fz (.i .i64 0), .fz (.s []), .full [], .full []], true, false⟩ (by simp only [go_sem, reduceIte, reduceCtorEq, Nat.reduceEqDiff, Nat.reduceAdd, Nat.reduceSub, Nat.reduceMul, Nat.reduceDiv, Nat.reduceMod, Nat.reduceLT, Nat.reduceLeDiff, Nat.reduceBEq, Nat.reducePow, Int.reduceLE, Int.reduceLT, Int.reduceEq, Int.reduceNeg, Int.reduceAdd, Int.reduceToNat])
      have hX2 : ∀ id o, X id = some o → H' id = some o := fun id o ho => e3 id o (kX.out id o ho fun h1 => by
        ((repeat' (first | exact trivial | apply And.intro)) <;> (rintro rfl; simp only at h1; omega)))
      clear e3
      simp only [go_sem, reduceIte, reduceCtorEq, Nat.reduceEqDiff, Nat.reduceAdd, Nat.reduceSub, Nat.reduceMul, Nat.reduceDiv, Nat.reduceMod, Nat.reduceLT, Nat.reduceLeDiff, Nat.reduceBEq, Nat.reducePow, Int.reduceLE, Int.reduceLT, Int.reduceEq, Int.reduceNeg, Int.reduceAdd, Int.reduceToNat, HP] at e2
      have c1 := e2
      rw [show H' = hpX [] H' from rfl]
      repeat' (first | refine ReqK.i (by omega) fun _ => ?_ | refine ReqK.i (by unfold maxL; omega) fun _ => ?_ | refine ReqK.i (fits_of2 (by first | omega | (simp only [List.length_map, List.length_take, List.length_append, List.length_cons, List.length_nil]; omega)) (by decide)) fun _ => ?_ | simp only [go_sem, reduceIte, reduceCtorEq, Nat.reduceEqDiff, Nat.reduceAdd, Nat.reduceSub, Nat.reduceMul, Nat.reduceDiv, Nat.reduceMod, Nat.reduceLT, Nat.reduceLeDiff, Nat.reduceBEq, Nat.reducePow, Int.reduceLE, Int.reduceLT, Int.reduceEq, Int.reduceNeg, Int.reduceAdd, Int.reduceToNat, c1, c6, form_eta, Tryd.f126, V38, V37, V36, V35, V34, V33, V32, V31, V30, V29, R28, R27, R22, R21, R20, R19, R18, R17, R16, R15, R14, R13, R12, R11, R10, R9, R8, R7, R6, R5, R4, R3, R2, R1, Q20, Q19, Q18, Q17, Q16, Q15, Q14, Q13, Q12, Q11, Q10, Q9, Q8, Q7, Q6, Q5, Q4, Q3, Q2, Q1, Tbl0])
      rw [kQ.out]
      refine ⟨?_, by omega, ?_, fun id o ho => ?_⟩
      · simp only [go_sem, reduceIte, reduceCtorEq, Nat.reduceEqDiff, Nat.reduceAdd, Nat.reduceSub, Nat.reduceMul, Nat.reduceDiv, Nat.reduceMod, Nat.reduceLT, Nat.reduceLeDiff, Nat.reduceBEq, Nat.reducePow, Int.reduceLE, Int.reduceLT, Int.reduceEq, Int.reduceNeg, Int.reduceAdd, Int.reduceToNat, form_eta]
      · simp only [go_sem, reduceIte, reduceCtorEq, Nat.reduceEqDiff, Nat.reduceAdd, Nat.reduceSub, Nat.reduceMul, Nat.reduceDiv, Nat.reduceMod, Nat.reduceLT, Nat.reduceLeDiff, Nat.reduceBEq, Nat.reducePow, Int.reduceLE, Int.reduceLT, Int.reduceEq, Int.reduceNeg, Int.reduceAdd, Int.reduceToNat, HP, c1]
      · have h1 := kx.out id o ho
        refine (hpX_pass ?_).trans (hX2 id o ho)
        ((repeat' (first | exact trivial | apply And.intro)) <;> (rintro rfl; simp only at h1; omega))
end Go.Proofs.YtomhobohcejocaaDoor

namespace Go.Proofs.YtomhobohcejocaaDoor
open Go Go.Abs Go.Proofs

/-! ## event.Merge and event.Split -/
theorem merges_ok {f : Abs.Form} (h : (checkM false f).code = 0) : szPre (changeM mergeBy f) := by
  refine ⟨changeM_fit (fun f h => mergeBy_fit h) f (checkM_fit h), ?_⟩
  have h1 := changeM_size (c := 0) (fun f => mergeBy_size f) f
  have h2 := checkM_size h
  omega
mutual
/-- no predicate has more than three arguments, nor anything more than a thousand words -/
def w3 : Abs.Form → Prop
  | .mk k _ ws s => (k = 2 → ws.length ≤ 3) ∧ w3s s
def w3s : List Abs.Form → Prop
  | [] => True
  | f :: fs => w3 f ∧ w3s fs
end
mutual
theorem chk_w3 {op : Bool} : ∀ (f : Abs.Form) (d : Int) (n : Nat), (chk op f d n).1.code = 0 → w3 f
  | .mk k nm w s, d, n, h => by
    rw [chk] at h
    split at h
    · rename_i h1; exact absurd h h1
    · rename_i h1
      have h2 := (nodeC_words (Decidable.not_not.1 h1)).2.2.2.1
      rw [w3]
      refine ⟨fun e => ?_, chks_w3 s _ _ h⟩
      subst e
      rw [show wordsOk (.mk 2 nm w s) = decide (w.length ≤ 3) from rfl] at h2
      exact of_decide_eq_true h2
theorem chks_w3 {op : Bool} : ∀ (fs : List Abs.Form) (d : Int) (n : Nat), (chks op fs d n).1.code = 0 → w3s fs
  | [], d, n, _ => by rw [w3s]; trivial
  | f :: fs, d, n, h => by
    rw [chks] at h
    split at h
    · rename_i h1; exact absurd h h1
    · rename_i h1
      rw [w3s]
      exact ⟨chk_w3 f d n (Decidable.not_not.1 h1), chks_w3 fs d _ h⟩
end
theorem checkM_w3 {op : Bool} {f : Abs.Form} (h : (checkM op f).code = 0) : w3 f := chk_w3 f 1 0 h
theorem w3_sub {f : Abs.Form} (h : w3 f) : (f.kind = 2 → f.words.length ≤ 3) ∧ ∀ g ∈ f.subs, w3 g := by
  have hm : ∀ l : List Abs.Form, w3s l → ∀ g ∈ l, w3 g := by
    intro l
    induction l with
    | nil => intro _ g hg; simp at hg
    | cons a l ih =>
      intro hl g hg
      rw [w3s] at hl
      rcases List.mem_cons.1 hg with rfl | hg
      · exact hl.1
      · exact ih hl.2 g hg
  cases f with
  | mk k nm ws s => rw [w3] at h; exact ⟨h.1, hm s h.2⟩
mutual
theorem split_sz {v : Str} {ps : List Str} : ∀ f : Abs.Form, w3 f → (changeM (splitBy v ps) f).size ≤ f.size * 10
  | .mk k nm ws s, h => by
    rw [w3] at h
    have h2 := split_szs (v := v) (ps := ps) s h.2
    rw [changeM, splitBy_mk, Form.size]
    split
    · rename_i hc
      have := (splitF_size v nm ws).1
      have := h.1 hc.1
      omega
    · rw [Form.size]; omega
theorem split_szs {v : Str} {ps : List Str} : ∀ fs : List Abs.Form, w3s fs → Form.sizes (changeMs (splitBy v ps) fs) ≤ Form.sizes fs * 10
  | [], _ => by rw [changeMs, Form.sizes]; omega
  | f :: fs, h => by
    rw [w3s] at h
    rw [changeMs, Form.sizes, Form.sizes]
    have h1 := split_sz (v := v) (ps := ps) f h.1
    have h2 := split_szs (v := v) (ps := ps) fs h.2
    omega
end
theorem splits_ok {v : Str} {ps : List Str} {f : Abs.Form} (h : (checkM false f).code = 0) : szPre (changeM (splitBy v ps) f) := by
  refine ⟨changeM_fit (fun f h => splitBy_fit h) f (checkM_fit h), ?_⟩
  have h1 := split_sz (v := v) (ps := ps) f (checkM_w3 h)
  have h2 := checkM_size h
  omega
def mergeP (f : Abs.Form) : Abs.Form × Fault := if (checkM false f).code ≠ 0 then (zeroF, checkM false f) else (doneF (changeM mergeBy f), doneE (changeM mergeBy f))
def V39 : Tbl := V38.add 56 (sp1p mergeP fun _ => True)
set_option maxRecDepth 100000 in
set_option maxHeartbeats 1000000 in
theorem hV39 : TblOk Tryd.prog GA V39 := by
  refine sp1p_ok ok56 hV38 fun f _ hw => ?_
  by_cases hc1 : ¬ (checkM false f).code = 0
  · have e1 : mergeP f = (zeroF, checkM false f) := by unfold mergeP; rw [if_pos hc1]
    simp only [e1, zeroF]
    refine Wcall_K (N := 17) hm hV38 56000 (lst [1000003]) ok56 Tryd.func56 rfl rfl (by simp) (by kernel_rfl) ?_
    repeat' (first | refine WK_drawV hm hV38 56000 (lst [1000003]) tree503 (by kernel_rfl) (by kernel_rfl) ?_ | refine And.intro ?_ ?_ | exact True.intro | refine ReqK.i (by omega) fun _ => ?_ | refine ReqK.i (by unfold maxL; omega) fun _ => ?_ | simp only [go_sem, reduceIte, reduceCtorEq, Nat.reduceEqDiff, Nat.reduceAdd, Nat.reduceSub, Nat.reduceMul, Nat.reduceDiv, Nat.reduceMod, Nat.reduceLT, Nat.reduceLeDiff, Nat.reduceBEq, Nat.reducePow, Int.reduceLE, Int.reduceLT, Int.reduceEq, Int.reduceNeg, Int.reduceAdd, Int.reduceToNat, hc1, form_eta, tree503, Tryd.f56, V38, V37, V36, V35, V34, V33, V32, V31, V30, V29, R28, R27, R22, R21, R20, R19, R18, R17, R16, R15, R14, R13, R12, R11, R10, R9, R8, R7, R6, R5, R4, R3, R2, R1, Q20, Q19, Q18, Q17, Q16, Q15, Q14, Q13, Q12, Q11, Q10, Q9, Q8, Q7, Q6, Q5, Q4, Q3, Q2, Q1, Tbl0])
  · have hc1 := Decidable.not_not.1 hc1
    have hck := checkM_code hc1
    have e1 : mergeP f = (doneF (changeM mergeBy f), doneE (changeM mergeBy f)) := by unfold mergeP; rw [if_neg (by simp [hc1])]
    have hs := merges_ok hc1
    have h126 := f126M f.size f 4 (hpL [((56002, 1), some ⟨[.fz (.i .i64 0), .fz (.s []), .full [], .full []], true, false⟩), ((56003, 2), some ⟨[.fz (.i .i64 0), .fz (.i .i64 0)], true, false⟩)]) (Nat.le_refl _) hw (checkM_fit hc1) (checkM_wfE hc1) (by have := checkM_size hc1; omega) (fun id o ho => by
      simp only [hpL] at ho
      split at ho
      · rename_i e; subst e; simp only; omega
      split at ho
      · rename_i e; subst e; simp only; omega
      · cases ho)
    rw [enc_form (f := f)] at h126
    obtain ⟨g, hg⟩ : ∃ g, changeM mergeBy f = g := ⟨_, rfl⟩
    rw [hg] at e1 hs h126
    obtain ⟨c, hc⟩ : ∃ c, doneF g = c := ⟨_, rfl⟩
    simp only [e1, hc]
    refine Wcall_K (N := 17) hm hV38 56000 (lst [1000003]) ok56 Tryd.func56 rfl rfl (by simp) (by kernel_rfl) ?_
    repeat' (first | refine ReqK.i (by omega) fun _ => ?_ | refine ReqK.i (by unfold maxL; omega) fun _ => ?_ | simp only [go_sem, reduceIte, reduceCtorEq, Nat.reduceEqDiff, Nat.reduceAdd, Nat.reduceSub, Nat.reduceMul, Nat.reduceDiv, Nat.reduceMod, Nat.reduceLT, Nat.reduceLeDiff, Nat.reduceBEq, Nat.reducePow, Int.reduceLE, Int.reduceLT, Int.reduceEq, Int.reduceNeg, Int.reduceAdd, Int.reduceToNat, hc1, hck, form_eta, Tryd.f56, V38, V37, V36, V35, V34, V33, V32, V31, V30, V29, R28, R27, R22, R21, R20, R19, R18, R17, R16, R15, R14, R13, R12, R11, R10, R9, R8, R7, R6, R5, R4, R3, R2, R1, Q20, Q19, Q18, Q17, Q16, Q15, Q14, Q13, Q12, Q11, Q10, Q9, Q8, Q7, Q6, Q5, Q4, Q3, Q2, Q1, Tbl0])
    refine WcallK.i (Wcall_hd rfl (Wcall_toX (hl := []) (by simp only [go_sem, reduceIte, reduceCtorEq, Nat.reduceEqDiff, Nat.reduceAdd, Nat.reduceSub, Nat.reduceMul, Nat.reduceDiv, Nat.reduceMod, Nat.reduceLT, Nat.reduceLeDiff, Nat.reduceBEq, Nat.reducePow, Int.reduceLE, Int.reduceLT, Int.reduceEq, Int.reduceNeg, Int.reduceAdd, Int.reduceToNat, argL]) trivial (fun id o ho => ?_) (Nat.le_refl _) (Wcall_mono h126 ?_)))
    · simp only [hpL] at ho
      split at ho
      · rename_i e; subst e; simp only [go_sem, reduceIte, reduceCtorEq, Nat.reduceEqDiff, Nat.reduceAdd, Nat.reduceSub, Nat.reduceMul, Nat.reduceDiv, Nat.reduceMod, Nat.reduceLT, Nat.reduceLeDiff, Nat.reduceBEq, Nat.reducePow, Int.reduceLE, Int.reduceLT, Int.reduceEq, Int.reduceNeg, Int.reduceAdd, Int.reduceToNat]; exact Option.some.inj ho
      split at ho
      · rename_i e; subst e; simp only [go_sem, reduceIte, reduceCtorEq, Nat.reduceEqDiff, Nat.reduceAdd, Nat.reduceSub, Nat.reduceMul, Nat.reduceDiv, Nat.reduceMod, Nat.reduceLT, Nat.reduceLeDiff, Nat.reduceBEq, Nat.reducePow, Int.reduceLE, Int.reduceLT, Int.reduceEq, Int.reduceNeg, Int.reduceAdd, Int.reduceToNat]; exact Option.some.inj ho
      · cases ho
    rintro d' H' n1 ⟨rfl, e1, e3⟩
    have b2 := e3 (56002, 1) ⟨[.fz (.i .i64 0), .fz (.s []), .full [], .full []], true, false⟩ (by simp only [go_sem, reduceIte, reduceCtorEq, Nat.reduceEqDiff, Nat.reduceAdd, Nat.reduceSub, Nat.reduceMul, Nat.reduceDiv, Nat.reduceMod, Nat.reduceLT, Nat.reduceLeDiff, Nat.reduceBEq, Nat.reducePow, Int.reduceLE, Int.reduceLT, Int.reduceEq, Int.reduceNeg, Int.reduceAdd, Int.reduceToNat])
    have b3 := e3 (56003, 2) ⟨[.fz (.i .i64 0), .fz (.i .i64 0)], true, false⟩ (by simp only [go_sem, reduceIte, reduceCtorEq, Nat.reduceEqDiff, Nat.reduceAdd, Nat.reduceSub, Nat.reduceMul, Nat.reduceDiv, Nat.reduceMod, Nat.reduceLT, Nat.reduceLeDiff, Nat.reduceBEq, Nat.reducePow, Int.reduceLE, Int.reduceLT, Int.reduceEq, Int.reduceNeg, Int.reduceAdd, Int.reduceToNat])
    clear e3
    rw [show H' = hpX [] H' from rfl, enc_form (f := g)]
    repeat' (first | refine ReqK.i hs fun _ => ?_ | refine ReqK.i (by omega) fun _ => ?_ | refine ReqK.i (by unfold maxL; omega) fun _ => ?_ | simp only [go_sem, reduceIte, reduceCtorEq, Nat.reduceEqDiff, Nat.reduceAdd, Nat.reduceSub, Nat.reduceMul, Nat.reduceDiv, Nat.reduceMod, Nat.reduceLT, Nat.reduceLeDiff, Nat.reduceBEq, Nat.reducePow, Int.reduceLE, Int.reduceLT, Int.reduceEq, Int.reduceNeg, Int.reduceAdd, Int.reduceToNat, b2, b3, hc, form_eta, Tryd.f56, V38, V37, V36, V35, V34, V33, V32, V31, V30, V29, R28, R27, R22, R21, R20, R19, R18, R17, R16, R15, R14, R13, R12, R11, R10, R9, R8, R7, R6, R5, R4, R3, R2, R1, Q20, Q19, Q18, Q17, Q16, Q15, Q14, Q13, Q12, Q11, Q10, Q9, Q8, Q7, Q6, Q5, Q4, Q3, Q2, Q1, Tbl0])

def splitP (f : Abs.Form) (ps : List Str) : Abs.Form × Fault := if (checkM false f).code ≠ 0 then (zeroF, checkM false f) else if 300 < ps.length then (zeroF, ⟨2, -2⟩) else if ps.all isName = false then (zeroF, ⟨10, -2⟩) else (doneF (changeM (splitBy qM ps) f), doneE (changeM (splitBy qM ps) f))
theorem all_take {ps : List Str} {i : Nat} (h : i < ps.length) : (ps.take (i + 1)).all isName = ((ps.take i).all isName && isName ps[i]) := by
  rw [List.take_succ_eq_append_getElem h, List.all_append]; simp
theorem all_bad_at {ps : List Str} {i : Nat} (h : i < ps.length) (hb : isName ps[i] = false) : ps.all isName = false := by
  cases ha : ps.all isName with
  | false => rfl
  | true => rw [List.all_eq_true.1 ha _ (List.getElem_mem h)] at hb; cases hb
def V40 : Tbl := V39.add 55 (sp2p splitP fun _ _ => True)
set_option maxRecDepth 100000 in
set_option maxHeartbeats 1000000 in
set_option maxHeartbeats 8000000 in
theorem hV40 : TblOk Tryd.prog GA V40 := by
  refine sp2p_ok ok55 hV39 fun f ps _ hw hwp => ?_
  have la := Wf_sl hwp
  simp only [List.length_map, maxL] at la
  by_cases hc1 : ¬ (checkM false f).code = 0
  · have e1 : splitP f ps = (zeroF, checkM false f) := by unfold splitP; rw [if_pos hc1]
    simp only [e1, zeroF]
    refine Wcall_K (N := 39) hm hV39 55000 (lst [1000003]) ok55 Tryd.func55 rfl rfl (by simp) (by kernel_rfl) ?_
    repeat' (first | refine WK_drawV hm hV39 55000 (lst [1000003]) tree503 (by kernel_rfl) (by kernel_rfl) ?_ | refine And.intro ?_ ?_ | exact True.intro | refine ReqK.i (by omega) fun _ => ?_ | refine ReqK.i (by unfold maxL; omega) fun _ => ?_ | simp only [go_sem, reduceIte, reduceCtorEq, Nat.reduceEqDiff, Nat.reduceAdd, Nat.reduceSub, Nat.reduceMul, Nat.reduceDiv, Nat.reduceMod, Nat.reduceLT, Nat.reduceLeDiff, Nat.reduceBEq, Nat.reducePow, Int.reduceLE, Int.reduceLT, Int.reduceEq, Int.reduceNeg, Int.reduceAdd, Int.reduceToNat, hc1, form_eta, tree503, Tryd.f55, V39, V38, V37, V36, V35, V34, V33, V32, V31, V30, V29, R28, R27, R22, R21, R20, R19, R18, R17, R16, R15, R14, R13, R12, R11, R10, R9, R8, R7, R6, R5, R4, R3, R2, R1, Q20, Q19, Q18, Q17, Q16, Q15, Q14, Q13, Q12, Q11, Q10, Q9, Q8, Q7, Q6, Q5, Q4, Q3, Q2, Q1, Tbl0])
  have hc1 := Decidable.not_not.1 hc1
  have hck := checkM_code hc1
  by_cases hc2 : 300 < ps.length
  · have e1 : splitP f ps = (zeroF, ⟨2, -2⟩) := by unfold splitP; rw [if_neg (by simp [hc1]), if_pos hc2]
    have hc2' : (300 < (ps.length : Int)) = True := eq_true (by omega)
    simp only [e1, zeroF]
    refine Wcall_K (N := 39) hm hV39 55000 (lst [1000003]) ok55 Tryd.func55 rfl rfl (by simp) (by kernel_rfl) ?_
    repeat' (first | refine ReqK.i (by omega) fun _ => ?_ | refine ReqK.i (by unfold maxL; omega) fun _ => ?_ | simp only [go_sem, reduceIte, reduceCtorEq, Nat.reduceEqDiff, Nat.reduceAdd, Nat.reduceSub, Nat.reduceMul, Nat.reduceDiv, Nat.reduceMod, Nat.reduceLT, Nat.reduceLeDiff, Nat.reduceBEq, Nat.reducePow, Int.reduceLE, Int.reduceLT, Int.reduceEq, Int.reduceNeg, Int.reduceAdd, Int.reduceToNat, hc1, hck, hc2', form_eta, Tryd.f55, V39, V38, V37, V36, V35, V34, V33, V32, V31, V30, V29, R28, R27, R22, R21, R20, R19, R18, R17, R16, R15, R14, R13, R12, R11, R10, R9, R8, R7, R6, R5, R4, R3, R2, R1, Q20, Q19, Q18, Q17, Q16, Q15, Q14, Q13, Q12, Q11, Q10, Q9, Q8, Q7, Q6, Q5, Q4, Q3, Q2, Q1, Tbl0])
  have hc2' : (300 < (ps.length : Int)) = False := eq_false (by omega)
  have e0 : splitP f ps = if ps.all isName = false then (zeroF, ⟨10, -2⟩) else (doneF (changeM (splitBy qM ps) f), doneE (changeM (splitBy qM ps) f)) := by unfold splitP; rw [if_neg (by simp [hc1]), if_neg hc2]
  have hs := splits_ok (v := qM) (ps := ps) hc1
  have h126 := f126S (ps := ps) (ga := 1) f.size f 5 (hpL [((55004, 2), some ⟨[.fz (.i .i64 0), .fz (.s []), .full [], .full []], true, false⟩), ((55005, 3), some ⟨[.fz (.i .i64 0), .fz (.i .i64 0)], true, false⟩)]) (Nat.le_refl _) hw (checkM_fit hc1) (checkM_wfE hc1) (by have := checkM_size hc1; omega) (by omega) (fun id o ho => by
    simp only [hpL] at ho
    split at ho
    · rename_i e; subst e; simp only; omega
    split at ho
    · rename_i e; subst e; simp only; omega
    · cases ho)
  rw [enc_form (f := f)] at h126
  obtain ⟨g, hg⟩ : ∃ g, changeM (splitBy qM ps) f = g := ⟨_, rfl⟩
  rw [hg] at e0 hs h126
  obtain ⟨c, hc⟩ : ∃ c, doneF g = c := ⟨_, rfl⟩
  rw [hc] at e0
  refine Wcall_K (N := 39) hm hV39 55000 (lst [1000003]) ok55 Tryd.func55 rfl rfl (by simp) (by kernel_rfl) ?_
  repeat' (first | refine ReqK.i (by omega) fun _ => ?_ | refine ReqK.i (by unfold maxL; omega) fun _ => ?_ | simp only [go_sem, reduceIte, reduceCtorEq, Nat.reduceEqDiff, Nat.reduceAdd, Nat.reduceSub, Nat.reduceMul, Nat.reduceDiv, Nat.reduceMod, Nat.reduceLT, Nat.reduceLeDiff, Nat.reduceBEq, Nat.reducePow, Int.reduceLE, Int.reduceLT, Int.reduceEq, Int.reduceNeg, Int.reduceAdd, Int.reduceToNat, hc1, hck, hc2', form_eta, Tryd.f55, V39, V38, V37, V36, V35, V34, V33, V32, V31, V30, V29, R28, R27, R22, R21, R20, R19, R18, R17, R16, R15, R14, R13, R12, R11, R10, R9, R8, R7, R6, R5, R4, R3, R2, R1, Q20, Q19, Q18, Q17, Q16, Q15, Q14, Q13, Q12, Q11, Q10, Q9, Q8, Q7, Q6, Q5, Q4, Q3, Q2, Q1, Tbl0])
  refine WK_loop hm hV39 55000 (lst [1000003]) (ι := LoopI ps.length fun i => (ps.take i).all isName = true)
    ⟨fun q => ⟨frL [(2, .ptr (55002, 0) 0), (3, .ptr (55003, 1) 0), (4, .ptr (55004, 2) 0), (5, .ptr (55005, 3) 0), (21, .fz (.sl (ps.map enc))), (22, .fz (.i .i64 ps.length)), (23, .fz (.i .i64 q.i))],
      hpL [((55002, 0), some ⟨[.fz (.i .i64 f.kind), .fz (.s f.name.l), .fz (.sl (f.words.map enc)), .fz (.sl (f.subs.map enc))], true, false⟩), ((55003, 1), some ⟨[.fz (.sl (ps.map enc))], true, false⟩), ((55004, 2), some ⟨[.fz (.i .i64 0), .fz (.s []), .full [], .full []], true, false⟩), ((55005, 3), some ⟨[.fz (.i .i64 0), .fz (.i .i64 0)], true, false⟩)], 5⟩, fun q => ps.length - q.i⟩
    ⟨0, by omega, rfl⟩ (by kernel_rfl) ?_ ?_
  · refine Weak_to ?_ ?_ ?_ <;> simp only [go_sem, reduceIte, reduceCtorEq, Nat.reduceEqDiff, Nat.reduceAdd, Nat.reduceSub, Nat.reduceMul, Nat.reduceDiv, Nat.reduceMod, Nat.reduceLT, Nat.reduceLeDiff, Nat.reduceBEq, Nat.reducePow, Int.reduceLE, Int.reduceLT, Int.reduceEq, Int.reduceNeg, Int.reduceAdd, Int.reduceToNat]
  rintro ⟨i, hi, hal⟩
  try simp only at hi hal
  rcases Nat.lt_or_ge i ps.length with h1 | h1
  · have hat := all_take h1
    have hbd := all_bad_at h1
    obtain ⟨w, hwi⟩ : ∃ w, ps[i] = w := ⟨_, rfl⟩
    rw [hwi] at hat hbd
    cases hn : isName w with
    | true =>
      repeat' (first | refine ReqK.i (by omega) fun _ => ?_ | refine ReqK.i (by unfold maxL; omega) fun _ => ?_ | simp only [go_sem, reduceIte, reduceCtorEq, Nat.reduceEqDiff, Nat.reduceAdd, Nat.reduceSub, Nat.reduceMul, Nat.reduceDiv, Nat.reduceMod, Nat.reduceLT, Nat.reduceLeDiff, Nat.reduceBEq, Nat.reducePow, Int.reduceLE, Int.reduceLT, Int.reduceEq, Int.reduceNeg, Int.reduceAdd, Int.reduceToNat, h1, hwi, hn, str_eta, getD_map_lt, Tryd.f55, V39, V38, V37, V36, V35, V34, V33, V32, V31, V30, V29, R28, R27, R22, R21, R20, R19, R18, R17, R16, R15, R14, R13, R12, R11, R10, R9, R8, R7, R6, R5, R4, R3, R2, R1, Q20, Q19, Q18, Q17, Q16, Q15, Q14, Q13, Q12, Q11, Q10, Q9, Q8, Q7, Q6, Q5, Q4, Q3, Q2, Q1, Tbl0])
      refine ⟨⟨i + 1, by omega, by rw [hat, hal, hn]; rfl⟩, by simp only; omega, ?_⟩
      refine Weak_to ?_ ?_ ?_ <;> simp only [go_sem, reduceIte, reduceCtorEq, Nat.reduceEqDiff, Nat.reduceAdd, Nat.reduceSub, Nat.reduceMul, Nat.reduceDiv, Nat.reduceMod, Nat.reduceLT, Nat.reduceLeDiff, Nat.reduceBEq, Nat.reducePow, Int.reduceLE, Int.reduceLT, Int.reduceEq, Int.reduceNeg, Int.reduceAdd, Int.reduceToNat]
    | false =>
      rw [if_pos (hbd hn)] at e0
      repeat' (first | refine ReqK.i (by omega) fun _ => ?_ | refine ReqK.i (by unfold maxL; omega) fun _ => ?_ | simp only [go_sem, reduceIte, reduceCtorEq, Nat.reduceEqDiff, Nat.reduceAdd, Nat.reduceSub, Nat.reduceMul, Nat.reduceDiv, Nat.reduceMod, Nat.reduceLT, Nat.reduceLeDiff, Nat.reduceBEq, Nat.reducePow, Int.reduceLE, Int.reduceLT, Int.reduceEq, Int.reduceNeg, Int.reduceAdd, Int.reduceToNat, h1, hwi, hn, e0, zeroF, str_eta, getD_map_lt, Tryd.f55, V39, V38, V37, V36, V35, V34, V33, V32, V31, V30, V29, R28, R27, R22, R21, R20, R19, R18, R17, R16, R15, R14, R13, R12, R11, R10, R9, R8, R7, R6, R5, R4, R3, R2, R1, Q20, Q19, Q18, Q17, Q16, Q15, Q14, Q13, Q12, Q11, Q10, Q9, Q8, Q7, Q6, Q5, Q4, Q3, Q2, Q1, Tbl0])
  obtain rfl : i = ps.length := by omega
  rw [List.take_length] at hal
  rw [if_neg (by simp [hal])] at e0
  repeat' (first | refine ReqK.i (by omega) fun _ => ?_ | refine ReqK.i (by unfold maxL; omega) fun _ => ?_ | simp only [go_sem, reduceIte, reduceCtorEq, Nat.reduceEqDiff, Nat.reduceAdd, Nat.reduceSub, Nat.reduceMul, Nat.reduceDiv, Nat.reduceMod, Nat.reduceLT, Nat.reduceLeDiff, Nat.reduceBEq, Nat.reducePow, Int.reduceLE, Int.reduceLT, Int.reduceEq, Int.reduceNeg, Int.reduceAdd, Int.reduceToNat, Nat.lt_irrefl, form_eta, Tryd.f55, V39, V38, V37, V36, V35, V34, V33, V32, V31, V30, V29, R28, R27, R22, R21, R20, R19, R18, R17, R16, R15, R14, R13, R12, R11, R10, R9, R8, R7, R6, R5, R4, R3, R2, R1, Q20, Q19, Q18, Q17, Q16, Q15, Q14, Q13, Q12, Q11, Q10, Q9, Q8, Q7, Q6, Q5, Q4, Q3, Q2, Q1, Tbl0])
  refine WcallK.i (Wcall_hd rfl (Wcall_toX (by simp only [go_sem, reduceIte, reduceCtorEq, Nat.reduceEqDiff, Nat.reduceAdd, Nat.reduceSub, Nat.reduceMul, Nat.reduceDiv, Nat.reduceMod, Nat.reduceLT, Nat.reduceLeDiff, Nat.reduceBEq, Nat.reducePow, Int.reduceLE, Int.reduceLT, Int.reduceEq, Int.reduceNeg, Int.reduceAdd, Int.reduceToNat, argL]) (by simp only [go_sem, reduceIte, reduceCtorEq, Nat.reduceEqDiff, Nat.reduceAdd, Nat.reduceSub, Nat.reduceMul, Nat.reduceDiv, Nat.reduceMod, Nat.reduceLT, Nat.reduceLeDiff, Nat.reduceBEq, Nat.reducePow, Int.reduceLE, Int.reduceLT, Int.reduceEq, Int.reduceNeg, Int.reduceAdd, Int.reduceToNat, HP]) (fun id o ho => ?_) (Nat.le_refl _) (Wcall_mono h126 ?_)))
  · simp only [hpL] at ho
    split at ho
    · rename_i e; subst e; simp only [go_sem, reduceIte, reduceCtorEq, Nat.reduceEqDiff, Nat.reduceAdd, Nat.reduceSub, Nat.reduceMul, Nat.reduceDiv, Nat.reduceMod, Nat.reduceLT, Nat.reduceLeDiff, Nat.reduceBEq, Nat.reducePow, Int.reduceLE, Int.reduceLT, Int.reduceEq, Int.reduceNeg, Int.reduceAdd, Int.reduceToNat]; exact Option.some.inj ho
    split at ho
    · rename_i e; subst e; simp only [go_sem, reduceIte, reduceCtorEq, Nat.reduceEqDiff, Nat.reduceAdd, Nat.reduceSub, Nat.reduceMul, Nat.reduceDiv, Nat.reduceMod, Nat.reduceLT, Nat.reduceLeDiff, Nat.reduceBEq, Nat.reducePow, Int.reduceLE, Int.reduceLT, Int.reduceEq, Int.reduceNeg, Int.reduceAdd, Int.reduceToNat]; exact Option.some.inj ho
    · cases ho
  rintro d' H' n1 ⟨rfl, e1, e2, e3⟩
  have b2 := e3 (55004, 2) ⟨[.fz (.i .i64 0), .fz (.s []), .full [], .full []], true, false⟩ (by simp only [go_sem, reduceIte, reduceCtorEq, Nat.reduceEqDiff, Nat.reduceAdd, Nat.reduceSub, Nat.reduceMul, Nat.reduceDiv, Nat.reduceMod, Nat.reduceLT, Nat.reduceLeDiff, Nat.reduceBEq, Nat.reducePow, Int.reduceLE, Int.reduceLT, Int.reduceEq, Int.reduceNeg, Int.reduceAdd, Int.reduceToNat])
  have b3 := e3 (55005, 3) ⟨[.fz (.i .i64 0), .fz (.i .i64 0)], true, false⟩ (by simp only [go_sem, reduceIte, reduceCtorEq, Nat.reduceEqDiff, Nat.reduceAdd, Nat.reduceSub, Nat.reduceMul, Nat.reduceDiv, Nat.reduceMod, Nat.reduceLT, Nat.reduceLeDiff, Nat.reduceBEq, Nat.reducePow, Int.reduceLE, Int.reduceLT, Int.reduceEq, Int.reduceNeg, Int.reduceAdd, Int.reduceToNat])
  clear e3 e2
  rw [show H' = hpX [] H' from rfl, enc_form (f := g)]
  repeat' (first | refine ReqK.i hs fun _ => ?_ | refine ReqK.i (by omega) fun _ => ?_ | refine ReqK.i (by unfold maxL; omega) fun _ => ?_ | simp only [go_sem, reduceIte, reduceCtorEq, Nat.reduceEqDiff, Nat.reduceAdd, Nat.reduceSub, Nat.reduceMul, Nat.reduceDiv, Nat.reduceMod, Nat.reduceLT, Nat.reduceLeDiff, Nat.reduceBEq, Nat.reducePow, Int.reduceLE, Int.reduceLT, Int.reduceEq, Int.reduceNeg, Int.reduceAdd, Int.reduceToNat, b2, b3, hc, e0, form_eta, Tryd.f55, V39, V38, V37, V36, V35, V34, V33, V32, V31, V30, V29, R28, R27, R22, R21, R20, R19, R18, R17, R16, R15, R14, R13, R12, R11, R10, R9, R8, R7, R6, R5, R4, R3, R2, R1, Q20, Q19, Q18, Q17, Q16, Q15, Q14, Q13, Q12, Q11, Q10, Q9, Q8, Q7, Q6, Q5, Q4, Q3, Q2, Q1, Tbl0])
end Go.Proofs.YtomhobohcejocaaDoor

namespace Go.Proofs.YtomhobohcejocaaDoor
open Go Go.Abs Go.Proofs

/-! ## the document's Merges -/
def tree575 : Tv := (.q 0 (.q 1 (.q 2 (.q 3 (.q 4 (.q 5 (.q 6 (.q 7 (.q 8 (.br [(9, (.q 10 (.br [(11, .leaf)])))]))))))))))
def tree5720 : Tv := (.q 0 (.q 1 (.q 2 (.q 3 (.q 4 (.q 5 (.q 6 (.br [(7, (.q 8 (.br [(9, .leaf)])))]))))))))
def mgPre (f : Abs.Form) : Prop := wfE f ∧ f.fit = true ∧ f.size ≤ 100000
theorem nameE_ne {f : Abs.Form} (h : wfE f) (ho : okE f = true) : nameE f ≠ ⟨[]⟩ := by
  unfold nameE; rw [if_pos ho]
  intro e; exact headE_name h ho (by rw [e])
def V41 : Tbl := V40.add 57 (sp1 (changeM mergeBy) mgPre)
set_option maxRecDepth 100000 in
set_option maxHeartbeats 1000000 in
set_option maxHeartbeats 8000000 in
theorem hV41 : TblOk Tryd.prog GA V41 := by
  refine sp1_rec Form.size ok57 hV40 fun n hT f hn hpre hw => ?_
  obtain ⟨hwf, hfit, hsz⟩ := hpre
  obtain ⟨hwl, hsl, hfs⟩ := Form.fit_eq hfit
  have hsb : ∀ g ∈ f.subs, g.size < n ∧ mgPre g := fun g hg => ⟨by have := Form.size_sub hg; omega, wfE_sub hwf g hg, Form.fits_mem hfs hg, by have := Form.size_sub hg; omega⟩
  obtain ⟨A, hA⟩ : ∃ A : Nat → List Abs.Form, A = fun j => (f.subs.take j).map (changeM mergeBy) := ⟨_, rfl⟩
  have hA0 : A 0 = [] := by rw [hA]; rfl
  have hAs : ∀ j (h : j < f.subs.length), A (j + 1) = A j ++ [changeM mergeBy f.subs[j]] := fun j h => by rw [hA]; simp only [List.take_succ_eq_append_getElem h, List.map_append, List.map_cons, List.map_nil]
  have hAl : ∀ j, (A j).length ≤ f.subs.length := fun j => by rw [hA]; simp only [List.length_map, List.length_take]; omega
  obtain ⟨AA, hAA⟩ : ∃ AA, A f.subs.length = AA := ⟨_, rfl⟩
  have hAf : AA = changeMs mergeBy f.subs := by rw [← hAA, hA, changeMs_map]; simp only [List.take_length]
  obtain ⟨G, hG⟩ : ∃ G, Abs.Form.mk f.kind f.name f.words AA = G := ⟨_, rfl⟩
  have hR : changeM mergeBy f = mergeBy G := by rw [changeM_eq, ← hG, ← hAA, hA]; simp only [List.take_length]
  have hwG : wfE G := by
    have h5 := wfE_eq.1 hwf
    rw [← hG, hAf, wfE]
    exact ⟨by rw [changeMs_map, List.length_map]; exact h5.1, by rw [changeMs_map, List.length_map]; exact h5.2.1, h5.2.2.1, changeMs_wfE (fun f h => mergeBy_wfE h) f.subs h5.2.2.2⟩
  have hsG : G.size ≤ 1000000 := by
    have h6 := changeMs_size (c := 0) (by' := mergeBy) (fun f => mergeBy_size f) f.subs
    have h7 : f.size = Form.sizes f.subs + 1 := by cases f; rw [Form.size]; rfl
    rw [← hG, hAf, Form.size]; omega
  have hE : evPre G := ⟨hwG, hsG⟩
  have gk : G.kind = f.kind := by rw [← hG]; rfl
  have gn : G.name = f.name := by rw [← hG]; rfl
  have gs : G.subs = AA := by rw [← hG]; rfl
  have gw : G.words = f.words := by rw [← hG]; rfl
  rw [hR]
  have kT := Kp.mk hT
  have kz := Kp.mk hsb
  have kA := Kp.mk hAs
  have kL := Kp.mk hAl
  clear hT hsb hA hAs hAl hR hw hfit hfs hAf hn hwf
  refine Wcall_K (N := 112) hm kT.out 57000 (lsw [32, 109] [1000005, 1000020]) ok57 Tryd.func57 rfl rfl (by simp) (by kernel_rfl) ?_
  repeat' (first | refine ReqK.i (by omega) fun _ => ?_ | refine ReqK.i (by unfold maxL; omega) fun _ => ?_ | refine ReqK.i (fits_of2 (by first | omega | (simp only [List.length_map, List.length_take, List.length_append, List.length_cons, List.length_nil]; omega)) (by decide)) fun _ => ?_ | simp only [go_sem, reduceIte, reduceCtorEq, Nat.reduceEqDiff, Nat.reduceAdd, Nat.reduceSub, Nat.reduceMul, Nat.reduceDiv, Nat.reduceMod, Nat.reduceLT, Nat.reduceLeDiff, Nat.reduceBEq, Nat.reducePow, Int.reduceLE, Int.reduceLT, Int.reduceEq, Int.reduceNeg, Int.reduceAdd, Int.reduceToNat, Tryd.f57, V40, V39, V38, V37, V36, V35, V34, V33, V32, V31, V30, V29, R28, R27, R22, R21, R20, R19, R18, R17, R16, R15, R14, R13, R12, R11, R10, R9, R8, R7, R6, R5, R4, R3, R2, R1, Q20, Q19, Q18, Q17, Q16, Q15, Q14, Q13, Q12, Q11, Q10, Q9, Q8, Q7, Q6, Q5, Q4, Q3, Q2, Q1, Tbl0])
  refine WK_weak2 (Weak_rpL (id := (57001, 0)) (t := 1) (b := true) (ys := [.i .i64 f.kind, .s f.name.l, .sl (f.words.map enc), .sl (f.subs.map enc)]) (by simp only [go_sem, reduceIte, reduceCtorEq, Nat.reduceEqDiff, Nat.reduceAdd, Nat.reduceSub, Nat.reduceMul, Nat.reduceDiv, Nat.reduceMod, Nat.reduceLT, Nat.reduceLeDiff, Nat.reduceBEq, Nat.reducePow, Int.reduceLE, Int.reduceLT, Int.reduceEq, Int.reduceNeg, Int.reduceAdd, Int.reduceToNat]) (by simp only [go_sem, reduceIte, reduceCtorEq, Nat.reduceEqDiff, Nat.reduceAdd, Nat.reduceSub, Nat.reduceMul, Nat.reduceDiv, Nat.reduceMod, Nat.reduceLT, Nat.reduceLeDiff, Nat.reduceBEq, Nat.reducePow, Int.reduceLE, Int.reduceLT, Int.reduceEq, Int.reduceNeg, Int.reduceAdd, Int.reduceToNat])) ?_
  refine WK_loop hm kT.out 57000 (lsw [32, 109] [1000005, 1000020]) (ι := LoopG f.subs.length 4 fun _ => True)
    ⟨fun q => ⟨frL [(1, .rp [.i .i64 f.kind, .s f.name.l, .sl (f.words.map enc), .sl (f.subs.map enc)]), (2, .ptr (57002, 1) 0), (3, .ptr (57003, 2) 0), (19, .fz (.i .i64 f.subs.length)), (20, .fz (.i .i64 q.i))],
      hpL [((57002, 1), some ⟨[.fz (.i .i64 0), .fz (.s []), .full [], .full []], true, false⟩), ((57003, 2), some ⟨[.fz (.i .i64 f.kind), .fz (.s f.name.l), .fz (.sl (f.words.map enc)), .ow (57032, q.g) 4 ((A q.i).map enc)], true, false⟩), ((57032, q.g), some tok)], q.m⟩, fun q => f.subs.length - q.i⟩
    ⟨0, 3, 4, by omega, by omega, by omega, trivial⟩ (by kernel_rfl) ?_ ?_
  · refine Weak_g [] [(57032, 3)] [] ?_ ?_ ?_ ?_ ?_ <;> simp only [go_sem, reduceIte, reduceCtorEq, Nat.reduceEqDiff, Nat.reduceAdd, Nat.reduceSub, Nat.reduceMul, Nat.reduceDiv, Nat.reduceMod, Nat.reduceLT, Nat.reduceLeDiff, Nat.reduceBEq, Nat.reducePow, Int.reduceLE, Int.reduceLT, Int.reduceEq, Int.reduceNeg, Int.reduceAdd, Int.reduceToNat, hA0]
    all_goals first | done | rfl | omega | trace_state
  rintro ⟨j, g, m, hj, hg, hm1, _⟩
  try simp only at hj hg hm1
  rcases Nat.lt_or_ge j f.subs.length with h1 | h1
  · have hs := kA.out j h1
    have hl := kL.out j
    have hz := kz.out _ (List.getElem_mem h1)
    obtain ⟨x, hx⟩ : ∃ x, f.subs[j] = x := ⟨_, rfl⟩
    rw [hx] at hs hz
    obtain ⟨y, hy⟩ : ∃ y, changeM mergeBy x = y := ⟨_, rfl⟩
    rw [hy] at hs
    repeat' (first | refine ReqK.i (by omega) fun _ => ?_ | refine ReqK.i (by unfold maxL; omega) fun _ => ?_ | refine ReqK.i (fits_of2 (by first | omega | (simp only [List.length_map, List.length_take, List.length_append, List.length_cons, List.length_nil]; omega)) (by decide)) fun _ => ?_ | simp only [go_sem, reduceIte, reduceCtorEq, Nat.reduceEqDiff, Nat.reduceAdd, Nat.reduceSub, Nat.reduceMul, Nat.reduceDiv, Nat.reduceMod, Nat.reduceLT, Nat.reduceLeDiff, Nat.reduceBEq, Nat.reducePow, Int.reduceLE, Int.reduceLT, Int.reduceEq, Int.reduceNeg, Int.reduceAdd, Int.reduceToNat, h1, hx, getD_map_lt, Tryd.f57, V40, V39, V38, V37, V36, V35, V34, V33, V32, V31, V30, V29, R28, R27, R22, R21, R20, R19, R18, R17, R16, R15, R14, R13, R12, R11, R10, R9, R8, R7, R6, R5, R4, R3, R2, R1, Q20, Q19, Q18, Q17, Q16, Q15, Q14, Q13, Q12, Q11, Q10, Q9, Q8, Q7, Q6, Q5, Q4, Q3, Q2, Q1, Tbl0])
    refine WK_drawV hm kT.out 57000 (lsw [32, 109] [1000005, 1000020]) tree575 (by kernel_rfl) (by kernel_rfl) ?_
    repeat' (first | refine And.intro ?_ ?_ | exact True.intro | refine ReqK.i hz fun _ => ?_ | refine ReqK.i (by omega) fun _ => ?_ | refine ReqK.i (by unfold maxL; omega) fun _ => ?_ | refine ReqK.i (fits_of2 (by first | omega | (simp only [List.length_map, List.length_take, List.length_append, List.length_cons, List.length_nil]; omega)) (by decide)) fun _ => ?_ | simp only [go_sem, reduceIte, reduceCtorEq, Nat.reduceEqDiff, Nat.reduceAdd, Nat.reduceSub, Nat.reduceMul, Nat.reduceDiv, Nat.reduceMod, Nat.reduceLT, Nat.reduceLeDiff, Nat.reduceBEq, Nat.reducePow, Int.reduceLE, Int.reduceLT, Int.reduceEq, Int.reduceNeg, Int.reduceAdd, Int.reduceToNat, tree575, h1, hx, hy, form_eta, getD_map_lt, Tryd.f57, V40, V39, V38, V37, V36, V35, V34, V33, V32, V31, V30, V29, R28, R27, R22, R21, R20, R19, R18, R17, R16, R15, R14, R13, R12, R11, R10, R9, R8, R7, R6, R5, R4, R3, R2, R1, Q20, Q19, Q18, Q17, Q16, Q15, Q14, Q13, Q12, Q11, Q10, Q9, Q8, Q7, Q6, Q5, Q4, Q3, Q2, Q1, Tbl0])
    all_goals
      refine ⟨⟨j + 1, m, m + 5, by omega, by omega, by omega, trivial⟩, by simp only; omega, ?_⟩
      refine Weak_to ?_ ?_ ?_ <;> (try simp only [go_sem, reduceIte, reduceCtorEq, Nat.reduceEqDiff, Nat.reduceAdd, Nat.reduceSub, Nat.reduceMul, Nat.reduceDiv, Nat.reduceMod, Nat.reduceLT, Nat.reduceLeDiff, Nat.reduceBEq, Nat.reducePow, Int.reduceLE, Int.reduceLT, Int.reduceEq, Int.reduceNeg, Int.reduceAdd, Int.reduceToNat, hs, List.map_append])
      all_goals first | done | omega | rfl | trace_state
  obtain rfl : j = f.subs.length := by omega
  have hGm : Abs.Form.mk f.kind ⟨f.name.l⟩ f.words AA = G := hG
  cases hok : okE G with
  | false =>
    have e2 : mergeOk G = false := by unfold mergeOk; rw [hok]; rfl
    have en : nameE G = ⟨[]⟩ := by unfold nameE; rw [hok]; rfl
    have enl : (nameE G).l = [] := by rw [en]
    rw [mergeBy_no e2]
    repeat' (first | refine ReqK.i hE fun _ => ?_ | refine ReqK.i ⟨by omega, by omega⟩ fun _ => ?_ | refine ReqK.i (by omega) fun _ => ?_ | refine ReqK.i (by unfold maxL; omega) fun _ => ?_ | refine ReqK.i (fits_of2 (by first | omega | (simp only [List.length_map, List.length_take, List.length_append, List.length_cons, List.length_nil]; omega)) (by decide)) fun _ => ?_ | simp only [go_sem, reduceIte, reduceCtorEq, Nat.reduceEqDiff, Nat.reduceAdd, Nat.reduceSub, Nat.reduceMul, Nat.reduceDiv, Nat.reduceMod, Nat.reduceLT, Nat.reduceLeDiff, Nat.reduceBEq, Nat.reducePow, Int.reduceLE, Int.reduceLT, Int.reduceEq, Int.reduceNeg, Int.reduceAdd, Int.reduceToNat, Nat.lt_irrefl, hAA, hGm, hG, en, enl, gk, gn, gs, gw, str_eta, form_eta, Tryd.f57, V40, V39, V38, V37, V36, V35, V34, V33, V32, V31, V30, V29, R28, R27, R22, R21, R20, R19, R18, R17, R16, R15, R14, R13, R12, R11, R10, R9, R8, R7, R6, R5, R4, R3, R2, R1, Q20, Q19, Q18, Q17, Q16, Q15, Q14, Q13, Q12, Q11, Q10, Q9, Q8, Q7, Q6, Q5, Q4, Q3, Q2, Q1, Tbl0])
  | true =>
    have hk := (okE_kind hok).1
    have hkf : f.kind = 9 := by rw [← gk]; exact hk
    have hnn := nameE_ne hwG hok
    have en : nameE G = (headE G).name := by unfold nameE; rw [if_pos hok]
    obtain ⟨a, ha⟩ := one_of ((wfE_eq.1 hwG).2.1 hk)
    rw [gs] at ha
    have hGa : Abs.Form.mk f.kind f.name f.words [a] = G := by rw [← ha]; exact hG
    have hpa : evPre a := ⟨wfE_sub hwG a (by rw [gs, ha]; simp), by have := Form.size_sub (f := G) (g := a) (by rw [gs, ha]; simp); omega⟩
    have hpe : listM a = partsE G := by unfold partsE; rw [gs, ha]; rfl
    obtain ⟨nmE, hnm⟩ : ∃ nmE, nameE G = nmE := ⟨_, rfl⟩
    rw [hnm] at hnn en
    have hnn' : (nmE.l = []) = False := eq_false fun e => hnn (by cases nmE; simp only at e; rw [e])
    by_cases h2 : (partsE G).length < 2
    · have e2 : mergeOk G = false := by unfold mergeOk; rw [decide_eq_false (show ¬ 2 ≤ (partsE G).length by omega)]; simp
      have h2' : (((partsE G).length : Int) < 2) = True := eq_true (by omega)
      rw [mergeBy_no e2]
      repeat' (first | refine ReqK.i hE fun _ => ?_ | refine ReqK.i hpa fun _ => ?_ | refine ReqK.i ⟨by omega, by omega⟩ fun _ => ?_ | refine ReqK.i (by omega) fun _ => ?_ | refine ReqK.i (by unfold maxL; omega) fun _ => ?_ | refine ReqK.i (fits_of2 (by first | omega | (simp only [List.length_map, List.length_take, List.length_append, List.length_cons, List.length_nil]; omega)) (by decide)) fun _ => ?_ | simp only [go_sem, reduceIte, reduceCtorEq, Nat.reduceEqDiff, Nat.reduceAdd, Nat.reduceSub, Nat.reduceMul, Nat.reduceDiv, Nat.reduceMod, Nat.reduceLT, Nat.reduceLeDiff, Nat.reduceBEq, Nat.reducePow, Int.reduceLE, Int.reduceLT, Int.reduceEq, Int.reduceNeg, Int.reduceAdd, Int.reduceToNat, Nat.lt_irrefl, hAA, hGa, hGm, hG, hnm, hnn', ha, hpe, h2', gk, gn, gs, gw, str_eta, form_eta, Tryd.f57, V40, V39, V38, V37, V36, V35, V34, V33, V32, V31, V30, V29, R28, R27, R22, R21, R20, R19, R18, R17, R16, R15, R14, R13, R12, R11, R10, R9, R8, R7, R6, R5, R4, R3, R2, R1, Q20, Q19, Q18, Q17, Q16, Q15, Q14, Q13, Q12, Q11, Q10, Q9, Q8, Q7, Q6, Q5, Q4, Q3, Q2, Q1, Tbl0])
    by_cases h4 : 4 < (partsE G).length
    · have e2 : mergeOk G = false := by unfold mergeOk; rw [decide_eq_false (show ¬ (partsE G).length ≤ 4 by omega)]; simp
      have h2' : (((partsE G).length : Int) < 2) = False := eq_false (by omega)
      have h4' : (4 < ((partsE G).length : Int)) = True := eq_true (by omega)
      rw [mergeBy_no e2]
      repeat' (first | refine ReqK.i hE fun _ => ?_ | refine ReqK.i hpa fun _ => ?_ | refine ReqK.i ⟨by omega, by omega⟩ fun _ => ?_ | refine ReqK.i (by omega) fun _ => ?_ | refine ReqK.i (by unfold maxL; omega) fun _ => ?_ | refine ReqK.i (fits_of2 (by first | omega | (simp only [List.length_map, List.length_take, List.length_append, List.length_cons, List.length_nil]; omega)) (by decide)) fun _ => ?_ | simp only [go_sem, reduceIte, reduceCtorEq, Nat.reduceEqDiff, Nat.reduceAdd, Nat.reduceSub, Nat.reduceMul, Nat.reduceDiv, Nat.reduceMod, Nat.reduceLT, Nat.reduceLeDiff, Nat.reduceBEq, Nat.reducePow, Int.reduceLE, Int.reduceLT, Int.reduceEq, Int.reduceNeg, Int.reduceAdd, Int.reduceToNat, Nat.lt_irrefl, hAA, hGa, hGm, hG, hnm, hnn', ha, hpe, h2', h4', gk, gn, gs, gw, str_eta, form_eta, Tryd.f57, V40, V39, V38, V37, V36, V35, V34, V33, V32, V31, V30, V29, R28, R27, R22, R21, R20, R19, R18, R17, R16, R15, R14, R13, R12, R11, R10, R9, R8, R7, R6, R5, R4, R3, R2, R1, Q20, Q19, Q18, Q17, Q16, Q15, Q14, Q13, Q12, Q11, Q10, Q9, Q8, Q7, Q6, Q5, Q4, Q3, Q2, Q1, Tbl0])
    have h2' : (((partsE G).length : Int) < 2) = False := eq_false (by omega)
    have h4' : (4 < ((partsE G).length : Int)) = False := eq_false (by omega)
    obtain ⟨L, hL⟩ : ∃ L, partsE G = L := ⟨_, rfl⟩
    have hat : ∀ i (h : i + 1 < L.length), (partsE G).getD (i + 1) defF = L[i + 1] := fun i h => by
      rw [hL, List.getD_eq_getElem?_getD, List.getElem?_eq_getElem h]; rfl
    have hbad : ∀ i (h : i + 1 < L.length), goodE G i L[i + 1] = false → mergeBy G = G := fun i h hg => mergeBy_no (mergeOk_bad (i := i) (by rw [hL]; omega) (by rw [hat i h]; exact hg))
    have hws : ∀ i (h : i + 1 < L.length), wordsN G (i + 1) = wordsN G i ++ [L[i + 1].words.getD 1 ⟨[]⟩] := fun i h => by rw [wordsN_succ, hat i h]
    have hgs : ∀ i (h : i + 1 < L.length), goodN G i = true → goodE G i L[i + 1] = true → goodN G (i + 1) = true := fun i h h1 h3 => by rw [goodN, h1, hat i h, h3]; rfl
    have hend : goodN G (L.length - 1) = true → mergeBy G = .mk 2 nmE (wordsN G (L.length - 1)) [] := fun h => by
      unfold mergeBy mergeOk
      rw [hL, hok, h, decide_eq_true (show 2 ≤ L.length by rw [← hL]; omega), decide_eq_true (show L.length ≤ 4 by rw [← hL]; omega), en]
      rfl
    rw [hL] at hpe h2 h4 h2' h4'
    obtain ⟨W, hW⟩ : ∃ W : Nat → List Str, W = wordsN G := ⟨_, rfl⟩
    have hW0 : W 0 = [] := by rw [hW]; rfl
    have hWl : ∀ i, (W i).length = i := fun i => by rw [hW]; exact wordsN_len G i
    rw [← hW] at hend hws
    obtain ⟨K, hK⟩ : ∃ K, L.length = K + 1 := ⟨L.length - 1, by omega⟩
    rw [hK, Nat.add_sub_cancel] at hend
    have kb := Kp.mk hbad
    have kw := Kp.mk hws
    have kg := Kp.mk hgs
    have ke := Kp.mk hend
    clear hbad hws hgs hend hat hW en hL
    repeat' (first | refine ReqK.i hE fun _ => ?_ | refine ReqK.i hpa fun _ => ?_ | refine ReqK.i ⟨by omega, by omega⟩ fun _ => ?_ | refine ReqK.i (by omega) fun _ => ?_ | refine ReqK.i (by unfold maxL; omega) fun _ => ?_ | refine ReqK.i (fits_of2 (by first | omega | (simp only [List.length_map, List.length_take, List.length_append, List.length_cons, List.length_nil]; omega)) (by decide)) fun _ => ?_ | simp only [go_sem, reduceIte, reduceCtorEq, Nat.reduceEqDiff, Nat.reduceAdd, Nat.reduceSub, Nat.reduceMul, Nat.reduceDiv, Nat.reduceMod, Nat.reduceLT, Nat.reduceLeDiff, Nat.reduceBEq, Nat.reducePow, Int.reduceLE, Int.reduceLT, Int.reduceEq, Int.reduceNeg, Int.reduceAdd, Int.reduceToNat, Nat.lt_irrefl, hAA, hGa, hGm, hG, hnm, hnn', ha, hpe, h2', h4', gk, gn, gs, gw, str_eta, form_eta, Tryd.f57, V40, V39, V38, V37, V36, V35, V34, V33, V32, V31, V30, V29, R28, R27, R22, R21, R20, R19, R18, R17, R16, R15, R14, R13, R12, R11, R10, R9, R8, R7, R6, R5, R4, R3, R2, R1, Q20, Q19, Q18, Q17, Q16, Q15, Q14, Q13, Q12, Q11, Q10, Q9, Q8, Q7, Q6, Q5, Q4, Q3, Q2, Q1, Tbl0])
    refine WK_loop hm kT.out 57000 (lsw [32, 109] [1000005, 1000020]) (ι := LoopG K (m + 2) fun i => goodN G i = true)
      ⟨fun q => ⟨frL [(2, .ptr (57002, 1) 0), (3, .ptr (57003, 2) 0), (6, .fz (.sl (L.map enc))), (7, .ptr (57007, m) 0), (8, .fz (.i .i64 ((q.i + 1 : Nat) : Int)))],
        hpL [((57002, 1), some ⟨[.fz (.i .i64 0), .fz (.s []), .full [], .full []], true, false⟩), ((57003, 2), some ⟨[.fz (.i .i64 f.kind), .fz (.s f.name.l), .fz (.sl (f.words.map enc)), .fz (.sl (AA.map enc))], true, false⟩), ((57007, m), some ⟨[.fz (.i .i64 2), .fz (.s nmE.l), .ow (57109, q.g) 1 ((W q.i).map enc), .full []], true, false⟩), ((57109, q.g), some tok)], q.m⟩, fun q => K - q.i⟩
      ⟨0, m + 1, m + 2, by omega, by omega, by omega, rfl⟩ (by kernel_rfl) ?_ ?_
    · refine Weak_g [] [(57109, m + 1)] [] ?_ ?_ ?_ ?_ ?_ <;> simp only [go_sem, reduceIte, reduceCtorEq, Nat.reduceEqDiff, Nat.reduceAdd, Nat.reduceSub, Nat.reduceMul, Nat.reduceDiv, Nat.reduceMod, Nat.reduceLT, Nat.reduceLeDiff, Nat.reduceBEq, Nat.reducePow, Int.reduceLE, Int.reduceLT, Int.reduceEq, Int.reduceNeg, Int.reduceAdd, Int.reduceToNat, hW0, ha, hAA]
      all_goals first | done | rfl | omega | trace_state
    rintro ⟨i, g4, m4, hi, hg4, hm4, hgd⟩
    try simp only at hi hg4 hm4 hgd
    rcases Nat.lt_or_ge i K with h5 | h5
    · have h5' : i + 1 < L.length := by omega
      have h6 : ((i : Int) + 1 < (L.length : Int)) = True := eq_true (by omega)
      have h7 : (0 ≤ (i : Int) + 1) = True := eq_true (by omega)
      have h8 : ((i : Int) + 1).toNat = i + 1 := by omega
      have h9 : (i : Int) + 1 - 1 = (i : Int) := by omega
      have hb := kb.out i h5'
      have hw := kw.out i h5'
      have hgg := kg.out i h5' hgd
      have hwl2 := hWl i
      obtain ⟨x, hxi⟩ : ∃ x, L[i + 1] = x := ⟨_, rfl⟩
      rw [hxi] at hb hw hgg
      unfold goodE at hb hgg
      by_cases c1 : x.kind = 2
      · by_cases c2 : x.name = argS i
        · by_cases c3 : x.words.length = 2
          · obtain ⟨u, v, huv⟩ : ∃ u v, x.words = [u, v] := by
              match h : x.words, c3 with
              | [u, v], _ => exact ⟨u, v, rfl⟩
            by_cases c4 : u = G.name
            · by_cases c5 : v = G.name
              · rw [hb (by simp [huv, c5])]
                rw [gn] at c4 c5
                repeat' (first | refine ReqK.i hE fun _ => ?_ | refine ReqK.i hpa fun _ => ?_ | refine ReqK.i ⟨by omega, by omega⟩ fun _ => ?_ | refine ReqK.i (by omega) fun _ => ?_ | refine ReqK.i (by unfold maxL; omega) fun _ => ?_ | refine ReqK.i (fits_of2 (by first | omega | (simp only [List.length_map, List.length_take, List.length_append, List.length_cons, List.length_nil]; omega)) (by decide)) fun _ => ?_ | simp only [go_sem, reduceIte, reduceCtorEq, Nat.reduceEqDiff, Nat.reduceAdd, Nat.reduceSub, Nat.reduceMul, Nat.reduceDiv, Nat.reduceMod, Nat.reduceLT, Nat.reduceLeDiff, Nat.reduceBEq, Nat.reducePow, Int.reduceLE, Int.reduceLT, Int.reduceEq, Int.reduceNeg, Int.reduceAdd, Int.reduceToNat, h5', h6, h7, h8, h9, hxi, c1, c2, huv, c4, c5, gk, gn, gs, gw, argI_nat, getD_map_lt, form_eta, Tryd.f57, V40, V39, V38, V37, V36, V35, V34, V33, V32, V31, V30, V29, R28, R27, R22, R21, R20, R19, R18, R17, R16, R15, R14, R13, R12, R11, R10, R9, R8, R7, R6, R5, R4, R3, R2, R1, Q20, Q19, Q18, Q17, Q16, Q15, Q14, Q13, Q12, Q11, Q10, Q9, Q8, Q7, Q6, Q5, Q4, Q3, Q2, Q1, Tbl0])
              · have hgo := hgg (by simp [c1, c2, huv, c4, c5])
                rw [gn] at c4 c5
                have c5' : (v = f.name) = False := eq_false c5
                repeat' (first | refine ReqK.i hE fun _ => ?_ | refine ReqK.i hpa fun _ => ?_ | refine ReqK.i ⟨by omega, by omega⟩ fun _ => ?_ | refine ReqK.i (by omega) fun _ => ?_ | refine ReqK.i (by unfold maxL; omega) fun _ => ?_ | refine ReqK.i (fits_of2 (by first | omega | (simp only [List.length_map, List.length_take, List.length_append, List.length_cons, List.length_nil]; omega)) (by decide)) fun _ => ?_ | simp only [go_sem, reduceIte, reduceCtorEq, Nat.reduceEqDiff, Nat.reduceAdd, Nat.reduceSub, Nat.reduceMul, Nat.reduceDiv, Nat.reduceMod, Nat.reduceLT, Nat.reduceLeDiff, Nat.reduceBEq, Nat.reducePow, Int.reduceLE, Int.reduceLT, Int.reduceEq, Int.reduceNeg, Int.reduceAdd, Int.reduceToNat, h5', h6, h7, h8, h9, hxi, c1, c2, huv, c4, c5', argI_nat, getD_map_lt, form_eta, Tryd.f57, V40, V39, V38, V37, V36, V35, V34, V33, V32, V31, V30, V29, R28, R27, R22, R21, R20, R19, R18, R17, R16, R15, R14, R13, R12, R11, R10, R9, R8, R7, R6, R5, R4, R3, R2, R1, Q20, Q19, Q18, Q17, Q16, Q15, Q14, Q13, Q12, Q11, Q10, Q9, Q8, Q7, Q6, Q5, Q4, Q3, Q2, Q1, Tbl0])
                refine WK_drawV hm kT.out 57000 (lsw [32, 109] [1000005, 1000020]) tree5720 (by kernel_rfl) (by kernel_rfl) ?_
                repeat' (first | refine ReqK.i hE fun _ => ?_ | refine ReqK.i hpa fun _ => ?_ | refine ReqK.i ⟨by omega, by omega⟩ fun _ => ?_ | refine And.intro ?_ ?_ | exact True.intro | refine ReqK.i (by omega) fun _ => ?_ | refine ReqK.i (by unfold maxL; omega) fun _ => ?_ | refine ReqK.i (fits_of2 (by first | omega | (simp only [List.length_map, List.length_take, List.length_append, List.length_cons, List.length_nil]; omega)) (by decide)) fun _ => ?_ | simp only [go_sem, reduceIte, reduceCtorEq, Nat.reduceEqDiff, Nat.reduceAdd, Nat.reduceSub, Nat.reduceMul, Nat.reduceDiv, Nat.reduceMod, Nat.reduceLT, Nat.reduceLeDiff, Nat.reduceBEq, Nat.reducePow, Int.reduceLE, Int.reduceLT, Int.reduceEq, Int.reduceNeg, Int.reduceAdd, Int.reduceToNat, tree5720, h5', h6, h7, h8, h9, hxi, c1, c2, huv, c4, c5', argI_nat, getD_map_lt, form_eta, Tryd.f57, V40, V39, V38, V37, V36, V35, V34, V33, V32, V31, V30, V29, R28, R27, R22, R21, R20, R19, R18, R17, R16, R15, R14, R13, R12, R11, R10, R9, R8, R7, R6, R5, R4, R3, R2, R1, Q20, Q19, Q18, Q17, Q16, Q15, Q14, Q13, Q12, Q11, Q10, Q9, Q8, Q7, Q6, Q5, Q4, Q3, Q2, Q1, Tbl0])
                all_goals
                  refine ⟨⟨i + 1, m4 + 1, m4 + 10, by omega, by omega, by omega, hgo⟩, by simp only; omega, ?_⟩
                  refine Weak_to ?_ ?_ ?_ <;> (try simp only [go_sem, reduceIte, reduceCtorEq, Nat.reduceEqDiff, Nat.reduceAdd, Nat.reduceSub, Nat.reduceMul, Nat.reduceDiv, Nat.reduceMod, Nat.reduceLT, Nat.reduceLeDiff, Nat.reduceBEq, Nat.reducePow, Int.reduceLE, Int.reduceLT, Int.reduceEq, Int.reduceNeg, Int.reduceAdd, Int.reduceToNat, hw, huv, List.map_append])
                  all_goals first | done | omega | rfl | trace_state
            · rw [hb (by simp [huv, c4])]
              rw [gn] at c4
              have c4' : (u = f.name) = False := eq_false c4
              repeat' (first | refine ReqK.i hE fun _ => ?_ | refine ReqK.i hpa fun _ => ?_ | refine ReqK.i ⟨by omega, by omega⟩ fun _ => ?_ | refine ReqK.i (by omega) fun _ => ?_ | refine ReqK.i (by unfold maxL; omega) fun _ => ?_ | refine ReqK.i (fits_of2 (by first | omega | (simp only [List.length_map, List.length_take, List.length_append, List.length_cons, List.length_nil]; omega)) (by decide)) fun _ => ?_ | simp only [go_sem, reduceIte, reduceCtorEq, Nat.reduceEqDiff, Nat.reduceAdd, Nat.reduceSub, Nat.reduceMul, Nat.reduceDiv, Nat.reduceMod, Nat.reduceLT, Nat.reduceLeDiff, Nat.reduceBEq, Nat.reducePow, Int.reduceLE, Int.reduceLT, Int.reduceEq, Int.reduceNeg, Int.reduceAdd, Int.reduceToNat, h5', h6, h7, h8, h9, hxi, c1, c2, huv, c4', gk, gn, gs, gw, argI_nat, getD_map_lt, form_eta, Tryd.f57, V40, V39, V38, V37, V36, V35, V34, V33, V32, V31, V30, V29, R28, R27, R22, R21, R20, R19, R18, R17, R16, R15, R14, R13, R12, R11, R10, R9, R8, R7, R6, R5, R4, R3, R2, R1, Q20, Q19, Q18, Q17, Q16, Q15, Q14, Q13, Q12, Q11, Q10, Q9, Q8, Q7, Q6, Q5, Q4, Q3, Q2, Q1, Tbl0])
          · have c3' : ((x.words.length : Int) = 2) = False := eq_false (by omega)
            rw [hb (by simp [c3])]
            repeat' (first | refine ReqK.i hE fun _ => ?_ | refine ReqK.i hpa fun _ => ?_ | refine ReqK.i ⟨by omega, by omega⟩ fun _ => ?_ | refine ReqK.i (by omega) fun _ => ?_ | refine ReqK.i (by unfold maxL; omega) fun _ => ?_ | refine ReqK.i (fits_of2 (by first | omega | (simp only [List.length_map, List.length_take, List.length_append, List.length_cons, List.length_nil]; omega)) (by decide)) fun _ => ?_ | simp only [go_sem, reduceIte, reduceCtorEq, Nat.reduceEqDiff, Nat.reduceAdd, Nat.reduceSub, Nat.reduceMul, Nat.reduceDiv, Nat.reduceMod, Nat.reduceLT, Nat.reduceLeDiff, Nat.reduceBEq, Nat.reducePow, Int.reduceLE, Int.reduceLT, Int.reduceEq, Int.reduceNeg, Int.reduceAdd, Int.reduceToNat, h5', h6, h7, h8, h9, hxi, c1, c2, c3', gk, gn, gs, gw, argI_nat, getD_map_lt, form_eta, Tryd.f57, V40, V39, V38, V37, V36, V35, V34, V33, V32, V31, V30, V29, R28, R27, R22, R21, R20, R19, R18, R17, R16, R15, R14, R13, R12, R11, R10, R9, R8, R7, R6, R5, R4, R3, R2, R1, Q20, Q19, Q18, Q17, Q16, Q15, Q14, Q13, Q12, Q11, Q10, Q9, Q8, Q7, Q6, Q5, Q4, Q3, Q2, Q1, Tbl0])
        · have c2' : (x.name = argS i) = False := eq_false c2
          rw [hb (by simp [c2])]
          repeat' (first | refine ReqK.i hE fun _ => ?_ | refine ReqK.i hpa fun _ => ?_ | refine ReqK.i ⟨by omega, by omega⟩ fun _ => ?_ | refine ReqK.i (by omega) fun _ => ?_ | refine ReqK.i (by unfold maxL; omega) fun _ => ?_ | refine ReqK.i (fits_of2 (by first | omega | (simp only [List.length_map, List.length_take, List.length_append, List.length_cons, List.length_nil]; omega)) (by decide)) fun _ => ?_ | simp only [go_sem, reduceIte, reduceCtorEq, Nat.reduceEqDiff, Nat.reduceAdd, Nat.reduceSub, Nat.reduceMul, Nat.reduceDiv, Nat.reduceMod, Nat.reduceLT, Nat.reduceLeDiff, Nat.reduceBEq, Nat.reducePow, Int.reduceLE, Int.reduceLT, Int.reduceEq, Int.reduceNeg, Int.reduceAdd, Int.reduceToNat, h5', h6, h7, h8, h9, hxi, c1, c2', gk, gn, gs, gw, argI_nat, getD_map_lt, form_eta, Tryd.f57, V40, V39, V38, V37, V36, V35, V34, V33, V32, V31, V30, V29, R28, R27, R22, R21, R20, R19, R18, R17, R16, R15, R14, R13, R12, R11, R10, R9, R8, R7, R6, R5, R4, R3, R2, R1, Q20, Q19, Q18, Q17, Q16, Q15, Q14, Q13, Q12, Q11, Q10, Q9, Q8, Q7, Q6, Q5, Q4, Q3, Q2, Q1, Tbl0])
      · have c1' : (x.kind = 2) = False := eq_false c1
        rw [hb (by simp [c1])]
        repeat' (first | refine ReqK.i hE fun _ => ?_ | refine ReqK.i hpa fun _ => ?_ | refine ReqK.i ⟨by omega, by omega⟩ fun _ => ?_ | refine ReqK.i (by omega) fun _ => ?_ | refine ReqK.i (by unfold maxL; omega) fun _ => ?_ | refine ReqK.i (fits_of2 (by first | omega | (simp only [List.length_map, List.length_take, List.length_append, List.length_cons, List.length_nil]; omega)) (by decide)) fun _ => ?_ | simp only [go_sem, reduceIte, reduceCtorEq, Nat.reduceEqDiff, Nat.reduceAdd, Nat.reduceSub, Nat.reduceMul, Nat.reduceDiv, Nat.reduceMod, Nat.reduceLT, Nat.reduceLeDiff, Nat.reduceBEq, Nat.reducePow, Int.reduceLE, Int.reduceLT, Int.reduceEq, Int.reduceNeg, Int.reduceAdd, Int.reduceToNat, h5', h6, h7, h8, h9, hxi, c1', gk, gn, gs, gw, argI_nat, getD_map_lt, form_eta, Tryd.f57, V40, V39, V38, V37, V36, V35, V34, V33, V32, V31, V30, V29, R28, R27, R22, R21, R20, R19, R18, R17, R16, R15, R14, R13, R12, R11, R10, R9, R8, R7, R6, R5, R4, R3, R2, R1, Q20, Q19, Q18, Q17, Q16, Q15, Q14, Q13, Q12, Q11, Q10, Q9, Q8, Q7, Q6, Q5, Q4, Q3, Q2, Q1, Tbl0])
    obtain rfl : i = K := by omega
    have h6 : ((i : Int) + 1 < (L.length : Int)) = False := eq_false (by omega)
    rw [ke.out hgd]
    repeat' (first | refine ReqK.i (by omega) fun _ => ?_ | refine ReqK.i (by unfold maxL; omega) fun _ => ?_ | refine ReqK.i (fits_of2 (by first | omega | (simp only [List.length_map, List.length_take, List.length_append, List.length_cons, List.length_nil]; omega)) (by decide)) fun _ => ?_ | simp only [go_sem, reduceIte, reduceCtorEq, Nat.reduceEqDiff, Nat.reduceAdd, Nat.reduceSub, Nat.reduceMul, Nat.reduceDiv, Nat.reduceMod, Nat.reduceLT, Nat.reduceLeDiff, Nat.reduceBEq, Nat.reducePow, Int.reduceLE, Int.reduceLT, Int.reduceEq, Int.reduceNeg, Int.reduceAdd, Int.reduceToNat, h6, form_eta, Tryd.f57, V40, V39, V38, V37, V36, V35, V34, V33, V32, V31, V30, V29, R28, R27, R22, R21, R20, R19, R18, R17, R16, R15, R14, R13, R12, R11, R10, R9, R8, R7, R6, R5, R4, R3, R2, R1, Q20, Q19, Q18, Q17, Q16, Q15, Q14, Q13, Q12, Q11, Q10, Q9, Q8, Q7, Q6, Q5, Q4, Q3, Q2, Q1, Tbl0])
end Go.Proofs.YtomhobohcejocaaDoor

namespace Go.Proofs.YtomhobohcejocaaDoor
open Go Go.Abs Go.Proofs

section
variable {P : Program} {G : Nat → List FD} {T : Tbl}
/-- a recursive function of two arguments, under a condition -/
theorem sp2_recp {α β ρ : Type} [Enc α] [Enc β] [Enc ρ] {f : FuncId} {g : α → β → ρ} {pre : α → β → Prop} (m : α → Nat) (hc : CallOk P f) (hT : TblOk P G T)
    (h : ∀ n, TblOk P G (T.add f (sp2 g fun a b => m a < n ∧ pre a b)) → ∀ a b, m a = n → pre a b → (enc a).Wf → (enc b).Wf → Wcall P G f [.fz (enc a), .fz (enc b)] (hpL []) 0 (fun d _ _ => D.val d = some (.fz (enc (g a b))))) : TblOk P G (T.add f (sp2 g pre)) := by
  have key : ∀ n, TblOk P G (T.add f (sp2 g fun a b => m a < n ∧ pre a b)) := by
    intro n
    induction n with
    | zero => exact sp2_ok hc hT fun a b ha => by omega
    | succ n ih =>
      refine sp2_ok hc hT fun a b ha hw hw2 => ?_
      rcases Nat.lt_or_ge (m a) n with h1 | h1
      · have h2 := ih f (sp2 g fun a b => m a < n ∧ pre a b) [enc a, enc b] _ _ (by simp [Tbl.add]) (k_sp2) ⟨by rw [dec_enc], by rw [dec_enc], by rw [dec_enc, dec_enc]; exact ⟨h1, ha.2⟩⟩
        rw [dec_enc, dec_enc, H0_eq] at h2
        exact h2
      · exact h n ih a b (by omega) ha.2 hw hw2
  exact sp2_ok hc hT fun a b ha hw hw2 => h (m a) (key _) a b rfl ha hw hw2
end
/-! ## the document's Splits -/
def tree5813 : Tv := (.q 0 (.q 1 (.q 2 (.q 3 (.q 4 (.q 5 (.q 6 (.q 7 (.q 8 (.q 9 (.br [(10, (.q 11 (.br [(12, .leaf)])))])))))))))))
def spPre (f : Abs.Form) (_ : List Str) : Prop := f.fit = true ∧ w3 f ∧ f.size ≤ 100000
def V42 : Tbl := V41.add 58 (sp2 (fun f ps => changeM (splitBy dM ps) f) spPre)
set_option maxRecDepth 100000 in
set_option maxHeartbeats 1000000 in
set_option maxHeartbeats 8000000 in
theorem hV42 : TblOk Tryd.prog GA V42 := by
  refine sp2_recp Form.size ok58 hV41 fun n hT f ps hn hpre _ _ => ?_
  obtain ⟨hfit, hw3, hsz⟩ := hpre
  obtain ⟨hwl, hsl, hfs⟩ := Form.fit_eq hfit
  have hsb : ∀ g ∈ f.subs, g.size < n ∧ spPre g ps := fun g hg => ⟨by have := Form.size_sub hg; omega, Form.fits_mem hfs hg, (w3_sub hw3).2 g hg, by have := Form.size_sub hg; omega⟩
  have hw3 := (w3_sub hw3).1
  obtain ⟨A, hA⟩ : ∃ A : Nat → List Abs.Form, A = fun j => (f.subs.take j).map (changeM (splitBy dM ps)) := ⟨_, rfl⟩
  have hA0 : A 0 = [] := by rw [hA]; rfl
  have hAs : ∀ j (h : j < f.subs.length), A (j + 1) = A j ++ [changeM (splitBy dM ps) f.subs[j]] := fun j h => by rw [hA]; simp only [List.take_succ_eq_append_getElem h, List.map_append, List.map_cons, List.map_nil]
  have hAl : ∀ j, (A j).length ≤ f.subs.length := fun j => by rw [hA]; simp only [List.length_map, List.length_take]; omega
  obtain ⟨AA, hAA⟩ : ∃ AA, A f.subs.length = AA := ⟨_, rfl⟩
  have hR : changeM (splitBy dM ps) f = splitBy dM ps (.mk f.kind f.name f.words AA) := by rw [changeM_eq, ← hAA, hA]; simp only [List.take_length]
  rw [hR, splitBy_mk]
  have kT := Kp.mk hT
  have kz := Kp.mk hsb
  have kA := Kp.mk hAs
  have kL := Kp.mk hAl
  clear hT hsb hA hAs hAl hR hfit hfs hn
  by_cases c1 : f.kind = 2
  rotate_left
  · rw [if_neg (fun h => c1 h.1)]
    refine Wcall_K (N := 78) hm kT.out 58000 (lsw [45, 74] [1000013]) ok58 Tryd.func58 rfl rfl (by simp) (by kernel_rfl) ?_
    repeat' (first | refine ReqK.i (by omega) fun _ => ?_ | refine ReqK.i (by unfold maxL; omega) fun _ => ?_ | refine ReqK.i (fits_of2 (by first | omega | (simp only [List.length_map, List.length_take, List.length_append, List.length_cons, List.length_nil]; omega)) (by decide)) fun _ => ?_ | simp only [go_sem, reduceIte, reduceCtorEq, Nat.reduceEqDiff, Nat.reduceAdd, Nat.reduceSub, Nat.reduceMul, Nat.reduceDiv, Nat.reduceMod, Nat.reduceLT, Nat.reduceLeDiff, Nat.reduceBEq, Nat.reducePow, Int.reduceLE, Int.reduceLT, Int.reduceEq, Int.reduceNeg, Int.reduceAdd, Int.reduceToNat, c1, str_eta, form_eta, Tryd.f58, V41, V40, V39, V38, V37, V36, V35, V34, V33, V32, V31, V30, V29, R28, R27, R22, R21, R20, R19, R18, R17, R16, R15, R14, R13, R12, R11, R10, R9, R8, R7, R6, R5, R4, R3, R2, R1, Q20, Q19, Q18, Q17, Q16, Q15, Q14, Q13, Q12, Q11, Q10, Q9, Q8, Q7, Q6, Q5, Q4, Q3, Q2, Q1, Tbl0])
    refine WK_weak2 (Weak_rpL (id := (58002, 0)) (t := 2) (b := true) (ys := [.i .i64 f.kind, .s f.name.l, .sl (f.words.map enc), .sl (f.subs.map enc)]) (by simp only [go_sem, reduceIte, reduceCtorEq, Nat.reduceEqDiff, Nat.reduceAdd, Nat.reduceSub, Nat.reduceMul, Nat.reduceDiv, Nat.reduceMod, Nat.reduceLT, Nat.reduceLeDiff, Nat.reduceBEq, Nat.reducePow, Int.reduceLE, Int.reduceLT, Int.reduceEq, Int.reduceNeg, Int.reduceAdd, Int.reduceToNat, c1]) (by simp only [go_sem, reduceIte, reduceCtorEq, Nat.reduceEqDiff, Nat.reduceAdd, Nat.reduceSub, Nat.reduceMul, Nat.reduceDiv, Nat.reduceMod, Nat.reduceLT, Nat.reduceLeDiff, Nat.reduceBEq, Nat.reducePow, Int.reduceLE, Int.reduceLT, Int.reduceEq, Int.reduceNeg, Int.reduceAdd, Int.reduceToNat])) ?_
    refine WK_loop hm kT.out 58000 (lsw [45, 74] [1000013]) (ι := LoopG f.subs.length 4 fun _ => True)
      ⟨fun q => ⟨frL [(1, .fz (.sl (ps.map enc))), (2, .rp [.i .i64 f.kind, .s f.name.l, .sl (f.words.map enc), .sl (f.subs.map enc)]), (4, .ptr (58004, 1) 0), (8, .ptr (58008, 2) 0), (60, .fz (.i .i64 f.subs.length)), (61, .fz (.i .i64 q.i))],
        hpL [((58004, 1), some ⟨[.fz (.i .i64 0), .fz (.s []), .full [], .full []], true, false⟩), ((58008, 2), some ⟨[.fz (.i .i64 f.kind), .fz (.s f.name.l), .fz (.sl (f.words.map enc)), .ow (58074, q.g) 4 ((A q.i).map enc)], true, false⟩), ((58074, q.g), some tok)], q.m⟩, fun q => f.subs.length - q.i⟩
      ⟨0, 3, 4, by omega, by omega, by omega, trivial⟩ (by kernel_rfl) ?_ ?_
    · refine Weak_g [] [(58074, 3)] [] ?_ ?_ ?_ ?_ ?_ <;> simp only [go_sem, reduceIte, reduceCtorEq, Nat.reduceEqDiff, Nat.reduceAdd, Nat.reduceSub, Nat.reduceMul, Nat.reduceDiv, Nat.reduceMod, Nat.reduceLT, Nat.reduceLeDiff, Nat.reduceBEq, Nat.reducePow, Int.reduceLE, Int.reduceLT, Int.reduceEq, Int.reduceNeg, Int.reduceAdd, Int.reduceToNat, c1, hA0]
      all_goals first | done | rfl | omega | trace_state
    rintro ⟨j, g, m, hj, hg, hm1, _⟩
    try simp only at hj hg hm1
    rcases Nat.lt_or_ge j f.subs.length with h1 | h1
    · have hs := kA.out j h1
      have hl := kL.out j
      have hz := kz.out _ (List.getElem_mem h1)
      obtain ⟨x, hx⟩ : ∃ x, f.subs[j] = x := ⟨_, rfl⟩
      rw [hx] at hs hz
      obtain ⟨y, hy⟩ : ∃ y, changeM (splitBy dM ps) x = y := ⟨_, rfl⟩
      rw [hy] at hs
      repeat' (first | refine ReqK.i (by omega) fun _ => ?_ | refine ReqK.i (by unfold maxL; omega) fun _ => ?_ | refine ReqK.i (fits_of2 (by first | omega | (simp only [List.length_map, List.length_take, List.length_append, List.length_cons, List.length_nil]; omega)) (by decide)) fun _ => ?_ | simp only [go_sem, reduceIte, reduceCtorEq, Nat.reduceEqDiff, Nat.reduceAdd, Nat.reduceSub, Nat.reduceMul, Nat.reduceDiv, Nat.reduceMod, Nat.reduceLT, Nat.reduceLeDiff, Nat.reduceBEq, Nat.reducePow, Int.reduceLE, Int.reduceLT, Int.reduceEq, Int.reduceNeg, Int.reduceAdd, Int.reduceToNat, h1, hx, getD_map_lt, Tryd.f58, V41, V40, V39, V38, V37, V36, V35, V34, V33, V32, V31, V30, V29, R28, R27, R22, R21, R20, R19, R18, R17, R16, R15, R14, R13, R12, R11, R10, R9, R8, R7, R6, R5, R4, R3, R2, R1, Q20, Q19, Q18, Q17, Q16, Q15, Q14, Q13, Q12, Q11, Q10, Q9, Q8, Q7, Q6, Q5, Q4, Q3, Q2, Q1, Tbl0])
      refine WK_drawV hm kT.out 58000 (lsw [45, 74] [1000013]) tree5813 (by kernel_rfl) (by kernel_rfl) ?_
      repeat' (first | refine And.intro ?_ ?_ | exact True.intro | refine ReqK.i hz fun _ => ?_ | refine ReqK.i (by omega) fun _ => ?_ | refine ReqK.i (by unfold maxL; omega) fun _ => ?_ | refine ReqK.i (fits_of2 (by first | omega | (simp only [List.length_map, List.length_take, List.length_append, List.length_cons, List.length_nil]; omega)) (by decide)) fun _ => ?_ | simp only [go_sem, reduceIte, reduceCtorEq, Nat.reduceEqDiff, Nat.reduceAdd, Nat.reduceSub, Nat.reduceMul, Nat.reduceDiv, Nat.reduceMod, Nat.reduceLT, Nat.reduceLeDiff, Nat.reduceBEq, Nat.reducePow, Int.reduceLE, Int.reduceLT, Int.reduceEq, Int.reduceNeg, Int.reduceAdd, Int.reduceToNat, tree5813, h1, hx, hy, form_eta, getD_map_lt, Tryd.f58, V41, V40, V39, V38, V37, V36, V35, V34, V33, V32, V31, V30, V29, R28, R27, R22, R21, R20, R19, R18, R17, R16, R15, R14, R13, R12, R11, R10, R9, R8, R7, R6, R5, R4, R3, R2, R1, Q20, Q19, Q18, Q17, Q16, Q15, Q14, Q13, Q12, Q11, Q10, Q9, Q8, Q7, Q6, Q5, Q4, Q3, Q2, Q1, Tbl0])
      all_goals
        refine ⟨⟨j + 1, m, m + 5, by omega, by omega, by omega, trivial⟩, by simp only; omega, ?_⟩
        refine Weak_to ?_ ?_ ?_ <;> (try simp only [go_sem, reduceIte, reduceCtorEq, Nat.reduceEqDiff, Nat.reduceAdd, Nat.reduceSub, Nat.reduceMul, Nat.reduceDiv, Nat.reduceMod, Nat.reduceLT, Nat.reduceLeDiff, Nat.reduceBEq, Nat.reducePow, Int.reduceLE, Int.reduceLT, Int.reduceEq, Int.reduceNeg, Int.reduceAdd, Int.reduceToNat, hs, List.map_append])
        all_goals first | done | omega | rfl | trace_state
    obtain rfl : j = f.subs.length := by omega
    repeat' (first | refine ReqK.i (by omega) fun _ => ?_ | refine ReqK.i (by unfold maxL; omega) fun _ => ?_ | refine ReqK.i (fits_of2 (by first | omega | (simp only [List.length_map, List.length_take, List.length_append, List.length_cons, List.length_nil]; omega)) (by decide)) fun _ => ?_ | simp only [go_sem, reduceIte, reduceCtorEq, Nat.reduceEqDiff, Nat.reduceAdd, Nat.reduceSub, Nat.reduceMul, Nat.reduceDiv, Nat.reduceMod, Nat.reduceLT, Nat.reduceLeDiff, Nat.reduceBEq, Nat.reducePow, Int.reduceLE, Int.reduceLT, Int.reduceEq, Int.reduceNeg, Int.reduceAdd, Int.reduceToNat, Nat.lt_irrefl, hAA, str_eta, form_eta, Tryd.f58, V41, V40, V39, V38, V37, V36, V35, V34, V33, V32, V31, V30, V29, R28, R27, R22, R21, R20, R19, R18, R17, R16, R15, R14, R13, R12, R11, R10, R9, R8, R7, R6, R5, R4, R3, R2, R1, Q20, Q19, Q18, Q17, Q16, Q15, Q14, Q13, Q12, Q11, Q10, Q9, Q8, Q7, Q6, Q5, Q4, Q3, Q2, Q1, Tbl0])
  by_cases c2 : 0 < f.words.length
  rotate_left
  · rw [if_neg (fun h => c2 h.2.1)]
    have c2' : (0 < (f.words.length : Int)) = False := eq_false (by omega)
    refine Wcall_K (N := 78) hm kT.out 58000 (lsw [45, 74] [1000013]) ok58 Tryd.func58 rfl rfl (by simp) (by kernel_rfl) ?_
    repeat' (first | refine ReqK.i (by omega) fun _ => ?_ | refine ReqK.i (by unfold maxL; omega) fun _ => ?_ | refine ReqK.i (fits_of2 (by first | omega | (simp only [List.length_map, List.length_take, List.length_append, List.length_cons, List.length_nil]; omega)) (by decide)) fun _ => ?_ | simp only [go_sem, reduceIte, reduceCtorEq, Nat.reduceEqDiff, Nat.reduceAdd, Nat.reduceSub, Nat.reduceMul, Nat.reduceDiv, Nat.reduceMod, Nat.reduceLT, Nat.reduceLeDiff, Nat.reduceBEq, Nat.reducePow, Int.reduceLE, Int.reduceLT, Int.reduceEq, Int.reduceNeg, Int.reduceAdd, Int.reduceToNat, c1, c2', str_eta, form_eta, Tryd.f58, V41, V40, V39, V38, V37, V36, V35, V34, V33, V32, V31, V30, V29, R28, R27, R22, R21, R20, R19, R18, R17, R16, R15, R14, R13, R12, R11, R10, R9, R8, R7, R6, R5, R4, R3, R2, R1, Q20, Q19, Q18, Q17, Q16, Q15, Q14, Q13, Q12, Q11, Q10, Q9, Q8, Q7, Q6, Q5, Q4, Q3, Q2, Q1, Tbl0])
    refine WK_weak2 (Weak_rpL (id := (58002, 0)) (t := 2) (b := true) (ys := [.i .i64 f.kind, .s f.name.l, .sl (f.words.map enc), .sl (f.subs.map enc)]) (by simp only [go_sem, reduceIte, reduceCtorEq, Nat.reduceEqDiff, Nat.reduceAdd, Nat.reduceSub, Nat.reduceMul, Nat.reduceDiv, Nat.reduceMod, Nat.reduceLT, Nat.reduceLeDiff, Nat.reduceBEq, Nat.reducePow, Int.reduceLE, Int.reduceLT, Int.reduceEq, Int.reduceNeg, Int.reduceAdd, Int.reduceToNat, c1]) (by simp only [go_sem, reduceIte, reduceCtorEq, Nat.reduceEqDiff, Nat.reduceAdd, Nat.reduceSub, Nat.reduceMul, Nat.reduceDiv, Nat.reduceMod, Nat.reduceLT, Nat.reduceLeDiff, Nat.reduceBEq, Nat.reducePow, Int.reduceLE, Int.reduceLT, Int.reduceEq, Int.reduceNeg, Int.reduceAdd, Int.reduceToNat])) ?_
    refine WK_loop hm kT.out 58000 (lsw [45, 74] [1000013]) (ι := LoopG f.subs.length 4 fun _ => True)
      ⟨fun q => ⟨frL [(1, .fz (.sl (ps.map enc))), (2, .rp [.i .i64 f.kind, .s f.name.l, .sl (f.words.map enc), .sl (f.subs.map enc)]), (4, .ptr (58004, 1) 0), (8, .ptr (58008, 2) 0), (60, .fz (.i .i64 f.subs.length)), (61, .fz (.i .i64 q.i))],
        hpL [((58004, 1), some ⟨[.fz (.i .i64 0), .fz (.s []), .full [], .full []], true, false⟩), ((58008, 2), some ⟨[.fz (.i .i64 f.kind), .fz (.s f.name.l), .fz (.sl (f.words.map enc)), .ow (58074, q.g) 4 ((A q.i).map enc)], true, false⟩), ((58074, q.g), some tok)], q.m⟩, fun q => f.subs.length - q.i⟩
      ⟨0, 3, 4, by omega, by omega, by omega, trivial⟩ (by kernel_rfl) ?_ ?_
    · refine Weak_g [] [(58074, 3)] [] ?_ ?_ ?_ ?_ ?_ <;> simp only [go_sem, reduceIte, reduceCtorEq, Nat.reduceEqDiff, Nat.reduceAdd, Nat.reduceSub, Nat.reduceMul, Nat.reduceDiv, Nat.reduceMod, Nat.reduceLT, Nat.reduceLeDiff, Nat.reduceBEq, Nat.reducePow, Int.reduceLE, Int.reduceLT, Int.reduceEq, Int.reduceNeg, Int.reduceAdd, Int.reduceToNat, c1, hA0]
      all_goals first | done | rfl | omega | trace_state
    rintro ⟨j, g, m, hj, hg, hm1, _⟩
    try simp only at hj hg hm1
    rcases Nat.lt_or_ge j f.subs.length with h1 | h1
    · have hs := kA.out j h1
      have hl := kL.out j
      have hz := kz.out _ (List.getElem_mem h1)
      obtain ⟨x, hx⟩ : ∃ x, f.subs[j] = x := ⟨_, rfl⟩
      rw [hx] at hs hz
      obtain ⟨y, hy⟩ : ∃ y, changeM (splitBy dM ps) x = y := ⟨_, rfl⟩
      rw [hy] at hs
      repeat' (first | refine ReqK.i (by omega) fun _ => ?_ | refine ReqK.i (by unfold maxL; omega) fun _ => ?_ | refine ReqK.i (fits_of2 (by first | omega | (simp only [List.length_map, List.length_take, List.length_append, List.length_cons, List.length_nil]; omega)) (by decide)) fun _ => ?_ | simp only [go_sem, reduceIte, reduceCtorEq, Nat.reduceEqDiff, Nat.reduceAdd, Nat.reduceSub, Nat.reduceMul, Nat.reduceDiv, Nat.reduceMod, Nat.reduceLT, Nat.reduceLeDiff, Nat.reduceBEq, Nat.reducePow, Int.reduceLE, Int.reduceLT, Int.reduceEq, Int.reduceNeg, Int.reduceAdd, Int.reduceToNat, h1, hx, getD_map_lt, Tryd.f58, V41, V40, V39, V38, V37, V36, V35, V34, V33, V32, V31, V30, V29, R28, R27, R22, R21, R20, R19, R18, R17, R16, R15, R14, R13, R12, R11, R10, R9, R8, R7, R6, R5, R4, R3, R2, R1, Q20, Q19, Q18, Q17, Q16, Q15, Q14, Q13, Q12, Q11, Q10, Q9, Q8, Q7, Q6, Q5, Q4, Q3, Q2, Q1, Tbl0])
      refine WK_drawV hm kT.out 58000 (lsw [45, 74] [1000013]) tree5813 (by kernel_rfl) (by kernel_rfl) ?_
      repeat' (first | refine And.intro ?_ ?_ | exact True.intro | refine ReqK.i hz fun _ => ?_ | refine ReqK.i (by omega) fun _ => ?_ | refine ReqK.i (by unfold maxL; omega) fun _ => ?_ | refine ReqK.i (fits_of2 (by first | omega | (simp only [List.length_map, List.length_take, List.length_append, List.length_cons, List.length_nil]; omega)) (by decide)) fun _ => ?_ | simp only [go_sem, reduceIte, reduceCtorEq, Nat.reduceEqDiff, Nat.reduceAdd, Nat.reduceSub, Nat.reduceMul, Nat.reduceDiv, Nat.reduceMod, Nat.reduceLT, Nat.reduceLeDiff, Nat.reduceBEq, Nat.reducePow, Int.reduceLE, Int.reduceLT, Int.reduceEq, Int.reduceNeg, Int.reduceAdd, Int.reduceToNat, tree5813, h1, hx, hy, form_eta, getD_map_lt, Tryd.f58, V41, V40, V39, V38, V37, V36, V35, V34, V33, V32, V31, V30, V29, R28, R27, R22, R21, R20, R19, R18, R17, R16, R15, R14, R13, R12, R11, R10, R9, R8, R7, R6, R5, R4, R3, R2, R1, Q20, Q19, Q18, Q17, Q16, Q15, Q14, Q13, Q12, Q11, Q10, Q9, Q8, Q7, Q6, Q5, Q4, Q3, Q2, Q1, Tbl0])
      all_goals
        refine ⟨⟨j + 1, m, m + 5, by omega, by omega, by omega, trivial⟩, by simp only; omega, ?_⟩
        refine Weak_to ?_ ?_ ?_ <;> (try simp only [go_sem, reduceIte, reduceCtorEq, Nat.reduceEqDiff, Nat.reduceAdd, Nat.reduceSub, Nat.reduceMul, Nat.reduceDiv, Nat.reduceMod, Nat.reduceLT, Nat.reduceLeDiff, Nat.reduceBEq, Nat.reducePow, Int.reduceLE, Int.reduceLT, Int.reduceEq, Int.reduceNeg, Int.reduceAdd, Int.reduceToNat, hs, List.map_append])
        all_goals first | done | omega | rfl | trace_state
    obtain rfl : j = f.subs.length := by omega
    repeat' (first | refine ReqK.i (by omega) fun _ => ?_ | refine ReqK.i (by unfold maxL; omega) fun _ => ?_ | refine ReqK.i (fits_of2 (by first | omega | (simp only [List.length_map, List.length_take, List.length_append, List.length_cons, List.length_nil]; omega)) (by decide)) fun _ => ?_ | simp only [go_sem, reduceIte, reduceCtorEq, Nat.reduceEqDiff, Nat.reduceAdd, Nat.reduceSub, Nat.reduceMul, Nat.reduceDiv, Nat.reduceMod, Nat.reduceLT, Nat.reduceLeDiff, Nat.reduceBEq, Nat.reducePow, Int.reduceLE, Int.reduceLT, Int.reduceEq, Int.reduceNeg, Int.reduceAdd, Int.reduceToNat, Nat.lt_irrefl, hAA, str_eta, form_eta, Tryd.f58, V41, V40, V39, V38, V37, V36, V35, V34, V33, V32, V31, V30, V29, R28, R27, R22, R21, R20, R19, R18, R17, R16, R15, R14, R13, R12, R11, R10, R9, R8, R7, R6, R5, R4, R3, R2, R1, Q20, Q19, Q18, Q17, Q16, Q15, Q14, Q13, Q12, Q11, Q10, Q9, Q8, Q7, Q6, Q5, Q4, Q3, Q2, Q1, Tbl0])
  have c2' : (0 < (f.words.length : Int)) = True := eq_true (by omega)
  by_cases c3 : f.name ∈ ps
  rotate_left
  · rw [if_neg (fun h => c3 h.2.2)]
    refine Wcall_K (N := 78) hm kT.out 58000 (lsw [45, 74] [1000013]) ok58 Tryd.func58 rfl rfl (by simp) (by kernel_rfl) ?_
    repeat' (first | refine ReqK.i (by omega) fun _ => ?_ | refine ReqK.i (by unfold maxL; omega) fun _ => ?_ | refine ReqK.i (fits_of2 (by first | omega | (simp only [List.length_map, List.length_take, List.length_append, List.length_cons, List.length_nil]; omega)) (by decide)) fun _ => ?_ | simp only [go_sem, reduceIte, reduceCtorEq, Nat.reduceEqDiff, Nat.reduceAdd, Nat.reduceSub, Nat.reduceMul, Nat.reduceDiv, Nat.reduceMod, Nat.reduceLT, Nat.reduceLeDiff, Nat.reduceBEq, Nat.reducePow, Int.reduceLE, Int.reduceLT, Int.reduceEq, Int.reduceNeg, Int.reduceAdd, Int.reduceToNat, c1, c2', c3, str_eta, form_eta, Tryd.f58, V41, V40, V39, V38, V37, V36, V35, V34, V33, V32, V31, V30, V29, R28, R27, R22, R21, R20, R19, R18, R17, R16, R15, R14, R13, R12, R11, R10, R9, R8, R7, R6, R5, R4, R3, R2, R1, Q20, Q19, Q18, Q17, Q16, Q15, Q14, Q13, Q12, Q11, Q10, Q9, Q8, Q7, Q6, Q5, Q4, Q3, Q2, Q1, Tbl0])
    refine WK_weak2 (Weak_rpL (id := (58002, 0)) (t := 2) (b := true) (ys := [.i .i64 f.kind, .s f.name.l, .sl (f.words.map enc), .sl (f.subs.map enc)]) (by simp only [go_sem, reduceIte, reduceCtorEq, Nat.reduceEqDiff, Nat.reduceAdd, Nat.reduceSub, Nat.reduceMul, Nat.reduceDiv, Nat.reduceMod, Nat.reduceLT, Nat.reduceLeDiff, Nat.reduceBEq, Nat.reducePow, Int.reduceLE, Int.reduceLT, Int.reduceEq, Int.reduceNeg, Int.reduceAdd, Int.reduceToNat, c1]) (by simp only [go_sem, reduceIte, reduceCtorEq, Nat.reduceEqDiff, Nat.reduceAdd, Nat.reduceSub, Nat.reduceMul, Nat.reduceDiv, Nat.reduceMod, Nat.reduceLT, Nat.reduceLeDiff, Nat.reduceBEq, Nat.reducePow, Int.reduceLE, Int.reduceLT, Int.reduceEq, Int.reduceNeg, Int.reduceAdd, Int.reduceToNat])) ?_
    refine WK_loop hm kT.out 58000 (lsw [45, 74] [1000013]) (ι := LoopG f.subs.length 4 fun _ => True)
      ⟨fun q => ⟨frL [(1, .fz (.sl (ps.map enc))), (2, .rp [.i .i64 f.kind, .s f.name.l, .sl (f.words.map enc), .sl (f.subs.map enc)]), (4, .ptr (58004, 1) 0), (8, .ptr (58008, 2) 0), (60, .fz (.i .i64 f.subs.length)), (61, .fz (.i .i64 q.i))],
        hpL [((58004, 1), some ⟨[.fz (.i .i64 0), .fz (.s []), .full [], .full []], true, false⟩), ((58008, 2), some ⟨[.fz (.i .i64 f.kind), .fz (.s f.name.l), .fz (.sl (f.words.map enc)), .ow (58074, q.g) 4 ((A q.i).map enc)], true, false⟩), ((58074, q.g), some tok)], q.m⟩, fun q => f.subs.length - q.i⟩
      ⟨0, 3, 4, by omega, by omega, by omega, trivial⟩ (by kernel_rfl) ?_ ?_
    · refine Weak_g [] [(58074, 3)] [] ?_ ?_ ?_ ?_ ?_ <;> simp only [go_sem, reduceIte, reduceCtorEq, Nat.reduceEqDiff, Nat.reduceAdd, Nat.reduceSub, Nat.reduceMul, Nat.reduceDiv, Nat.reduceMod, Nat.reduceLT, Nat.reduceLeDiff, Nat.reduceBEq, Nat.reducePow, Int.reduceLE, Int.reduceLT, Int.reduceEq, Int.reduceNeg, Int.reduceAdd, Int.reduceToNat, c1, hA0]
      all_goals first | done | rfl | omega | trace_state
    rintro ⟨j, g, m, hj, hg, hm1, _⟩
    try simp only at hj hg hm1
    rcases Nat.lt_or_ge j f.subs.length with h1 | h1
    · have hs := kA.out j h1
      have hl := kL.out j
      have hz := kz.out _ (List.getElem_mem h1)
      obtain ⟨x, hx⟩ : ∃ x, f.subs[j] = x := ⟨_, rfl⟩
      rw [hx] at hs hz
      obtain ⟨y, hy⟩ : ∃ y, changeM (splitBy dM ps) x = y := ⟨_, rfl⟩
      rw [hy] at hs
      repeat' (first | refine ReqK.i (by omega) fun _ => ?_ | refine ReqK.i (by unfold maxL; omega) fun _ => ?_ | refine ReqK.i (fits_of2 (by first | omega | (simp only [List.length_map, List.length_take, List.length_append, List.length_cons, List.length_nil]; omega)) (by decide)) fun _ => ?_ | simp only [go_sem, reduceIte, reduceCtorEq, Nat.reduceEqDiff, Nat.reduceAdd, Nat.reduceSub, Nat.reduceMul, Nat.reduceDiv, Nat.reduceMod, Nat.reduceLT, Nat.reduceLeDiff, Nat.reduceBEq, Nat.reducePow, Int.reduceLE, Int.reduceLT, Int.reduceEq, Int.reduceNeg, Int.reduceAdd, Int.reduceToNat, h1, hx, getD_map_lt, Tryd.f58, V41, V40, V39, V38, V37, V36, V35, V34, V33, V32, V31, V30, V29, R28, R27, R22, R21, R20, R19, R18, R17, R16, R15, R14, R13, R12, R11, R10, R9, R8, R7, R6, R5, R4, R3, R2, R1, Q20, Q19, Q18, Q17, Q16, Q15, Q14, Q13, Q12, Q11, Q10, Q9, Q8, Q7, Q6, Q5, Q4, Q3, Q2, Q1, Tbl0])
      refine WK_drawV hm kT.out 58000 (lsw [45, 74] [1000013]) tree5813 (by kernel_rfl) (by kernel_rfl) ?_
      repeat' (first | refine And.intro ?_ ?_ | exact True.intro | refine ReqK.i hz fun _ => ?_ | refine ReqK.i (by omega) fun _ => ?_ | refine ReqK.i (by unfold maxL; omega) fun _ => ?_ | refine ReqK.i (fits_of2 (by first | omega | (simp only [List.length_map, List.length_take, List.length_append, List.length_cons, List.length_nil]; omega)) (by decide)) fun _ => ?_ | simp only [go_sem, reduceIte, reduceCtorEq, Nat.reduceEqDiff, Nat.reduceAdd, Nat.reduceSub, Nat.reduceMul, Nat.reduceDiv, Nat.reduceMod, Nat.reduceLT, Nat.reduceLeDiff, Nat.reduceBEq, Nat.reducePow, Int.reduceLE, Int.reduceLT, Int.reduceEq, Int.reduceNeg, Int.reduceAdd, Int.reduceToNat, tree5813, h1, hx, hy, form_eta, getD_map_lt, Tryd.f58, V41, V40, V39, V38, V37, V36, V35, V34, V33, V32, V31, V30, V29, R28, R27, R22, R21, R20, R19, R18, R17, R16, R15, R14, R13, R12, R11, R10, R9, R8, R7, R6, R5, R4, R3, R2, R1, Q20, Q19, Q18, Q17, Q16, Q15, Q14, Q13, Q12, Q11, Q10, Q9, Q8, Q7, Q6, Q5, Q4, Q3, Q2, Q1, Tbl0])
      all_goals
        refine ⟨⟨j + 1, m, m + 5, by omega, by omega, by omega, trivial⟩, by simp only; omega, ?_⟩
        refine Weak_to ?_ ?_ ?_ <;> (try simp only [go_sem, reduceIte, reduceCtorEq, Nat.reduceEqDiff, Nat.reduceAdd, Nat.reduceSub, Nat.reduceMul, Nat.reduceDiv, Nat.reduceMod, Nat.reduceLT, Nat.reduceLeDiff, Nat.reduceBEq, Nat.reducePow, Int.reduceLE, Int.reduceLT, Int.reduceEq, Int.reduceNeg, Int.reduceAdd, Int.reduceToNat, hs, List.map_append])
        all_goals first | done | omega | rfl | trace_state
    obtain rfl : j = f.subs.length := by omega
    repeat' (first | refine ReqK.i (by omega) fun _ => ?_ | refine ReqK.i (by unfold maxL; omega) fun _ => ?_ | refine ReqK.i (fits_of2 (by first | omega | (simp only [List.length_map, List.length_take, List.length_append, List.length_cons, List.length_nil]; omega)) (by decide)) fun _ => ?_ | simp only [go_sem, reduceIte, reduceCtorEq, Nat.reduceEqDiff, Nat.reduceAdd, Nat.reduceSub, Nat.reduceMul, Nat.reduceDiv, Nat.reduceMod, Nat.reduceLT, Nat.reduceLeDiff, Nat.reduceBEq, Nat.reducePow, Int.reduceLE, Int.reduceLT, Int.reduceEq, Int.reduceNeg, Int.reduceAdd, Int.reduceToNat, Nat.lt_irrefl, hAA, str_eta, form_eta, Tryd.f58, V41, V40, V39, V38, V37, V36, V35, V34, V33, V32, V31, V30, V29, R28, R27, R22, R21, R20, R19, R18, R17, R16, R15, R14, R13, R12, R11, R10, R9, R8, R7, R6, R5, R4, R3, R2, R1, Q20, Q19, Q18, Q17, Q16, Q15, Q14, Q13, Q12, Q11, Q10, Q9, Q8, Q7, Q6, Q5, Q4, Q3, Q2, Q1, Tbl0])
  rw [if_pos ⟨c1, c2, c3⟩]
  have hw4 := hw3 c1
  obtain ⟨L, hL⟩ : ∃ L : Nat → List Abs.Form, L = fun i => .mk 2 f.name [dM] [] :: (List.range i).map fun i => .mk 2 (argS i) [dM, f.words.getD i ⟨[]⟩] [] := ⟨_, rfl⟩
  have hL0 : L 0 = [.mk 2 f.name [dM] []] := by rw [hL]; rfl
  have hLs : ∀ i (h : i < f.words.length), L (i + 1) = L i ++ [.mk 2 (argS i) [dM, f.words[i]] []] := fun i h => by
    rw [hL]
    simp only [List.range_succ, List.map_append, List.map_cons, List.map_nil, ← List.cons_append]
    rw [List.getD_eq_getElem?_getD, List.getElem?_eq_getElem h]; rfl
  have hLl : ∀ i, (L i).length = i + 1 := fun i => by rw [hL]; simp only [List.length_cons, List.length_map, List.length_range]
  obtain ⟨J, hJ⟩ : ∃ J, joinM 5 (L f.words.length) = J := ⟨_, rfl⟩
  have hjp : joinPre 5 (L f.words.length) := ⟨list_ne (by rw [hLl]; omega), by rw [hLl]; omega⟩
  have e : splitF dM f.name f.words = .mk 9 dM [] [J] := by unfold splitF; rw [← hJ, hL]
  rw [e]
  have dd : Str.mk [36] = dM := rfl
  have ddl : dM.l = [36] := rfl
  have kl := Kp.mk hLs
  clear hL hLs e
  refine Wcall_K (N := 78) hm kT.out 58000 (lsw [45, 74] [1000013]) ok58 Tryd.func58 rfl rfl (by simp) (by kernel_rfl) ?_
  repeat' (first | refine ReqK.i (by omega) fun _ => ?_ | refine ReqK.i (by unfold maxL; omega) fun _ => ?_ | refine ReqK.i (fits_of2 (by first | omega | (simp only [List.length_map, List.length_take, List.length_append, List.length_cons, List.length_nil]; omega)) (by decide)) fun _ => ?_ | simp only [go_sem, reduceIte, reduceCtorEq, Nat.reduceEqDiff, Nat.reduceAdd, Nat.reduceSub, Nat.reduceMul, Nat.reduceDiv, Nat.reduceMod, Nat.reduceLT, Nat.reduceLeDiff, Nat.reduceBEq, Nat.reducePow, Int.reduceLE, Int.reduceLT, Int.reduceEq, Int.reduceNeg, Int.reduceAdd, Int.reduceToNat, c1, c2', c3, str_eta, Tryd.f58, V41, V40, V39, V38, V37, V36, V35, V34, V33, V32, V31, V30, V29, R28, R27, R22, R21, R20, R19, R18, R17, R16, R15, R14, R13, R12, R11, R10, R9, R8, R7, R6, R5, R4, R3, R2, R1, Q20, Q19, Q18, Q17, Q16, Q15, Q14, Q13, Q12, Q11, Q10, Q9, Q8, Q7, Q6, Q5, Q4, Q3, Q2, Q1, Tbl0])
  refine WK_loop hm kT.out 58000 (lsw [45, 74] [1000013]) (ι := LoopG f.words.length 3 fun _ => True)
    ⟨fun q => ⟨frL [(4, .ptr (58004, 1) 0), (5, .ow (58045, q.g) 4 ((L q.i).map enc)), (31, .fz (.sl (f.words.map enc))), (32, .fz (.i .i64 f.words.length)), (33, .fz (.i .i64 q.i))],
      hpL [((58004, 1), some ⟨[.fz (.i .i64 0), .fz (.s []), .full [], .full []], true, false⟩), ((58045, q.g), some tok)], q.m⟩, fun q => f.words.length - q.i⟩
    ⟨0, 2, 3, by omega, by omega, by omega, trivial⟩ (by kernel_rfl) ?_ ?_
  · refine Weak_g [] [(58045, 2)] [] ?_ ?_ ?_ ?_ ?_ <;> simp only [go_sem, reduceIte, reduceCtorEq, Nat.reduceEqDiff, Nat.reduceAdd, Nat.reduceSub, Nat.reduceMul, Nat.reduceDiv, Nat.reduceMod, Nat.reduceLT, Nat.reduceLeDiff, Nat.reduceBEq, Nat.reducePow, Int.reduceLE, Int.reduceLT, Int.reduceEq, Int.reduceNeg, Int.reduceAdd, Int.reduceToNat, hL0, ddl]
    all_goals first | done | rfl | omega | trace_state
  rintro ⟨i, g, m, hi, hg, hm1, _⟩
  try simp only at hi hg hm1
  rcases Nat.lt_or_ge i f.words.length with h1 | h1
  · have hs := kl.out i h1
    have hll := hLl i
    have hal : (argS i).l.length ≤ 100 := by
      have := digits_len (i + 1)
      show (97 :: 114 :: 103 :: digits (i + 1)).length ≤ 100
      simp only [List.length_cons]; omega
    obtain ⟨w, hw⟩ : ∃ w, f.words[i] = w := ⟨_, rfl⟩
    rw [hw] at hs
    repeat' (first | refine ReqK.i ⟨by omega, by omega⟩ fun _ => ?_ | refine ReqK.i (by omega) fun _ => ?_ | refine ReqK.i (by unfold maxL; omega) fun _ => ?_ | refine ReqK.i (fits_of2 (by first | omega | (simp only [List.length_map, List.length_take, List.length_append, List.length_cons, List.length_nil]; omega)) (by decide)) fun _ => ?_ | simp only [go_sem, reduceIte, reduceCtorEq, Nat.reduceEqDiff, Nat.reduceAdd, Nat.reduceSub, Nat.reduceMul, Nat.reduceDiv, Nat.reduceMod, Nat.reduceLT, Nat.reduceLeDiff, Nat.reduceBEq, Nat.reducePow, Int.reduceLE, Int.reduceLT, Int.reduceEq, Int.reduceNeg, Int.reduceAdd, Int.reduceToNat, h1, hw, argI_nat, getD_map_lt, Tryd.f58, V41, V40, V39, V38, V37, V36, V35, V34, V33, V32, V31, V30, V29, R28, R27, R22, R21, R20, R19, R18, R17, R16, R15, R14, R13, R12, R11, R10, R9, R8, R7, R6, R5, R4, R3, R2, R1, Q20, Q19, Q18, Q17, Q16, Q15, Q14, Q13, Q12, Q11, Q10, Q9, Q8, Q7, Q6, Q5, Q4, Q3, Q2, Q1, Tbl0])
    refine ⟨⟨i + 1, m, m + 5, by omega, by omega, by omega, trivial⟩, by simp only; omega, ?_⟩
    refine Weak_to ?_ ?_ ?_ <;> (try simp only [go_sem, reduceIte, reduceCtorEq, Nat.reduceEqDiff, Nat.reduceAdd, Nat.reduceSub, Nat.reduceMul, Nat.reduceDiv, Nat.reduceMod, Nat.reduceLT, Nat.reduceLeDiff, Nat.reduceBEq, Nat.reducePow, Int.reduceLE, Int.reduceLT, Int.reduceEq, Int.reduceNeg, Int.reduceAdd, Int.reduceToNat, hs, ddl, List.map_append])
    all_goals first | done | omega | rfl | trace_state
  obtain rfl : i = f.words.length := by omega
  repeat' (first | refine ReqK.i hjp fun _ => ?_ | refine ReqK.i (by omega) fun _ => ?_ | refine ReqK.i (by unfold maxL; omega) fun _ => ?_ | refine ReqK.i (fits_of2 (by first | omega | (simp only [List.length_map, List.length_take, List.length_append, List.length_cons, List.length_nil]; omega)) (by decide)) fun _ => ?_ | simp only [go_sem, reduceIte, reduceCtorEq, Nat.reduceEqDiff, Nat.reduceAdd, Nat.reduceSub, Nat.reduceMul, Nat.reduceDiv, Nat.reduceMod, Nat.reduceLT, Nat.reduceLeDiff, Nat.reduceBEq, Nat.reducePow, Int.reduceLE, Int.reduceLT, Int.reduceEq, Int.reduceNeg, Int.reduceAdd, Int.reduceToNat, Nat.lt_irrefl, hJ, ddl, form_eta, Tryd.f58, V41, V40, V39, V38, V37, V36, V35, V34, V33, V32, V31, V30, V29, R28, R27, R22, R21, R20, R19, R18, R17, R16, R15, R14, R13, R12, R11, R10, R9, R8, R7, R6, R5, R4, R3, R2, R1, Q20, Q19, Q18, Q17, Q16, Q15, Q14, Q13, Q12, Q11, Q10, Q9, Q8, Q7, Q6, Q5, Q4, Q3, Q2, Q1, Tbl0])
end Go.Proofs.YtomhobohcejocaaDoor

namespace Go.Abs
open Go
mutual
theorem mapF_clean {σ : Str → Str} {p : Str → Prop} (h : ∀ w, p w → ¬ bang (σ w)) : ∀ f : Abs.Form, allW p f → clean (mapF σ f)
  | .mk k nm ws s, hf => by
    rw [allW] at hf
    rw [mapF, clean]
    refine ⟨fun w hw => ?_, mapFs_clean h s hf.2.2⟩
    obtain ⟨x, hx, rfl⟩ := List.mem_map.1 hw
    exact h x (hf.1 x hx)
theorem mapFs_clean {σ : Str → Str} {p : Str → Prop} (h : ∀ w, p w → ¬ bang (σ w)) : ∀ fs : List Abs.Form, allWs p fs → cleans (mapFs σ fs)
  | [], _ => by rw [mapFs, cleans]; trivial
  | f :: fs, hf => by rw [allWs] at hf; rw [mapFs, cleans]; exact ⟨mapF_clean h f hf.1, mapFs_clean h fs hf.2⟩
end
theorem sw_bang {w : Str} (h : swP w) : ¬ bang (sg w) := by
  by_cases e : w.l.head? = some 63
  · rw [h.1 e]; decide
  · rw [sg_fix e]; exact h.2.2
end Go.Abs
namespace Go.Proofs.YtomhobohcejocaaDoor
open Go Go.Abs Go.Proofs

/-! ## the law -/
def boundM (k : Int) (x : Str) (f : Abs.Form) : Abs.Form := .mk k x [] [f]
def V43 : Tbl := V42.add 42 (sp3 boundM fun _ _ _ => True)
set_option maxRecDepth 100000 in
set_option maxHeartbeats 1000000 in
theorem hV43 : TblOk Tryd.prog GA V43 := by
  refine sp3_ok ok42 hV42 fun k x f _ _ _ _ => ?_
  simp only [boundM]
  refine Wcall_K (N := 12) hm hV42 42000 (lst []) ok42 Tryd.func42 rfl rfl (by simp) (by kernel_rfl) ?_
  repeat' (first | refine ReqK.i (by omega) fun _ => ?_ | refine ReqK.i (by unfold maxL; omega) fun _ => ?_ | simp only [go_sem, reduceIte, reduceCtorEq, Nat.reduceEqDiff, Nat.reduceAdd, Nat.reduceSub, Nat.reduceMul, Nat.reduceDiv, Nat.reduceMod, Nat.reduceLT, Nat.reduceLeDiff, Nat.reduceBEq, Nat.reducePow, Int.reduceLE, Int.reduceLT, Int.reduceEq, Int.reduceNeg, Int.reduceAdd, Int.reduceToNat, form_eta, Tryd.f42, V42, V41, V40, V39, V38, V37, V36, V35, V34, V33, V32, V31, V30, V29, R28, R27, R22, R21, R20, R19, R18, R17, R16, R15, R14, R13, R12, R11, R10, R9, R8, R7, R6, R5, R4, R3, R2, R1, Q20, Q19, Q18, Q17, Q16, Q15, Q14, Q13, Q12, Q11, Q10, Q9, Q8, Q7, Q6, Q5, Q4, Q3, Q2, Q1, Tbl0])
theorem merges_eq {f : Abs.Form} (h : (checkM false f).code = 0) : doneR (changeM mergeBy f) = doneF (changeM mergeBy f) :=
  doneR_eq (allW_clean (fun _ hw => name_bang hw) _ (changeM_allW (fun _ hw h => mergeBy_allW hw h) (fun _ h => mergeBy_wfE h) f (checkM_wfE h) (checkM_allW h)))
theorem splits_eq {f : Abs.Form} {ps : List Str} (h : (checkM false f).code = 0) : doneR (changeM (splitBy dM ps) f) = doneF (changeM (splitBy qM ps) f) ∧ doneE (changeM (splitBy dM ps) f) = doneE (changeM (splitBy qM ps) f) := by
  have hn := checkM_allW h
  rw [split_map ps f (allW_mono (fun w hw => name_fix hw) f hn)]
  have hs := split_allW ps f hn
  have h1 := done_alpha swP_inj hs (split_fix (ps := ps) hn)
  rw [doneR_eq (mapF_clean (fun w hw => sw_bang hw) _ hs)]
  exact h1
def sV0 : Str := ⟨[118, 48]⟩
def sArg : Str := ⟨[97, 114, 103, 49]⟩
def fKim : Abs.Form := predM sWalk [sKim]
def gKim : Abs.Form := .mk 9 sV0 [] [.mk 5 ⟨[]⟩ [] [.mk 2 sWalk [sV0] [], .mk 2 sArg [sV0, sKim] []]]
def eKim : Abs.Form := .mk 9 qM [] [.mk 5 ⟨[]⟩ [] [.mk 2 sWalk [qM] [], .mk 2 sArg [qM, sKim] []]]
theorem v0_eq : vnum 0 = sV0 := by
  unfold vnum sV0
  rw [digits_small (by decide)]; rfl
theorem arg_eq : argS 0 = sArg := by unfold argS sArg; rw [digits_small (by decide)]; rfl
theorem kim_eq : changeM (splitBy qM [sWalk]) fKim = eKim := by
  have h1 : changeM (splitBy qM [sWalk]) fKim = .mk 9 qM [] [.mk 5 ⟨[]⟩ [] [.mk 2 sWalk [qM] [], .mk 2 (argS 0) [qM, sKim] []]] := rfl
  rw [h1, arg_eq]; rfl
theorem kim_can : canonM eKim [] = gKim := by
  have hc : cst eKim [] = [sKim] := by kernel_rfl
  have hg : vg (replM [] (usedM eKim)) 0 = (sV0, 1) := by
    have h0 : vnum 0 ∉ replM [] (usedM eKim) := by
      show vnum 0 ∉ usedM eKim
      rw [mem_usedM, hc, v0_eq]; decide
    unfold vg
    rw [nextM_out h0, v0_eq]
  unfold canonM
  generalize vg (replM [] (usedM eKim)) = g at hg
  unfold eKim
  rw [ren, if_pos (show isQ 9 from .inr rfl), hg, rens, rens, ren, if_neg (by decide), rens, rens, rens, ren, if_neg (by decide), rens, ren, if_neg (by decide), rens]
  rfl
theorem split_x : splitP fKim [sWalk] = (gKim, ⟨0, 0⟩) := by
  have h1 : (checkM false fKim).code = 0 := by kernel_rfl
  have h2 : [sWalk].all isName = true := by kernel_rfl
  have h3 : fitsM eKim = true := by kernel_rfl
  unfold splitP
  rw [if_neg (by simp [h1]), if_neg (by decide), if_neg (by simp [h2]), kim_eq]
  unfold doneF doneE
  rw [h3, if_pos rfl, if_pos rfl, kim_can]
def hKim : Abs.Form := .mk 5 ⟨[]⟩ [] [.mk 2 sWalk [sV0] [], .mk 2 sArg [sV0, sKim] []]
theorem two_h : twoM 5 (predM sWalk [sV0]) (predM sArg [sV0, sKim]) = hKim := rfl
theorem bnd_x : boundM 9 sV0 hKim = gKim := rfl
structure NmI (ps : List Str) where
  i : Nat
  c : Int
  x : Int
  h : (c = 0 ∧ x = 0 ∧ i ≤ ps.length ∧ (ps.take i).all isName = true) ∨ (c = 10 ∧ x = -2 ∧ i ≤ ps.length ∧ ps.all isName = false)
def nmM {ps : List Str} (q : NmI ps) : Nat := if q.c = 0 then ps.length - q.i + 1 else 0
set_option maxRecDepth 100000 in
set_option maxHeartbeats 1000000 in
set_option maxHeartbeats 80000000 in
theorem lawF12 (hT : TblOk Tryd.prog GA V43) (f : Abs.Form) (ps : List Str) (_ : (enc f).Wf) (hwp : (enc ps).Wf) : Wcall Tryd.prog GA 12 [.fz (enc f), .fz (enc ps)] (hpL []) 0 (fun d _ _ => d = .fz (.b true)) := by
  have la := Wf_sl hwp
  simp only [List.length_map, maxL] at la
  have dW : Str.mk [119, 97, 108, 107] = sWalk := rfl
  have dK : Str.mk [107, 105, 109] = sKim := rfl
  have dV : Str.mk [118, 48] = sV0 := rfl
  have dA : Str.mk [97, 114, 103, 49] = sArg := rfl
  have dF : predM sWalk [sKim] = fKim := rfl
  have zm := zero_mk
  have two_x := two_h
  obtain ⟨g, e, hge⟩ : ∃ g e, splitP f ps = (g, e) := ⟨_, _, rfl⟩
  refine Wcall_K (N := 117) hm hT 12000 (lst []) ok12 Tryd.func12 rfl rfl (by simp) (by kernel_rfl) ?_
  by_cases hc1 : ¬ (checkM false f).code = 0
  · have e1 : splitP f ps = (zeroF, checkM false f) := by unfold splitP; rw [if_pos hc1]
    have e2 : mergeP f = (zeroF, checkM false f) := by unfold mergeP; rw [if_pos hc1]
    rw [e1] at hge
    obtain ⟨rfl, rfl⟩ := Prod.mk.inj hge
    repeat' (first | refine ReqK.i (by omega) fun _ => ?_ | refine ReqK.i (by unfold maxL; omega) fun _ => ?_ | refine ReqK.i ⟨rfl, rfl⟩ fun _ => ?_ | refine ReqK.i rfl fun _ => ?_ | refine ReqK.i ⟨rfl, rfl, rfl⟩ fun _ => ?_ | refine ReqK.i ⟨rfl, rfl, rfl, trivial⟩ fun _ => ?_ | simp only [go_sem, reduceIte, reduceCtorEq, Nat.reduceEqDiff, Nat.reduceAdd, Nat.reduceSub, Nat.reduceMul, Nat.reduceDiv, Nat.reduceMod, Nat.reduceLT, Nat.reduceLeDiff, Nat.reduceBEq, Nat.reducePow, Int.reduceLE, Int.reduceLT, Int.reduceEq, Int.reduceNeg, Int.reduceAdd, Int.reduceToNat, dW, dK, dV, dA, dF, two_x, bnd_x, split_x, zm, e1, e2, hc1, str_eta, form_eta, GA, Tryd.f12, V43, V42, V41, V40, V39, V38, V37, V36, V35, V34, V33, V32, V31, V30, V29, R28, R27, R22, R21, R20, R19, R18, R17, R16, R15, R14, R13, R12, R11, R10, R9, R8, R7, R6, R5, R4, R3, R2, R1, Q20, Q19, Q18, Q17, Q16, Q15, Q14, Q13, Q12, Q11, Q10, Q9, Q8, Q7, Q6, Q5, Q4, Q3, Q2, Q1, Tbl0])
    refine WK_loop hm hT 12000 (lst []) (ι := LoopI 0 fun _ => True)
      ⟨fun q => ⟨frL [(1, .fz (.sl (ps.map enc))), (2, .ptr (12002, 0) 0), (8, .ptr (12008, 4) 0), (9, .ptr (12009, 5) 0), (12, .ptr (12012, 8) 0), (13, .ptr (12013, 9) 0), (15, .fz (.i .i64 0))],
        hpL [((12002, 0), some ⟨[.fz (.i .i64 f.kind), .fz (.s f.name.l), .fz (.sl (f.words.map enc)), .fz (.sl (f.subs.map enc))], true, false⟩), ((12008, 4), some ⟨[.fz (.i .i64 zeroF.kind), .fz (.s zeroF.name.l), .fz (.sl (zeroF.words.map enc)), .fz (.sl (zeroF.subs.map enc))], true, false⟩), ((12009, 5), some ⟨[.fz (.i .i64 (checkM false f).code), .fz (.i .i64 (checkM false f).index)], true, false⟩), ((12012, 8), some ⟨[.fz (.i .i64 (checkM false f).code), .fz (.i .i64 (checkM false f).index)], true, false⟩), ((12013, 9), some ⟨[.fz (.i .i64 zeroF.kind), .fz (.s zeroF.name.l), .fz (.sl (zeroF.words.map enc)), .fz (.sl (zeroF.subs.map enc))], true, false⟩)], 11⟩, fun q => 0⟩
      ⟨0, by omega, trivial⟩ (by kernel_rfl) ?_ ?_
    · refine Weak_g [] [] [] ?_ ?_ ?_ ?_ ?_ <;> simp only [go_sem, reduceIte, reduceCtorEq, Nat.reduceEqDiff, Nat.reduceAdd, Nat.reduceSub, Nat.reduceMul, Nat.reduceDiv, Nat.reduceMod, Nat.reduceLT, Nat.reduceLeDiff, Nat.reduceBEq, Nat.reducePow, Int.reduceLE, Int.reduceLT, Int.reduceEq, Int.reduceNeg, Int.reduceAdd, Int.reduceToNat, zeroF]
      all_goals first | done | rfl | omega | trace_state
    rintro ⟨i, hi, _⟩
    repeat' (first | refine ReqK.i (by omega) fun _ => ?_ | refine ReqK.i (by unfold maxL; omega) fun _ => ?_ | refine ReqK.i ⟨rfl, rfl⟩ fun _ => ?_ | refine ReqK.i rfl fun _ => ?_ | refine ReqK.i ⟨rfl, rfl, rfl⟩ fun _ => ?_ | refine ReqK.i ⟨rfl, rfl, rfl, trivial⟩ fun _ => ?_ | simp only [go_sem, reduceIte, reduceCtorEq, Nat.reduceEqDiff, Nat.reduceAdd, Nat.reduceSub, Nat.reduceMul, Nat.reduceDiv, Nat.reduceMod, Nat.reduceLT, Nat.reduceLeDiff, Nat.reduceBEq, Nat.reducePow, Int.reduceLE, Int.reduceLT, Int.reduceEq, Int.reduceNeg, Int.reduceAdd, Int.reduceToNat, dW, dK, dV, dA, dF, two_x, bnd_x, split_x, zm, e1, e2, hc1, str_eta, form_eta, GA, Tryd.f12, V43, V42, V41, V40, V39, V38, V37, V36, V35, V34, V33, V32, V31, V30, V29, R28, R27, R22, R21, R20, R19, R18, R17, R16, R15, R14, R13, R12, R11, R10, R9, R8, R7, R6, R5, R4, R3, R2, R1, Q20, Q19, Q18, Q17, Q16, Q15, Q14, Q13, Q12, Q11, Q10, Q9, Q8, Q7, Q6, Q5, Q4, Q3, Q2, Q1, Tbl0])
  have hc1 := Decidable.not_not.1 hc1
  have hce := checkM_code hc1
  have hmp : mgPre f := ⟨checkM_wfE hc1, checkM_fit hc1, by have := checkM_size hc1; omega⟩
  have hsp : spPre f ps := ⟨checkM_fit hc1, checkM_w3 hc1, by have := checkM_size hc1; omega⟩
  have hms := merges_ok hc1
  have hmr := merges_eq hc1
  have hss := splits_ok (v := dM) (ps := ps) hc1
  have hsr := splits_eq (ps := ps) hc1
  have e2 : mergeP f = (doneF (changeM mergeBy f), doneE (changeM mergeBy f)) := by unfold mergeP; rw [if_neg (by simp [hc1])]
  rw [← hmr] at e2
  obtain ⟨M, hM⟩ : ∃ M, changeM mergeBy f = M := ⟨_, rfl⟩
  rw [hM] at e2 hms
  obtain ⟨mc, hmc⟩ : ∃ mc, doneR M = mc := ⟨_, rfl⟩
  obtain ⟨me, hme⟩ : ∃ me, doneE M = me := ⟨_, rfl⟩
  rw [hmc, hme] at e2
  by_cases hc2 : 300 < ps.length
  · have e1 : splitP f ps = (zeroF, ⟨2, -2⟩) := by unfold splitP; rw [if_neg (by simp [hc1]), if_pos hc2]
    have hc2' : (300 < (ps.length : Int)) = True := eq_true (by omega)
    rw [e1] at hge
    obtain ⟨rfl, rfl⟩ := Prod.mk.inj hge
    repeat' (first | refine ReqK.i hmp fun _ => ?_ | refine ReqK.i hms fun _ => ?_ | refine ReqK.i (by omega) fun _ => ?_ | refine ReqK.i (by unfold maxL; omega) fun _ => ?_ | refine ReqK.i ⟨rfl, rfl⟩ fun _ => ?_ | refine ReqK.i rfl fun _ => ?_ | refine ReqK.i ⟨rfl, rfl, rfl⟩ fun _ => ?_ | refine ReqK.i ⟨rfl, rfl, rfl, trivial⟩ fun _ => ?_ | simp only [go_sem, reduceIte, reduceCtorEq, Nat.reduceEqDiff, Nat.reduceAdd, Nat.reduceSub, Nat.reduceMul, Nat.reduceDiv, Nat.reduceMod, Nat.reduceLT, Nat.reduceLeDiff, Nat.reduceBEq, Nat.reducePow, Int.reduceLE, Int.reduceLT, Int.reduceEq, Int.reduceNeg, Int.reduceAdd, Int.reduceToNat, dW, dK, dV, dA, dF, two_x, bnd_x, split_x, zm, e1, e2, hc1, hce, hc2', hM, hmc, hme, str_eta, form_eta, GA, Tryd.f12, V43, V42, V41, V40, V39, V38, V37, V36, V35, V34, V33, V32, V31, V30, V29, R28, R27, R22, R21, R20, R19, R18, R17, R16, R15, R14, R13, R12, R11, R10, R9, R8, R7, R6, R5, R4, R3, R2, R1, Q20, Q19, Q18, Q17, Q16, Q15, Q14, Q13, Q12, Q11, Q10, Q9, Q8, Q7, Q6, Q5, Q4, Q3, Q2, Q1, Tbl0])
    refine WK_loop hm hT 12000 (lst []) (ι := LoopI 0 fun _ => True)
      ⟨fun q => ⟨frL [(1, .fz (.sl (ps.map enc))), (2, .ptr (12002, 0) 0), (8, .ptr (12008, 4) 0), (9, .ptr (12009, 5) 0), (12, .ptr (12012, 8) 0), (13, .ptr (12013, 9) 0), (15, .fz (.i .i64 0))],
        hpL [((12002, 0), some ⟨[.fz (.i .i64 f.kind), .fz (.s f.name.l), .fz (.sl (f.words.map enc)), .fz (.sl (f.subs.map enc))], true, false⟩), ((12008, 4), some ⟨[.fz (.i .i64 zeroF.kind), .fz (.s zeroF.name.l), .fz (.sl (zeroF.words.map enc)), .fz (.sl (zeroF.subs.map enc))], true, false⟩), ((12009, 5), some ⟨[.fz (.i .i64 2), .fz (.i .i64 (-2))], true, false⟩), ((12012, 8), some ⟨[.fz (.i .i64 2), .fz (.i .i64 (-2))], true, false⟩), ((12013, 9), some ⟨[.fz (.i .i64 mc.kind), .fz (.s mc.name.l), .fz (.sl (mc.words.map enc)), .fz (.sl (mc.subs.map enc))], true, false⟩)], 11⟩, fun q => 0⟩
      ⟨0, by omega, trivial⟩ (by kernel_rfl) ?_ ?_
    · refine Weak_g [] [] [] ?_ ?_ ?_ ?_ ?_ <;> simp only [go_sem, reduceIte, reduceCtorEq, Nat.reduceEqDiff, Nat.reduceAdd, Nat.reduceSub, Nat.reduceMul, Nat.reduceDiv, Nat.reduceMod, Nat.reduceLT, Nat.reduceLeDiff, Nat.reduceBEq, Nat.reducePow, Int.reduceLE, Int.reduceLT, Int.reduceEq, Int.reduceNeg, Int.reduceAdd, Int.reduceToNat, zeroF]
      all_goals first | done | rfl | omega | trace_state
    rintro ⟨i, hi, _⟩
    repeat' (first | refine ReqK.i (by omega) fun _ => ?_ | refine ReqK.i (by unfold maxL; omega) fun _ => ?_ | refine ReqK.i ⟨rfl, rfl⟩ fun _ => ?_ | refine ReqK.i rfl fun _ => ?_ | refine ReqK.i ⟨rfl, rfl, rfl⟩ fun _ => ?_ | refine ReqK.i ⟨rfl, rfl, rfl, trivial⟩ fun _ => ?_ | simp only [go_sem, reduceIte, reduceCtorEq, Nat.reduceEqDiff, Nat.reduceAdd, Nat.reduceSub, Nat.reduceMul, Nat.reduceDiv, Nat.reduceMod, Nat.reduceLT, Nat.reduceLeDiff, Nat.reduceBEq, Nat.reducePow, Int.reduceLE, Int.reduceLT, Int.reduceEq, Int.reduceNeg, Int.reduceAdd, Int.reduceToNat, dW, dK, dV, dA, dF, two_x, bnd_x, split_x, zm, e1, e2, hc1, str_eta, form_eta, GA, Tryd.f12, V43, V42, V41, V40, V39, V38, V37, V36, V35, V34, V33, V32, V31, V30, V29, R28, R27, R22, R21, R20, R19, R18, R17, R16, R15, R14, R13, R12, R11, R10, R9, R8, R7, R6, R5, R4, R3, R2, R1, Q20, Q19, Q18, Q17, Q16, Q15, Q14, Q13, Q12, Q11, Q10, Q9, Q8, Q7, Q6, Q5, Q4, Q3, Q2, Q1, Tbl0])
  have hc2' : (300 < (ps.length : Int)) = False := eq_false (by omega)
  have e0 : splitP f ps = if ps.all isName = false then (zeroF, ⟨10, -2⟩) else (doneF (changeM (splitBy qM ps) f), doneE (changeM (splitBy qM ps) f)) := by unfold splitP; rw [if_neg (by simp [hc1]), if_neg hc2]
  rw [← hsr.1, ← hsr.2] at e0
  obtain ⟨S, hS⟩ : ∃ S, changeM (splitBy dM ps) f = S := ⟨_, rfl⟩
  rw [hS] at e0 hss
  obtain ⟨sc, hsc⟩ : ∃ sc, doneR S = sc := ⟨_, rfl⟩
  obtain ⟨se, hse⟩ : ∃ se, doneE S = se := ⟨_, rfl⟩
  rw [hsc, hse] at e0
  repeat' (first | refine ReqK.i hmp fun _ => ?_ | refine ReqK.i hms fun _ => ?_ | refine ReqK.i (by omega) fun _ => ?_ | refine ReqK.i (by unfold maxL; omega) fun _ => ?_ | refine ReqK.i ⟨rfl, rfl⟩ fun _ => ?_ | refine ReqK.i rfl fun _ => ?_ | refine ReqK.i ⟨rfl, rfl, rfl⟩ fun _ => ?_ | refine ReqK.i ⟨rfl, rfl, rfl, trivial⟩ fun _ => ?_ | simp only [go_sem, reduceIte, reduceCtorEq, Nat.reduceEqDiff, Nat.reduceAdd, Nat.reduceSub, Nat.reduceMul, Nat.reduceDiv, Nat.reduceMod, Nat.reduceLT, Nat.reduceLeDiff, Nat.reduceBEq, Nat.reducePow, Int.reduceLE, Int.reduceLT, Int.reduceEq, Int.reduceNeg, Int.reduceAdd, Int.reduceToNat, dW, dK, dV, dA, dF, two_x, bnd_x, split_x, zm, hge, e2, hc1, hce, hc2', hM, hmc, hme, str_eta, form_eta, GA, Tryd.f12, V43, V42, V41, V40, V39, V38, V37, V36, V35, V34, V33, V32, V31, V30, V29, R28, R27, R22, R21, R20, R19, R18, R17, R16, R15, R14, R13, R12, R11, R10, R9, R8, R7, R6, R5, R4, R3, R2, R1, Q20, Q19, Q18, Q17, Q16, Q15, Q14, Q13, Q12, Q11, Q10, Q9, Q8, Q7, Q6, Q5, Q4, Q3, Q2, Q1, Tbl0])
  refine WK_loop hm hT 12000 (lst []) (ι := NmI ps)
    ⟨fun q => ⟨frL [(1, .fz (.sl (ps.map enc))), (2, .ptr (12002, 0) 0), (8, .ptr (12008, 4) 0), (9, .ptr (12009, 5) 0), (12, .ptr (12012, 8) 0), (13, .ptr (12013, 9) 0), (15, .fz (.i .i64 q.i))],
        hpL [((12002, 0), some ⟨[.fz (.i .i64 f.kind), .fz (.s f.name.l), .fz (.sl (f.words.map enc)), .fz (.sl (f.subs.map enc))], true, false⟩), ((12008, 4), some ⟨[.fz (.i .i64 g.kind), .fz (.s g.name.l), .fz (.sl (g.words.map enc)), .fz (.sl (g.subs.map enc))], true, false⟩), ((12009, 5), some ⟨[.fz (.i .i64 e.code), .fz (.i .i64 e.index)], true, false⟩), ((12012, 8), some ⟨[.fz (.i .i64 q.c), .fz (.i .i64 q.x)], true, false⟩), ((12013, 9), some ⟨[.fz (.i .i64 mc.kind), .fz (.s mc.name.l), .fz (.sl (mc.words.map enc)), .fz (.sl (mc.subs.map enc))], true, false⟩)], 11⟩, nmM⟩
    ⟨0, 0, 0, .inl ⟨rfl, rfl, by omega, rfl⟩⟩ (by kernel_rfl) ?_ ?_
  · refine Weak_to ?_ ?_ ?_ <;> simp only [go_sem, reduceIte, reduceCtorEq, Nat.reduceEqDiff, Nat.reduceAdd, Nat.reduceSub, Nat.reduceMul, Nat.reduceDiv, Nat.reduceMod, Nat.reduceLT, Nat.reduceLeDiff, Nat.reduceBEq, Nat.reducePow, Int.reduceLE, Int.reduceLT, Int.reduceEq, Int.reduceNeg, Int.reduceAdd, Int.reduceToNat]
    all_goals first | done | rfl | omega | trace_state
  rintro ⟨i, c, x, ⟨rfl, rfl, hi, hal⟩ | ⟨rfl, rfl, hi, hal⟩⟩
  · try simp only at hi hal
    rcases Nat.lt_or_ge i ps.length with h1 | h1
    · have hat := all_take h1
      have hbd := all_bad_at h1
      have h1' : ((i : Int) < (ps.length : Int)) = True := eq_true (by omega)
      obtain ⟨w, hwi⟩ : ∃ w, ps[i] = w := ⟨_, rfl⟩
      rw [hwi] at hat hbd
      cases hn : isName w with
      | true =>
        repeat' (first | refine ReqK.i (by omega) fun _ => ?_ | refine ReqK.i (by unfold maxL; omega) fun _ => ?_ | refine ReqK.i ⟨rfl, rfl⟩ fun _ => ?_ | refine ReqK.i rfl fun _ => ?_ | refine ReqK.i ⟨rfl, rfl, rfl⟩ fun _ => ?_ | refine ReqK.i ⟨rfl, rfl, rfl, trivial⟩ fun _ => ?_ | simp only [go_sem, reduceIte, reduceCtorEq, Nat.reduceEqDiff, Nat.reduceAdd, Nat.reduceSub, Nat.reduceMul, Nat.reduceDiv, Nat.reduceMod, Nat.reduceLT, Nat.reduceLeDiff, Nat.reduceBEq, Nat.reducePow, Int.reduceLE, Int.reduceLT, Int.reduceEq, Int.reduceNeg, Int.reduceAdd, Int.reduceToNat, dW, dK, dV, dA, dF, two_x, bnd_x, split_x, zm, h1, h1', hwi, hn, str_eta, getD_map_lt, GA, Tryd.f12, V43, V42, V41, V40, V39, V38, V37, V36, V35, V34, V33, V32, V31, V30, V29, R28, R27, R22, R21, R20, R19, R18, R17, R16, R15, R14, R13, R12, R11, R10, R9, R8, R7, R6, R5, R4, R3, R2, R1, Q20, Q19, Q18, Q17, Q16, Q15, Q14, Q13, Q12, Q11, Q10, Q9, Q8, Q7, Q6, Q5, Q4, Q3, Q2, Q1, Tbl0])
        refine ⟨⟨i + 1, 0, 0, .inl ⟨rfl, rfl, by omega, by rw [hat, hal, hn]; rfl⟩⟩, by simp only [nmM, if_true]; omega, ?_⟩
        refine Weak_to ?_ ?_ ?_ <;> simp only [go_sem, reduceIte, reduceCtorEq, Nat.reduceEqDiff, Nat.reduceAdd, Nat.reduceSub, Nat.reduceMul, Nat.reduceDiv, Nat.reduceMod, Nat.reduceLT, Nat.reduceLeDiff, Nat.reduceBEq, Nat.reducePow, Int.reduceLE, Int.reduceLT, Int.reduceEq, Int.reduceNeg, Int.reduceAdd, Int.reduceToNat]
      | false =>
        repeat' (first | refine ReqK.i (by omega) fun _ => ?_ | refine ReqK.i (by unfold maxL; omega) fun _ => ?_ | refine ReqK.i ⟨rfl, rfl⟩ fun _ => ?_ | refine ReqK.i rfl fun _ => ?_ | refine ReqK.i ⟨rfl, rfl, rfl⟩ fun _ => ?_ | refine ReqK.i ⟨rfl, rfl, rfl, trivial⟩ fun _ => ?_ | simp only [go_sem, reduceIte, reduceCtorEq, Nat.reduceEqDiff, Nat.reduceAdd, Nat.reduceSub, Nat.reduceMul, Nat.reduceDiv, Nat.reduceMod, Nat.reduceLT, Nat.reduceLeDiff, Nat.reduceBEq, Nat.reducePow, Int.reduceLE, Int.reduceLT, Int.reduceEq, Int.reduceNeg, Int.reduceAdd, Int.reduceToNat, dW, dK, dV, dA, dF, two_x, bnd_x, split_x, zm, h1, h1', hwi, hn, str_eta, getD_map_lt, GA, Tryd.f12, V43, V42, V41, V40, V39, V38, V37, V36, V35, V34, V33, V32, V31, V30, V29, R28, R27, R22, R21, R20, R19, R18, R17, R16, R15, R14, R13, R12, R11, R10, R9, R8, R7, R6, R5, R4, R3, R2, R1, Q20, Q19, Q18, Q17, Q16, Q15, Q14, Q13, Q12, Q11, Q10, Q9, Q8, Q7, Q6, Q5, Q4, Q3, Q2, Q1, Tbl0])
        refine ⟨⟨i + 1, 10, -2, .inr ⟨rfl, rfl, by omega, hbd hn⟩⟩, by simp [nmM], ?_⟩
        refine Weak_to ?_ ?_ ?_ <;> simp only [go_sem, reduceIte, reduceCtorEq, Nat.reduceEqDiff, Nat.reduceAdd, Nat.reduceSub, Nat.reduceMul, Nat.reduceDiv, Nat.reduceMod, Nat.reduceLT, Nat.reduceLeDiff, Nat.reduceBEq, Nat.reducePow, Int.reduceLE, Int.reduceLT, Int.reduceEq, Int.reduceNeg, Int.reduceAdd, Int.reduceToNat]
    · obtain rfl : i = ps.length := by omega
      rw [List.take_length] at hal
      rw [if_neg (by simp [hal])] at e0
      rw [e0] at hge
      obtain ⟨rfl, rfl⟩ := Prod.mk.inj hge
      repeat' (first | refine ReqK.i hsp fun _ => ?_ | refine ReqK.i hss fun _ => ?_ | refine ReqK.i (by omega) fun _ => ?_ | refine ReqK.i (by unfold maxL; omega) fun _ => ?_ | refine ReqK.i ⟨rfl, rfl⟩ fun _ => ?_ | refine ReqK.i rfl fun _ => ?_ | refine ReqK.i ⟨rfl, rfl, rfl⟩ fun _ => ?_ | refine ReqK.i ⟨rfl, rfl, rfl, trivial⟩ fun _ => ?_ | simp only [go_sem, reduceIte, reduceCtorEq, Nat.reduceEqDiff, Nat.reduceAdd, Nat.reduceSub, Nat.reduceMul, Nat.reduceDiv, Nat.reduceMod, Nat.reduceLT, Nat.reduceLeDiff, Nat.reduceBEq, Nat.reducePow, Int.reduceLE, Int.reduceLT, Int.reduceEq, Int.reduceNeg, Int.reduceAdd, Int.reduceToNat, dW, dK, dV, dA, dF, two_x, bnd_x, split_x, zm, Nat.lt_irrefl, Int.lt_irrefl, hS, hsc, hse, str_eta, form_eta, GA, Tryd.f12, V43, V42, V41, V40, V39, V38, V37, V36, V35, V34, V33, V32, V31, V30, V29, R28, R27, R22, R21, R20, R19, R18, R17, R16, R15, R14, R13, R12, R11, R10, R9, R8, R7, R6, R5, R4, R3, R2, R1, Q20, Q19, Q18, Q17, Q16, Q15, Q14, Q13, Q12, Q11, Q10, Q9, Q8, Q7, Q6, Q5, Q4, Q3, Q2, Q1, Tbl0])
  · rw [if_pos hal] at e0
    rw [e0] at hge
    obtain ⟨rfl, rfl⟩ := Prod.mk.inj hge
    repeat' (first | refine ReqK.i (by omega) fun _ => ?_ | refine ReqK.i (by unfold maxL; omega) fun _ => ?_ | refine ReqK.i ⟨rfl, rfl⟩ fun _ => ?_ | refine ReqK.i rfl fun _ => ?_ | refine ReqK.i ⟨rfl, rfl, rfl⟩ fun _ => ?_ | refine ReqK.i ⟨rfl, rfl, rfl, trivial⟩ fun _ => ?_ | simp only [go_sem, reduceIte, reduceCtorEq, Nat.reduceEqDiff, Nat.reduceAdd, Nat.reduceSub, Nat.reduceMul, Nat.reduceDiv, Nat.reduceMod, Nat.reduceLT, Nat.reduceLeDiff, Nat.reduceBEq, Nat.reducePow, Int.reduceLE, Int.reduceLT, Int.reduceEq, Int.reduceNeg, Int.reduceAdd, Int.reduceToNat, dW, dK, dV, dA, dF, two_x, bnd_x, split_x, zm, str_eta, form_eta, GA, Tryd.f12, V43, V42, V41, V40, V39, V38, V37, V36, V35, V34, V33, V32, V31, V30, V29, R28, R27, R22, R21, R20, R19, R18, R17, R16, R15, R14, R13, R12, R11, R10, R9, R8, R7, R6, R5, R4, R3, R2, R1, Q20, Q19, Q18, Q17, Q16, Q15, Q14, Q13, Q12, Q11, Q10, Q9, Q8, Q7, Q6, Q5, Q4, Q3, Q2, Q1, Tbl0])
end Go.Proofs.YtomhobohcejocaaDoor
